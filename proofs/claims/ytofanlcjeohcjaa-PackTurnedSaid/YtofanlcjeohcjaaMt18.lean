import Derived.Test.YtofanlcjeohcjaaMt17
import Derived.Test.YtofanlcjeohcjaaMt14
import Derived.Test.YtofanlcjeohcjaaMt07
import Derived.KernelRfl
noncomputable section
namespace Go.Proofs.Ytofanlcjeohcjaa.Am
open Go.RowKit
def hitB (l:List Nat)(h:Hd):Bool:=BZ l h.2.1 h.2.2&&decide (C4 l h.2.1 h.2.2=h.1)
theorem Eh_ {n:Nat}{v:Value}{l:List Nat}{h:Hd}{s:St}{Q:Value→St→Prop}(hbd:s.lim≤s.next)(hbs:Bs s v l)(hby:Byt l)(hz:l.length≤200000)(hk:h.2.1≤1000000)(h16:h.1.length=16)(hn:60000≤n)
  (q1:CM l h=false→hitB l h=true→ ∀s1 w,Ext (BsF v) Non s s1→Bn s1 w (CD l h.2.1 h.2.2)→(∀x,BsF w x→s.next≤x)→Q (.tuple #[w, .int .i64 0]) s1)
  (q2:CM l h=false→hitB l h=false→ ∀s1,Ext (BsF v) Non s s1→Q (.tuple #[.slice none 0 0, .int .i64 11]) s1)
  (q3:CM l h=true→ ∀s1,Ext (BsF v) Non s s1→Q (.tuple #[.slice none 0 0, .int .i64 6]) s1):W (Au envS (runF envS n) 27 [v, .agg (AP h).toArray]) s Q:=by
 refine IC_ fun tm h0 h1=> ?_
 have hbs0:Bs (s.cxN cxN) v l:=hbs.same rfl rfl
 have hl18:(AP h).length=18:=Dk h16
 refine Gb_.w rfl (by omega) ?_
 simp -implicitDefEqProofs only[Yp,Ad,W_oS,Aa,W_mv,Ac,h1]
 refine W.box fun sa na xa oa=> ?_
 have hcel:cellsOf (.agg (AP h).toArray)=AP h:=rfl
 rw[hcel]at na oa
 have na':sa.next=s.next+19:=by rw[na,hl18];rfl
 have oa':Af sa s.next 0 (AP h):=oa
 try simp -implicitDefEqProofs only[Ad,W_oS,W_on,Aa,W_mv,Ac,A4,T.get_set,Al,Ak,Bg,A7,Aj,AS,reduceIte,AV,Bx,Bi,BC,Bc,A0,A6,Bm,AU,Bl,Nat.reduceEqDiff,reduceCtorEq, ↓reduceIte]
 have hxa:Ext (BsF v) Non (s.cxN cxN) sa:=(Ext.refl _).step xa hbd (fun _ _ h=>h.elim) fun _ h=>h.elim
 refine CN_.w MA_ (by omega) ?_
 simp -implicitDefEqProofs only[SS,Ad,W_oS,W_on,Aa,W_mv,Ac,T.get_set,Al,Ak,Aj,AS,reduceIte,Nat.reduceEqDiff,reduceCtorEq, ↓reduceIte,h0]
 rw[show(s.cxN cxN).next=s.next from rfl,B1 PR (by decide)]
 have o16:Own sa s.next (0+16) (.int .i64 (h.2.1:Nat)):=oa' 16 _ (EK h16).1
 refine W.load1 B9 o16.at' ?_
 try simp -implicitDefEqProofs only[Ad,W_oS,W_on,Aa,W_mv,Ac,A4,T.get_set,Al,Ak,Bg,A7,Aj,AS,reduceIte,AV,Bx,Bi,BC,Bc,A0,A6,Bm,AU,Bl,Nat.reduceEqDiff,reduceCtorEq, ↓reduceIte]
 have hxb:Ext (BsF v) Non (s.cxN cxN) (sa.rdN (s.next+(0+16))):=hxa.step (Ext.rdN (F:=fun x=>s.next≤x) (G:=Non) sa _ fun _=>by omega) hbd (fun x hx h=>by
  have h2:x<s.lim:=hx
  have h3:s.next≤x:=h
  omega) fun _ h=>h.elim
 have ob:Af (sa.rdN (s.next+(0+16))) s.next 0 (AP h):=fun i v e=>(oa' i v e).same rfl rfl
 have nb:(sa.rdN (s.next+(0+16))).next=s.next+19:=na'
 generalize sa.rdN (s.next+(0+16))=sb at *
 refine Sd (hxb.bnd hbd) (hbs0.ext0 hxb) hby (by omega) (by omega) fun sc xc=> ?_
 rw[Be (k:=0) rfl,Be (k:=1) rfl]
 have hxc:Ext (BsF v) Non (s.cxN cxN) sc:=hxb.step xc hbd (fun _ _ h=>h) fun _ h=>h.elim
 have oc:Af sc s.next 0 (AP h):=fun i v e=>(ob i v e).ext0 xc
 have nc:s.next+19≤sc.next:=by have:=xc.nxt;omega
 refine Pj_ (R:=s.next) (h:=h) (hbs0.ext0 hxc) (by omega) h16 oc (by simp[T.get_set,h0]) (by simp[T.get_set]) (by simp[T.get_set]) (by simp[T.get_set]) DV_ (by omega) fun n' sd tm' td' hn' hT' md nd xd hkeep h35=> ?_
 have hxd:Ext (BsF v) Non (s.cxN cxN) sd:=hxc.step xd hbd (fun x hx h=>by
  have h2:x<s.lim:=hx
  omega) fun _ h=>h.elim
 have od:Af sd s.next 0 (AP h):=fun i v e=>(oc i v e).same md nd
 have k0:T.get tm' 0=some v:=by rw[hkeep 0 (by decide)];simp[T.get_set,h0]
 have k3:T.get tm' 3=some (.pointer (some ⟨s.next,0,none⟩)):=by rw[hkeep 3 (by decide)];simp[T.get_set]
 have k6:T.get tm' 6=some (.int .i64 ((CE l h.2.1).1:Nat)):=by rw[hkeep 6 (by decide)];simp[T.get_set]
 cases hm:CM l h with
 |true=>
  rw[hm]at h35
  refine W.cond (v:=true) hT' Xh h35 (by omega) (fun _=> ?_) fun h=>by cases h
  refine JC_.w RQ_ (by omega) ?_
  simp -implicitDefEqProofs only[AA_,Aa,W_mv,Ac]
  exact W.end' (rs:=[4,5]) (vs:=[.slice none 0 0, .int .i64 6]) XC_ (.inl VN_) (by omega) Ms Sw hxd.cx (by simp[T.get_set]) (q3 hm _ hxd.cx')
 |false=>
  rw[hm]at h35
  refine W.cond (v:=false) hT' Xh h35 (by omega) (fun h=>by cases h) fun _=> ?_
  have hm2:=hm
  unfold CM at hm2
  rw[Bool.not_eq_false',Bool.and_eq_true,Bool.and_eq_true,decide_eq_true_eq,decide_eq_true_eq]at hm2
  obtain⟨⟨p1,p2⟩,p3⟩:=hm2
  have hk6:h.2.1+6≤l.length:=by omega
  have hsb:(CE l h.2.1).1=h.2.2:=by unfold CE;rw[if_pos hk6];exact p2
  have hok:Cp l h.2.1=true:=by unfold CE at p1;rw[if_pos hk6]at p1;exact p1
  obtain⟨g1,g2⟩:=Pg hok
  rw[p2]at g1 g2
  rw[hsb]at k6
  refine Ht_.w Hg_ (by omega) ?_
  simp -implicitDefEqProofs only[BZ_,Ad,W_oS,W_on,Aa,W_mv,Ac,Al,Ak,Aj,AS,k0,k3,k6]
  rw[B1 PR (by decide)]
  have o16d:Own sd s.next (0+16) (.int .i64 (h.2.1:Nat)):=od 16 _ (EK h16).1
  refine W.load1 B9 o16d.at' ?_
  try simp -implicitDefEqProofs only[Ad,W_oS,W_on,Aa,W_mv,Ac,A4,T.get_set,Al,Ak,Bg,A7,Aj,AS,reduceIte,AV,Bx,Bi,BC,Bc,A0,A6,Bm,AU,Bl,Nat.reduceEqDiff,reduceCtorEq, ↓reduceIte]
  have hxe:Ext (BsF v) Non (s.cxN cxN) (sd.rdN (s.next+(0+16))):=hxd.step (Ext.rdN (F:=fun x=>s.next≤x) (G:=Non) sd _ fun _=>by omega) hbd (fun x hx h=>by
   have h2:x<s.lim:=hx
   have h3:s.next≤x:=h
   omega) fun _ h=>h.elim
  have oe:Af (sd.rdN (s.next+(0+16))) s.next 0 (AP h):=fun i v e=>(od i v e).same rfl rfl
  have ne:s.next+19≤(sd.rdN (s.next+(0+16))).next:=by show s.next+19≤sd.next;omega
  generalize sd.rdN (s.next+(0+16))=se at *
  have hbe:se.lim≤se.next:=hxe.bnd hbd
  have rest: ∀(sf:St) (w:Value) (id:List Nat) (g:Bool),Ext (BsF v) Non se sf→id.length=16→id=C4 l h.2.1 h.2.2→g=BZ l h.2.1 h.2.2→oneCell w=true→(g=true→Bn sf w (CD l h.2.1 h.2.2)∧ ∀x,BsF w x→se.next≤x)→
    W (kExt 0 (.tuple #[.agg (u8l id).toArray,w, .bool g])) sf fun v42 s3=>W (kExt 1 (.tuple #[.agg (u8l id).toArray,w, .bool g])) s3 fun v43 s4=>W (kExt 2 (.tuple #[.agg (u8l id).toArray,w, .bool g])) s4 fun v44 s5=>W (BF envS 26) s5 fun v8 s6=>W (A5 envS 26 v8 v42) s6 fun _ s7=>W (runF envS (n'-1-1) ⟨27,LN,CQ,T.set (T.set (T.set tm' 8 v8) 9 v43) 10 v44,Is.tail, .run, .normal,none⟩) s7 fun p s1=>Q p.1 (s1.cxN s.cx):=fun sf w id g xf hid hide hge hw1 hw=>by
   rw[Be (k:=0) rfl,Be (k:=1) rfl,Be (k:=2) rfl]
   have hxf:Ext (BsF v) Non (s.cxN cxN) sf:=hxe.step xf hbd (fun _ _ h=>h) fun _ h=>h.elim
   have hIl:(u8l id).length=16:=by rw[A1];exact hid
   have nf:se.next≤sf.next:=xf.nxt
   refine W.alloc DI fun sg ng xg og=> ?_
   have hxg:Ext (BsF v) Non (s.cxN cxN) sg:=hxf.step xg hbd (fun _ _ h=>h.elim) fun _ h=>h.elim
   refine W.store BR hIl (BT _) (fun i hi=>(Af.owned og) i (by simpa using hi)) fun sh nh xh oh=> ?_
   have oh':Af sh sf.next 0 (u8l id):=oh
   have hG: ∀x,In sf.next 0 16 x→sf.next≤x:=fun x h=>by have:=h.1;omega
   have hxh:Ext (BsF v) Non (s.cxN cxN) sh:=hxg.step xh hbd (fun x hx h=>by
    have h2:x<s.lim:=hx
    have:=hG x h
    omega) fun x h=>by have h3:=hG x h;show s.next≤x;omega
   have keep: ∀b o u,Own sf b o u→Own sh b o u:=fun b o u hu=>(hu.ext0 xg).ext xh fun h=>by have:=hG _ h;have:=hu.1;omega
   have oh18:Af sh s.next 0 (AP h):=fun i v e=>keep _ _ _ ((oe i v e).ext0 xf)
   refine QC_.w Hy_ (by omega) ?_
   have fin: ∀(si:St) (tm2:T Value) (td2:List Item) (b:Bool),Ext (BsF v) Non (s.cxN cxN) si→(∀x,x<sf.next→T.get si.mem x=T.get sh.mem x)→sf.next≤si.next→skim 64 td2=FK→T.get tm2 9=some w→T.get tm2 52=some (.bool b)→b= !hitB l h→(b=false→g=true)→
     W (runF envS (n'-1-1-1) ⟨27,LN,CQ,tm2,td2, .run, .normal,none⟩) si fun p s1=>Q p.1 (s1.cxN s.cx):=fun si tm2 td2 b xi mi ni hT2 h9 h52 hb hbg=>by
    cases b with
    |true=>
     refine W.cond (v:=true) hT2 ST h52 (by omega) (fun _=> ?_) fun h=>by cases h
     refine SL_.w Ge_ (by omega) ?_
     simp -implicitDefEqProofs only[UA,Aa,W_mv,Ac]
     exact W.end' (rs:=[4,5]) (vs:=[.slice none 0 0, .int .i64 11]) QK_ (.inl Xy_) (by omega) Ms Sw xi.cx (by simp[T.get_set]) (q2 hm (by simpa using hb.symm) _ xi.cx')
    |false=>
     refine W.cond (v:=false) hT2 ST h52 (by omega) (fun h=>by cases h) fun _=> ?_
     refine Ki_.w Wz_ (by omega) ?_
     simp -implicitDefEqProofs only[ZY,Aa,W_mv,Ac,h9]
     obtain⟨w1,w2⟩:=hw (hbg rfl)
     refine W.end' (rs:=[4,5]) (vs:=[w, .int .i64 0]) NB_ (.inl SG_) (by omega) Ms Sw xi.cx (by simp[T.get_set]) (q1 hm (by simpa using hb.symm) _ w xi.cx' ?_ fun x hx=>by have:=w2 x hx;omega)
     obtain⟨b,o,c,e1,e2,e3,e4⟩:=w1
     refine⟨b,o,c,e1,e2,e3,fun i u e=> ?_⟩
     have e5:=e4 i u e
     refine⟨Nat.lt_of_lt_of_le e5.1 ni, ?_⟩
     show T.get si.mem _=_∨T.get si.mem _=_
     rw[mi _ e5.1,xh.mem _ (Nat.lt_of_lt_of_le e5.1 xg.nxt) fun h=>by have:=hG _ h;have:=e5.1;omega,xg.mem _ e5.1 fun h=>h]
     exact e5.2
   cases g with
   |false=>
    simp -implicitDefEqProofs only[PP,Ad,W_oS,W_on,Aa,W_mv,Ac,T.get_set,reduceIte,AV,Bi,A0,Bm,AU,Nat.reduceEqDiff, ↓reduceIte,DE,Bool.not_false]
    refine fin sh _ _ true hxh (fun _ _=>rfl) (by have:=xg.nxt;have:=xh.nxt;omega) Bu_ (by simp[T.get_set]) (by simp[T.get_set]) ?_ fun h=>by cases h
    unfold hitB
    rw[←hge]
    rfl
   |true=>
    simp -implicitDefEqProofs only[PP,Ad,W_oS,W_on,Aa,W_mv,Ac,T.get_set,reduceIte,AV,Bc,A0,A6,AU,Nat.reduceEqDiff,reduceCtorEq, ↓reduceIte,DE,Bool.not_true,k3]
    refine W.loadA BR oh'.row hIl fun si mi ni xi=> ?_
    have hxi:Ext (BsF v) Non (s.cxN cxN) si:=hxh.step xi hbd (fun x hx h=>by
     have h2:x<s.lim:=hx
     have:=hG x h
     omega) fun _ h=>h.elim
    rw[B1 Gh_ (by decide)]
    have oid:Af si s.next (0+0) (u8l h.1):=fun i u e=>by
     have hi:i<(u8l h.1).length:=(List.getElem?_eq_some_iff.1 e).1
     have:=oh18 i u (by unfold AP;rw[List.getElem?_append_left hi];exact e)
     exact this.same mi ni
    refine W.loadA BR oid.row (by rw[A1];exact h16) fun sj mj nj xj=> ?_
    have hxj:Ext (BsF v) Non (s.cxN cxN) sj:=hxi.step xj hbd (fun x hx h=>by
     have h2:x<s.lim:=hx
     have h4:s.next+(0+0)≤x:=h.1
     omega) fun _ h=>h.elim
    try simp -implicitDefEqProofs only[Ad,W_oS,W_on,Aa,W_mv,Ac,A4,T.get_set,Al,Ak,Bg,A7,Aj,AS,reduceIte,AV,Bx,Bi,BC,Bc,A0,A6,Bm,AU,Bl,Nat.reduceEqDiff,reduceCtorEq, ↓reduceIte]
    rw[Uy_ XV hid h16]
    try simp -implicitDefEqProofs only[Ad,W_oS,W_on,Aa,W_mv,Ac,A4,T.get_set,Al,Ak,Bg,A7,Aj,AS,reduceIte,AV,Bx,Bi,BC,Bc,A0,A6,Bm,AU,Bl,Nat.reduceEqDiff,reduceCtorEq, ↓reduceIte]
    refine fin sj _ _ (!decide (id=h.1)) hxj (fun x _=>by rw[mj,mi]) (by have:=xg.nxt;have:=xh.nxt;omega) Bu_ (by simp[T.get_set]) (by simp[T.get_set]) ?_ fun _=>rfl
    unfold hitB
    rw[←hge,←hide,Bool.true_and]
  refine YP hbe (hbs0.ext0 hxe) hby (by omega) g1 g2 p3 (by omega) (fun hg sf w xf hw1 hw2=> ?_) fun hg sf xf=> ?_
  ·have e1:C4 l h.2.1 h.2.2=B0 l h.2.1 h.2.2:=if_pos hg
   have e2:BZ l h.2.1 h.2.2=decide (idB (CD l h.2.1 h.2.2)=B0 l h.2.1 h.2.2):=by unfold BZ;rw[decide_eq_true hg,Bool.true_and]
   exact rest sf w _ _ xf (KT p3) e1.symm e2.symm (by obtain⟨b,o,c,rfl,_⟩:=hw1;rfl) fun _=>⟨hw1,hw2⟩
  ·have e1:C4 l h.2.1 h.2.2=H2:=if_neg hg
   have e2:BZ l h.2.1 h.2.2=false:=by unfold BZ;rw[decide_eq_false hg,Bool.false_and]
   exact rest sf _ _ _ xf rfl e1.symm e2.symm rfl fun h=>by cases h
structure Good (l:List Nat)(h:Hd):Prop where
 ok:Cq l h.2.1=true
 sz:Bk l h.2.1=h.2.2
 good:BZ l h.2.1 h.2.2=true
 id:C4 l h.2.1 h.2.2=h.1
theorem FB_:arrN envS 26=some (16,1):=by kernel_rfl
def recB (b:List Nat):List Nat:=Bo b.length++gput (idB b++b)
theorem DH (b:List Nat):(recB b).length=b.length+26:=by
 unfold recB
 rw[List.length_append,ED,List.length_append,B3,EZ]
 omega
theorem VZ {b:List Nat}(h:Byt b):Byt (recB b):=fun x hx=>by
 rcases List.mem_append.1 hx with hx|hx
 ·exact Jk_ _ x hx
 ·refine(Byt.gput (l:=idB b++b) fun y hy=> ?_) x hx
  rcases List.mem_append.1 hy with hy|hy
  ·exact TS b y hy
  ·exact h y hy
theorem TK (u v:Value)(l m:List Nat):fl [(u,l),(v,m)]=l++m:=by
 simp[fl]
theorem MW (u v:Value)(l m:List Nat):tot [(u,l),(v,m)]=l.length+m.length:=by
 simp[tot]
theorem Bs.cell1 {s:St}{v:Value}{l:List Nat}(h:Bs s v l):cellsOf v=[v]:=by
 obtain⟨p,c,rfl⟩:=h.sl
 rfl
theorem U1 {a b z:Value}(ha:cellsOf a=[a])(hb:cellsOf b=[b]):De (fun k=>some (k*1,1)) [(0,a),(1,b)] (rep 2 [z])=some [a,b]:=by
 unfold De
 simp -implicitDefEqProofs only[ha,hb]
 rfl
theorem GQ_ {C3 C5 C6 n:Nat}{v:Value}{b:List Nat}{tm:T Value}{td:List Item}{s s0:St}{Q:Value→St→Prop}(hb:s.lim≤s.next)(hcx:s.cx=cxN)(hbs:Bs s v b)(hby:Byt b)(hb1:1≤b.length)(hb2:b.length≤1024)(hv3: ∀x,BsF v x→x<C3)(h35:C3+16≤C5)(h56:C5+6≤C6)(h6:C6+16≤s.next)(hs0:s0.next≤C3)
  (o3:AW s C3 0 16) (o5:Af s C5 0 (u8l (Bo b.length))) (o6:Af s C6 0 (u8l (idB b))) (k0:T.get tm 0=some v) (k3:T.get tm 3=some (.pointer (some ⟨C3,0,none⟩))) (k5:T.get tm 5=some (.pointer (some ⟨C5,0,none⟩))) (k6:T.get tm 6=some (.pointer (some ⟨C6,0,none⟩))) (hT:skim 64 td=HJ) (hn:10000≤n)
  (q: ∀s1 w,Ext (fun x=>BsF v x∨C3≤x) (fun x=>C3≤x) s s1→Bn s1 w (recB b)→(∀x,BsF w x→s.next≤x)→Q (.tuple #[w, .agg (u8l (idB b)).toArray, .int .i64 0]) (s1.cxN s0.cx)):
  W (runF envS n ⟨17,UZ_,Dp,tm,td, .run, .normal,none⟩) s fun p s1=>Q p.1 (s1.cxN s0.cx):=by
 have hIl:(u8l (idB b)).length=16:=by rw[A1];exact B3 b
 have hne:b≠[]:=fun h=>by rw[h]at hb1;simp at hb1
 have hbn:Bn s v b:=hbs.bn' hne
 refine PV_.w hT (by omega) ?_
 simp -implicitDefEqProofs only[XM,k0,k5,k6,Cm,DX,Al,Ak,Bg,A7,Aj,Fx]
 rw[W_dq fun s Q=>GM (s:=s) (lo:=none) (hi:=none) (l:=0) (h:=6) Wk (BD (by decide)) rfl rfl (Nat.zero_le _) (Nat.le_refl _) Q,if_neg (by decide)]
 rw[W_dq fun s Q=>GM (s:=s) (lo:=none) (hi:=none) (l:=0) (h:=16) FB_ (BD (by decide)) rfl rfl (Nat.zero_le _) (Nat.le_refl _) Q,if_neg (by decide)]
 simp -implicitDefEqProofs only[Bd]
 have B5:Bs s (.slice (some ⟨C5,0+0*1,none⟩) (6-0) (6-0)) (Bo b.length):=Af.bn o5 (BD (by simp[Bo]))
 have B6:Bs s (.slice (some ⟨C6,0+0*1,none⟩) (16-0) (16-0)) (idB b):=by
  have:=Af.bn o6 (BD (by rw[B3];decide))
  rw[B3]at this
  exact this
 have hw6: ∀x,BsF (.slice (some ⟨C6,0+0*1,none⟩) (16-0) (16-0)) x→In C6 0 16 x:=fun x h=>⟨h.1,h.2⟩
 generalize (.slice (some ⟨C6,0+0*1,none⟩) (16-0) (16-0):Value)=w6 at *
 have hw5: ∀x,BsF (.slice (some ⟨C5,0+0*1,none⟩) (6-0) (6-0)) x→In C5 0 6 x:=fun x h=>⟨h.1,h.2⟩
 generalize (.slice (some ⟨C5,0+0*1,none⟩) (6-0) (6-0):Value)=w5 at *
 refine W.dop (W.buildS (s:=oSt s.mem s.next) (Nat.le_refl _) (r:=[w6,v]) Oy (by decide) (U1 B6.cell1 hbs.cell1) (BD (by decide)) fun sa na xa oa=>⟨Non,xa,fun rda hra=> ?_⟩)
 have na':sa.next=s.next+3:=na
 have hrda:rda=[]:=by
  cases rda with
  |nil=>rfl
  |cons y _=>exact(hra y (by simp)).2.elim
 subst hrda
 have up: ∀{w:Value} {l:List Nat},Bs s w l→Bs (oSt sa.mem sa.next) w l:=fun h=>((h.same (s':=oSt s.mem s.next) rfl rfl).ext0 xa).same rfl rfl
 have oa':Af sa s.next 0 [w6,v]:=oa
 refine W.dop (PF (s:=oSt sa.mem sa.next) (parts:=[(w6,idB b),(v,b)]) (b:=s.next) (o:=0) (c:=2) (Nat.le_refl _) ⟨fun i u e=>((oa' i u e).same rfl rfl).at',fun p hp=> ?_⟩ (by rw[MW,B3];omega) (by rw[MW,B3];omega) (by simp) (by simp;omega) fun sb w4 xb hw4=>⟨_,xb,fun rdb hrb=> ?_⟩)
 ·rcases List.mem_cons.1 hp with rfl|hp
  ·exact up B6
  ·rcases List.mem_cons.1 hp with rfl|hp
   ·exact up hbs
   ·cases hp
 have nb':sa.next≤sb.next:=xb.nxt
 rw[TK]at hw4
 have hIb:Byt (idB b++b):=fun y hy=>by
  rcases List.mem_append.1 hy with hy|hy
  ·exact TS b y hy
  ·exact hby y hy
 refine W.dop (XQ (s:=oSt sb.mem sb.next) (Nat.le_refl _) (by omega) (hw4.bn.same rfl rfl) hIb (by rw[List.length_append,B3];omega) fun sc w7 xc hw7=>⟨_,xc,fun rdc hrc=> ?_⟩)
 have nc':sb.next≤sc.next:=xc.nxt
 refine W.dop (W.buildS (s:=oSt sc.mem sc.next) (Nat.le_refl _) (r:=[w5,w7]) Oy (by decide) (U1 B5.cell1 hw7.bn.bs.cell1) (BD (by decide)) fun sd nd xd od=>⟨Non,xd,fun rdd hrd=> ?_⟩)
 have nd':sd.next=sc.next+3:=nd
 have hrdd:rdd=[]:=by
  cases rdd with
  |nil=>rfl
  |cons y _=>exact(hrd y (by simp)).2.elim
 subst hrdd
 have up2: ∀{w:Value} {l:List Nat},Bs s w l→Bs (oSt sd.mem sd.next) w l:=fun h=>(((((((up h).ext0 xb).same (s':=oSt sb.mem sb.next) rfl rfl).ext0 xc).same (s':=oSt sc.mem sc.next) rfl rfl).ext0 xd).same rfl rfl)
 have B7:Bs (oSt sd.mem sd.next) w7 (gput (idB b++b)):=(((hw7.bn.bs.same (s':=oSt sc.mem sc.next) rfl rfl).ext0 xd).same rfl rfl)
 have od':Af sd sc.next 0 [w5,w7]:=od
 refine W.dop (PF (s:=oSt sd.mem sd.next) (parts:=[(w5,Bo b.length),(w7,gput (idB b++b))]) (b:=sc.next) (o:=0) (c:=2) (Nat.le_refl _) ⟨fun i u e=>((od' i u e).same rfl rfl).at',fun p hp=> ?_⟩ (by rw[MW,ED,List.length_append,B3,EZ];omega) (by rw[MW,ED,List.length_append,B3,EZ];omega) (by simp) (by simp;omega) fun se w8 xe hw8=>⟨_,xe,fun rde hre=> ?_⟩)
 ·rcases List.mem_cons.1 hp with rfl|hp
  ·exact up2 B5
  ·rcases List.mem_cons.1 hp with rfl|hp
   ·exact B7
   ·cases hp
 have ne':sd.next≤se.next:=xe.nxt
 rw[TK]at hw8
 have keep: ∀bk o u,Own s bk o u→Own se bk o u:=fun bk o u h=>((((((((h.same (s':=oSt s.mem s.next) rfl rfl).ext0 xa).same (s':=oSt sa.mem sa.next) rfl rfl).ext0 xb).same (s':=oSt sb.mem sb.next) rfl rfl).ext0 xc).same (s':=oSt sc.mem sc.next) rfl rfl).ext0 xd |>.same (s':=oSt sd.mem sd.next) rfl rfl).ext0 xe
 have o6e:Af (dSt se.mem se.next) C6 0 (u8l (idB b)):=fun i u e=>(keep _ _ _ (o6 i u e)).same rfl rfl
 refine W.dloadA BR o6e.row hIl fun memf rdf hmf hrf=> ?_
 subst hmf
 simp -implicitDefEqProofs only[Bd,A4,T.get_set,Nat.reduceEqDiff, ↓reduceIte,k3,Cm]
 have o3e:AW (oSt se.mem se.next) C3 0 16:=fun j hj=>by
  obtain⟨u,hu⟩:=o3 j hj
  exact⟨u,(keep _ _ _ hu).same rfl rfl⟩
 refine W.dopG (W.store BR hIl (BT _) o3e fun sg ng xg og=>⟨In C3 0 16,In C3 0 16,xg,fun rdg wrg hrg hwg=> ?_⟩)
 rw[Aa]
 have ng':sg.next=se.next:=ng
 refine⟨Hj ?_, ?_⟩
 ·simp -implicitDefEqProofs only[List.reverse_cons,List.reverse_nil,List.nil_append,List.cons_append,allP,DO,List.take,E7]
  have ff: ∀x,x∈rdf→ ¬s.next≤x:=fun x hx=>by have:=(hrf x hx).2;omega
  have lts: ∀x,s.next≤x→ ¬x<s.next:=fun x h=>by omega
  simp+contextual [ff,lts]
  repeat' first
   |exact .inl rfl
   |apply And.intro
 ·refine W.cast (CI_ _ _ _ _ _ _ _ _ _ _ _ _ _ _ _) ?_
  simp -implicitDefEqProofs only[Ad,W_oS,Aa,A4]
  generalize hs':(⟨(dSt sg.mem sg.next).mem,(dSt sg.mem sg.next).next,s.lim,_,_,s.cx⟩:St)=s7
  have hZ: ∀b k x:Nat,C3≤b→In b 0 k x→C3≤x:=fun b k x h h2=>by have:=h2.1;omega
  have hPa: ∀x,Cy s.next 0 [(w6,idB b),(v,b)] x→BsF v x∨C3≤x:=fun x h=>by
   rcases h with h|⟨p,hp,h⟩
   ·exact .inr (hZ _ _ _ (by omega) h)
   ·rcases List.mem_cons.1 hp with rfl|hp
    ·exact .inr (hZ _ _ _ (by omega) (hw6 x h))
    ·rcases List.mem_cons.1 hp with rfl|hp
     ·exact .inl h
     ·cases hp
  have hPb: ∀x,Cy sc.next 0 [(w5,Bo b.length),(w7,gput (idB b++b))] x→BsF v x∨C3≤x:=fun x h=>by
   rcases h with h|⟨p,hp,h⟩
   ·exact .inr (hZ _ _ _ (by omega) h)
   ·rcases List.mem_cons.1 hp with rfl|hp
    ·exact .inr (hZ _ _ _ (by omega) (hw5 x h))
    ·rcases List.mem_cons.1 hp with rfl|hp
     ·have h1:=hw7.new x h
      have h2:(oSt sb.mem sb.next).next=sb.next:=rfl
      exact .inr (by omega)
     ·cases hp
  have x7:Ext (fun x=>BsF v x∨C3≤x) (fun x=>C3≤x) s s7:=by
   rw[←hs']
   refine Ext.drawG (by show s.next≤sg.next;omega) (fun x hx hg=> ?_) ?_ ?_
   ·exact(xg.mem x (by show x<se.next;omega) fun h=>hg (hZ _ _ x (by omega) h)).trans ((xe.mem x (by show x<sd.next;omega) id).trans ((xd.mem x (by show x<sc.next;omega) id).trans ((xc.mem x (by show x<sb.next;omega) id).trans ((xb.mem x (by show x<sa.next;omega) id).trans (xa.mem x hx id)))))
   ·simp -implicitDefEqProofs only[List.mem_cons,List.not_mem_nil,or_false]
    rintro m (rfl|rfl|rfl|rfl|rfl|rfl|rfl|rfl|rfl|rfl|rfl) x hx _<;>first|(cases hx;done)|(exact hZ _ _ x (by omega) (hwg x hx).2)
   ·simp -implicitDefEqProofs only[List.mem_cons,List.not_mem_nil,or_false]
    rintro m (rfl|rfl|rfl|rfl|rfl|rfl|rfl|rfl|rfl|rfl|rfl) x hx _<;>first|(cases hx;done)|(exact .inr (hZ _ _ x (by omega) (hrg x hx).2))|(exact .inr (hZ _ _ x (by omega) (hrf x hx)))|(exact hPb x (hre x hx).2)|(exact hPa x (hrb x hx).2)|(have h1:=hw4.new x (hrc x hx).2;have h2:(oSt sa.mem sa.next).next=sa.next:=rfl;exact .inr (by omega))
  have m7:s7.mem=sg.mem:=by rw[←hs'];rfl
  have n7:s7.next=sg.next:=by rw[←hs'];rfl
  have o7:Af s7 C3 0 (u8l (idB b)):=fun i u e=>(og i u e).same m7 n7
  have b7:Bn s7 w8 (Bo b.length++gput (idB b++b)):=((hw8.bn.same (s':=oSt se.mem se.next) rfl rfl).ext xg fun x hx h=>by
   have h1:=hw8.new x hx
   have h2:(oSt sd.mem sd.next).next=sd.next:=rfl
   have h3:x<C3+0+16:=h.2
   omega).same m7 n7
  refine W.endG EO_ (.inl Qm_) (by omega) Sr Wf (x7.cx.trans hcx) ?_
  refine W.resTmp (v:=w8) (by simp[T.get_set]) (W.resCell (a:=⟨C3,0,none⟩) (by simp[T.get_set,k3]) ?_)
  refine W.loadA BR o7.row hIl fun sh mh nh xh=> ?_
  refine W.resTmp (v:= .int .i64 0) (by simp[T.get_set]) (W.resNil ?_)
  exact q sh w8 (x7.trans xh hb (fun x _ h=> .inr (hZ _ _ x (by omega) h)) fun _ _ h=>h.elim) (b7.same mh nh) fun x hx=>by
   have h1:=hw8.new x hx
   have h2:(oSt sd.mem sd.next).next=sd.next:=rfl
   omega
theorem UO_ {n:Nat}{v:Value}{b:List Nat}{s:St}{Q:Value→St→Prop}(hbd:s.lim≤s.next)(hbs:Bs s v b)(hlt: ∀x,BsF v x→x<s.next)(hby:Byt b)(hn:60000≤n)
  (q0:b.length=0→ ∀s1,Ext (BsF v) Non s s1→Q (.tuple #[.slice none 0 0, .agg (u8l (List.replicate 16 0)).toArray, .int .i64 2]) s1)
  (q1:1024<b.length→ ∀s1,Ext (BsF v) Non s s1→Q (.tuple #[.slice none 0 0, .agg (u8l (List.replicate 16 0)).toArray, .int .i64 3]) s1)
  (q2:1≤b.length→b.length≤1024→ ∀s1 w,Ext (BsF v) Non s s1→Bn s1 w (recB b)→(∀x,BsF w x→s.next≤x)→Q (.tuple #[w, .agg (u8l (idB b)).toArray, .int .i64 0]) s1):
  W (Au envS (runF envS n) 17 [v]) s Q:=by
 refine IW_ fun tm h0=> ?_
 have hB:Bs (s.cxN cxN) v b:=hbs.same rfl rfl
 refine Ln_.w rfl (by omega) ?_
 simp -implicitDefEqProofs only[Bw_,Ad,Aa,W_mv,Ac]
 refine W.alloc DI fun sa na xa oa=> ?_
 have na':sa.next=s.next+17:=na
 have hxa:Ext (BsF v) Non (s.cxN cxN) sa:=(Ext.refl _).step xa hbd (fun _ _ h=>h.elim) fun _ h=>h.elim
 have hG: ∀x,In s.next 0 16 x→s.next≤x:=fun x h=>by have:=h.1;omega
 refine EJ_.w Ku_ (by omega) ?_
 simp -implicitDefEqProofs only[UF,Ad,W_oS,Aa,W_mv,Ac,T.get_set,Al,Ak,Aj,reduceIte,reduceCtorEq, ↓reduceIte,h0]
 rw[(hB.ext0 xa).len A2]
 simp -implicitDefEqProofs only[EO]
 have zero: ∀sz:St,Ext (BsF v) Non (s.cxN cxN) sz→sz.mem=sa.mem→sz.next=sa.next→ ∀(tmz:T Value) (m:Nat) (td:List Item) (c:Int),20≤m→skim 64 td=Ih→T.get tmz 2=some (.slice none 0 0)→T.get tmz 3=some (.pointer (some ⟨s.next,0,none⟩))→(∀s1,Ext (BsF v) Non s s1→Q (.tuple #[.slice none 0 0, .agg (u8l (List.replicate 16 0)).toArray, .int .i64 c]) s1)→
   W (A5 envS 26 (.pointer (some ⟨s.next,0,none⟩)) (.agg (u8l (List.replicate 16 0)).toArray)) sz fun _ s1=>W (runF envS m ⟨17,31,Dp,T.set tmz 4 (.int .i64 c),td, .run, .normal,none⟩) s1 fun p s1=>Q p.1 (s1.cxN s.cx):=by
  intro sz xz mz nz tmz m td c hm hT h2 h3 q
  have ho:AW sz s.next 0 16:=fun j hj=>by
   obtain⟨u,hu⟩:=Af.owned oa j (by simpa using hj)
   exact⟨u,hu.same mz nz⟩
  refine W.store BR rfl (BT _) ho fun sc nc xc oc=> ?_
  have hxc:Ext (BsF v) Non (s.cxN cxN) sc:=xz.step xc hbd (fun x hx h=>by
   have h2:x<s.lim:=hx
   have:=hG x h
   omega) hG
  refine W.endG hT (.inl IG_) (by omega) Sr Wf hxc.cx ?_
  refine W.resTmp (v:= .slice none 0 0) (by simp[T.get_set,h2]) (W.resCell (a:=⟨s.next,0,none⟩) (by simp[T.get_set,h3]) ?_)
  refine W.loadA BR oc.row rfl fun sd md nd xd=> ?_
  have hxd:Ext (BsF v) Non (s.cxN cxN) sd:=hxc.step xd hbd (fun x hx h=>by
   have h2:x<s.lim:=hx
   have:=hG x h
   omega) fun _ h=>h.elim
  refine W.resTmp (v:= .int .i64 c) (by simp[T.get_set]) (W.resNil ?_)
  exact q _ hxd.cx'
 by_cases hz:b.length=0
 ·refine W.cond (v:=true) Wu TJ (by simp[T.get_set,hz]) (by omega) (fun _=> ?_) fun h=>by cases h
  refine MG_.w LN_ (by omega) ?_
  simp -implicitDefEqProofs only[S8,Ad,W_oS,Aa,W_mv,Ac,T.get_set,A7,reduceIte,Nat.reduceEqDiff, ↓reduceIte,D8 Rx]
  exact zero sa hxa rfl rfl _ _ _ 2 (by omega) LI_ (by simp[T.get_set]) (by simp[T.get_set];rfl) (q0 hz)
 refine W.cond (v:=false) Wu TJ (by simp[T.get_set];exact fun h=>hz (by rw[h];rfl)) (by omega) (fun h=>by cases h) fun _=> ?_
 refine Oz_.w VO_ (by omega) ?_
 simp -implicitDefEqProofs only[As_,Ad,W_oS,Aa,W_mv,Ac,T.get_set,Al,Ak,Aj,reduceIte,reduceCtorEq, ↓reduceIte,h0]
 rw[(hB.ext0 xa).len A2]
 simp -implicitDefEqProofs only[Dj]
 by_cases hz2:1024<b.length
 ·refine W.cond (v:=true) S7 Xd (by simp[T.get_set];omega) (by omega) (fun _=> ?_) fun h=>by cases h
  refine PF_.w Pu_ (by omega) ?_
  simp -implicitDefEqProofs only[WP,Ad,W_oS,Aa,W_mv,Ac,T.get_set,A7,reduceIte,Nat.reduceEqDiff, ↓reduceIte,D8 Rx]
  exact zero sa hxa rfl rfl _ _ _ 3 (by omega) TO_ (by simp[T.get_set]) (by simp[T.get_set];rfl) (q1 hz2)
 refine W.cond (v:=false) S7 Xd (by simp[T.get_set];omega) (by omega) (fun h=>by cases h) fun _=> ?_
 refine Kr_.w HQ_ (by omega) ?_
 simp -implicitDefEqProofs only[Bm_,Ad,W_oS,W_on,Aa,W_mv,Ac,T.get_set,Al,Ak,Aj,AS,reduceIte,reduceCtorEq, ↓reduceIte,h0]
 rw[(hB.ext0 xa).len A2]
 refine AW_ (hxa.bnd hbd) (by omega) fun sb xb=> ?_
 have hxb:Ext (BsF v) Non (s.cxN cxN) sb:=hxa.step xb hbd (fun _ _ h=>h.elim) fun _ h=>h.elim
 refine Vs (hxb.bnd hbd) ((hB.ext0 xa).ext0 xb) (fun x hx=>by have:=hlt x hx;have:=xb.nxt;omega) hby (by omega) (by omega) fun sc xc=> ?_
 have hxc:Ext (BsF v) Non (s.cxN cxN) sc:=hxb.step xc hbd (fun _ _ h=>h) fun _ h=>h.elim
 refine W.alloc BI_ fun sd nd xd od=> ?_
 have nd':sd.next=sc.next+7:=nd
 have hxd:Ext (BsF v) Non (s.cxN cxN) sd:=hxc.step xd hbd (fun _ _ h=>h.elim) fun _ h=>h.elim
 refine W.alloc DI fun se ne xe oe=> ?_
 have ne':se.next=sd.next+17:=ne
 have hxe:Ext (BsF v) Non (s.cxN cxN) se:=hxd.step xe hbd (fun _ _ h=>h.elim) fun _ h=>h.elim
 have hHl:(u8l (Bo b.length)).length=6:=by rw[A1];exact EZ _
 have hIl:(u8l (idB b)).length=16:=by rw[A1];exact B3 b
 have lb:=xb.nxt
 have lc:=xc.nxt
 have o5:AW se sc.next 0 6:=(Af.owned od).ext1 xe fun _ _ h=>h
 refine W.store Lm hHl (BT _) o5 fun sf nf xf of=> ?_
 have o6:AW sf sd.next 0 16:=(Af.owned oe).ext1 xf fun x h h'=>by
  have h1:x<sc.next+0+6:=h'.2
  have h2:=h.1
  omega
 refine W.store BR hIl (BT _) o6 fun sg ng xg og=> ?_
 have hGf: ∀x,In sc.next 0 6 x→s.next≤x:=fun x h=>by have:=h.1;omega
 have hGg: ∀x,In sd.next 0 16 x→s.next≤x:=fun x h=>by have:=h.1;omega
 have hxf:Ext (BsF v) Non (s.cxN cxN) sf:=hxe.step xf hbd (fun x hx h=>by
  have h2:x<s.lim:=hx
  have:=hGf x h
  omega) hGf
 have hxg:Ext (BsF v) Non (s.cxN cxN) sg:=hxf.step xg hbd (fun x hx h=>by
  have h2:x<s.lim:=hx
  have:=hGg x h
  omega) hGg
 have hng:sg.next=sd.next+17:=by rw[ng,nf,ne']
 have o3:AW sg s.next 0 16:=((((((Af.owned oa).ext1 xb fun _ _ h=>h).ext1 xc fun _ _ h=>h).ext1 xd fun _ _ h=>h).ext1 xe fun _ _ h=>h).ext1 xf fun x h h'=>by
  have h1:x<s.next+0+16:=h.2
  have h2:=h'.1
  omega).ext1 xg fun x h h'=>by
  have h1:x<s.next+0+16:=h.2
  have h2:=h'.1
  omega
 have o5g:Af sg sc.next 0 (u8l (Bo b.length)):=fun i u e=>(of i u e).ext xg fun h=>by
  have h1:=h.1
  have h2:i<6:=by rw[←hHl];exact(List.getElem?_eq_some_iff.1 e).1
  omega
 have hBg:Bs sg v b:=(((((((hB.ext0 xa).ext0 xb).ext0 xc).ext0 xd).ext0 xe).ext xf fun x hx h=>by
  have:=hGf x h
  have:=hlt x hx
  omega).ext xg fun x hx h=>by
  have:=hGg x h
  have:=hlt x hx
  omega)
 refine GQ_ (C3:=s.next) (C5:=sc.next) (C6:=sd.next) (v:=v) (b:=b) (s0:=s) (hxg.bnd hbd) hxg.cx hBg hby (by omega) (by omega) hlt (by omega) (by omega) (by omega) (Nat.le_refl _) o3 o5g og (by simp[T.get_set,h0]) (by simp[T.get_set]) (by simp[T.get_set]) (by simp[T.get_set]) Rj_ (by omega) fun s1 w x1 hw hn1=> ?_
 have hx1:Ext (BsF v) Non (s.cxN cxN) s1:=hxg.step x1 hbd (fun x hx h=>by
  have h2:x<s.lim:=hx
  rcases h with h|h
  ·exact h
  ·omega) fun _ h=>h
 exact q2 (by omega) (by omega) _ w hx1.cx' (hw.same rfl rfl) fun x hx=>by have:=hn1 x hx;omega
section
variable {P:Program}{E:Env}{s:St}{t:Nat}
def FD (P:Program)(t:Nat):Bool:=match P.underlying t with
 |some (.struct fs)=>(match fs.toList with
  | [f0, f1, f2] => f0.name != "_" && f1.name != "_" && f2.name != "_" && Nat.beq f0.offset 0 && Nat.beq f1.offset 16 && Nat.beq f2.offset 17 && !P.stoodInHeld t && !P.eqGuardType P.depth t &&
   (match P.underlying f0.type,P.info? f0.type,P.underlying f1.type,P.underlying f2.type with
   |some (.array 16 e),some i0,some (.int .i64),some (.int .i64)=>Nat.beq i0.size 16&&(match P.underlying e,P.info? e with|some (.int .u8),some i=>Nat.beq i.size 1|_,_=>false)
   |_,_,_,_=>false)
  |_=>false)
 |_=>false
theorem Oq_ {cs:Array Value}{off e:Nat}{i:TypeInfo}(hu:P.underlying t=some (.array 16 e))(hi:P.info? t=some i)(hz:i.size=16):semP P (part t cs off)=some (.agg (cs.extract off (off+16))):=by
 unfold part isAgg
 rw[BS,BS,F8 hu]
 simp -implicitDefEqProofs only[Option.bind_some,DB,if_true,BS,WU hi,hz]
theorem Z5 {d:Nat}{a:Int}(hu:P.underlying t=some (.int .i64)):semP P (Op.equalIn (d+1) t (.int .i64 a) (.int .i64 a))=some true:=by
 simp -implicitDefEqProofs only[Op.equalIn,BS,F8 hu,Option.bind_some,if_true,DB,beq_self_eq_true]
theorem UE_ {h:Hd}(h16:h.1.length=16):(AP h).toArray.extract 0 (0+16)=(u8l h.1).toArray:=by
 apply Array.ext'
 rw[Array.toList_extract]
 simp -implicitDefEqProofs only[List.extract,Nat.zero_add,List.drop_zero,Nat.sub_zero]
 unfold AP
 rw[List.take_left' (by rw[A1];exact h16)]
theorem RY_ {h:Hd}(h16:h.1.length=16):(AP h).toArray[16]?=some (.int .i64 (h.2.1:Nat))∧(AP h).toArray[17]?=some (.int .i64 (h.2.2:Nat)):=by
 rw[List.getElem?_toArray,List.getElem?_toArray]
 exact EK h16
theorem Qx_ (d:Nat){h:Hd}(h16:h.1.length=16)(hT:FD P t=true):semP P (Op.equalIn (d+3) t (.agg (AP h).toArray) (.agg (AP h).toArray))=some true:=by
 unfold FD at hT
 split at hT
 ·rename_i fs hu
  split at hT
  ·rename_i f0 f1 f2 hfs
   simp -implicitDefEqProofs only[Bool.and_eq_true,bne_iff_ne,ne_eq,Bool.not_eq_true']at hT
   obtain⟨⟨⟨⟨⟨⟨⟨⟨n0,n1⟩,n2⟩,o0⟩,o1⟩,o2⟩,st⟩,_⟩,rest⟩:=hT
   split at rest
   ·rename_i e i0 u0 i0' u1 u2
    rw[Bool.and_eq_true]at rest
    obtain⟨z0,rest⟩:=rest
    split at rest
    ·rename_i ie ue hie
     have o0:=Nat.eq_of_beq_eq_true o0
     have o1:=Nat.eq_of_beq_eq_true o1
     have o2:=Nat.eq_of_beq_eq_true o2
     have z0:=Nat.eq_of_beq_eq_true z0
     have z1:=Nat.eq_of_beq_eq_true rest
     obtain⟨hc1,hc2⟩:=RY_ h16
     have hp:semP P program=some P:=rfl
     rw[show d+3=(d+2)+1 from rfl]
     unfold Op.equalIn
     simp -implicitDefEqProofs only[BS,F8 hu,Option.bind_some,hp,st,Bool.false_eq_true,if_false]
     rw[←Array.forIn_toList,hfs]
     simp -implicitDefEqProofs only[List.forIn_cons,List.forIn_nil,n0,n1,n2,not_false_eq_true,if_true,BS,o0,o1,o2,ne_eq]
     rw[Oq_ u0 i0' z0,UE_ h16]
     simp -implicitDefEqProofs only[Option.bind_some]
     rw[show d+2=d+2 from rfl,N7 d h.1 h.1 u0 hie z1 ue h16 h16]
     simp -implicitDefEqProofs only[Option.bind_some,decide_true,Bool.not_true,Bool.false_eq_true,if_false,DB,BS]
     rw[Nb u1 hc1]
     simp -implicitDefEqProofs only[Option.bind_some]
     rw[show d+2=(d+1)+1 from rfl,Z5 u1]
     simp -implicitDefEqProofs only[Option.bind_some,Bool.not_true,Bool.false_eq_true,if_false,DB,BS]
     rw[Nb u2 hc2]
     simp -implicitDefEqProofs only[Option.bind_some]
     rw[Z5 u2]
     simp -implicitDefEqProofs only[Option.bind_some,Bool.not_true,Bool.false_eq_true,if_false,DB]
    ·cases rest
   ·cases rest
  ·cases hT
 ·cases hT
theorem Kb_ (h:Hd):plain (.agg (AP h).toArray)=true:=by
 show(AP h).toArray.toList.all (Br 3)=true
 rw[List.all_eq_true]
 intro v hv
 have hv':v∈AP h:=hv
 unfold AP at hv'
 rcases List.mem_append.1 hv' with hv|hv
 ·obtain⟨n,_,rfl⟩:=List.mem_map.1 hv
  rfl
 ·simp -implicitDefEqProofs only[List.mem_cons,List.not_mem_nil,or_false]at hv
  rcases hv with rfl|rfl<;>rfl
theorem Qi_ {xo yo:Operand}{cs cs':Array Value}(hg:P.eqGuardType P.depth t=false):semP P (eqGuard .neq t xo yo (.agg cs) (.agg cs'))=some ():=by
 have hp:semP P program=some P:=rfl
 unfold eqGuard
 simp -implicitDefEqProofs only[Bool.not_true,Bool.not_false,Bool.false_eq_true,if_false,if_true,BS,hp,Option.bind_some,hg,DB]
theorem Xx_ (h:FD P t=true):P.eqGuardType P.depth t=false:=by
 unfold FD at h
 split at h
 ·split at h
  ·simp -implicitDefEqProofs only[Bool.and_eq_true,bne_iff_ne,ne_eq,Bool.not_eq_true']at h
   exact h.1.2
  ·cases h
 ·cases h
theorem Qe_ {h:Hd}{xo yo:Operand}(h16:h.1.length=16)(hT:FD E.P t=true):Cl.get (aBin E .neq t xo yo) (.agg (AP h).toArray) (.agg (AP h).toArray) s= .some (.bool false) s:=by
 show A8 E .neq t xo yo (.agg (AP h).toArray) (.agg (AP h).toArray) s=_
 unfold A8
 rw[Kb_]
 show M.on (semP E.P (do eqGuard .neq t xo yo (.agg (AP h).toArray) (.agg (AP h).toArray);binOp .neq t (.agg (AP h).toArray) (.agg (AP h).toArray))) pV s=_
 rw[BS,Qi_ (Xx_ hT)]
 show M.on (semP E.P (do pure (.bool (!(←Op.equalIn (9997+3) t (.agg (AP h).toArray) (.agg (AP h).toArray)))))) pV s=_
 rw[BS,Qx_ 9997 h16 hT]
 rfl
theorem IS_ {h:Hd}{xo yo:Operand}(h16:h.1.length=16)(hT:FD E.P t=true)(Q:Value→St→Prop):W (Cl.get (aBin E .neq t xo yo) (.agg (AP h).toArray) (.agg (AP h).toArray)) s Q=Q (.bool false) s:=Bb (Qe_ h16 hT)
end
theorem Gs_:FD envS.P 35=true:=by kernel_rfl
def Bz:Nat:=BB Try.f30
abbrev DY:Nat:=95
def Up:Code:=Try.f30.body.getD .skip
theorem Hp:envS.fn.get 30=some Try.f30:=by kernel_rfl
theorem Vr {a0:Value}{n:Nat}{s:St}{Q:Value→St→Prop}(h: ∀tm,T.get tm 0=some a0→W (runF envS n ⟨30,95,Bz,tm,[.code Up], .run, .normal,none⟩) (s.cxN cxN) fun p s1=>Q p.1 (s1.cxN s.cx)):W (Au envS (runF envS n) 30 [a0]) s Q:=
 W.call (by kernel_rfl) (by kernel_rfl) Hp (by kernel_rfl) rfl rfl (by simp) (h _ (by kernel_rfl))
theorem Jc:Try.f30.results.toList=[.tmp 2, .tmp 3, .tmp 4, .tmp 5]:=by kernel_rfl
def QR:List Item:=skim 64 [.code Up]
def J1:List Item:=skim 64 QR.tail
theorem AT_:skim 64 QR.tail=J1:=by kernel_rfl
def NC:List Item:=skim 64 J1.tail
theorem Ys:skim 64 J1.tail=NC:=by kernel_rfl
def Kq:List Item:=skim 64 NC.tail
theorem AF_:skim 64 NC.tail=Kq:=by kernel_rfl
def NF:List Item:=skim 64 Kq.tail
theorem WA:skim 64 Kq.tail=NF:=by kernel_rfl
def Ln:List Item:=skim 64 NF.tail
theorem TM:skim 64 NF.tail=Ln:=by kernel_rfl
def GO:List Item:=skim 64 Ln.tail
theorem XI:skim 64 Ln.tail=GO:=by kernel_rfl
def Ga:List Item:=skim 64 GO.tail
theorem Mb:skim 64 GO.tail=Ga:=by kernel_rfl
def My:List Item:=skim 64 (brT Ga)
theorem XA_:skim 64 (brT Ga)=My:=by kernel_rfl
def IP:List Item:=skim 64 (brF Ga)
theorem Oz:skim 64 (brF Ga)=IP:=by kernel_rfl
def Si:List Item:=skim 64 My.tail
theorem Hr_:skim 64 My.tail=Si:=by kernel_rfl
def Ff:List Item:=skim 64 IP.tail
theorem MN:skim 64 IP.tail=Ff:=by kernel_rfl
theorem DW_:skim 64 Si.tail=GO:=by kernel_rfl
def Mn:List Item:=skim 64 (brT Ff)
theorem EG_:skim 64 (brT Ff)=Mn:=by kernel_rfl
def ND:List Item:=skim 64 (brF Ff)
theorem W9:skim 64 (brF Ff)=ND:=by kernel_rfl
def OB:List Item:=skim 64 Mn.tail
theorem Df_:skim 64 Mn.tail=OB:=by kernel_rfl
def El:List Item:=skim 64 ND.tail
theorem Af_:skim 64 ND.tail=El:=by kernel_rfl
def GC:List Item:=skim 64 El.tail
theorem Qk:skim 64 El.tail=GC:=by kernel_rfl
def Kg:List Item:=skim 64 (brT GC)
theorem Mx_:skim 64 (brT GC)=Kg:=by kernel_rfl
def NH:List Item:=skim 64 (brF GC)
theorem US:skim 64 (brF GC)=NH:=by kernel_rfl
def M7:List Item:=skim 64 Kg.tail
theorem Qg:skim 64 Kg.tail=M7:=by kernel_rfl
def On:List Item:=skim 64 NH.tail
theorem Tj:skim 64 NH.tail=On:=by kernel_rfl
def Gd:List Item:=skim 64 M7.tail
theorem PE:skim 64 M7.tail=Gd:=by kernel_rfl
def KS:List Item:=skim 64 (brT Gd)
theorem Xf:skim 64 (brT Gd)=KS:=by kernel_rfl
def FJ:List Item:=skim 64 (brF Gd)
theorem DJ_:skim 64 (brF Gd)=FJ:=by kernel_rfl
def R0:List Item:=skim 64 KS.tail
theorem BW_:skim 64 KS.tail=R0:=by kernel_rfl
def Js:List Item:=skim 64 FJ.tail
theorem Fp_:skim 64 FJ.tail=Js:=by kernel_rfl
def KA:List Item:=skim 64 Js.tail
theorem Vf_:skim 64 Js.tail=KA:=by kernel_rfl
def Qt:List Item:=skim 64 KA.tail
theorem Nk_:skim 64 KA.tail=Qt:=by kernel_rfl
theorem OF_:skim 64 Qt.tail=El:=by kernel_rfl
def PW (E:Env)(call round:Ab)(tm:T Value):M (T Value):=
 mv (some (.slice none 0 0)) fun v2=>
 setF 2 v2 tm fun tm1=>
 mv (some (.slice none 0 0)) fun v3=>
 setF 3 v3 tm1 fun tm2=>
 mv (some (.slice none 0 0)) fun v4=>
 setF 4 v4 tm2 fun tm3=>
 mv (some (.bool false)) fun v5=>
 setF 5 v5 tm3 fun tm4=>
 M.pure tm4
theorem Yi:RegEq 30 95 Bz QR PW:=⟨by kernel_rfl,fun _ _ _ _ _ _ _ _ _=>by kernel_rfl⟩
def OQ (E:Env)(call round:Ab)(tm:T Value):M (T Value):=
 mv (some (.slice none 0 0)) fun v6=>
 setF 6 v6 tm fun tm1=>
 M.pure tm1
theorem Bs_:RegEq 30 95 Bz J1 OQ:=⟨by kernel_rfl,fun _ _ _ _ _ _ _ _ _=>by kernel_rfl⟩
def Ra (E:Env)(call round:Ab)(tm:T Value):M (T Value):=
 mv (some (.slice none 0 0)) fun v7=>
 setF 7 v7 tm fun tm1=>
 M.pure tm1
theorem Tv:RegEq 30 95 Bz NC Ra:=⟨by kernel_rfl,fun _ _ _ _ _ _ _ _ _=>by kernel_rfl⟩
def QF (E:Env)(call round:Ab)(tm:T Value):M (T Value):=
 mv (some (.slice none 0 0)) fun v8=>
 setF 8 v8 tm fun tm1=>
 M.pure tm1
theorem TB:RegEq 30 95 Bz Kq QF:=⟨by kernel_rfl,fun _ _ _ _ _ _ _ _ _=>by kernel_rfl⟩
def QE (E:Env)(call round:Ab)(tm:T Value):M (T Value):=
 mv (some (.int .i64 0)) fun v9=>
 setF 9 v9 tm fun tm1=>
 M.pure tm1
theorem VG:RegEq 30 95 Bz NF QE:=⟨by kernel_rfl,fun _ _ _ _ _ _ _ _ _=>by kernel_rfl⟩
def Ox (E:Env)(call round:Ab)(tm:T Value):M (T Value):=
 mv (some (.int .i64 0)) fun v10=>
 setF 10 v10 tm fun tm1=>
 M.pure tm1
theorem Vf:RegEq 30 95 Bz Ln Ox:=⟨by kernel_rfl,fun _ _ _ _ _ _ _ _ _=>by kernel_rfl⟩
def M0 (E:Env)(call round:Ab)(tm:T Value):M (T Value):=
 mv (T.get tm 10) fun v15=>
 mv (T.get tm 0) fun v16=>
 M.bind (oS (seqO [(some v16)]) fun l=>AT E .len [43] l) fun v17=>
 M.bind (oS (some v15) fun a=>oS (some v17) fun b=>Cl.get (aBin E .lss 3 (.tmp 15) (.tmp 17)) a b) fun v18=>
 mv (some v18) fun v19=>
 M.bind (M.chk (isK v19) (M.if (isB v19 true) (oS (T.get tm 10) fun a=>M.pure a) (M.pure undef))) fun v20=>
 M.bind (M.chk (isK v19) (M.if (isB v19 true) (oS (some v20) fun a=>oS (some (.int .i64 21)) fun b=>Cl.get (aBin E .lss 3 (.tmp 20) (.const (.int .i64 21))) a b) (M.pure undef))) fun v21=>
 M.bind (M.on (some v19) fun a=>M.on (some v21) fun b=>M.on (some (.bool false)) fun c=>BJ a b c) fun v22=>
 setF 22 v22 tm fun tm1=>
 M.pure tm1
theorem OX:RegEq 30 95 Bz GO M0:=⟨by kernel_rfl,fun _ _ _ _ _ _ _ _ _=>by kernel_rfl⟩
theorem ML:Ba Ga=some 22:=by kernel_rfl
def Xm (E:Env)(call round:Ab)(tm:T Value):M (T Value):=
 mv (T.get tm 9) fun v25=>
 mv (T.get tm 0) fun v26=>
 mv (T.get tm 10) fun v27=>
 M.bind (oS (some v26) fun a=>oS (some v27) fun b=>BM E 43 a b) fun v28=>
 M.bind (oS (some v28) fun a=>AQ E 22 a) fun v29=>
 M.bind (oS (seqO [(some v29)]) fun l=>AT E .len [22] l) fun v30=>
 M.bind (oS (some v25) fun a=>oS (some v30) fun b=>Cl.get (aBin E .add 3 (.tmp 25) (.tmp 30)) a b) fun v31=>
 mv (some v31) fun v9=>
 setF 9 v9 tm fun tm1=>
 M.pure tm1
theorem Lf_:RegEq 30 95 Bz My Xm:=⟨by kernel_rfl,fun _ _ _ _ _ _ _ _ _=>by kernel_rfl⟩
def Rp (E:Env)(call round:Ab)(tm:T Value):M (T Value):=
 mv (T.get tm 0) fun v32=>
 M.bind (oS (seqO [(some v32)]) fun l=>AT E .len [43] l) fun v33=>
 M.bind (oS (some v33) fun a=>oS (some (.int .i64 20)) fun b=>Cl.get (aBin E .gtr 3 (.tmp 33) (.const (.int .i64 20))) a b) fun v34=>
 mv (some v34) fun v35=>
 M.bind (M.chk (isK v35) (M.if (isB v35 false) (oS (T.get tm 9) fun a=>M.pure a) (M.pure undef))) fun v36=>
 M.bind (M.chk (isK v35) (M.if (isB v35 false) (oS (some v36) fun a=>oS (some (.int .i64 4000)) fun b=>Cl.get (aBin E .gtr 3 (.tmp 36) (.const (.int .i64 4000))) a b) (M.pure undef))) fun v37=>
 M.bind (M.on (some v35) fun a=>M.on (some (.bool true)) fun b=>M.on (some v37) fun c=>BJ a b c) fun v38=>
 setF 38 v38 tm fun tm1=>
 M.pure tm1
theorem UH:RegEq 30 95 Bz IP Rp:=⟨by kernel_rfl,fun _ _ _ _ _ _ _ _ _=>by kernel_rfl⟩
def TL (E:Env)(call round:Ab)(tm:T Value):M (T Value):=
 mv (T.get tm 10) fun v23=>
 M.bind (oS (some v23) fun a=>oS (some (.int .i64 1)) fun b=>Cl.get (aBin E .add 3 (.tmp 23) (.const (.int .i64 1))) a b) fun v24=>
 mv (some v24) fun v10=>
 setF 10 v10 tm fun tm1=>
 M.pure tm1
theorem Hj_:RegEq 30 95 Bz Si TL:=⟨by kernel_rfl,fun _ _ _ _ _ _ _ _ _=>by kernel_rfl⟩
theorem Kf:Ba Ff=some 38:=by kernel_rfl
def WG (E:Env)(call round:Ab)(tm:T Value):M (T Value):=
 mv (some (.slice none 0 0)) fun v2=>
 setF 2 v2 tm fun tm1=>
 mv (some (.slice none 0 0)) fun v3=>
 setF 3 v3 tm1 fun tm2=>
 mv (some (.slice none 0 0)) fun v4=>
 setF 4 v4 tm2 fun tm3=>
 mv (some (.bool false)) fun v5=>
 setF 5 v5 tm3 fun tm4=>
 M.pure tm4
theorem En_:RegEq 30 95 Bz Mn WG:=⟨by kernel_rfl,fun _ _ _ _ _ _ _ _ _=>by kernel_rfl⟩
def OA (E:Env)(call round:Ab)(tm:T Value):M (T Value):=
 mv (some (.int .i64 0)) fun v11=>
 setF 11 v11 tm fun tm1=>
 M.pure tm1
theorem Wb:RegEq 30 95 Bz ND OA:=⟨by kernel_rfl,fun _ _ _ _ _ _ _ _ _=>by kernel_rfl⟩
theorem Kf_: ∃k,OB= .code .ret::k:=⟨OB.tail,by kernel_rfl⟩
def Nl (E:Env)(call round:Ab)(tm:T Value):M (T Value):=
 mv (T.get tm 11) fun v39=>
 mv (T.get tm 0) fun v40=>
 M.bind (oS (seqO [(some v40)]) fun l=>AT E .len [43] l) fun v41=>
 M.bind (oS (some v39) fun a=>oS (some v41) fun b=>Cl.get (aBin E .lss 3 (.tmp 39) (.tmp 41)) a b) fun v42=>
 setF 42 v42 tm fun tm1=>
 M.pure tm1
theorem N3:RegEq 30 95 Bz El Nl:=⟨by kernel_rfl,fun _ _ _ _ _ _ _ _ _=>by kernel_rfl⟩
theorem QQ:Ba GC=some 42:=by kernel_rfl
def Ua (E:Env)(call round:Ab)(tm:T Value):M (T Value):=
 mv (T.get tm 0) fun v46=>
 mv (T.get tm 11) fun v47=>
 M.bind (oS (some v46) fun a=>oS (some v47) fun b=>BM E 43 a b) fun v48=>
 M.bind (oS (some v48) fun a=>AQ E 22 a) fun v49=>
 M.bind (M.on (some (.func (.func 17) #[] #[])) fun f=>M.on (seqO [(some v49)]) fun l=>AZ call round f l) fun v50=>
 mv (some v50) fun v45=>
 M.bind (oS (some v45) fun a=>kExt 0 a) fun v51=>
 M.bind (oS (some v45) fun a=>kExt 1 a) fun v52=>
 M.bind (oS (some v45) fun a=>kExt 2 a) fun v53=>
 M.bind (BF E 26) fun v13=>
 setF 13 v13 tm fun tm1=>
 mv (some v51) fun v12=>
 setF 12 v12 tm1 fun tm2=>
 M.bind (oS (some v13) fun a=>oS (some v52) fun b=>A5 E 26 a b) fun _=>
 mv (some v53) fun v14=>
 setF 14 v14 tm2 fun tm3=>
 M.pure tm3
theorem IB_:RegEq 30 95 Bz Kg Ua:=⟨by kernel_rfl,fun _ _ _ _ _ _ _ _ _=>by kernel_rfl⟩
def PS (E:Env)(call round:Ab)(tm:T Value):M (T Value):=
 mv (T.get tm 6) fun v92=>
 mv (T.get tm 7) fun v93=>
 mv (T.get tm 8) fun v94=>
 mv (some v92) fun v2=>
 setF 2 v2 tm fun tm1=>
 mv (some v93) fun v3=>
 setF 3 v3 tm1 fun tm2=>
 mv (some v94) fun v4=>
 setF 4 v4 tm2 fun tm3=>
 mv (some (.bool true)) fun v5=>
 setF 5 v5 tm3 fun tm4=>
 M.pure tm4
theorem UU:RegEq 30 95 Bz NH PS:=⟨by kernel_rfl,fun _ _ _ _ _ _ _ _ _=>by kernel_rfl⟩
def MX (E:Env)(call round:Ab)(tm:T Value):M (T Value):=
 mv (T.get tm 14) fun v54=>
 M.bind (oS (some v54) fun a=>oS (some (.int .i64 0)) fun b=>Cl.get (aBin E .neq 27 (.tmp 54) (.const (.int .i64 0))) a b) fun v55=>
 mv (some v55) fun v56=>
 M.bind (M.chk (isK v56) (M.if (isB v56 false) (oS (T.get tm 12) fun a=>M.pure a) (M.pure undef))) fun v57=>
 M.bind (M.chk (isK v56) (M.if (isB v56 false) (oS (seqO [(some v57)]) fun l=>AT E .len [22] l) (M.pure undef))) fun v58=>
 M.bind (M.chk (isK v56) (M.if (isB v56 false) (oS (T.get tm 0) fun a=>M.pure a) (M.pure undef))) fun v59=>
 M.bind (M.chk (isK v56) (M.if (isB v56 false) (oS (T.get tm 11) fun a=>M.pure a) (M.pure undef))) fun v60=>
 M.bind (M.chk (isK v56) (M.if (isB v56 false) (oS (some v59) fun a=>oS (some v60) fun b=>BM E 43 a b) (M.pure undef))) fun v61=>
 M.bind (M.chk (isK v56) (M.if (isB v56 false) (oS (some v61) fun a=>AQ E 22 a) (M.pure undef))) fun v62=>
 M.bind (M.chk (isK v56) (M.if (isB v56 false) (oS (seqO [(some v62)]) fun l=>AT E .len [22] l) (M.pure undef))) fun v63=>
 M.bind (M.chk (isK v56) (M.if (isB v56 false) (M.on (some (.func (.func 20) #[] #[])) fun f=>M.on (seqO [(some v63)]) fun l=>AZ call round f l) (M.pure undef))) fun v64=>
 M.bind (M.chk (isK v56) (M.if (isB v56 false) (oS (some v58) fun a=>oS (some v64) fun b=>Cl.get (aBin E .neq 3 (.tmp 58) (.tmp 64)) a b) (M.pure undef))) fun v65=>
 M.bind (M.on (some v56) fun a=>M.on (some (.bool true)) fun b=>M.on (some v65) fun c=>BJ a b c) fun v66=>
 mv (some v66) fun v67=>
 M.bind (M.chk (isK v67) (M.if (isB v67 false) (oS (T.get tm 12) fun a=>M.pure a) (M.pure undef))) fun v68=>
 M.bind (M.chk (isK v67) (M.if (isB v67 false) (oS (seqO [(some v68)]) fun l=>AT E .len [22] l) (M.pure undef))) fun v69=>
 M.bind (M.chk (isK v67) (M.if (isB v67 false) (oS (some v69) fun a=>oS (some (.int .i64 26)) fun b=>Cl.get (aBin E .lss 3 (.tmp 69) (.const (.int .i64 26))) a b) (M.pure undef))) fun v70=>
 M.bind (M.on (some v67) fun a=>M.on (some (.bool true)) fun b=>M.on (some v70) fun c=>BJ a b c) fun v71=>
 setF 71 v71 tm fun tm1=>
 M.pure tm1
theorem Qz:RegEq 30 95 Bz M7 MX:=⟨by kernel_rfl,fun _ _ _ _ _ _ _ _ _=>by kernel_rfl⟩
theorem AS_: ∃k,On= .code .ret::k:=⟨On.tail,by kernel_rfl⟩
theorem PG:Ba Gd=some 71:=by kernel_rfl
def Rr (E:Env)(call round:Ab)(tm:T Value):M (T Value):=
 mv (some (.slice none 0 0)) fun v2=>
 setF 2 v2 tm fun tm1=>
 mv (some (.slice none 0 0)) fun v3=>
 setF 3 v3 tm1 fun tm2=>
 mv (some (.slice none 0 0)) fun v4=>
 setF 4 v4 tm2 fun tm3=>
 mv (some (.bool false)) fun v5=>
 setF 5 v5 tm3 fun tm4=>
 M.pure tm4
theorem XG:RegEq 30 95 Bz KS Rr:=⟨by kernel_rfl,fun _ _ _ _ _ _ _ _ _=>by kernel_rfl⟩
def ZH (E:Env)(call round:Ab)(tm:T Value):M ((Rho×T Value)×List OpLog):=
 M.bind (apartO (oS (T.get tm 8) fun a=>M.pure a)) fun p0=>
 M.bind (apartO (oS (T.get tm 13) fun a=>AQ E 26 a)) fun p1=>
 M.bind (apartO (oS (T.get tm 6) fun a=>M.pure a)) fun p2=>
 M.bind (apartO (oS (seqO [(some p2.1)]) fun l=>AT E .len [22] l)) fun p3=>
 M.bind (apartO (oS (T.get tm 0) fun a=>M.pure a)) fun p4=>
 M.bind (apartO (oS (T.get tm 11) fun a=>M.pure a)) fun p5=>
 M.bind (apartO (oS (some p4.1) fun a=>oS (some p5.1) fun b=>BM E 43 a b)) fun p6=>
 M.bind (apartO (oS (some p6.1) fun a=>AQ E 22 a)) fun p7=>
 M.bind (apartO (oS (seqO [(some p7.1)]) fun l=>AT E .len [22] l)) fun p8=>
 M.bind (apartO (oS (seqP [(0,(some p1.1)),(1,(some p3.1)),(2,(some p8.1))]) fun ps=>Cc E 35 ps)) fun p9=>
 M.bind (apartO (oS (seqP [(0,(some p9.1))]) fun ps=>Cf E 36 1 ps)) fun p10=>
 M.bind (apartO (oS (seqO [(some p0.1),(some p10.1)]) fun l=>AT E .append [36,36] l)) fun p11=>
 M.pure (([p11.1,p10.1,p9.1,p8.1,p7.1,p6.1,p5.1,p4.1,p3.1,p2.1,p1.1,p0.1],tm),[p11.2,p10.2,p9.2,p8.2,p7.2,p6.2,p5.2,p4.2,p3.2,p2.2,p1.2,p0.2])
theorem XF_:DrawEq 30 95 Bz FJ [0,0,0,4,0,0,48,112,240,510,1022,2047,4095] ZH:=⟨by kernel_rfl,by kernel_rfl,fun _ _ _ _ _ _ _ _ _=>by kernel_rfl⟩
theorem Id_ (E:Env)(call round:Ab)(x72 x73 x74 x75 x76 x77 x78 x79 x80 x81 x82 x83:Value)(tm:T Value)(s:St):BG call round (Cs E Bz 95 (hdC FJ)) [x83,x82,x81,x80,x79,x78,x77,x76,x75,x74,x73,x72] tm s=(M.bind (oS (some x83) fun a=>M.pure a) fun v8=>setT 8 v8 tm fun tm1=>M.pure tm1) s:=by kernel_rfl
theorem ZS: ∃k,R0= .code .ret::k:=⟨R0.tail,by kernel_rfl⟩
def To (E:Env)(call round:Ab)(tm:T Value):M (T Value):=
 mv (T.get tm 6) fun v84=>
 mv (T.get tm 12) fun v85=>
 M.bind (oS (seqO [(some v84),(some v85)]) fun l=>AT E .append [22,22] l) fun v86=>
 mv (some v86) fun v6=>
 setF 6 v6 tm fun tm1=>
 M.pure tm1
theorem Nc_:RegEq 30 95 Bz Js To:=⟨by kernel_rfl,fun _ _ _ _ _ _ _ _ _=>by kernel_rfl⟩
def SW (E:Env)(call round:Ab)(tm:T Value):M (T Value):=
 mv (T.get tm 7) fun v87=>
 mv (T.get tm 6) fun v88=>
 M.bind (oS (seqO [(some v88)]) fun l=>AT E .len [22] l) fun v89=>
 M.bind (oS (seqP [(0,(some v89))]) fun ps=>Cf E 44 1 ps) fun v90=>
 M.bind (oS (seqO [(some v87),(some v90)]) fun l=>AT E .append [44,44] l) fun v91=>
 mv (some v91) fun v7=>
 setF 7 v7 tm fun tm1=>
 M.pure tm1
theorem Xv_:RegEq 30 95 Bz KA SW:=⟨by kernel_rfl,fun _ _ _ _ _ _ _ _ _=>by kernel_rfl⟩
def ZZ (E:Env)(call round:Ab)(tm:T Value):M (T Value):=
 mv (T.get tm 11) fun v43=>
 M.bind (oS (some v43) fun a=>oS (some (.int .i64 1)) fun b=>Cl.get (aBin E .add 3 (.tmp 43) (.const (.int .i64 1))) a b) fun v44=>
 mv (some v44) fun v11=>
 setF 11 v11 tm fun tm1=>
 M.pure tm1
theorem Of_:RegEq 30 95 Bz Qt ZZ:=⟨by kernel_rfl,fun _ _ _ _ _ _ _ _ _=>by kernel_rfl⟩
def Nn:Nat:=BB Try.f31
def YD:Code:=Try.f31.body.getD .skip
theorem BP_:envS.fn.get 31=some Try.f31:=by kernel_rfl
theorem Tn_ {a0 a1 a2 a3 a4:Value}{n:Nat}{s:St}{Q:Value→St→Prop}(h: ∀tm,T.get tm 0=some a0→T.get tm 1=some a1→T.get tm 2=some a2→T.get tm 3=some a3→T.get tm 4=some a4→W (runF envS n ⟨31,40,Nn,tm,[.code YD], .run, .normal,none⟩) (s.cxN cxN) fun p s1=>Q p.1 (s1.cxN s.cx)):W (Au envS (runF envS n) 31 [a0,a1,a2,a3,a4]) s Q:=
 W.call (by kernel_rfl) (by kernel_rfl) BP_ (by kernel_rfl) rfl rfl (by simp) (h _ (by kernel_rfl) (by kernel_rfl) (by kernel_rfl) (by kernel_rfl) (by kernel_rfl))
theorem GB_:Try.f31.results.toList=[.tmp 10]:=by kernel_rfl
def Pb:List Item:=skim 64 [.code YD]
def Nd:List Item:=skim 64 Pb.tail
theorem Ti_:skim 64 Pb.tail=Nd:=by kernel_rfl
def JX:List Item:=skim 64 Nd.tail
theorem Do_:skim 64 Nd.tail=JX:=by kernel_rfl
def R5:List Item:=skim 64 JX.tail
theorem Pt_:skim 64 JX.tail=R5:=by kernel_rfl
def AM_ (E:Env)(call round:Ab)(tm:T Value):M (T Value):=
 mv (some (.bool false)) fun v10=>
 setF 10 v10 tm fun tm1=>
 M.pure tm1
theorem UL_:RegEq 31 40 Nn Pb AM_:=⟨by kernel_rfl,fun _ _ _ _ _ _ _ _ _=>by kernel_rfl⟩
def YX (E:Env)(call round:Ab)(tm:T Value):M (T Value):=
 mv (T.get tm 0) fun v16=>
 M.bind (M.on (some (.func (.func 24) #[] #[])) fun f=>M.on (seqO [(some v16)]) fun l=>AZ call round f l) fun v17=>
 mv (some v17) fun v15=>
 M.bind (oS (some v15) fun a=>kExt 0 a) fun v18=>
 M.bind (oS (some v15) fun a=>kExt 1 a) fun v19=>
 M.bind (oS (some v15) fun a=>kExt 2 a) fun v20=>
 M.bind (oS (some v15) fun a=>kExt 3 a) fun v21=>
 mv (some v18) fun v11=>
 setF 11 v11 tm fun tm1=>
 mv (some v19) fun v12=>
 setF 12 v12 tm1 fun tm2=>
 mv (some v20) fun v13=>
 setF 13 v13 tm2 fun tm3=>
 mv (some v21) fun v14=>
 setF 14 v14 tm3 fun tm4=>
 M.pure tm4
theorem Oy_:RegEq 31 40 Nn Nd YX:=⟨by kernel_rfl,fun _ _ _ _ _ _ _ _ _=>by kernel_rfl⟩
def Xy (E:Env)(call round:Ab)(tm:T Value):M (T Value):=
 mv (T.get tm 11) fun v22=>
 mv (T.get tm 4) fun v23=>
 M.bind (M.on (some (.func (.func 26) #[] #[])) fun f=>M.on (seqO [(some v22),(some v23)]) fun l=>AZ call round f l) fun v24=>
 mv (some v24) fun v25=>
 M.bind (M.chk (isK v25) (M.if (isB v25 true) (oS (T.get tm 12) fun a=>M.pure a) (M.pure undef))) fun v26=>
 M.bind (M.chk (isK v25) (M.if (isB v25 true) (oS (T.get tm 1) fun a=>M.pure a) (M.pure undef))) fun v27=>
 M.bind (M.chk (isK v25) (M.if (isB v25 true) (oS (some v26) fun a=>oS (some v27) fun b=>Cl.get (aBin E .eql 3 (.tmp 26) (.tmp 27)) a b) (M.pure undef))) fun v28=>
 M.bind (M.on (some v25) fun a=>M.on (some v28) fun b=>M.on (some (.bool false)) fun c=>BJ a b c) fun v29=>
 mv (some v29) fun v30=>
 M.bind (M.chk (isK v30) (M.if (isB v30 true) (oS (T.get tm 13) fun a=>M.pure a) (M.pure undef))) fun v31=>
 M.bind (M.chk (isK v30) (M.if (isB v30 true) (oS (T.get tm 2) fun a=>M.pure a) (M.pure undef))) fun v32=>
 M.bind (M.chk (isK v30) (M.if (isB v30 true) (oS (some v31) fun a=>oS (some v32) fun b=>Cl.get (aBin E .eql 3 (.tmp 31) (.tmp 32)) a b) (M.pure undef))) fun v33=>
 M.bind (M.on (some v30) fun a=>M.on (some v33) fun b=>M.on (some (.bool false)) fun c=>BJ a b c) fun v34=>
 mv (some v34) fun v35=>
 M.bind (M.chk (isK v35) (M.if (isB v35 true) (oS (T.get tm 14) fun a=>M.pure a) (M.pure undef))) fun v36=>
 M.bind (M.chk (isK v35) (M.if (isB v35 true) (oS (T.get tm 3) fun a=>M.pure a) (M.pure undef))) fun v37=>
 M.bind (M.chk (isK v35) (M.if (isB v35 true) (oS (some v36) fun a=>oS (some v37) fun b=>Cl.get (aBin E .eql 3 (.tmp 36) (.tmp 37)) a b) (M.pure undef))) fun v38=>
 M.bind (M.on (some v35) fun a=>M.on (some v38) fun b=>M.on (some (.bool false)) fun c=>BJ a b c) fun v39=>
 mv (some v39) fun v10=>
 setF 10 v10 tm fun tm1=>
 M.pure tm1
theorem Ut_:RegEq 31 40 Nn JX Xy:=⟨by kernel_rfl,fun _ _ _ _ _ _ _ _ _=>by kernel_rfl⟩
theorem ID_: ∃k,R5= .code .ret::k:=⟨R5.tail,by kernel_rfl⟩
def D7:Nat:=BB Try.f26
abbrev NK_:Nat:=26
def UK:Code:=Try.f26.body.getD .skip
theorem Yg:envS.fn.get 26=some Try.f26:=by kernel_rfl
theorem Es_ {a0 a1:Value}{n:Nat}{s:St}{Q:Value→St→Prop}(h: ∀tm,T.get tm 0=some a0→T.get tm 1=some a1→W (runF envS n ⟨26,26,D7,tm,[.code UK], .run, .normal,none⟩) (s.cxN cxN) fun p s1=>Q p.1 (s1.cxN s.cx)):W (Au envS (runF envS n) 26 [a0,a1]) s Q:=
 W.call (by kernel_rfl) (by kernel_rfl) Yg (by kernel_rfl) rfl rfl (by simp) (h _ (by kernel_rfl) (by kernel_rfl))
theorem LV_:Try.f26.results.toList=[.tmp 4]:=by kernel_rfl
def PK:List Item:=skim 64 [.code UK]
def M5:List Item:=skim 64 PK.tail
theorem WN_:skim 64 PK.tail=M5:=by kernel_rfl
def Na:List Item:=skim 64 M5.tail
theorem Pa_:skim 64 M5.tail=Na:=by kernel_rfl
def Kk:List Item:=skim 64 (brF Na)
theorem EN_:skim 64 (brF Na)=Kk:=by kernel_rfl
def FX:List Item:=skim 64 Kk.tail
theorem Ss_:skim 64 Kk.tail=FX:=by kernel_rfl
def Gl:List Item:=skim 64 FX.tail
theorem YN:skim 64 FX.tail=Gl:=by kernel_rfl
def Jy:List Item:=skim 64 (brT Gl)
theorem Wp_:skim 64 (brT Gl)=Jy:=by kernel_rfl
def Nu:List Item:=skim 64 (brF Gl)
theorem Pv_:skim 64 (brF Gl)=Nu:=by kernel_rfl
def No:List Item:=skim 64 Jy.tail
theorem Sm_:skim 64 Jy.tail=No:=by kernel_rfl
def Rf:List Item:=skim 64 Nu.tail
theorem NN_:skim 64 Nu.tail=Rf:=by kernel_rfl
def Rm:List Item:=skim 64 (brF No)
theorem Te_:skim 64 (brF No)=Rm:=by kernel_rfl
theorem ND_:skim 64 Rm.tail=FX:=by kernel_rfl
def Z6 (E:Env)(call round:Ab)(tm:T Value):M (T Value):=
 mv (some (.bool false)) fun v4=>
 setF 4 v4 tm fun tm1=>
 M.pure tm1
theorem WD_:RegEq 26 26 D7 PK Z6:=⟨by kernel_rfl,fun _ _ _ _ _ _ _ _ _=>by kernel_rfl⟩
def XS (E:Env)(call round:Ab)(tm:T Value):M (T Value):=
 mv (T.get tm 0) fun v6=>
 M.bind (oS (seqO [(some v6)]) fun l=>AT E .len [36] l) fun v7=>
 mv (T.get tm 1) fun v8=>
 M.bind (oS (seqO [(some v8)]) fun l=>AT E .len [36] l) fun v9=>
 M.bind (oS (some v7) fun a=>oS (some v9) fun b=>Cl.get (aBin E .neq 3 (.tmp 7) (.tmp 9)) a b) fun v10=>
 setF 10 v10 tm fun tm1=>
 M.pure tm1
theorem EZ_:RegEq 26 26 D7 M5 XS:=⟨by kernel_rfl,fun _ _ _ _ _ _ _ _ _=>by kernel_rfl⟩
theorem Pk_:Ba Na=some 10:=by kernel_rfl
def VN (E:Env)(call round:Ab)(tm:T Value):M (T Value):=
 mv (some (.int .i64 0)) fun v5=>
 setF 5 v5 tm fun tm1=>
 M.pure tm1
theorem XJ_:RegEq 26 26 D7 Kk VN:=⟨by kernel_rfl,fun _ _ _ _ _ _ _ _ _=>by kernel_rfl⟩
def Sk (E:Env)(call round:Ab)(tm:T Value):M (T Value):=
 mv (T.get tm 5) fun v11=>
 mv (T.get tm 0) fun v12=>
 M.bind (oS (seqO [(some v12)]) fun l=>AT E .len [36] l) fun v13=>
 M.bind (oS (some v11) fun a=>oS (some v13) fun b=>Cl.get (aBin E .lss 3 (.tmp 11) (.tmp 13)) a b) fun v14=>
 setF 14 v14 tm fun tm1=>
 M.pure tm1
theorem V3:RegEq 26 26 D7 FX Sk:=⟨by kernel_rfl,fun _ _ _ _ _ _ _ _ _=>by kernel_rfl⟩
theorem YG:Ba Gl=some 14:=by kernel_rfl
def YS (E:Env)(call round:Ab)(tm:T Value):M ((Rho×T Value)×List OpLog):=
 M.bind (apartO (oS (T.get tm 0) fun a=>M.pure a)) fun p0=>
 M.bind (apartO (oS (T.get tm 5) fun a=>M.pure a)) fun p1=>
 M.bind (apartO (oS (some p0.1) fun a=>oS (some p1.1) fun b=>BM E 36 a b)) fun p2=>
 M.bind (apartO (oS (some p2.1) fun a=>AQ E 35 a)) fun p3=>
 M.bind (apartO (oS (T.get tm 1) fun a=>M.pure a)) fun p4=>
 M.bind (apartO (oS (T.get tm 5) fun a=>M.pure a)) fun p5=>
 M.bind (apartO (oS (some p4.1) fun a=>oS (some p5.1) fun b=>BM E 36 a b)) fun p6=>
 M.bind (apartO (oS (some p6.1) fun a=>AQ E 35 a)) fun p7=>
 M.pure (([p7.1,p6.1,p5.1,p4.1,p3.1,p2.1,p1.1,p0.1],tm),[p7.2,p6.2,p5.2,p4.2,p3.2,p2.2,p1.2,p0.2])
theorem Lv_:DrawEq 26 26 D7 Jy [0,0,3,7,0,0,48,112,255] YS:=⟨by kernel_rfl,by kernel_rfl,fun _ _ _ _ _ _ _ _ _=>by kernel_rfl⟩
theorem De_ (E:Env)(call round:Ab)(x17 x18 x19 x20 x21 x22 x23 x24:Value)(tm:T Value)(s:St):BG call round (Cs E D7 26 (hdC Jy)) [x24,x23,x22,x21,x20,x19,x18,x17] tm s=(M.bind (oS (some x20) fun a=>oS (some x24) fun b=>Cl.get (aBin E .neq 35 (.tmp 20) (.tmp 24)) a b) fun v25=>setT 25 v25 tm fun tm1=>M.pure tm1) s:=by kernel_rfl
def VA (E:Env)(call round:Ab)(tm:T Value):M (T Value):=
 mv (some (.bool true)) fun v4=>
 setF 4 v4 tm fun tm1=>
 M.pure tm1
theorem RM_:RegEq 26 26 D7 Nu VA:=⟨by kernel_rfl,fun _ _ _ _ _ _ _ _ _=>by kernel_rfl⟩
theorem PQ_:Ba No=some 25:=by kernel_rfl
theorem QN_: ∃k,Rf= .code .ret::k:=⟨Rf.tail,by kernel_rfl⟩
def WL (E:Env)(call round:Ab)(tm:T Value):M (T Value):=
 mv (T.get tm 5) fun v15=>
 M.bind (oS (some v15) fun a=>oS (some (.int .i64 1)) fun b=>Cl.get (aBin E .add 3 (.tmp 15) (.const (.int .i64 1))) a b) fun v16=>
 mv (some v16) fun v5=>
 setF 5 v5 tm fun tm1=>
 M.pure tm1
theorem OO_:RegEq 26 26 D7 Rm WL:=⟨by kernel_rfl,fun _ _ _ _ _ _ _ _ _=>by kernel_rfl⟩
def EN:Nat:=BB Try.f33
abbrev Se_:Nat:=16
def Yc:Code:=Try.f33.body.getD .skip
theorem Zq:envS.fn.get 33=some Try.f33:=by kernel_rfl
theorem HJ_ {a0 a1:Value}{n:Nat}{s:St}{Q:Value→St→Prop}(h: ∀tm,T.get tm 0=some a0→T.get tm 1=some a1→W (runF envS n ⟨33,16,EN,tm,[.code Yc], .run, .normal,none⟩) (s.cxN cxN) fun p s1=>Q p.1 (s1.cxN s.cx)):W (Au envS (runF envS n) 33 [a0,a1]) s Q:=
 W.call (by kernel_rfl) (by kernel_rfl) Zq (by kernel_rfl) rfl rfl (by simp) (h _ (by kernel_rfl) (by kernel_rfl))
theorem MF_:Try.f33.results.toList=[.tmp 4]:=by kernel_rfl
def SC:List Item:=skim 64 [.code Yc]
def J4:List Item:=skim 64 SC.tail
theorem KL_:skim 64 SC.tail=J4:=by kernel_rfl
def NL:List Item:=skim 64 J4.tail
theorem WT_:skim 64 J4.tail=NL:=by kernel_rfl
def Mj:List Item:=skim 64 (brF NL)
theorem XB_:skim 64 (brF NL)=Mj:=by kernel_rfl
def J3:List Item:=skim 64 Mj.tail
theorem Td_:skim 64 Mj.tail=J3:=by kernel_rfl
def Hk:List Item:=skim 64 J3.tail
theorem Tu:skim 64 J3.tail=Hk:=by kernel_rfl
def Rg:List Item:=skim 64 (brT Hk)
theorem OP_:skim 64 (brT Hk)=Rg:=by kernel_rfl
def HQ:List Item:=skim 64 (brF Hk)
theorem NO_:skim 64 (brF Hk)=HQ:=by kernel_rfl
theorem Dg_:skim 64 Rg.tail=HQ:=by kernel_rfl
def QD:List Item:=skim 64 HQ.tail
theorem Ub_:skim 64 HQ.tail=QD:=by kernel_rfl
def Tk (E:Env)(call round:Ab)(tm:T Value):M (T Value):=
 mv (some (.int .i64 0)) fun v4=>
 setF 4 v4 tm fun tm1=>
 M.pure tm1
theorem HW_:RegEq 33 16 EN SC Tk:=⟨by kernel_rfl,fun _ _ _ _ _ _ _ _ _=>by kernel_rfl⟩
def AE_ (E:Env)(call round:Ab)(tm:T Value):M (T Value):=
 mv (T.get tm 1) fun v5=>
 M.bind (oS (some v5) fun a=>oS (some (.int .i64 1)) fun b=>Cl.get (aBin E .lss 3 (.tmp 5) (.const (.int .i64 1))) a b) fun v6=>
 setF 6 v6 tm fun tm1=>
 M.pure tm1
theorem Uo_:RegEq 33 16 EN J4 AE_:=⟨by kernel_rfl,fun _ _ _ _ _ _ _ _ _=>by kernel_rfl⟩
theorem Ez_:Ba NL=some 6:=by kernel_rfl
def Ww (E:Env)(call round:Ab)(tm:T Value):M (T Value):=
 mv (T.get tm 0) fun v7=>
 mv (T.get tm 1) fun v8=>
 M.bind (oS (some v7) fun a=>oS (some v8) fun b=>Cl.get (aBin E .rem 3 (.tmp 7) (.tmp 8)) a b) fun v9=>
 mv (some v9) fun v0=>
 setF 0 v0 tm fun tm1=>
 M.pure tm1
theorem HE_:RegEq 33 16 EN Mj Ww:=⟨by kernel_rfl,fun _ _ _ _ _ _ _ _ _=>by kernel_rfl⟩
def Ui (E:Env)(call round:Ab)(tm:T Value):M (T Value):=
 mv (T.get tm 0) fun v10=>
 M.bind (oS (some v10) fun a=>oS (some (.int .i64 0)) fun b=>Cl.get (aBin E .lss 3 (.tmp 10) (.const (.int .i64 0))) a b) fun v11=>
 setF 11 v11 tm fun tm1=>
 M.pure tm1
theorem Ff_:RegEq 33 16 EN J3 Ui:=⟨by kernel_rfl,fun _ _ _ _ _ _ _ _ _=>by kernel_rfl⟩
theorem Cp_:Ba Hk=some 11:=by kernel_rfl
def U5 (E:Env)(call round:Ab)(tm:T Value):M (T Value):=
 mv (T.get tm 0) fun v12=>
 mv (T.get tm 1) fun v13=>
 M.bind (oS (some v12) fun a=>oS (some v13) fun b=>Cl.get (aBin E .add 3 (.tmp 12) (.tmp 13)) a b) fun v14=>
 mv (some v14) fun v0=>
 setF 0 v0 tm fun tm1=>
 M.pure tm1
theorem Xo_:RegEq 33 16 EN Rg U5:=⟨by kernel_rfl,fun _ _ _ _ _ _ _ _ _=>by kernel_rfl⟩
def Yn (E:Env)(call round:Ab)(tm:T Value):M (T Value):=
 mv (T.get tm 0) fun v15=>
 mv (some v15) fun v4=>
 setF 4 v4 tm fun tm1=>
 M.pure tm1
theorem PC_:RegEq 33 16 EN HQ Yn:=⟨by kernel_rfl,fun _ _ _ _ _ _ _ _ _=>by kernel_rfl⟩
theorem Ia_: ∃k,QD= .code .ret::k:=⟨QD.tail,by kernel_rfl⟩
theorem DR:slN envS 36=some 18:=by kernel_rfl
def HsR (s:St)(v:Value)(hs:List Hd):Prop:=(v= .slice none 0 0∧hs=[])∨ ∃b o c,v= .slice (some ⟨b,o,none⟩) hs.length c∧Row s b o (A3 hs)
def HsF (v:Value)(x:Nat):Prop:=match v with| .slice (some a) n _=>In a.block a.off (n*18) x|_=>False
theorem HsR.same {s s':St}{v:Value}{hs:List Hd}(h:HsR s v hs)(hm:s'.mem=s.mem)(hn:s'.next=s.next):HsR s' v hs:=by
 rcases h with h|⟨b,o,c,h0,h3⟩
 ·exact .inl h
 ·exact .inr ⟨b,o,c,h0,fun i v e=>(h3 i v e).same hm hn⟩
theorem HsR.len {s s':St}{v:Value}{hs:List Hd}(h:HsR s v hs)(Q:Value→St→Prop):W (AT envS .len [36] [v]) s' Q=Q (.int .i64 (hs.length:Nat)) s':=by
 rcases h with⟨rfl,rfl⟩|⟨b,o,c,rfl,_⟩
 ·exact BX DR Q
 ·exact BX DR Q
theorem NS (l:List Hd)(m:List Hd):A3 (l++m)=A3 l++A3 m:=by
 induction l with
 |nil=>rfl
 |cons h l ih=>show AP h++A3 (l++m)=(AP h++A3 l)++A3 m;rw[ih,List.append_assoc]
theorem XB {hs:List Hd}(h16: ∀h∈hs,h.1.length=16){i:Nat}(hi:i<hs.length){j:Nat}(hj:j<18):(A3 hs)[i*18+j]?=(AP hs[i])[j]?:=by
 have e:hs=hs.take i++hs[i]::hs.drop (i+1):=by rw[List.getElem_cons_drop,List.take_append_drop]
 have hl:(A3 (hs.take i)).length=i*18:=by
  rw[Hc fun h hh=>h16 h (List.mem_of_mem_take hh),List.length_take]
  congr 1;omega
 have h18:(AP hs[i]).length=18:=Dk (h16 _ (List.getElem_mem hi))
 conv=>lhs;rw[e,NS]
 rw[List.getElem?_append_right (by omega),hl,show i*18+j-i*18=j by omega]
 show(AP hs[i]++A3 (hs.drop (i+1)))[j]?=_
 rw[List.getElem?_append_left (by omega)]
theorem HsR.at {s:St}{v:Value}{hs:List Hd}(h:HsR s v hs)(h16: ∀h∈hs,h.1.length=16){i:Nat}(hi:i<hs.length): ∃b o c,v= .slice (some ⟨b,o,none⟩) hs.length c∧Row s b (o+i*18) (AP hs[i])∧(∀x,In b (o+i*18) 18 x→HsF v x):=by
 rcases h with⟨rfl,rfl⟩|⟨b,o,c,rfl,h3⟩
 ·simp at hi
 ·refine⟨b,o,c,rfl,fun j u e=> ?_,fun x hx=>⟨by have:=hx.1;show b+o≤x;omega,by
   have h2:x<b+(o+i*18)+18:=hx.2
   show x<b+o+hs.length*18
   have:(i+1)*18≤hs.length*18:=Nat.mul_le_mul_right 18 hi
   omega⟩⟩
  have hj:j<18:=by
   have:=(List.getElem?_eq_some_iff.1 e).1
   rwa [Dk (h16 _ (List.getElem_mem hi))]at this
  have:=h3 (i*18+j) u (by rw[XB h16 hi hj];exact e)
  rwa [show o+(i*18+j)=o+i*18+j by omega]at this
theorem EC_ {va vb:Value}{hs:List Hd}{F:Nat→Prop}(hFa: ∀x,HsF va x→F x)(hFb: ∀x,HsF vb x→F x){Q:Value×FrameMode→St→Prop}{s0:St}(hb0:s0.lim≤s0.next)(ha:HsR s0 va hs)(hb:HsR s0 vb hs)(h16: ∀h∈hs,h.1.length=16)(hz:hs.length≤4611686018427387904)(hcx:s0.cx= .cx none (some []))(q: ∀s1,Ext F Non s0 s1→s1.mem=s0.mem→s1.next=s0.next→Q (.bool true, .run) s1):
  ∀(k i n:Nat) (tm:T Value) (s:St) (td:List Item),i+k=hs.length→7*k+20≤n→skim 64 td=FX→Ext F Non s0 s→s.mem=s0.mem→s.next=s0.next→
  T.get tm 0=some va→T.get tm 1=some vb→T.get tm 5=some (.int .i64 (i:Nat))→
  W (runF envS n ⟨26,NK_,D7,tm,td, .run, .normal,none⟩) s Q:=by
 intro k
 induction k with
 |zero=>
  intro i n tm s td hi hn hT hx hm hnx h0 h1 h5
  refine V3.w hT (by omega) ?_
  simp -implicitDefEqProofs only[Sk,Ad,W_oS,Aa,W_mv,Ac,Al,Ak,Aj,h0,h5]
  rw[ha.len]
  simp -implicitDefEqProofs only[BA]
  refine W.cond (v:=false) YN YG (by simp[T.get_set];omega) (by omega) (fun h=>by cases h) fun _=> ?_
  refine RM_.w Pv_ (by omega) ?_
  simp -implicitDefEqProofs only[VA,Aa,W_mv,Ac]
  refine W.end' (rs:=[4]) (vs:=[.bool true]) NN_ (.inl QN_) (by omega) Yg LV_ (hx.cx.trans hcx) (by simp[T.get_set]) ?_
  exact q s hx hm hnx
 |succ k ih=>
  intro i n tm s td hi hn hT hx hm hnx h0 h1 h5
  have hil:i<hs.length:=by omega
  have hI:(AP hs[i]).length=18:=Dk (h16 _ (List.getElem_mem hil))
  obtain⟨ba,oa,ca,rfl,ga,fa⟩:=ha.at h16 hil
  obtain⟨bb,ob,cb,rfl,gb,fb⟩:=hb.at h16 hil
  refine V3.w hT (by omega) ?_
  simp -implicitDefEqProofs only[Sk,Ad,W_oS,Aa,W_mv,Ac,Al,Ak,Aj,h0,h5]
  rw[BX DR]
  simp -implicitDefEqProofs only[BA]
  refine W.cond (v:=true) YN YG (by simp[T.get_set];omega) (by omega) (fun _=> ?_) fun h=>by cases h
  refine Lv_.w Wp_ (by omega) ?_
  simp -implicitDefEqProofs only[YS,T.get_set,Nat.reduceEqDiff, ↓reduceIte,h0,h1,h5,Cm,Bd]
  rw[W_dq fun s Q=>Cr (s:=s) DR hil Q]
  refine W.dloadA NQ (fun j u e=>(ga j u e).same hm hnx) hI fun m1 rd1 e1 hr1=> ?_
  subst e1
  simp -implicitDefEqProofs only[Bd]
  rw[W_dq fun s Q=>Cr (s:=s) DR hil Q]
  refine W.dloadA NQ (fun j u e=>(gb j u e).same hm hnx) hI fun m2 rd2 e2 hr2=> ?_
  subst e2
  rw[Aa]
  refine⟨E1 (by simp) (by simp), ?_⟩
  refine W.cast (De_ _ _ _ _ _ _ _ _ _ _ _ _ _) ?_
  simp -implicitDefEqProofs only[Ad,W_oS,Aa,A4]
  rw[IS_ (h16 _ (List.getElem_mem hil)) Gs_]
  generalize hs':(⟨(dSt s.mem s.next).mem,(dSt s.mem s.next).next,s.lim,_,_,s.cx⟩:St)=s'
  have hx':Ext F Non s0 s':=by
   rw[←hs']
   refine hx.trans (Ext.draw (F:=F) (Nat.le_refl _) (fun _ _=>rfl) (by simp) (by
    simp -implicitDefEqProofs only[List.mem_cons,List.not_mem_nil,or_false]
    rintro m (rfl|rfl|rfl|rfl|rfl|rfl|rfl|rfl) x hx _<;>first|(exact hFa _ (fa _ (hr1 _ hx)))|(exact hFb _ (fb _ (hr2 _ hx)))|(cases hx))) hb0 (fun _ _ h=>h) fun _ _ h=>h
  have hm':s'.mem=s0.mem:=by rw[←hs'];exact hm
  have hn':s'.next=s0.next:=by rw[←hs'];exact hnx
  refine W.cond (v:=false) Sm_ PQ_ (by simp[T.get_set]) (by omega) (fun h=>by cases h) fun _=> ?_
  refine OO_.w Te_ (by omega) ?_
  have ei:wrap64 ((i:Nat)+1:Int)=((i+1:Nat):Int):=by
   rw[Bj (by omega) (by omega)];simp
  simp -implicitDefEqProofs only[WL,Ad,W_oS,Aa,W_mv,Ac,T.get_set,reduceIte,Nat.reduceEqDiff, ↓reduceIte,BN,h5,ei]
  exact ih (i+1) _ _ _ _ (by omega) (by omega) ND_ hx' hm' hn' (by simp[T.get_set,h0]) (by simp[T.get_set,h1]) (by simp[T.get_set])
theorem DY_ {va vb:Value}{hs:List Hd}{n:Nat}{s:St}{Q:Value→St→Prop}(hbd:s.lim≤s.next)(ha:HsR s va hs)(hb:HsR s vb hs)(h16: ∀h∈hs,h.1.length=16)(hz:hs.length≤4611686018427387904)(hn:7*hs.length+40≤n)
  (q: ∀s1,Ext (fun x=>HsF va x∨HsF vb x) Non s s1→s1.mem=s.mem→s1.next=s.next→Q (.bool true) s1):W (Au envS (runF envS n) 26 [va,vb]) s Q:=by
 refine Es_ fun tm h0 h1=> ?_
 have ha':HsR (s.cxN cxN) va hs:=ha.same rfl rfl
 have hb':HsR (s.cxN cxN) vb hs:=hb.same rfl rfl
 refine WD_.w rfl (by omega) ?_
 simp -implicitDefEqProofs only[Z6,Aa,W_mv,Ac]
 refine EZ_.w WN_ (by omega) ?_
 simp -implicitDefEqProofs only[XS,Ad,W_oS,Aa,W_mv,Ac,T.get_set,Al,Ak,Aj,reduceIte,Nat.reduceEqDiff,reduceCtorEq, ↓reduceIte,h0,h1]
 rw[ha'.len,hb'.len]
 simp -implicitDefEqProofs only[Ev]
 refine W.cond (v:=false) Pa_ Pk_ (by simp[T.get_set]) (by omega) (fun h=>by cases h) fun _=> ?_
 refine XJ_.w EN_ (by omega) ?_
 simp -implicitDefEqProofs only[VN,Aa,W_mv,Ac]
 exact EC_ (s0:=s.cxN cxN) (F:=fun x=>HsF va x∨HsF vb x) (fun _ h=> .inl h) (fun _ h=> .inr h) hbd ha' hb' h16 hz rfl (fun s1 x1 m1 n1=>q _ x1.cx' m1 n1) hs.length 0 _ _ _ _ (by omega) (by omega) Ss_ (Ext.refl _) rfl rfl (by simp[T.get_set,h0]) (by simp[T.get_set,h1]) (by simp[T.get_set])
theorem HsR.ext0 {F:Nat→Prop}{s s':St}{v:Value}{hs:List Hd}(h:HsR s v hs)(e:Ext F Non s s'):HsR s' v hs:=by
 rcases h with h|⟨b,o,c,h0,h3⟩
 ·exact .inl h
 ·exact .inr ⟨b,o,c,h0,h3.ext e fun _ _=>id⟩
theorem F7.hsR {s s':St}{v:Value}{hs:List Hd}(h:F7 s s' v hs):HsR s' v hs:=by
 rcases h with h|⟨b,_,h,_⟩
 ·exact .inl h
 ·exact .inr ⟨b,0,_,h.val,fun i u e=>(h.own i u e).at'⟩
theorem F7.new {s s':St}{v:Value}{hs:List Hd}(h:F7 s s' v hs): ∀x,HsF v x→s.next≤x:=by
 intro x hx
 rcases h with⟨rfl,_⟩|⟨b,h1,h,_⟩
 ·exact hx.elim
 ·rw[h.val]at hx
  have:=hx.1
  show s.next≤x
  have h2:b+0≤x:=hx.1
  omega
theorem NJ_ {n size bad rest:Nat}{v w:Value}{l:List Nat}{hs:List Hd}{s:St}{Q:Value→St→Prop}(hbd:s.lim≤s.next)(hbs:Bs s v l)(hvA: ∀x,BsF v x→x<s.next)(hby:Byt l)(hz:l.length≤200000)(hw:HsR s w hs)(h16: ∀h∈hs,h.1.length=16)(hz2:hs.length≤200000)(e:FM l=(hs,bad,size,rest))(hn:80000+60*l.length+7*hs.length≤n)
  (q: ∀s1,Ext (fun x=>BsF v x∨HsF w x) Non s s1→Q (.bool true) s1):W (Au envS (runF envS n) 31 [v, .int .i64 (size:Nat), .int .i64 (bad:Nat), .int .i64 (rest:Nat),w]) s Q:=by
 refine Tn_ fun tm h0 h1 h2 h3 h4=> ?_
 have hbs0:Bs (s.cxN cxN) v l:=hbs.same rfl rfl
 have hw0:HsR (s.cxN cxN) w hs:=hw.same rfl rfl
 refine UL_.w rfl (by omega) ?_
 simp -implicitDefEqProofs only[AM_,Aa,W_mv,Ac]
 refine Oy_.w Ti_ (by omega) ?_
 simp -implicitDefEqProofs only[YX,Ad,W_oS,W_on,Aa,W_mv,Ac,T.get_set,Al,Ak,Aj,AS,reduceIte,reduceCtorEq, ↓reduceIte,h0]
 refine RN_ hbd hbs0 hvA hby hz (by omega) fun sa u xa hu=> ?_
 rw[e]at hu ⊢
 replace hu:F7 (s.cxN cxN) sa u hs:=hu
 have hxa:Ext (fun x=>BsF v x∨HsF w x) Non (s.cxN cxN) sa:=xa.weak hbd (fun _ _ h=> .inl h) fun _ _ h=>h
 simp -implicitDefEqProofs only[Ad]
 rw[Be (k:=0) rfl,Be (k:=1) rfl,Be (k:=2) rfl,Be (k:=3) rfl]
 refine Ut_.w Do_ (by omega) ?_
 simp -implicitDefEqProofs only[Xy,Ad,W_on,Aa,W_mv,Ac,T.get_set,Al,Ak,Aj,AS,reduceIte,Nat.reduceEqDiff, ↓reduceIte,h1,h2,h3,h4]
 refine DY_ (hxa.bnd hbd) hu.hsR (hw0.ext0 xa) h16 (by omega) (by omega) fun sb xb mb nb=> ?_
 have hxb:Ext (fun x=>BsF v x∨HsF w x) Non (s.cxN cxN) sb:=hxa.step xb hbd (fun x hx h=>by
  rcases h with h|h
  ·have h2:x<s.lim:=hx
   have h3:s.next≤x:=hu.new x h
   omega
  ·exact .inr h) fun _ h=>h.elim
 simp -implicitDefEqProofs only[W_oS,Aa,reduceIte,AV,Bx,A0,A6,AU, ↓reduceIte,EO,decide_true]
 refine W.end' (rs:=[10]) (vs:=[.bool true]) Pt_ (.inl ID_) (by omega) BP_ GB_ hxb.cx (by simp[T.get_set]) ?_
 exact q _ hxb.cx'
section
variable {parts:List (Value×List Nat)}{b o c:Nat}
def Jf (parts:List (Value×List Nat))(i:Nat)(z:Int):Prop:=(∀p∈parts.take i,p.2.length≤1024)→z=(tot (parts.take i):Nat)
theorem AK_: ∀{l:List (Value×List Nat)} {m:Nat},(∀p∈l,p.2.length≤m)→tot l≤l.length*m
 |[],_,_=>by simp[tot]
 |p::l,m,h=>by
  have h1:=AK_ (l:=l) (m:=m) fun q hq=>h q (by simp[hq])
  have h2:=h p (by simp)
  have e:tot (p::l)=p.2.length+tot l:=by simp[tot]
  rw[e,List.length_cons,Nat.add_mul]
  omega
theorem II_ {i:Nat}{z:Int}(hi:i<parts.length)(h21:i<21)(h:Jf parts i z):Jf parts (i+1) (wrap64 (z+(parts[i].2.length:Nat))):=by
 intro hall
 have hsub: ∀p∈parts.take i,p.2.length≤1024:=fun p hp=>hall p (List.take_subset_take_left _ (by omega) hp)
 have hz:=h hsub
 have hb:=AK_ hsub
 have hl:(parts.take i).length≤21:=by rw[List.length_take];omega
 have hlast:parts[i].2.length≤1024:=hall _ (List.mem_take_iff_getElem.2 ⟨i,by omega,rfl⟩)
 have hm:(parts.take i).length*1024≤21*1024:=Nat.mul_le_mul_right _ hl
 rw[hz,Bj (by omega) (by omega),QY hi]
 simp
theorem Rb_ {F:Nat→Prop}(hF: ∀x,Cy b o parts x→F x){Q:Value×FrameMode→St→Prop}{s0:St}(hb0:s0.lim≤s0.next)(hp:Parts s0 b o parts): ∀(k i n:Nat) (z:Int) (tm:T Value) (s:St) (td:List Item),i+k=min parts.length 21→5*k+5≤n→skim 64 td=GO→Ext F Non s0 s→s.mem=s0.mem→s.next=s0.next→Jf parts i z→
  T.get tm 0=some (.slice (some ⟨b,o,none⟩) parts.length c)→T.get tm 6=some (.slice none 0 0)→T.get tm 7=some (.slice none 0 0)→T.get tm 8=some (.slice none 0 0)→T.get tm 9=some (.int .i64 z)→T.get tm 10=some (.int .i64 (i:Nat))→
  (∀(n1:Nat) (z1:Int) (tm1:T Value) (s1:St) (td1:List Item),n-(5*k+5)≤n1→skim 64 td1=IP→Ext F Non s0 s1→s1.mem=s0.mem→s1.next=s0.next→Jf parts (min parts.length 21) z1→T.get tm1 0=some (.slice (some ⟨b,o,none⟩) parts.length c)→T.get tm1 6=some (.slice none 0 0)→T.get tm1 7=some (.slice none 0 0)→T.get tm1 8=some (.slice none 0 0)→T.get tm1 9=some (.int .i64 z1)→W (runF envS n1 ⟨30,DY,Bz,tm1,td1, .run, .normal,none⟩) s1 Q)→
  W (runF envS n ⟨30,DY,Bz,tm,td, .run, .normal,none⟩) s Q:=by
 intro k
 induction k with
 |zero=>
  intro i n z tm s td hi hn hT hx hm hnx hz h0 h6 h7 h8 h9 h10 q
  refine OX.w hT (by omega) ?_
  simp -implicitDefEqProofs only[M0,Ad,W_oS,W_on,Aa,W_mv,Ac,Al,Ak,Aj,AV,A0,AU,BA,h0,h10,BX Ci]
  by_cases hlt:i<parts.length
  ·have e1:(decide (((i:Nat):Int)<((parts.length:Nat):Int)))=true:=decide_eq_true (by omega)
   simp -implicitDefEqProofs only[e1,W_oS,Aa,reduceIte,Bx,A6, ↓reduceIte,BA]
   refine W.cond (v:=false) Mb ML (by simp[T.get_set];omega) (by omega) (fun h=>by cases h) fun _=> ?_
   exact q _ z _ _ _ (by omega) Oz hx hm hnx (by rw[←hi];exact hz) (by simp[T.get_set,h0]) (by simp[T.get_set,h6]) (by simp[T.get_set,h7]) (by simp[T.get_set,h8]) (by simp[T.get_set,h9])
  ·have e1:(decide (((i:Nat):Int)<((parts.length:Nat):Int)))=false:=decide_eq_false (by omega)
   simp -implicitDefEqProofs only[e1,Aa,reduceIte,BC,Bm,reduceCtorEq, ↓reduceIte]
   refine W.cond (v:=false) Mb ML (by simp[T.get_set]) (by omega) (fun h=>by cases h) fun _=> ?_
   exact q _ z _ _ _ (by omega) Oz hx hm hnx (by rw[←hi];exact hz) (by simp[T.get_set,h0]) (by simp[T.get_set,h6]) (by simp[T.get_set,h7]) (by simp[T.get_set,h8]) (by simp[T.get_set,h9])
 |succ k ih=>
  intro i n z tm s td hi hn hT hx hm hnx hz h0 h6 h7 h8 h9 h10 q
  have hil:i<parts.length:=by omega
  obtain⟨g1,g2⟩:=hp.get hil
  refine OX.w hT (by omega) ?_
  simp -implicitDefEqProofs only[M0,Ad,W_oS,W_on,Aa,W_mv,Ac,Al,Ak,Aj,AV,A0,AU,BA,h0,h10,BX Ci]
  have e1:(decide (((i:Nat):Int)<((parts.length:Nat):Int)))=true:=decide_eq_true (by omega)
  simp -implicitDefEqProofs only[e1,W_oS,Aa,reduceIte,Bx,A6, ↓reduceIte,BA]
  refine W.cond (v:=true) Mb ML (by simp[T.get_set];omega) (by omega) (fun _=> ?_) fun h=>by cases h
  refine Lf_.w XA_ (by omega) ?_
  simp -implicitDefEqProofs only[Xm,Ad,W_oS,Aa,W_mv,Ac,T.get_set,Al,Ak,Aj,reduceIte,Nat.reduceEqDiff,reduceCtorEq, ↓reduceIte,h0,h9,h10,Cr Ci hil]
  refine W.load1 C9 (g1.same hm hnx) ?_
  have hx1:Ext F Non s0 (s.rdN (b+(o+i*1))):=hx.trans (Ext.rdN (F:=F) s _ fun _=>hF _ (.inl ⟨by omega,by omega⟩)) hb0 (fun _ _ h=>h) fun _ _ h=>h
  rw[Bs.len (s:=s.rdN (b+(o+i*1))) (g2.same hm hnx) A2]
  simp -implicitDefEqProofs only[BN]
  refine Hj_.w Hr_ (by omega) ?_
  have ei:wrap64 ((i:Nat)+1:Int)=((i+1:Nat):Int):=by
   rw[Bj (by omega) (by omega)];simp
  simp -implicitDefEqProofs only[TL,Ad,W_oS,Aa,W_mv,Ac,T.get_set,reduceIte,Nat.reduceEqDiff, ↓reduceIte,BN,h10,ei]
  exact ih (i+1) _ _ _ _ _ (by omega) (by omega) DW_ hx1 hm hnx (II_ hil (by omega) hz) (by simp[T.get_set,h0]) (by simp[T.get_set,h6]) (by simp[T.get_set,h7]) (by simp[T.get_set,h8]) (by simp[T.get_set]) (by simp[T.get_set]) fun n1 z1 tm1 s1 td1 hn1=>q n1 z1 tm1 s1 td1 (by omega)
end
section
variable {parts:List (Value×List Nat)}{b o c:Nat}
theorem WK_ {F:Nat→Prop}(hF: ∀x,Cy b o parts x→F x){Q:Value×FrameMode→St→Prop}{s0:St}(hb0:s0.lim≤s0.next)(hcx:s0.cx=cxN)(hp:Parts s0 b o parts)(hlt: ∀p∈parts,∀x,BsF p.1 x→x<s0.next)(hby: ∀p∈parts,Byt p.2){i n:Nat}{tm:T Value}{s:St}{td:List Item}(hi:i<parts.length)(hn:60100≤n)(hT:skim 64 td=El)(hx:Ext F Non s0 s)
  (h0:T.get tm 0=some (.slice (some ⟨b,o,none⟩) parts.length c)) (h11:T.get tm 11=some (.int .i64 (i:Nat)))
  (q1:(parts[i].2.length=0∨1024<parts[i].2.length)→ ∀s1,Ext F Non s0 s1→Q (.tuple #[.slice none 0 0, .slice none 0 0, .slice none 0 0, .bool false], .run) s1)
  (q2:1≤parts[i].2.length→parts[i].2.length≤1024→ ∀(n1:Nat) (tm1:T Value) (s1:St) (td1:List Item) (w:Value) (C:Nat),n-20≤n1→skim 64 td1=FJ→Ext F Non s s1→(∀k,k=0∨k=6∨k=7∨k=8∨k=9∨k=11→T.get tm1 k=T.get tm k)→T.get tm1 12=some w→T.get tm1 13=some (.pointer (some ⟨C,0,none⟩))→s.next≤C→Af s1 C 0 (u8l (idB parts[i].2))→Bn s1 w (recB parts[i].2)→(∀x,BsF w x→s.next≤x)→W (runF envS n1 ⟨30,DY,Bz,tm1,td1, .run, .normal,none⟩) s1 Q):
  W (runF envS n ⟨30,DY,Bz,tm,td, .run, .normal,none⟩) s Q:=by
 have hb:s.lim≤s.next:=hx.bnd hb0
 have hps:Parts s b o parts:=⟨hp.row.ext0 hx,fun p h=>(hp.bs p h).ext0 hx⟩
 obtain⟨g1,g2⟩:=hps.get hi
 have hmem:=List.getElem_mem hi
 have hFp: ∀x,BsF parts[i].1 x→F x:=fun x h=>hF x (.inr ⟨_,hmem,h⟩)
 have hFc:F (b+(o+i*1)):=hF _ (.inl ⟨by omega,by omega⟩)
 refine N3.w hT (by omega) ?_
 simp -implicitDefEqProofs only[Nl,Ad,W_oS,Aa,W_mv,Ac,Al,Ak,Aj,BA,h0,h11,BX Ci]
 refine W.cond (v:=true) Qk QQ (by simp[T.get_set];omega) (by omega) (fun _=> ?_) fun h=>by cases h
 refine IB_.w Mx_ (by omega) ?_
 simp -implicitDefEqProofs only[Ua,Ad,W_oS,W_on,Aa,W_mv,Ac,T.get_set,Al,Ak,Aj,AS,reduceIte,Nat.reduceEqDiff,reduceCtorEq, ↓reduceIte,h0,h11,Cr Ci hi]
 refine W.load1 C9 g1 ?_
 have xr:Ext F Non s (s.rdN (b+(o+i*1))):=Ext.rdN (F:=F) s _ fun _=>hFc
 refine UO_ (s:=s.rdN (b+(o+i*1))) hb (g2.same rfl rfl) (fun x h=>Nat.lt_of_lt_of_le (hlt _ hmem x h) hx.nxt) (hby _ hmem) (by omega) (fun hz sa xa=> ?_) (fun hz sa xa=> ?_) fun hz1 hz2 sa w xa hw hwn=> ?_
 ·have hxa:Ext F Non s sa:=xr.step xa hb (fun x _ h=>hFp x h) fun _ h=>h.elim
  rw[Be (k:=0) rfl,Be (k:=1) rfl,Be (k:=2) rfl]
  refine W.alloc DI fun sb nb xb ob=> ?_
  have hxb:Ext F Non s sb:=hxa.step xb hb (fun _ _ h=>h.elim) fun _ h=>h.elim
  refine W.store BR rfl (BT _) (Af.owned ob) fun sc nc xc oc=> ?_
  have hxc:Ext F Non s sc:=hxb.step xc hb (fun x hx h=>by
   have h1:=h.1
   have h2:=hxa.nxt
   have h3:x<s.lim:=hx
   omega) fun x h=>by
    have h1:=h.1
    have h2:=hxa.nxt
    omega
  refine Qz.w Qg (by omega) ?_
  have e2:(!decide ((2:Int)=0))=true:=rfl
  simp -implicitDefEqProofs only[MX,Ad,W_oS,W_on,Aa,W_mv,Ac,T.get_set,Al,Ak,Aj,reduceIte,AV,Bi,A0,Bm,AU,Nat.reduceEqDiff,reduceCtorEq, ↓reduceIte,Ev,e2]
  refine W.cond (v:=true) PE PG (by simp[T.get_set]) (by omega) (fun _=> ?_) fun h=>by cases h
  refine XG.w Xf (by omega) ?_
  simp -implicitDefEqProofs only[Rr,Aa,W_mv,Ac]
  have hxs:Ext F Non s0 sc:=hx.step hxc hb0 (fun _ _ h=>h) fun _ h=>h.elim
  refine W.end' (rs:=[2,3,4,5]) (vs:=[.slice none 0 0, .slice none 0 0, .slice none 0 0, .bool false]) BW_ (.inl ZS) (by omega) Hp Jc (hxs.cx.trans hcx) (by simp[T.get_set]) ?_
  exact q1 (.inl hz) _ hxs
 ·have hxa:Ext F Non s sa:=xr.step xa hb (fun x _ h=>hFp x h) fun _ h=>h.elim
  rw[Be (k:=0) rfl,Be (k:=1) rfl,Be (k:=2) rfl]
  refine W.alloc DI fun sb nb xb ob=> ?_
  have hxb:Ext F Non s sb:=hxa.step xb hb (fun _ _ h=>h.elim) fun _ h=>h.elim
  refine W.store BR rfl (BT _) (Af.owned ob) fun sc nc xc oc=> ?_
  have hxc:Ext F Non s sc:=hxb.step xc hb (fun x hx h=>by
   have h1:=h.1
   have h2:=hxa.nxt
   have h3:x<s.lim:=hx
   omega) fun x h=>by
    have h1:=h.1
    have h2:=hxa.nxt
    omega
  refine Qz.w Qg (by omega) ?_
  have e2:(!decide ((3:Int)=0))=true:=rfl
  simp -implicitDefEqProofs only[MX,Ad,W_oS,W_on,Aa,W_mv,Ac,T.get_set,Al,Ak,Aj,reduceIte,AV,Bi,A0,Bm,AU,Nat.reduceEqDiff,reduceCtorEq, ↓reduceIte,Ev,e2]
  refine W.cond (v:=true) PE PG (by simp[T.get_set]) (by omega) (fun _=> ?_) fun h=>by cases h
  refine XG.w Xf (by omega) ?_
  simp -implicitDefEqProofs only[Rr,Aa,W_mv,Ac]
  have hxs:Ext F Non s0 sc:=hx.step hxc hb0 (fun _ _ h=>h) fun _ h=>h.elim
  refine W.end' (rs:=[2,3,4,5]) (vs:=[.slice none 0 0, .slice none 0 0, .slice none 0 0, .bool false]) BW_ (.inl ZS) (by omega) Hp Jc (hxs.cx.trans hcx) (by simp[T.get_set]) ?_
  exact q1 (.inr hz) _ hxs
 ·have hxa:Ext F Non s sa:=xr.step xa hb (fun x _ h=>hFp x h) fun _ h=>h.elim
  rw[Be (k:=0) rfl,Be (k:=1) rfl,Be (k:=2) rfl]
  refine W.alloc DI fun sb nb xb ob=> ?_
  have hxb:Ext F Non s sb:=hxa.step xb hb (fun _ _ h=>h.elim) fun _ h=>h.elim
  have hIl:(u8l (idB parts[i].2)).length=16:=by rw[A1];exact B3 _
  refine W.store BR hIl (BT _) (Af.owned ob) fun sc nc xc oc=> ?_
  have ha':=hxa.nxt
  have hGc: ∀x,In sa.next 0 16 x→s.next≤x:=fun x h=>by have h1:=h.1;omega
  have hxc:Ext F Non s sc:=hxb.step xc hb (fun x hx h=>by
   have h1:=hGc x h
   have h3:x<s.lim:=hx
   omega) hGc
  have hwc:Bn sc w (recB parts[i].2):=(hw.ext0 xb).ext xc fun x hx h=>by
   have h1:=hw.lt x hx
   have h2:=h.1
   omega
  have g1c:=g1.ext0 hxc
  have g2c:=g2.ext0 hxc
  have hrl:=DH parts[i].2
  refine Qz.w Qg (by omega) ?_
  simp -implicitDefEqProofs only[MX,Ad,W_oS,W_on,Aa,W_mv,Ac,T.get_set,Al,Ak,Aj,AS,reduceIte,AV,Bc,A0,A6,AU,Nat.reduceEqDiff,reduceCtorEq, ↓reduceIte,Ev,decide_true,Bool.not_true]
  rw[hwc.bs.len A2]
  simp -implicitDefEqProofs only[W_oS,Aa,h0,h11,Cr Ci hi]
  refine W.load1 C9 g1c ?_
  rw[Bs.len (s:=sc.rdN (b+(o+i*1))) (g2c.same rfl rfl) A2]
  refine Hr _ (by omega) ?_
  rw[II hz1 hz2]
  have e3:(!decide (((recB parts[i].2).length:Nat)=((parts[i].2.length+26:Nat):Int)))=false:=by rw[hrl];simp
  simp -implicitDefEqProofs only[W_oS,Aa,reduceIte,AV,Bc,A0,A6,AU,reduceCtorEq, ↓reduceIte,Ev,e3]
  have hwd:Bn (sc.rdN (b+(o+i*1))) w (recB parts[i].2):=hwc.same rfl rfl
  rw[hwd.bs.len A2]
  simp -implicitDefEqProofs only[BA]
  have hxd:Ext F Non s (sc.rdN (b+(o+i*1))):=hxc.step (Ext.rdN (F:=F) (G:=Non) sc _ fun _=>hFc) hb (fun _ _ h=>h) fun _ h=>h.elim
  refine W.cond (v:=false) PE PG (by simp[T.get_set];omega) (by omega) (fun h=>by cases h) fun _=> ?_
  refine q2 hz1 hz2 _ _ _ _ w sa.next (by omega) DJ_ hxd (fun k hk=> ?_) (by simp[T.get_set]) (by simp[T.get_set]) (by omega) (fun j u e=>(oc j u e).same rfl rfl) hwd hwn
  rcases hk with rfl|rfl|rfl|rfl|rfl|rfl<;>simp[T.get_set]
end
end Go.Proofs.Ytofanlcjeohcjaa.Am
end
