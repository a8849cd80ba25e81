import Derived.Test.YtofanlcjeohcjaaPPt18
import Derived.Test.YtofanlcjeohcjaaPPt15
import Derived.Test.YtofanlcjeohcjaaPPt08
import Derived.KernelRfl
noncomputable section
namespace Go.Proofs.Ytofanlcjeohcjaa.Am
open Go.RowKit
structure Good (l:List Nat)(h:Hd):Prop where
 ok:ZQ l h.2.1=true
 sz:FJ l h.2.1=h.2.2
 good:Yk l h.2.1 h.2.2=true
 id:Ux l h.2.1 h.2.2=h.1
theorem SN:arrN envS 26=some (16,1):=by kernel_rfl
def recB (b:List Nat):List Nat:=Cq b.length++gput (idB b++b)
theorem Xi (u v:Value)(l m:List Nat):fl [(u,l),(v,m)]=l++m:=by
 simp[fl]
theorem KO (u v:Value)(l m:List Nat):tot [(u,l),(v,m)]=l.length+m.length:=by
 simp[tot]
theorem Bs.cell1 {s:St}{v:Value}{l:List Nat}(h:Bs s v l):cellsOf v=[v]:=by
 obtain⟨p,c,rfl⟩:=h.sl
 rfl
theorem Wa {a b z:Value}(ha:cellsOf a=[a])(hb:cellsOf b=[b]):DJ (fun k=>some (k*1,1)) [(0,a),(1,b)] (rep 2 [z])=some [a,b]:=by
 unfold DJ
 simp -implicitDefEqProofs only[ha,hb]
 rfl
theorem CW_ {C3 C5 C6 n:Nat}{v:Value}{b:List Nat}{tm:T Value}{td:List Item}{s s0:St}{Q:Value→St→Prop}(hb:s.lim≤s.next)(hcx:s.cx=cxN)(hbs:Bs s v b)(hby:Byt b)(hb1:1≤b.length)(hb2:b.length≤1024)(hv3: ∀x,BsF v x→x<C3)(h35:C3+16≤C5)(h56:C5+6≤C6)(h6:C6+16≤s.next)(hs0:s0.next≤C3)
  (o3:Bb s C3 0 16) (o5:Ah s C5 0 (u8l (Cq b.length))) (o6:Ah s C6 0 (u8l (idB b))) (k0:T.get tm 0=some v) (k3:T.get tm 3=some (.pointer (some ⟨C3,0,none⟩))) (k5:T.get tm 5=some (.pointer (some ⟨C5,0,none⟩))) (k6:T.get tm 6=some (.pointer (some ⟨C6,0,none⟩))) (hT:skim 64 td=Gg) (hn:10000≤n)
  (q: ∀s1 w nb,Ext (fun x=>BsF v x∨C3≤x) (fun x=>C3≤x) s s1→MkG s1 w (recB b) nb→s.next≤nb→Q (.tuple #[w, .agg (u8l (idB b)).toArray, .int .i64 0]) (s1.cxN s0.cx)):
  W (runF envS n ⟨17,RC_,Dq,tm,td, .run, .normal,none⟩) s fun p s1=>Q p.1 (s1.cxN s0.cx):=by
 have hIl:(u8l (idB b)).length=16:=by rw[Be];exact CV b
 have hne:b≠[]:=fun h=>by rw[h]at hb1;simp at hb1
 have hbn:Bn s v b:=hbs.bn' hne
 refine TG_.w hT (by omega) ?_
 simp -implicitDefEqProofs only[XW,k0,k5,k6,Bq,BL,Ag,Af,Aq,Ap,Ae,XS]
 rw[W_dq fun s Q=>Fc (s:=s) (lo:=none) (hi:=none) (l:=0) (h:=6) Lc_ (Bt (by decide)) rfl rfl (Nat.zero_le _) (Nat.le_refl _) Q,if_neg (by decide)]
 rw[W_dq fun s Q=>Fc (s:=s) (lo:=none) (hi:=none) (l:=0) (h:=16) SN (Bt (by decide)) rfl rfl (Nat.zero_le _) (Nat.le_refl _) Q,if_neg (by decide)]
 simp -implicitDefEqProofs only[Bh]
 have B5:Bs s (.slice (some ⟨C5,0+0*1,none⟩) (6-0) (6-0)) (Cq b.length):=Ah.bn o5 (Bt (by simp[Cq]))
 have B6:Bs s (.slice (some ⟨C6,0+0*1,none⟩) (16-0) (16-0)) (idB b):=by
  have:=Ah.bn o6 (Bt (by rw[CV];decide))
  rw[CV]at this
  exact this
 have hw6: ∀x,BsF (.slice (some ⟨C6,0+0*1,none⟩) (16-0) (16-0)) x→In C6 0 16 x:=fun x h=>⟨h.1,h.2⟩
 generalize (.slice (some ⟨C6,0+0*1,none⟩) (16-0) (16-0):Value)=w6 at *
 have hw5: ∀x,BsF (.slice (some ⟨C5,0+0*1,none⟩) (6-0) (6-0)) x→In C5 0 6 x:=fun x h=>⟨h.1,h.2⟩
 generalize (.slice (some ⟨C5,0+0*1,none⟩) (6-0) (6-0):Value)=w5 at *
 refine W.dop (W.buildS (s:=oSt s.mem s.next) (Nat.le_refl _) (r:=[w6,v]) OY (by decide) (Wa B6.cell1 hbs.cell1) (Bt (by decide)) fun sa na xa oa=>⟨Non,xa,fun rda hra=> ?_⟩)
 have na':sa.next=s.next+3:=na
 have hrda:rda=[]:=by
  cases rda with
  |nil=>rfl
  |cons y _=>exact(hra y (by simp)).2.elim
 subst hrda
 have up: ∀{w:Value} {l:List Nat},Bs s w l→Bs (oSt sa.mem sa.next) w l:=fun h=>((h.same (s':=oSt s.mem s.next) rfl rfl).ext0 xa).same rfl rfl
 have oa':Ah sa s.next 0 [w6,v]:=oa
 refine W.dop (Af_ (s:=oSt sa.mem sa.next) (parts:=[(w6,idB b),(v,b)]) (b:=s.next) (o:=0) (c:=2) (Nat.le_refl _) ⟨fun i u e=>((oa' i u e).same rfl rfl).at',fun p hp=> ?_⟩ (by rw[KO,CV];omega) (by rw[KO,CV];omega) (by simp) (by simp;omega) fun sb w4 xb hw4=>⟨_,xb,fun rdb hrb=> ?_⟩)
 ·rcases List.mem_cons.1 hp with rfl|hp
  ·exact up B6
  ·rcases List.mem_cons.1 hp with rfl|hp
   ·exact up hbs
   ·cases hp
 have nb':sa.next≤sb.next:=xb.nxt
 rw[Xi]at hw4
 have hIb:Byt (idB b++b):=fun y hy=>by
  rcases List.mem_append.1 hy with hy|hy
  ·exact Xm b y hy
  ·exact hby y hy
 refine W.dop (Mm_ (s:=oSt sb.mem sb.next) (Nat.le_refl _) (by omega) (hw4.bn.same rfl rfl) hIb (by rw[List.length_append,CV];omega) fun sc w7 xc hw7=>⟨_,xc,fun rdc hrc=> ?_⟩)
 have nc':sb.next≤sc.next:=xc.nxt
 refine W.dop (W.buildS (s:=oSt sc.mem sc.next) (Nat.le_refl _) (r:=[w5,w7]) OY (by decide) (Wa B5.cell1 hw7.bn.bs.cell1) (Bt (by decide)) fun sd nd xd od=>⟨Non,xd,fun rdd hrd=> ?_⟩)
 have nd':sd.next=sc.next+3:=nd
 have hrdd:rdd=[]:=by
  cases rdd with
  |nil=>rfl
  |cons y _=>exact(hrd y (by simp)).2.elim
 subst hrdd
 have up2: ∀{w:Value} {l:List Nat},Bs s w l→Bs (oSt sd.mem sd.next) w l:=fun h=>(((((((up h).ext0 xb).same (s':=oSt sb.mem sb.next) rfl rfl).ext0 xc).same (s':=oSt sc.mem sc.next) rfl rfl).ext0 xd).same rfl rfl)
 have B7:Bs (oSt sd.mem sd.next) w7 (gput (idB b++b)):=(((hw7.bn.bs.same (s':=oSt sc.mem sc.next) rfl rfl).ext0 xd).same rfl rfl)
 have od':Ah sd sc.next 0 [w5,w7]:=od
 refine W.dop (SI (s:=oSt sd.mem sd.next) (parts:=[(w5,Cq b.length),(w7,gput (idB b++b))]) (b:=sc.next) (o:=0) (c:=2) (Nat.le_refl _) ⟨fun i u e=>((od' i u e).same rfl rfl).at',fun p hp=> ?_⟩ (by rw[KO,LZ,List.length_append,CV,Gd];omega) (by rw[KO,LZ,List.length_append,CV,Gd];omega) (by simp) (by simp;omega) fun se w8 nb8 xe hw8 hnb8=>⟨_,xe,fun rde hre=> ?_⟩)
 ·rcases List.mem_cons.1 hp with rfl|hp
  ·exact up2 B5
  ·rcases List.mem_cons.1 hp with rfl|hp
   ·exact B7
   ·cases hp
 have ne':sd.next≤se.next:=xe.nxt
 rw[Xi]at hw8
 have keep: ∀bk o u,Own s bk o u→Own se bk o u:=fun bk o u h=>((((((((h.same (s':=oSt s.mem s.next) rfl rfl).ext0 xa).same (s':=oSt sa.mem sa.next) rfl rfl).ext0 xb).same (s':=oSt sb.mem sb.next) rfl rfl).ext0 xc).same (s':=oSt sc.mem sc.next) rfl rfl).ext0 xd |>.same (s':=oSt sd.mem sd.next) rfl rfl).ext0 xe
 have o6e:Ah (dSt se.mem se.next) C6 0 (u8l (idB b)):=fun i u e=>(keep _ _ _ (o6 i u e)).same rfl rfl
 refine W.dloadA Cg o6e.row hIl fun memf rdf hmf hrf=> ?_
 subst hmf
 simp -implicitDefEqProofs only[Bh,As,T.get_set,Nat.reduceEqDiff, ↓reduceIte,k3,Bq]
 have o3e:Bb (oSt se.mem se.next) C3 0 16:=fun j hj=>by
  obtain⟨u,hu⟩:=o3 j hj
  exact⟨u,(keep _ _ _ hu).same rfl rfl⟩
 refine W.dopG (W.store Cg hIl (BY _) o3e fun sg ng xg og=>⟨In C3 0 16,In C3 0 16,xg,fun rdg wrg hrg hwg=> ?_⟩)
 rw[Ab]
 have ng':sg.next=se.next:=ng
 refine⟨Nc ?_, ?_⟩
 ·simp -implicitDefEqProofs only[List.reverse_cons,List.reverse_nil,List.nil_append,List.cons_append,allP,EL,List.take,Jj]
  have ff: ∀x,x∈rdf→ ¬s.next≤x:=fun x hx=>by have:=(hrf x hx).2;omega
  have lts: ∀x,s.next≤x→ ¬x<s.next:=fun x h=>by omega
  simp+contextual [ff,lts]
  repeat' first
   |exact .inl rfl
   |apply And.intro
 ·refine W.cast (GR_ _ _ _ _ _ _ _ _ _ _ _ _ _ _ _) ?_
  simp -implicitDefEqProofs only[Ac,W_oS,Ab,As]
  generalize hs':(⟨(dSt sg.mem sg.next).mem,(dSt sg.mem sg.next).next,s.lim,_,_,s.cx⟩:St)=s7
  have hZ: ∀b k x:Nat,C3≤b→In b 0 k x→C3≤x:=fun b k x h h2=>by have:=h2.1;omega
  have hPa: ∀x,Eo s.next 0 [(w6,idB b),(v,b)] x→BsF v x∨C3≤x:=fun x h=>by
   rcases h with h|⟨p,hp,h⟩
   ·exact .inr (hZ _ _ _ (by omega) h)
   ·rcases List.mem_cons.1 hp with rfl|hp
    ·exact .inr (hZ _ _ _ (by omega) (hw6 x h))
    ·rcases List.mem_cons.1 hp with rfl|hp
     ·exact .inl h
     ·cases hp
  have hPb: ∀x,Eo sc.next 0 [(w5,Cq b.length),(w7,gput (idB b++b))] x→BsF v x∨C3≤x:=fun x h=>by
   rcases h with h|⟨p,hp,h⟩
   ·exact .inr (hZ _ _ _ (by omega) h)
   ·rcases List.mem_cons.1 hp with rfl|hp
    ·exact .inr (hZ _ _ _ (by omega) (hw5 x h))
    ·rcases List.mem_cons.1 hp with rfl|hp
     ·have h1:=hw7.new x h
      have h2:(oSt sb.mem sb.next).next=sb.next:=rfl
      exact .inr (by omega)
     ·cases hp
  have x7:Ext (fun x=>BsF v x∨C3≤x) (fun x=>C3≤x) s s7:=by
   rw[←hs']
   refine Ext.drawG (by show s.next≤sg.next;omega) (fun x hx hg=> ?_) ?_ ?_
   ·exact(xg.mem x (by show x<se.next;omega) fun h=>hg (hZ _ _ x (by omega) h)).trans ((xe.mem x (by show x<sd.next;omega) id).trans ((xd.mem x (by show x<sc.next;omega) id).trans ((xc.mem x (by show x<sb.next;omega) id).trans ((xb.mem x (by show x<sa.next;omega) id).trans (xa.mem x hx id)))))
   ·simp -implicitDefEqProofs only[List.mem_cons,List.not_mem_nil,or_false]
    rintro m (rfl|rfl|rfl|rfl|rfl|rfl|rfl|rfl|rfl|rfl|rfl) x hx _<;>first|(cases hx;done)|(exact hZ _ _ x (by omega) (hwg x hx).2)
   ·simp -implicitDefEqProofs only[List.mem_cons,List.not_mem_nil,or_false]
    rintro m (rfl|rfl|rfl|rfl|rfl|rfl|rfl|rfl|rfl|rfl|rfl) x hx _<;>first|(cases hx;done)|(exact .inr (hZ _ _ x (by omega) (hrg x hx).2))|(exact .inr (hZ _ _ x (by omega) (hrf x hx)))|(exact hPb x (hre x hx).2)|(exact hPa x (hrb x hx).2)|(have h1:=hw4.new x (hrc x hx).2;have h2:(oSt sa.mem sa.next).next=sa.next:=rfl;exact .inr (by omega))
  have m7:s7.mem=sg.mem:=by rw[←hs'];rfl
  have n7:s7.next=sg.next:=by rw[←hs'];rfl
  have o7:Ah s7 C3 0 (u8l (idB b)):=fun i u e=>(og i u e).same m7 n7
  have hnb9:s.next≤nb8:=by
   have h2:sd.next≤nb8:=hnb8
   omega
  have b7:MkG s7 w8 (Cq b.length++gput (idB b++b)) nb8:=((hw8.same (s':=oSt se.mem se.next) rfl rfl).ext xg fun x hx h=>by
   have h1:=hx.1
   have h3:x<C3+0+16:=h.2
   omega).same m7 n7
  refine W.endG Nq_ (.inl II_) (by omega) PD UG (x7.cx.trans hcx) ?_
  refine W.resTmp (v:=w8) (by simp[T.get_set]) (W.resCell (a:=⟨C3,0,none⟩) (by simp[T.get_set,k3]) ?_)
  refine W.loadA Cg o7.row hIl fun sh mh nh xh=> ?_
  refine W.resTmp (v:= .int .i64 0) (by simp[T.get_set]) (W.resNil ?_)
  exact q sh w8 nb8 (x7.trans xh hb (fun x _ h=> .inr (hZ _ _ x (by omega) h)) fun _ _ h=>h.elim) (b7.same mh nh) hnb9
theorem DC_ {n:Nat}{v:Value}{b:List Nat}{s:St}{Q:Value→St→Prop}(hbd:s.lim≤s.next)(hbs:Bs s v b)(hlt: ∀x,BsF v x→x<s.next)(hby:Byt b)(hn:60000≤n)
  (q0:b.length=0→ ∀s1,Ext (BsF v) Non s s1→Q (.tuple #[.slice none 0 0, .agg (u8l (List.replicate 16 0)).toArray, .int .i64 2]) s1)
  (q1:1024<b.length→ ∀s1,Ext (BsF v) Non s s1→Q (.tuple #[.slice none 0 0, .agg (u8l (List.replicate 16 0)).toArray, .int .i64 3]) s1)
  (q2:1≤b.length→b.length≤1024→ ∀s1 w nb,Ext (BsF v) Non s s1→MkG s1 w (recB b) nb→s.next≤nb→Q (.tuple #[w, .agg (u8l (idB b)).toArray, .int .i64 0]) s1):
  W (AJ envS (runF envS n) 17 [v]) s Q:=by
 refine Lq_ fun tm h0=> ?_
 have hB:Bs (s.cxN cxN) v b:=hbs.same rfl rfl
 refine OG_.w rfl (by omega) ?_
 simp -implicitDefEqProofs only[Zd,Ac,Ab,W_mv,Ad]
 refine W.alloc El fun sa na xa oa=> ?_
 have na':sa.next=s.next+17:=na
 have hxa:Ext (BsF v) Non (s.cxN cxN) sa:=(Ext.refl _).step xa hbd (fun _ _ h=>h.elim) fun _ h=>h.elim
 have hG: ∀x,In s.next 0 16 x→s.next≤x:=fun x h=>by have:=h.1;omega
 refine Ow_.w CQ_ (by omega) ?_
 simp -implicitDefEqProofs only[U5,Ac,W_oS,Ab,W_mv,Ad,T.get_set,Ag,Af,Ae,reduceIte,reduceCtorEq, ↓reduceIte,h0]
 rw[(hB.ext0 xa).len BA]
 simp -implicitDefEqProofs only[Bg]
 have zero: ∀sz:St,Ext (BsF v) Non (s.cxN cxN) sz→sz.mem=sa.mem→sz.next=sa.next→ ∀(tmz:T Value) (m:Nat) (td:List Item) (c:Int),20≤m→skim 64 td=Jf→T.get tmz 2=some (.slice none 0 0)→T.get tmz 3=some (.pointer (some ⟨s.next,0,none⟩))→(∀s1,Ext (BsF v) Non s s1→Q (.tuple #[.slice none 0 0, .agg (u8l (List.replicate 16 0)).toArray, .int .i64 c]) s1)→
   W (Bo envS 26 (.pointer (some ⟨s.next,0,none⟩)) (.agg (u8l (List.replicate 16 0)).toArray)) sz fun _ s1=>W (runF envS m ⟨17,31,Dq,T.set tmz 4 (.int .i64 c),td, .run, .normal,none⟩) s1 fun p s1=>Q p.1 (s1.cxN s.cx):=by
  intro sz xz mz nz tmz m td c hm hT h2 h3 q
  have ho:Bb sz s.next 0 16:=fun j hj=>by
   obtain⟨u,hu⟩:=Ah.owned oa j (by simpa using hj)
   exact⟨u,hu.same mz nz⟩
  refine W.store Cg rfl (BY _) ho fun sc nc xc oc=> ?_
  have hxc:Ext (BsF v) Non (s.cxN cxN) sc:=xz.step xc hbd (fun x hx h=>by
   have h2:x<s.lim:=hx
   have:=hG x h
   omega) hG
  refine W.endG hT (.inl UZ_) (by omega) PD UG hxc.cx ?_
  refine W.resTmp (v:= .slice none 0 0) (by simp[T.get_set,h2]) (W.resCell (a:=⟨s.next,0,none⟩) (by simp[T.get_set,h3]) ?_)
  refine W.loadA Cg oc.row rfl fun sd md nd xd=> ?_
  have hxd:Ext (BsF v) Non (s.cxN cxN) sd:=hxc.step xd hbd (fun x hx h=>by
   have h2:x<s.lim:=hx
   have:=hG x h
   omega) fun _ h=>h.elim
  refine W.resTmp (v:= .int .i64 c) (by simp[T.get_set]) (W.resNil ?_)
  exact q _ hxd.cx'
 by_cases hz:b.length=0
 ·refine W.cond (v:=true) R6 SX (by simp[T.get_set,hz]) (by omega) (fun _=> ?_) fun h=>by cases h
  refine Ja_.w Eq_ (by omega) ?_
  simp -implicitDefEqProofs only[Zc,Ac,W_oS,Ab,W_mv,Ad,T.get_set,Ap,reduceIte,Nat.reduceEqDiff, ↓reduceIte,Ej KL]
  exact zero sa hxa rfl rfl _ _ _ 2 (by omega) Wb_ (by simp[T.get_set]) (by simp[T.get_set];rfl) (q0 hz)
 refine W.cond (v:=false) R6 SX (by simp[T.get_set];exact fun h=>hz (by rw[h];rfl)) (by omega) (fun h=>by cases h) fun _=> ?_
 refine Hh_.w Vc_ (by omega) ?_
 simp -implicitDefEqProofs only[S7,Ac,W_oS,Ab,W_mv,Ad,T.get_set,Ag,Af,Ae,reduceIte,reduceCtorEq, ↓reduceIte,h0]
 rw[(hB.ext0 xa).len BA]
 simp -implicitDefEqProofs only[Bc]
 by_cases hz2:1024<b.length
 ·refine W.cond (v:=true) Yi WS (by simp[T.get_set];omega) (by omega) (fun _=> ?_) fun h=>by cases h
  refine Sq_.w Qi_ (by omega) ?_
  simp -implicitDefEqProofs only[Z8,Ac,W_oS,Ab,W_mv,Ad,T.get_set,Ap,reduceIte,Nat.reduceEqDiff, ↓reduceIte,Ej KL]
  exact zero sa hxa rfl rfl _ _ _ 3 (by omega) Hu_ (by simp[T.get_set]) (by simp[T.get_set];rfl) (q1 hz2)
 refine W.cond (v:=false) Yi WS (by simp[T.get_set];omega) (by omega) (fun h=>by cases h) fun _=> ?_
 refine SC_.w Ea_ (by omega) ?_
 simp -implicitDefEqProofs only[ZM,Ac,W_oS,W_on,Ab,W_mv,Ad,T.get_set,Ag,Af,Ae,Ak,reduceIte,reduceCtorEq, ↓reduceIte,h0]
 rw[(hB.ext0 xa).len BA]
 refine LC_ (hxa.bnd hbd) (by omega) fun sb xb=> ?_
 have hxb:Ext (BsF v) Non (s.cxN cxN) sb:=hxa.step xb hbd (fun _ _ h=>h.elim) fun _ h=>h.elim
 refine It_ (hxb.bnd hbd) ((hB.ext0 xa).ext0 xb) (fun x hx=>by have:=hlt x hx;have:=xb.nxt;omega) hby (by omega) (by omega) fun sc xc=> ?_
 have hxc:Ext (BsF v) Non (s.cxN cxN) sc:=hxb.step xc hbd (fun _ _ h=>h) fun _ h=>h.elim
 refine W.alloc Zz fun sd nd xd od=> ?_
 have nd':sd.next=sc.next+7:=nd
 have hxd:Ext (BsF v) Non (s.cxN cxN) sd:=hxc.step xd hbd (fun _ _ h=>h.elim) fun _ h=>h.elim
 refine W.alloc El fun se ne xe oe=> ?_
 have ne':se.next=sd.next+17:=ne
 have hxe:Ext (BsF v) Non (s.cxN cxN) se:=hxd.step xe hbd (fun _ _ h=>h.elim) fun _ h=>h.elim
 have hHl:(u8l (Cq b.length)).length=6:=by rw[Be];exact Gd _
 have hIl:(u8l (idB b)).length=16:=by rw[Be];exact CV b
 have lb:=xb.nxt
 have lc:=xc.nxt
 have o5:Bb se sc.next 0 6:=(Ah.owned od).ext1 xe fun _ _ h=>h
 refine W.store Pf hHl (BY _) o5 fun sf nf xf of=> ?_
 have o6:Bb sf sd.next 0 16:=(Ah.owned oe).ext1 xf fun x h h'=>by
  have h1:x<sc.next+0+6:=h'.2
  have h2:=h.1
  omega
 refine W.store Cg hIl (BY _) o6 fun sg ng xg og=> ?_
 have hGf: ∀x,In sc.next 0 6 x→s.next≤x:=fun x h=>by have:=h.1;omega
 have hGg: ∀x,In sd.next 0 16 x→s.next≤x:=fun x h=>by have:=h.1;omega
 have hxf:Ext (BsF v) Non (s.cxN cxN) sf:=hxe.step xf hbd (fun x hx h=>by
  have h2:x<s.lim:=hx
  have:=hGf x h
  omega) hGf
 have hxg:Ext (BsF v) Non (s.cxN cxN) sg:=hxf.step xg hbd (fun x hx h=>by
  have h2:x<s.lim:=hx
  have:=hGg x h
  omega) hGg
 have hng:sg.next=sd.next+17:=by rw[ng,nf,ne']
 have o3:Bb sg s.next 0 16:=((((((Ah.owned oa).ext1 xb fun _ _ h=>h).ext1 xc fun _ _ h=>h).ext1 xd fun _ _ h=>h).ext1 xe fun _ _ h=>h).ext1 xf fun x h h'=>by
  have h1:x<s.next+0+16:=h.2
  have h2:=h'.1
  omega).ext1 xg fun x h h'=>by
  have h1:x<s.next+0+16:=h.2
  have h2:=h'.1
  omega
 have o5g:Ah sg sc.next 0 (u8l (Cq b.length)):=fun i u e=>(of i u e).ext xg fun h=>by
  have h1:=h.1
  have h2:i<6:=by rw[←hHl];exact(List.getElem?_eq_some_iff.1 e).1
  omega
 have hBg:Bs sg v b:=(((((((hB.ext0 xa).ext0 xb).ext0 xc).ext0 xd).ext0 xe).ext xf fun x hx h=>by
  have:=hGf x h
  have:=hlt x hx
  omega).ext xg fun x hx h=>by
  have:=hGg x h
  have:=hlt x hx
  omega)
 refine CW_ (C3:=s.next) (C5:=sc.next) (C6:=sd.next) (v:=v) (b:=b) (s0:=s) (hxg.bnd hbd) hxg.cx hBg hby (by omega) (by omega) hlt (by omega) (by omega) (by omega) (Nat.le_refl _) o3 o5g og (by simp[T.get_set,h0]) (by simp[T.get_set]) (by simp[T.get_set]) (by simp[T.get_set]) Rs_ (by omega) fun s1 w nb x1 hw hn1=> ?_
 have hx1:Ext (BsF v) Non (s.cxN cxN) s1:=hxg.step x1 hbd (fun x hx h=>by
  have h2:x<s.lim:=hx
  rcases h with h|h
  ·exact h
  ·omega) fun _ h=>h
 exact q2 (by omega) (by omega) _ w nb hx1.cx' (hw.same rfl rfl) (by omega)
section
variable {P:Program}{E:Env}{s:St}{t:Nat}
end
def DL:Nat:=BE Try.f16
abbrev WC:Nat:=31
def Xa:Code:=Try.f16.body.getD .skip
theorem T2:envS.fn.get 16=some Try.f16:=by kernel_rfl
theorem Ff_ {a0:Value}{n:Nat}{s:St}{Q:Value→St→Prop}(h: ∀tm,T.get tm 0=some a0→W (runF envS n ⟨16,31,DL,tm,[.code Xa], .run, .normal,none⟩) (s.cxN cxN) fun p s1=>Q p.1 (s1.cxN s.cx)):W (AJ envS (runF envS n) 16 [a0]) s Q:=
 W.call (by kernel_rfl) (by kernel_rfl) T2 (by kernel_rfl) rfl rfl (by simp) (h _ (by kernel_rfl))
theorem Kq_:Try.f16.results.toList=[.tmp 2]:=by kernel_rfl
def Pg:List Item:=skim 64 [.code Xa]
def Kj:List Item:=skim 64 Pg.tail
theorem Ed_:skim 64 Pg.tail=Kj:=by kernel_rfl
def LQ:List Item:=skim 64 Kj.tail
theorem Ji_:skim 64 Kj.tail=LQ:=by kernel_rfl
def KW:List Item:=skim 64 LQ.tail
theorem Ww_:skim 64 LQ.tail=KW:=by kernel_rfl
def FI:List Item:=skim 64 KW.tail
theorem JT_:skim 64 KW.tail=FI:=by kernel_rfl
def FP:List Item:=skim 64 FI.tail
theorem Aq_:skim 64 FI.tail=FP:=by kernel_rfl
def JH:List Item:=skim 64 (brT FP)
theorem OP_:skim 64 (brT FP)=JH:=by kernel_rfl
def Jn:List Item:=skim 64 (brF FP)
theorem Je_:skim 64 (brF FP)=Jn:=by kernel_rfl
def P1:List Item:=skim 64 JH.tail
theorem Dn_:skim 64 JH.tail=P1:=by kernel_rfl
def OD:List Item:=skim 64 Jn.tail
theorem LQ_:skim 64 Jn.tail=OD:=by kernel_rfl
theorem Lg_:skim 64 P1.tail=FI:=by kernel_rfl
def Z3 (E:Env)(call round:Aa)(tm:T Value):M (T Value):=
 mv (some (.slice none 0 0)) fun v2=>
 setF 2 v2 tm fun tm1=>
 M.pure tm1
theorem Pz_:RegEq 16 31 DL Pg Z3:=⟨by kernel_rfl,fun _ _ _ _ _ _ _ _ _=>by kernel_rfl⟩
def Xc (E:Env)(call round:Aa)(tm:T Value):M (T Value):=
 mv (T.get tm 0) fun v5=>
 M.bind (oS (seqO [(some v5)]) fun l=>A6 E .len [22] l) fun v6=>
 M.bind (oS (some v6) fun a=>oS (some (.int .i64 3)) fun b=>Cl.get (aBin E .add 3 (.tmp 6) (.const (.int .i64 3))) a b) fun v7=>
 M.bind (oS (some v7) fun a=>oS (some v7) fun b=>DX E 22 a b) fun v8=>
 mv (some v8) fun v3=>
 setF 3 v3 tm fun tm1=>
 M.pure tm1
theorem LU_:RegEq 16 31 DL Kj Xc:=⟨by kernel_rfl,fun _ _ _ _ _ _ _ _ _=>by kernel_rfl⟩
def Zq (E:Env)(call round:Aa)(tm:T Value):M (T Value):=
 mv (T.get tm 3) fun v9=>
 mv (T.get tm 0) fun v10=>
 M.bind (oS (seqO [(some v9),(some v10)]) fun l=>A6 E .copy [22,22] l) fun v11=>
 M.pure tm
theorem LE_:RegEq 16 31 DL LQ Zq:=⟨by kernel_rfl,fun _ _ _ _ _ _ _ _ _=>by kernel_rfl⟩
def RG (E:Env)(call round:Aa)(tm:T Value):M (T Value):=
 mv (T.get tm 0) fun v12=>
 M.bind (oS (seqO [(some v12)]) fun l=>A6 E .len [22] l) fun v13=>
 mv (some v13) fun v4=>
 setF 4 v4 tm fun tm1=>
 M.pure tm1
theorem Cy_:RegEq 16 31 DL KW RG:=⟨by kernel_rfl,fun _ _ _ _ _ _ _ _ _=>by kernel_rfl⟩
def QV (E:Env)(call round:Aa)(tm:T Value):M (T Value):=
 mv (T.get tm 4) fun v14=>
 mv (T.get tm 3) fun v15=>
 M.bind (oS (seqO [(some v15)]) fun l=>A6 E .len [22] l) fun v16=>
 M.bind (oS (some v14) fun a=>oS (some v16) fun b=>Cl.get (aBin E .lss 3 (.tmp 14) (.tmp 16)) a b) fun v17=>
 setF 17 v17 tm fun tm1=>
 M.pure tm1
theorem RO:RegEq 16 31 DL FI QV:=⟨by kernel_rfl,fun _ _ _ _ _ _ _ _ _=>by kernel_rfl⟩
theorem VL:BO FP=some 17:=by kernel_rfl
def XL (E:Env)(call round:Aa)(tm:T Value):M (T Value):=
 mv (T.get tm 3) fun v20=>
 mv (T.get tm 4) fun v21=>
 mv (T.get tm 4) fun v22=>
 M.bind (oS (some v22) fun a=>oS (some (.int .i64 90)) fun b=>Cl.get (aBin E .rem 3 (.tmp 22) (.const (.int .i64 90))) a b) fun v23=>
 M.bind (oS (some (.int .i64 160)) fun a=>oS (some v23) fun b=>Cl.get (aBin E .add 3 (.const (.int .i64 160)) (.tmp 23)) a b) fun v24=>
 M.bind (oS (some v24) fun a=>Bu E 3 5 a) fun v25=>
 M.bind (oS (some v20) fun a=>oS (some v21) fun b=>A9 E 22 a b) fun v26=>
 M.bind (oS (some v26) fun a=>oS (some v25) fun b=>Bo E 5 a b) fun _=>
 M.pure tm
theorem PC_:RegEq 16 31 DL JH XL:=⟨by kernel_rfl,fun _ _ _ _ _ _ _ _ _=>by kernel_rfl⟩
def Zo (E:Env)(call round:Aa)(tm:T Value):M (T Value):=
 mv (T.get tm 3) fun v27=>
 mv (T.get tm 0) fun v28=>
 M.bind (oS (seqO [(some v28)]) fun l=>A6 E .len [22] l) fun v29=>
 M.bind (M.on (some v27) fun a=>M.on (some none) fun b=>M.on (onO (some v29) fun v=>some (some v)) fun c=>BW E 22 a b c) fun v30=>
 mv (some v30) fun v2=>
 setF 2 v2 tm fun tm1=>
 M.pure tm1
theorem PJ_:RegEq 16 31 DL Jn Zo:=⟨by kernel_rfl,fun _ _ _ _ _ _ _ _ _=>by kernel_rfl⟩
def TP (E:Env)(call round:Aa)(tm:T Value):M (T Value):=
 mv (T.get tm 4) fun v18=>
 M.bind (oS (some v18) fun a=>oS (some (.int .i64 1)) fun b=>Cl.get (aBin E .add 3 (.tmp 18) (.const (.int .i64 1))) a b) fun v19=>
 mv (some v19) fun v4=>
 setF 4 v4 tm fun tm1=>
 M.pure tm1
theorem PR_:RegEq 16 31 DL P1 TP:=⟨by kernel_rfl,fun _ _ _ _ _ _ _ _ _=>by kernel_rfl⟩
theorem VR_: ∃k,OD= .code .ret::k:=⟨OD.tail,by kernel_rfl⟩
def OP:Nat:=BE Try.f19
def Si:Code:=Try.f19.body.getD .skip
theorem ZE:envS.fn.get 19=some Try.f19:=by kernel_rfl
theorem OW_ {a0 a1:Value}{n:Nat}{s:St}{Q:Value→St→Prop}(h: ∀tm,T.get tm 0=some a0→T.get tm 1=some a1→W (runF envS n ⟨19,10,OP,tm,[.code Si], .run, .normal,none⟩) (s.cxN cxN) fun p s1=>Q p.1 (s1.cxN s.cx)):W (AJ envS (runF envS n) 19 [a0,a1]) s Q:=
 W.call (by kernel_rfl) (by kernel_rfl) ZE (by kernel_rfl) rfl rfl (by simp) (h _ (by kernel_rfl) (by kernel_rfl))
theorem OR_:Try.f19.results.toList=[.tmp 4]:=by kernel_rfl
def Oo:List Item:=skim 64 [.code Si]
def JG:List Item:=skim 64 Oo.tail
theorem FG_:skim 64 Oo.tail=JG:=by kernel_rfl
def Qf:List Item:=skim 64 JG.tail
theorem Jy_:skim 64 JG.tail=Qf:=by kernel_rfl
def Zu (E:Env)(call round:Aa)(tm:T Value):M (T Value):=
 mv (some (.bool false)) fun v4=>
 setF 4 v4 tm fun tm1=>
 M.pure tm1
theorem GH_:RegEq 19 10 OP Oo Zu:=⟨by kernel_rfl,fun _ _ _ _ _ _ _ _ _=>by kernel_rfl⟩
def Uq (E:Env)(call round:Aa)(tm:T Value):M (T Value):=
 mv (T.get tm 0) fun v5=>
 M.bind (oS (some v5) fun a=>Bu E 22 9 a) fun v6=>
 mv (T.get tm 1) fun v7=>
 M.bind (oS (some v7) fun a=>Bu E 22 9 a) fun v8=>
 M.bind (oS (some v6) fun a=>oS (some v8) fun b=>Cl.get (aBin E .eql 9 (.tmp 6) (.tmp 8)) a b) fun v9=>
 mv (some v9) fun v4=>
 setF 4 v4 tm fun tm1=>
 M.pure tm1
theorem OI_:RegEq 19 10 OP JG Uq:=⟨by kernel_rfl,fun _ _ _ _ _ _ _ _ _=>by kernel_rfl⟩
theorem Tp_: ∃k,Qf= .code .ret::k:=⟨Qf.tail,by kernel_rfl⟩
def KV:Nat:=BE Try.f23
def Ts:Code:=Try.f23.body.getD .skip
theorem XG:envS.fn.get 23=some Try.f23:=by kernel_rfl
theorem Wj_ {a0 a1:Value}{n:Nat}{s:St}{Q:Value→St→Prop}(h: ∀tm,T.get tm 0=some a0→T.get tm 1=some a1→W (runF envS n ⟨23,23,KV,tm,[.code Ts], .run, .normal,none⟩) (s.cxN cxN) fun p s1=>Q p.1 (s1.cxN s.cx)):W (AJ envS (runF envS n) 23 [a0,a1]) s Q:=
 W.call (by kernel_rfl) (by kernel_rfl) XG (by kernel_rfl) rfl rfl (by simp) (h _ (by kernel_rfl) (by kernel_rfl))
theorem TS_:Try.f23.results.toList=[.tmp 4]:=by kernel_rfl
def Og:List Item:=skim 64 [.code Ts]
def IJ:List Item:=skim 64 Og.tail
theorem Rz_:skim 64 Og.tail=IJ:=by kernel_rfl
def Ru:List Item:=skim 64 IJ.tail
theorem Ug_:skim 64 IJ.tail=Ru:=by kernel_rfl
def Wf (E:Env)(call round:Aa)(tm:T Value):M (T Value):=
 mv (some (.bool false)) fun v4=>
 setF 4 v4 tm fun tm1=>
 M.pure tm1
theorem UK_:RegEq 23 23 KV Og Wf:=⟨by kernel_rfl,fun _ _ _ _ _ _ _ _ _=>by kernel_rfl⟩
def ZZ (E:Env)(call round:Aa)(tm:T Value):M ((Rho×T Value)×List OpLog):=
 M.bind (apartO (oS (T.get tm 0) fun a=>M.pure a)) fun p0=>
 M.bind (apartO (oS (seqO [(some p0.1)]) fun l=>A6 E .len [22] l)) fun p1=>
 M.bind (apartO (oS (T.get tm 1) fun a=>M.pure a)) fun p2=>
 M.bind (apartO (oS (seqO [(some p2.1)]) fun l=>A6 E .len [22] l)) fun p3=>
 M.bind (apartO (oS (some p1.1) fun a=>oS (some p3.1) fun b=>Cl.get (aBin E .eql 3 (.tmp 6) (.tmp 8)) a b)) fun p4=>
 M.bind (apartO (oS (some p4.1) fun a=>M.pure a)) fun p5=>
 M.bind (apartO (M.chk (isK p5.1) (M.if (isB p5.1 true) (oS (T.get tm 0) fun a=>M.pure a) (M.pure undef)))) fun p6=>
 M.bind (apartO (M.chk (isK p5.1) (M.if (isB p5.1 true) (oS (T.get tm 0) fun a=>M.pure a) (M.pure undef)))) fun p7=>
 M.bind (apartO (M.chk (isK p5.1) (M.if (isB p5.1 true) (oS (seqO [(some p7.1)]) fun l=>A6 E .cap [22] l) (M.pure undef)))) fun p8=>
 M.bind (apartO (M.chk (isK p5.1) (M.if (isB p5.1 true) (M.on (some p6.1) fun a=>M.on (some none) fun b=>M.on (onO (some p8.1) fun v=>some (some v)) fun c=>BW E 22 a b c) (M.pure undef)))) fun p9=>
 M.bind (apartO (M.chk (isK p5.1) (M.if (isB p5.1 true) (oS (T.get tm 1) fun a=>M.pure a) (M.pure undef)))) fun p10=>
 M.bind (apartO (M.chk (isK p5.1) (M.if (isB p5.1 true) (M.on (some (.func (.func 16) #[] #[])) fun f=>M.on (seqO [(some p10.1)]) fun l=>Bi call round f l) (M.pure undef)))) fun p11=>
 M.bind (apartO (M.chk (isK p5.1) (M.if (isB p5.1 true) (oS (T.get tm 1) fun a=>M.pure a) (M.pure undef)))) fun p12=>
 M.bind (apartO (M.chk (isK p5.1) (M.if (isB p5.1 true) (oS (seqO [(some p12.1)]) fun l=>A6 E .len [22] l) (M.pure undef)))) fun p13=>
 M.bind (apartO (M.chk (isK p5.1) (M.if (isB p5.1 true) (oS (some p13.1) fun a=>oS (some (.int .i64 3)) fun b=>Cl.get (aBin E .add 3 (.tmp 18) (.const (.int .i64 3))) a b) (M.pure undef)))) fun p14=>
 M.bind (apartO (M.chk (isK p5.1) (M.if (isB p5.1 true) (M.on (some p11.1) fun a=>M.on (some none) fun b=>M.on (onO (some p14.1) fun v=>some (some v)) fun c=>BW E 22 a b c) (M.pure undef)))) fun p15=>
 M.bind (apartO (M.chk (isK p5.1) (M.if (isB p5.1 true) (M.on (some (.func (.func 19) #[] #[])) fun f=>M.on (seqO [(some p9.1),(some p15.1)]) fun l=>Bi call round f l) (M.pure undef)))) fun p16=>
 M.bind (apartO (M.on (some p5.1) fun a=>M.on (some p16.1) fun b=>M.on (some (.bool false)) fun c=>Cw a b c)) fun p17=>
 M.pure (([p17.1,p16.1,p15.1,p14.1,p13.1,p12.1,p11.1,p10.1,p9.1,p8.1,p7.1,p6.1,p5.1,p4.1,p3.1,p2.1,p1.1,p0.1],tm),[p17.2,p16.2,p15.2,p14.2,p13.2,p12.2,p11.2,p10.2,p9.2,p8.2,p7.2,p6.2,p5.2,p4.2,p3.2,p2.2,p1.2,p0.2])
theorem Vn_:DrawEq 23 23 KV IJ [0,1,0,4,15,31,63,63,191,511,63,1087,63,4159,12351,31807,65535,131071,262143] ZZ:=⟨by kernel_rfl,by kernel_rfl,fun _ _ _ _ _ _ _ _ _=>by kernel_rfl⟩
theorem SU_ (E:Env)(call round:Aa)(x5 x6 x7 x8 x9 x10 x11 x12 x13 x14 x15 x16 x17 x18 x19 x20 x21 x22:Value)(tm:T Value)(s:St):BM call round (CH E KV 23 (hdC IJ)) [x22,x21,x20,x19,x18,x17,x16,x15,x14,x13,x12,x11,x10,x9,x8,x7,x6,x5] tm s=(M.bind (oS (some x22) fun a=>M.pure a) fun v4=>setT 4 v4 tm fun tm1=>M.pure tm1) s:=by kernel_rfl
theorem En_: ∃k,Ru= .code .ret::k:=⟨Ru.tail,by kernel_rfl⟩
theorem Zt:slN envS 36=some 18:=by kernel_rfl
def HsR (s:St)(v:Value)(hs:List Hd):Prop:=(v= .slice none 0 0∧hs=[])∨ ∃b o c,v= .slice (some ⟨b,o,none⟩) hs.length c∧Row s b o (Ct hs)
def HsF (v:Value)(x:Nat):Prop:=match v with| .slice (some a) n _=>In a.block a.off (n*18) x|_=>False
theorem HsR.same {s s':St}{v:Value}{hs:List Hd}(h:HsR s v hs)(hm:s'.mem=s.mem)(hn:s'.next=s.next):HsR s' v hs:=by
 rcases h with h|⟨b,o,c,h0,h3⟩
 ·exact .inl h
 ·exact .inr ⟨b,o,c,h0,fun i v e=>(h3 i v e).same hm hn⟩
theorem HsR.len {s s':St}{v:Value}{hs:List Hd}(h:HsR s v hs)(Q:Value→St→Prop):W (A6 envS .len [36] [v]) s' Q=Q (.int .i64 (hs.length:Nat)) s':=by
 rcases h with⟨rfl,rfl⟩|⟨b,o,c,rfl,_⟩
 ·exact Ch Zt Q
 ·exact Ch Zt Q
theorem ZW (l:List Hd)(m:List Hd):Ct (l++m)=Ct l++Ct m:=by
 induction l with
 |nil=>rfl
 |cons h l ih=>show DP h++Ct (l++m)=(DP h++Ct l)++Ct m;rw[ih,List.append_assoc]
theorem XP {hs:List Hd}(h16: ∀h∈hs,h.1.length=16){i:Nat}(hi:i<hs.length){j:Nat}(hj:j<18):(Ct hs)[i*18+j]?=(DP hs[i])[j]?:=by
 have e:hs=hs.take i++hs[i]::hs.drop (i+1):=by rw[List.getElem_cons_drop,List.take_append_drop]
 have hl:(Ct (hs.take i)).length=i*18:=by
  rw[Wj fun h hh=>h16 h (List.mem_of_mem_take hh),List.length_take]
  congr 1;omega
 have h18:(DP hs[i]).length=18:=Nh (h16 _ (List.getElem_mem hi))
 conv=>lhs;rw[e,ZW]
 rw[List.getElem?_append_right (by omega),hl,show i*18+j-i*18=j by omega]
 show(DP hs[i]++Ct (hs.drop (i+1)))[j]?=_
 rw[List.getElem?_append_left (by omega)]
theorem HsR.at {s:St}{v:Value}{hs:List Hd}(h:HsR s v hs)(h16: ∀h∈hs,h.1.length=16){i:Nat}(hi:i<hs.length): ∃b o c,v= .slice (some ⟨b,o,none⟩) hs.length c∧Row s b (o+i*18) (DP hs[i])∧(∀x,In b (o+i*18) 18 x→HsF v x):=by
 rcases h with⟨rfl,rfl⟩|⟨b,o,c,rfl,h3⟩
 ·simp at hi
 ·refine⟨b,o,c,rfl,fun j u e=> ?_,fun x hx=>⟨by have:=hx.1;show b+o≤x;omega,by
   have h2:x<b+(o+i*18)+18:=hx.2
   show x<b+o+hs.length*18
   have:(i+1)*18≤hs.length*18:=Nat.mul_le_mul_right 18 hi
   omega⟩⟩
  have hj:j<18:=by
   have:=(List.getElem?_eq_some_iff.1 e).1
   rwa [Nh (h16 _ (List.getElem_mem hi))]at this
  have:=h3 (i*18+j) u (by rw[XP h16 hi hj];exact e)
  rwa [show o+(i*18+j)=o+i*18+j by omega]at this
theorem HsR.ext0 {F:Nat→Prop}{s s':St}{v:Value}{hs:List Hd}(h:HsR s v hs)(e:Ext F Non s s'):HsR s' v hs:=by
 rcases h with h|⟨b,o,c,h0,h3⟩
 ·exact .inl h
 ·exact .inr ⟨b,o,c,h0,h3.ext e fun _ _=>id⟩
theorem Wp.new {s s':St}{v:Value}{hs:List Hd}(h:Wp s s' v hs): ∀x,HsF v x→s.next≤x:=by
 intro x hx
 rcases h with⟨rfl,_⟩|⟨b,h1,h,_⟩
 ·exact hx.elim
 ·rw[h.val]at hx
  have:=hx.1
  show s.next≤x
  have h2:b+0≤x:=hx.1
  omega
section
variable {parts:List (Value×List Nat)}{b o c:Nat}
end
section
variable {parts:List (Value×List Nat)}{b o c:Nat}
end
end Go.Proofs.Ytofanlcjeohcjaa.Am
end
