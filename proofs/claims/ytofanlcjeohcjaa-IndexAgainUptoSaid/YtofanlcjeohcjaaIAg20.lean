import Derived.Test.YtofanlcjeohcjaaIAg17
import Derived.Test.YtofanlcjeohcjaaIAg19
import Derived.Test.YtofanlcjeohcjaaIAg14
import Derived.Test.YtofanlcjeohcjaaIAg07
import Derived.KernelRfl
import Derived.Test.YtofanlcjeohcjaaIAg18
noncomputable section
namespace Go.Proofs.Ytofanlcjeohcjaa.Am
open Go.RowKit
def hitB (l:List Nat)(h:Hd):Bool:=Cz l h.2.1 h.2.2&&decide (CU l h.2.1 h.2.2=h.1)
structure Good (l:List Nat)(h:Hd):Prop where
 ok:CT l h.2.1=true
 sz:BA l h.2.1=h.2.2
 good:Cz l h.2.1 h.2.2=true
 id:CU l h.2.1 h.2.2=h.1
def chainB (e:Nat):List Hd→Prop
 |[]=>True
 |h::t=>e≤h.2.1∧chainB (h.2.1+26+h.2.2) t
def endB (e:Nat):List Hd→Nat
 |[]=>e
 |h::t=>endB (h.2.1+26+h.2.2) t
theorem WR_ {e e':Nat}(h:e'≤e): ∀{t:List Hd},chainB e t→chainB e' t
 |[],_=>trivial
 |_::_,⟨h1,h2⟩=>⟨by omega,h2⟩
theorem Ws_ {e e':Nat}(h:e'≤e): ∀(t:List Hd),endB e' t≤endB e t
 |[]=>h
 |_::_=>Nat.le_refl _
theorem BZ_ {l:List Nat}{k:Nat}:CZ l k=0↔k=l.length:=by
 unfold CZ
 constructor
 ·intro h
  split at h
  ·assumption
  ·split at h
   ·omega
   ·split at h<;>omega
 ·intro h
  rw[if_pos h]
theorem Tp {l:List Nat}: ∀(f k:Nat) (hs:List Hd) (bad:Nat),k≤l.length→ ∃new,(Cd l f k hs bad).1=hs++new∧chainB k new∧endB k new≤(Cd l f k hs bad).2.2.1∧(∀h∈new,Good l h)∧(Cd l f k hs bad).2.2.1≤l.length∧((Cd l f k hs bad).2.2.2=0↔(Cd l f k hs bad).2.2.1=l.length)∧(Cd l f k hs bad).2.2.2≤2
 |0,k,hs,bad,hk=>⟨[],by simp[Cd],trivial,Nat.le_refl _,fun _ h=>by simp at h,hk,BZ_,Yk l k⟩
 |f+1,k,hs,bad,hk=>by
  unfold Cd
  cases hr:CT l k with
  |false=>exact⟨[],by simp,trivial,Nat.le_refl _,fun _ h=>by simp at h,hk,BZ_,Yk l k⟩
  |true=>
   have hlen:k+26+BA l k≤l.length:=by
    unfold CT at hr
    rw[Bool.and_eq_true]at hr
    exact of_decide_eq_true hr.2
   simp -implicitDefEqProofs only[reduceIte]
   cases hg:Cz l k (BA l k)with
   |false=>
    simp -implicitDefEqProofs only[Bool.false_eq_true,reduceIte]
    obtain⟨new,e1,e2,e3,e4,e5,e6,e7⟩:=Tp f (k+26+BA l k) hs (bad+1) hlen
    exact⟨new,e1,WR_ (by omega) e2,Nat.le_trans (Ws_ (by omega) new) e3,e4,e5,e6,e7⟩
   |true=>
    simp -implicitDefEqProofs only[reduceIte]
    obtain⟨new,e1,e2,e3,e4,e5,e6,e7⟩:=Tp f (k+26+BA l k) (hs++[(CU l k (BA l k),k,BA l k)]) bad hlen
    refine⟨(CU l k (BA l k),k,BA l k)::new,by rw[e1,List.append_assoc];rfl,⟨Nat.le_refl _,e2⟩,e3,fun h hh=> ?_,e5,e6,e7⟩
    rcases List.mem_cons.1 hh with rfl|hh
    ·exact⟨hr,rfl,hg,rfl⟩
    ·exact e4 h hh
theorem MP (l:List Nat):chainB 0 (BV l).1∧endB 0 (BV l).1≤(BV l).2.2.1∧(∀h∈(BV l).1,Good l h)∧(BV l).2.2.1≤l.length∧((BV l).2.2.2=0↔(BV l).2.2.1=l.length)∧(BV l).2.2.2≤2:=by
 obtain⟨new,e1,e2,e3,e4,e5,e6,e7⟩:=Tp (l:=l) l.length 0 [] 0 (Nat.zero_le _)
 rw[List.nil_append]at e1
 have:(BV l).1=new:=e1
 rw[this]
 exact⟨e2,e3,e4,e5,e6,e7⟩
theorem Good.facts {l:List Nat}{h:Hd}(g:Good l h):FS_ l h=false∧hitB l h=true∧h.2.1+26+h.2.2≤l.length∧1≤h.2.2∧h.2.2≤1024∧h.1.length=16∧idB (C1 l h.2.1 h.2.2)=h.1:=by
 have hr:=g.ok
 unfold CT at hr
 rw[Bool.and_eq_true,Bool.and_eq_true,decide_eq_true_eq,decide_eq_true_eq,g.sz]at hr
 obtain⟨⟨h1,h2⟩,h3⟩:=hr
 obtain⟨g1,g2⟩:=ZL h2
 rw[g.sz]at g1 g2
 have h4:h.1.length=16:=by rw[←g.id];exact IC_ h3
 have hg:=g.good
 unfold Cz at hg
 rw[Bool.and_eq_true,decide_eq_true_eq,decide_eq_true_eq]at hg
 have hid:=g.id
 unfold CU at hid
 rw[if_pos hg.1]at hid
 refine⟨?_, ?_,h3,g1,g2,h4,by rw[hg.2,hid]⟩
 ·unfold FS_ Hr
  rw[if_pos h1]
  simp[h2,g.sz,h3]
 ·unfold hitB
  rw[g.good,g.id]
  simp
theorem Mb_ (x y:Int)(a:Option Addr)(n c:Nat):Do envS 85 [(0, .int .i64 x),(1, .int .i64 y),(2, .slice a n c)]=some [.int .i64 x, .int .i64 y, .slice a n c]:=by kernel_rfl
theorem HiR.slice {s:St}{v:Value}{hs:List HdI}(h:HiR s v hs): ∃a n c,v= .slice a n c:=by
 rcases h with⟨rfl,_⟩|⟨b,o,c,rfl,_⟩
 ·exact⟨_,_,_,rfl⟩
 ·exact⟨_,_,_,rfl⟩
theorem Ok_ (l:List Nat): ∀h∈(BV l).1.map toI,h.1.length=16:=fun h hh=>by
 obtain⟨g,hg,rfl⟩:=List.mem_map.1 hh
 exact((MP l).2.2.1 g hg).facts.2.2.2.2.2.1
theorem Jo.hi {s s':St}{v:Value}{hs:List Hd}(h:Jo s s' v hs):HiR s' v (hs.map toI)∧ ∀x,HiF v x→s.next≤x:=by
 rcases h with⟨rfl,rfl⟩|⟨b,hb,hm,_⟩
 ·exact⟨.inl ⟨rfl,rfl⟩,fun x hx=>hx.elim⟩
 ·have hr:HsR s' v hs:= .inr ⟨b,0,_,hm.val,hm.own.row⟩
  refine⟨hr.toI,fun x hx=> ?_⟩
  rw[hm.val]at hx
  have h1:b+0≤x:=hx.1
  omega
theorem MgO.rows {s0 s:St}{os:List PkI}{sc:List Int}{vo vs:Value}{bo bs:Nat}(h:MgO s0 s os sc vo vs bo bs):PkR s vo os∧IntR s vs sc:=by
 refine⟨⟨?_,fun p hp=>(h.hs p hp).1,fun p hp=>(h.hs p hp).2.1⟩, ?_⟩
 ·rcases h.mo with⟨rfl,h0,_⟩|⟨hm,_⟩
  ·exact .inl ⟨rfl,List.eq_nil_of_length_eq_zero h0⟩
  ·exact .inr ⟨bo,0,_,hm.val,hm.own.row⟩
 ·rcases h.ms with⟨rfl,h0,_⟩|⟨hm,_⟩
  ·exact .inl ⟨rfl,List.eq_nil_of_length_eq_zero h0⟩
  ·exact .inr ⟨bs,0,_,hm.val,hm.own.row⟩
section
variable {vp vf:Value}{ps:List PkI}{fs:List FdI}{Q:Value×FrameMode→St→Prop}{s0:St}
theorem YM_ {K:List KeyP}{SC:List Int}(hb0:s0.lim≤s0.next)(hp:PkR s0 vp ps)(hf:FdR s0 vf fs)(hps:ps.length≤1000000)(hzp: ∀p∈ps,p.hs.length≤400000)(hfs:fs.length≤90000)(hzf: ∀f∈fs,f.l.length≤200000)(hcx:s0.cx=cxN)
  (q: ∀s1 os sc vo vs,Ext Any Non s0 s1→PkR s1 vo os→os.map PkI.key=K→IntR s1 vs sc→sc=SC→Q (.tuple #[vo,vs], .run) s1):
  ∀(k i n:Nat) (last:Int) (os:List PkI) (sc:List Int) (vo vs:Value) (bo bs:Nat) (tm:T Value) (s:St) (td:List Item),i+k=fs.length→100*k+10*ps.length+13000000≤n→skim 64 td=GS→Ext Any Non s0 s→MgO s0 s os sc vo vs bo bs→os.length≤i→sc.length≤i→
  os.map PkI.key++(Bd ps last (fs.drop i)).1=K→sc++(Bd ps last (fs.drop i)).2=SC→
  T.get tm 0=some vp→T.get tm 6=some vo→T.get tm 7=some vs→T.get tm 8=some (.int .i64 last)→T.get tm 17=some vf→T.get tm 18=some (.int .i64 (fs.length:Nat))→T.get tm 19=some (.int .i64 (i:Nat))→
  W (runF envS n ⟨55,ZM,B9,tm,td, .run, .normal,none⟩) s Q:=by
 intro k
 induction k with
 |zero=>
  intro i n last os sc vo vs bo bs tm s td hi hn hT hx hO ho1 ho2 hK hSC h0 h6 h7 h8 h17 h18 h19
  refine Vl.w hT (by omega) ?_
  simp only[SG,Ac,W_oS,W_on,Aa,W_mv,Ab,Ap,T.get_set,Af,Ae,Ao,Al,Ad,Ai,reduceIte,Ah,Av,As,Au,Ak,Aq,Ar,Aw,Aj,An,Nat.reduceEqDiff,reduceCtorEq, ↓reduceIte,AD,AL,AC,AK,AT,AP,AQ,AM,h18,h19]
  refine W.cond (v:=false) VI Xu (by simp[T.get_set];omega) (by omega) (fun h=>by cases h) fun _=> ?_
  refine Yy_.w Acv_ (by omega) ?_
  simp only[W9,Ac,W_oS,W_on,Aa,W_mv,Ab,Ap,T.get_set,Af,Ae,Ao,Al,Ad,Ai,reduceIte,Ah,Av,As,Au,Ak,Aq,Ar,Aw,Aj,An,Nat.reduceEqDiff,reduceCtorEq, ↓reduceIte,h6,h7]
  refine W.end' (rs:=[4,5]) (vs:=[vo,vs]) AfQ_ (.inl JU_) (by omega) Ed_ LW_ (hx.cx.trans hcx) (by simp[T.get_set]) ?_
  rw[List.drop_of_length_le (by omega)]at hK hSC
  exact q s os sc vo vs hx hO.rows.1 (by simpa [Bd]using hK) hO.rows.2 (by simpa [Bd]using hSC)
 |succ k ih=>
  intro i n last os sc vo vs bo bs tm s td hi hn hT hx hO ho1 ho2 hK hSC h0 h6 h7 h8 h17 h18 h19
  have hil:i<fs.length:=by omega
  have hb:=hx.bnd hb0
  obtain⟨b,o,c,ev,ga,gB,gby⟩:=(hf.ext0 hx).at hil
  have hzi:=hzf _ (List.getElem_mem hil)
  have hd:fs.drop i=fs[i]::fs.drop (i+1):=(List.getElem_cons_drop ..).symm
  rw[hd]at hK hSC
  generalize hfi:fs[i]=f at *
  have hun:Bd ps last (f::fs.drop (i+1))=if f.num≤last∨999999<f.num then Bd ps last (fs.drop (i+1))else
   match ps.find? (hitP f)with
   |some p=>(p.key::(Bd ps f.num (fs.drop (i+1))).1,(Bd ps f.num (fs.drop (i+1))).2)
   |none=>((f.num,(f.l.length:Int),(BV f.l).1.map toI)::(Bd ps f.num (fs.drop (i+1))).1,f.num::(Bd ps f.num (fs.drop (i+1))).2):=rfl
  have next: ∀(n':Nat) (last':Int) (os':List PkI) (sc':List Int) (vo' vs':Value) (bo' bs':Nat) (tm':T Value) (s':St) (td':List Item),n≤n'+60→skim 64 td'=Hv→Ext Any Non s0 s'→MgO s0 s' os' sc' vo' vs' bo' bs'→os'.length≤i+1→sc'.length≤i+1→
    os'.map PkI.key++(Bd ps last' (fs.drop (i+1))).1=K→sc'++(Bd ps last' (fs.drop (i+1))).2=SC→
    T.get tm' 0=some vp→T.get tm' 6=some vo'→T.get tm' 7=some vs'→T.get tm' 8=some (.int .i64 last')→T.get tm' 17=some vf→T.get tm' 18=some (.int .i64 (fs.length:Nat))→T.get tm' 19=some (.int .i64 (i:Nat))→
    W (runF envS n' ⟨55,ZM,B9,tm',td', .run, .normal,none⟩) s' Q:=by
   intro n' last' os' sc' vo' vs' bo' bs' tm' s' td' hn' hT' x' hO' l1 l2 e1 e2 g0 g6 g7 g8 g17 g18 g19
   refine MK_.w hT' (by omega) ?_
   have ei:wrap64 ((i:Nat)+1:Int)=((i+1:Nat):Int):=by
    rw[Bq (by omega) (by omega)];simp
   simp only[Ct_,Ac,W_oS,W_on,Aa,W_mv,Ab,Ap,T.get_set,Af,Ae,Ao,Al,Ad,Ai,reduceIte,Ah,Av,As,Au,Ak,Aq,Ar,Aw,Aj,An,Nat.reduceEqDiff,reduceCtorEq, ↓reduceIte,AD,AL,AC,AK,AT,AP,AQ,AM,g19,ei]
   exact ih (i+1) _ last' os' sc' vo' vs' bo' bs' _ _ _ (by omega) (by omega) YC_ x' hO' l1 l2 e1 e2 (by simp[T.get_set,g0]) (by simp[T.get_set,g6]) (by simp[T.get_set,g7]) (by simp[T.get_set,g8]) (by simp[T.get_set,g17]) (by simp[T.get_set,g18]) (by simp[T.get_set])
  refine Vl.w hT (by omega) ?_
  simp only[SG,Ac,W_oS,W_on,Aa,W_mv,Ab,Ap,T.get_set,Af,Ae,Ao,Al,Ad,Ai,reduceIte,Ah,Av,As,Au,Ak,Aq,Ar,Aw,Aj,An,Nat.reduceEqDiff,reduceCtorEq, ↓reduceIte,AD,AL,AC,AK,AT,AP,AQ,AM,h18,h19]
  refine W.cond (v:=true) VI Xu (by simp[T.get_set];omega) (by omega) (fun _=> ?_) fun h=>by cases h
  refine WB_.w Hq_ (by omega) ?_
  simp only[X9,Ac,W_oS,W_on,Aa,W_mv,Ab,Ap,T.get_set,Af,Ae,Ao,Al,Ad,Ai,reduceIte,Ah,Av,As,Au,Ak,Aq,Ar,Aw,Aj,An,Nat.reduceEqDiff,reduceCtorEq, ↓reduceIte,h17,ev,h19,BC DC hil]
  have hfv:oneCell f.v=true:=by
   rcases gB with⟨e,_⟩|⟨b',o',c',e,_⟩<;>rw[e]<;>rfl
  refine W.loadA T6 ga rfl fun s1 m1 n1 x1=> ?_
  try simp only[Ac,W_oS,W_on,Aa,W_mv,Ab,Ap,T.get_set,Af,Ae,Ao,Al,Ad,Ai,reduceIte,Ah,Av,As,Au,Ak,Aq,Ar,Aw,Aj,An,Nat.reduceEqDiff,reduceCtorEq, ↓reduceIte]
  refine W.alloc Abc_ fun s2 n2 x2 o2=> ?_
  try simp only[Ac,W_oS,W_on,Aa,W_mv,Ab,Ap,T.get_set,Af,Ae,Ao,Al,Ad,Ai,reduceIte,Ah,Av,As,Au,Ak,Aq,Ar,Aw,Aj,An,Nat.reduceEqDiff,reduceCtorEq, ↓reduceIte]
  have n2':s2.next=s1.next+3:=n2
  refine W.store T6 (v:= .agg (fdC f).toArray) rfl (by rw[DI];unfold fdC;simp[oneCell]at hfv ⊢;exact hfv) (fun j hj=>Ay.owned o2 j (by simpa using hj)) fun s3 n3 x3 o3=> ?_
  rw[DI]at o3
  have xs1:Ext Any Non s s1:=x1.any hb
  have xs2:Ext Any Non s s2:=xs1.then0 x2 hb
  have hlt0:s.next≤s1.next:=xs1.nxt
  have xs3:Ext Any Non s s3:=xs2.trans x3 hb (fun _ _ _=>trivial) fun y hy h=>by
   have h1:=h.1
   omega
  have xa3:Ext Any Non s0 s3:=hx.then0 xs3 hb0
  have hO3:=hO.ext0 xs3
  have hb3:=xa3.bnd hb0
  have gB3:Bs s3 f.v f.l:=gB.ext0 xs3
  have o3':Ay s3 s1.next 0 (fdC f):=o3
  have f0:Own s3 s1.next (0+0) (.int .i64 f.num):=o3' 0 _ rfl
  have f1:Own s3 s1.next (0+1) f.v:=o3' 1 _ rfl
  have hCn:s1.next+3=s3.next:=by omega
  have hC0:s0.next≤s1.next:=Nat.le_trans hx.nxt hlt0
  generalize hC:s1.next=C at *
  refine Agd_.w AdJ_ (by omega) ?_
  simp only[ZY,Ac,W_oS,W_on,Aa,W_mv,Ab,Ap,T.get_set,Af,Ae,Ao,Al,Ad,Ai,reduceIte,Ah,Av,As,Au,Ak,Aq,Ar,Aw,Aj,An,Nat.reduceEqDiff,reduceCtorEq, ↓reduceIte,Be Eb (by decide)]
  refine W.load1 Bl f0.at' ?_
  have xa4:=xa3.thenRd hb0 (C+(0+0))
  by_cases c1:f.num≤last
  ·simp only[Ac,W_oS,W_on,Aa,W_mv,Ab,Ap,T.get_set,Af,Ae,Ao,Al,Ad,Ai,reduceIte,Ah,Av,As,Au,Ak,Aq,Ar,Aw,Aj,An,Nat.reduceEqDiff,reduceCtorEq, ↓reduceIte,AD,AL,AC,AK,AT,AP,AQ,AM,h8,c1,decide_true]
   rw[hun,if_pos (.inl c1)]at hK hSC
   refine W.cond (v:=true) Sk QP (by simp[T.get_set]) (by omega) (fun _=> ?_) fun h=>by cases h
   exact next _ last os sc vo vs bo bs _ _ _ (by omega) Zr xa4 (hO3.ext0 (Ext.rdN (F:=Any) s3 _ fun _=>trivial)) (by omega) (by omega) hK hSC (by simp[T.get_set,h0]) (by simp[T.get_set,h6]) (by simp[T.get_set,h7]) (by simp[T.get_set,h8]) (by simp[T.get_set,h17,ev]) (by simp[T.get_set,h18]) (by simp[T.get_set,h19])
  simp only[Ac,W_oS,W_on,Aa,W_mv,Ab,Ap,T.get_set,Af,Ae,Ao,Al,Ad,Ai,reduceIte,Ah,Av,As,Au,Ak,Aq,Ar,Aw,Aj,An,Nat.reduceEqDiff,reduceCtorEq, ↓reduceIte,AD,AL,AC,AK,AT,AP,AQ,AM,h8,c1,decide_false,Be Eb (by decide)]
  refine W.load1 Bl (f0.same rfl rfl).at' ?_
  have xa5:=xa4.thenRd hb0 (C+(0+0))
  have y5:Ext Any Non s3 ((s3.rdN (C+(0+0))).rdN (C+(0+0))):=((Ext.refl (F:=Any) (G:=Non) s3).thenRd hb3 _).thenRd hb3 _
  try simp only[Ac,W_oS,W_on,Aa,W_mv,Ab,Ap,T.get_set,Af,Ae,Ao,Al,Ad,Ai,reduceIte,Ah,Av,As,Au,Ak,Aq,Ar,Aw,Aj,An,Nat.reduceEqDiff,reduceCtorEq, ↓reduceIte,AD,AL,AC,AK,AT,AP,AQ,AM]
  by_cases c2:999999<f.num
  ·rw[hun,if_pos (.inr c2)]at hK hSC
   refine W.cond (v:=true) Sk QP (by simp[T.get_set];exact c2) (by omega) (fun _=> ?_) fun h=>by cases h
   exact next _ last os sc vo vs bo bs _ _ _ (by omega) Zr xa5 (hO3.ext0 y5) (by omega) (by omega) hK hSC (by simp[T.get_set,h0]) (by simp[T.get_set,h6]) (by simp[T.get_set,h7]) (by simp[T.get_set,h8]) (by simp[T.get_set,h17,ev]) (by simp[T.get_set,h18]) (by simp[T.get_set,h19])
  rw[hun,if_neg (by omega)]at hK hSC
  refine W.cond (v:=false) Sk QP (by simp[T.get_set];omega) (by omega) (fun h=>by cases h) fun _=> ?_
  generalize hs5:((s3.rdN (C+(0+0))).rdN (C+(0+0)))=s5 at *
  have f0a:Own s5 C (0+0) (.int .i64 f.num):=f0.ext0 y5
  have f1a:Own s5 C (0+1) f.v:=f1.ext0 y5
  have gB5:=gB3.ext0 y5
  refine Aax_.w TC_ (by omega) ?_
  simp only[Vj,Ac,W_oS,W_on,Aa,W_mv,Ab,Ap,T.get_set,Af,Ae,Ao,Al,Ad,Ai,reduceIte,Ah,Av,As,Au,Ak,Aq,Ar,Aw,Aj,An,Nat.reduceEqDiff,reduceCtorEq, ↓reduceIte,Be Eb (by decide)]
  refine W.load1 Bl f0a.at' ?_
  have xa6:=xa5.thenRd hb0 (C+(0+0))
  have y6:Ext Any Non s3 (s5.rdN (C+(0+0))):=y5.thenRd hb3 _
  generalize hs6:s5.rdN (C+(0+0))=s6 at *
  try simp only[Ac,W_oS,W_on,Aa,W_mv,Ab,Ap,T.get_set,Af,Ae,Ao,Al,Ad,Ai,reduceIte,Ah,Av,As,Au,Ak,Aq,Ar,Aw,Aj,An,Nat.reduceEqDiff,reduceCtorEq, ↓reduceIte]
  refine PJ_.w Xf_ (by omega) ?_
  simp only[WL,Ac,W_oS,W_on,Aa,W_mv,Ab,Ap,T.get_set,Af,Ae,Ao,Al,Ad,Ai,reduceIte,Ah,Av,As,Au,Ak,Aq,Ar,Aw,Aj,An,Nat.reduceEqDiff,reduceCtorEq, ↓reduceIte,h0]
  refine YE_ (f:=f) (xa6.bnd hb0) (hp.ext0 xa6) (by omega) (fun j u e=>((o3' j u e).ext0 y6).at') (gB3.ext0 y6) (by omega) fun s7 r x7 hr=> ?_
  have xa7:=xa6.then0 x7 hb0
  have y7:Ext Any Non s3 s7:=y6.then0 x7 hb3
  have hb7:=xa7.bnd hb0
  try simp only[Ac,W_oS,W_on,Aa,W_mv,Ab,Ap,T.get_set,Af,Ae,Ao,Al,Ad,Ai,reduceIte,Ah,Av,As,Au,Ak,Aq,Ar,Aw,Aj,An,Nat.reduceEqDiff,reduceCtorEq, ↓reduceIte]
  refine OT_.w Ve_ (by omega) ?_
  simp only[Bv_,Ac,W_oS,W_on,Aa,W_mv,Ab,Ap,T.get_set,Af,Ae,Ao,Al,Ad,Ai,reduceIte,Ah,Av,As,Au,Ak,Aq,Ar,Aw,Aj,An,Nat.reduceEqDiff,reduceCtorEq, ↓reduceIte,AD,AL,AC,AK,AT,AP,AQ,AM]
  rcases hr with⟨rfl,hr⟩|⟨j,hj,rfl,hr⟩
  ·rw[hr]at hK hSC
   refine W.cond (v:=false) Af_ FP_ (by simp[T.get_set]) (by omega) (fun h=>by cases h) fun _=> ?_
   refine XO_.w Add_ (by omega) ?_
   simp only[As_,Ac,W_oS,W_on,Aa,W_mv,Ab,Ap,T.get_set,Af,Ae,Ao,Al,Ad,Ai,reduceIte,Ah,Av,As,Au,Ak,Aq,Ar,Aw,Aj,An,Nat.reduceEqDiff,reduceCtorEq, ↓reduceIte,Be H4 (by decide)]
   refine W.load1 CL (f1.ext0 y7).at' ?_
   have xa8:=xa7.thenRd hb0 (C+(0+1))
   have y8:=y7.thenRd hb3 (C+(0+1))
   generalize hs8:s7.rdN (C+(0+1))=s8 at *
   try simp only[Ac,W_oS,W_on,Aa,W_mv,Ab,Ap,T.get_set,Af,Ae,Ao,Al,Ad,Ai,reduceIte,Ah,Av,As,Au,Ak,Aq,Ar,Aw,Aj,An,Nat.reduceEqDiff,reduceCtorEq, ↓reduceIte]
   refine Ec_ (xa8.bnd hb0) (gB3.ext0 y8) (Bs.lt (gB3.ext0 y8)) gby (by omega) (by omega) fun s9 w x9 hw=> ?_
   have xa9:=xa8.then0 x9 hb0
   have y9:=y8.then0 x9 hb3
   obtain⟨hwi,hwl⟩:=hw.hi
   rw[B2 (k:=0) rfl,B2 (k:=1) rfl,B2 (k:=2) rfl,B2 (k:=3) rfl]
   try simp only[Ac,W_oS,W_on,Aa,W_mv,Ab,Ap,T.get_set,Af,Ae,Ao,Al,Ad,Ai,reduceIte,Ah,Av,As,Au,Ak,Aq,Ar,Aw,Aj,An,Nat.reduceEqDiff,reduceCtorEq, ↓reduceIte]
   refine Abx_.w Gz_ (by omega) ?_
   simp only[YG,Ac,W_oS,W_on,Aa,W_mv,Ab,Ap,T.get_set,Af,Ae,Ao,Al,Ad,Ai,reduceIte,Ah,Av,As,Au,Ak,Aq,Ar,Aw,Aj,An,Nat.reduceEqDiff,reduceCtorEq, ↓reduceIte,h6,Be Eb (by decide)]
   refine W.load1 Bl (f0.ext0 y9).at' ?_
   simp only[Ac,W_oS,W_on,Aa,W_mv,Ab,Ap,T.get_set,Af,Ae,Ao,Al,Ad,Ai,reduceIte,Ah,Av,As,Au,Ak,Aq,Ar,Aw,Aj,An,Nat.reduceEqDiff,reduceCtorEq, ↓reduceIte,Be H4 (by decide)]
   refine W.load1 CL ((f1.ext0 y9).same rfl rfl).at' ?_
   try simp only[Ac,W_oS,W_on,Aa,W_mv,Ab,Ap,T.get_set,Af,Ae,Ao,Al,Ad,Ai,reduceIte,Ah,Av,As,Au,Ak,Aq,Ar,Aw,Aj,An,Nat.reduceEqDiff,reduceCtorEq, ↓reduceIte]
   have y10:=(y9.thenRd hb3 (C+(0+0))).thenRd hb3 (C+(0+1))
   have xa10:=(xa9.thenRd hb0 (C+(0+0))).thenRd hb0 (C+(0+1))
   have z10:Ext Any Non s9 ((s9.rdN (C+(0+0))).rdN (C+(0+1))):=((Ext.refl (F:=Any) (G:=Non) s9).thenRd (xa9.bnd hb0) _).thenRd (xa9.bnd hb0) _
   generalize hs10:((s9.rdN (C+(0+0))).rdN (C+(0+1)))=s10 at *
   rw[gB3.len' BD]
   try simp only[Ac,W_oS,W_on,Aa,W_mv,Ab,Ap,T.get_set,Af,Ae,Ao,Al,Ad,Ai,reduceIte,Ah,Av,As,Au,Ak,Aq,Ar,Aw,Aj,An,Nat.reduceEqDiff,reduceCtorEq, ↓reduceIte]
   obtain⟨wa,wn,wc,ew⟩:=hwi.slice
   rw[ew,EQ (Mb_ f.num (f.l.length:Nat) wa wn wc),←ew]
   try simp only[Ac,W_oS,W_on,Aa,W_mv,Ab,Ap,T.get_set,Af,Ae,Ao,Al,Ad,Ai,reduceIte,Ah,Av,As,Au,Ak,Aq,Ar,Aw,Aj,An,Nat.reduceEqDiff,reduceCtorEq, ↓reduceIte]
   have hO10:=hO3.ext0 y10
   have hn8:s3.next≤s8.next:=y8.nxt
   refine Bo_ (n:=n) (p:=⟨f.num,(f.l.length:Nat),w,(BV f.l).1.map toI⟩) hb0 xa10 hO10 (hwi.ext0 z10) (Ok_ f.l) (fun x hx=> ?_) (by omega) fun s11 v11 b11 xa11 x11 hO11=> ?_
   ·have h1:=hwl x hx
    have h2:=xa8.nxt
    refine⟨by omega,fun h=> ?_,fun h=> ?_⟩
    ·have:=hO3.mo.lt x h;omega
    ·have:=hO3.ms.lt x h;omega
   try simp only[Ac,W_oS,W_on,Aa,W_mv,Ab,Ap,T.get_set,Af,Ae,Ao,Al,Ad,Ai,reduceIte,Ah,Av,As,Au,Ak,Aq,Ar,Aw,Aj,An,Nat.reduceEqDiff,reduceCtorEq, ↓reduceIte]
   refine KW_.w MB_ (by omega) ?_
   have f0b:Own s11 C (0+0) (.int .i64 f.num):=(f0.ext0 y10).ext x11 fun h=>by
    have:=hO.mo.lt _ h
    omega
   simp only[WB,Ac,W_oS,W_on,Aa,W_mv,Ab,Ap,T.get_set,Af,Ae,Ao,Al,Ad,Ai,reduceIte,Ah,Av,As,Au,Ak,Aq,Ar,Aw,Aj,An,Nat.reduceEqDiff,reduceCtorEq, ↓reduceIte,h7,Be Eb (by decide)]
   refine W.load1 Bl f0b.at' ?_
   have xa12:=xa11.thenRd hb0 (C+(0+0))
   try simp only[Ac,W_oS,W_on,Aa,W_mv,Ab,Ap,T.get_set,Af,Ae,Ao,Al,Ad,Ai,reduceIte,Ah,Av,As,Au,Ak,Aq,Ar,Aw,Aj,An,Nat.reduceEqDiff,reduceCtorEq, ↓reduceIte]
   refine JS_ (m:=f.num) hb0 xa12 (hO11.ext0 (Ext.rdN (F:=Any) s11 _ fun _=>trivial)) (by omega) fun s13 v13 b13 xa13 hO13=> ?_
   try simp only[Ac,W_oS,W_on,Aa,W_mv,Ab,Ap,T.get_set,Af,Ae,Ao,Al,Ad,Ai,reduceIte,Ah,Av,As,Au,Ak,Aq,Ar,Aw,Aj,An,Nat.reduceEqDiff,reduceCtorEq, ↓reduceIte]
   refine next _ f.num _ _ v11 v13 b11 b13 _ _ _ (by omega) Xq_ xa13 hO13 (by simp;omega) (by simp;omega) ?_ ?_ (by simp[T.get_set,h0]) (by simp[T.get_set]) (by simp[T.get_set]) (by simp[T.get_set]) (by simp[T.get_set,h17,ev]) (by simp[T.get_set,h18]) (by simp[T.get_set,h19])
   ·rw[List.map_append,List.append_assoc]
    exact hK
   ·rw[List.append_assoc]
    exact hSC
  ·rw[hr]at hK hSC
   refine W.cond (v:=true) Af_ FP_ (by simp[T.get_set]) (by omega) (fun _=> ?_) fun h=>by cases h
   obtain⟨b',o',c',ev',gp,ghp,g16,_,_⟩:=(hp.ext0 xa7).at hj
   have hzj:=hzp _ (List.getElem_mem hj)
   generalize hpj:ps[j]=p at *
   refine SO_.w UE_ (by omega) ?_
   simp only[Vu,Ac,W_oS,W_on,Aa,W_mv,Ab,Ap,T.get_set,Af,Ae,Ao,Al,Ad,Ai,reduceIte,Ah,Av,As,Au,Ak,Aq,Ar,Aw,Aj,An,Nat.reduceEqDiff,reduceCtorEq, ↓reduceIte,h0,ev',BC Ch hj]
   refine W.loadA C3 gp rfl fun s8 m8 n8 x8=> ?_
   try simp only[Ac,W_oS,W_on,Aa,W_mv,Ab,Ap,T.get_set,Af,Ae,Ao,Al,Ad,Ai,reduceIte,Ah,Av,As,Au,Ak,Aq,Ar,Aw,Aj,An,Nat.reduceEqDiff,reduceCtorEq, ↓reduceIte]
   refine W.alloc L0 fun s9 n9 x9 o9=> ?_
   try simp only[Ac,W_oS,W_on,Aa,W_mv,Ab,Ap,T.get_set,Af,Ae,Ao,Al,Ad,Ai,reduceIte,Ah,Av,As,Au,Ak,Aq,Ar,Aw,Aj,An,Nat.reduceEqDiff,reduceCtorEq, ↓reduceIte]
   have n9':s9.next=s8.next+4:=n9
   refine W.store C3 (v:= .agg (pkC p).toArray) rfl (OB ghp) (fun j hj=>Ay.owned o9 j (by simpa using hj)) fun s10 n10 x10 o10=> ?_
   rw[DI]at o10
   have xs9:Ext Any Non s7 s9:=(x8.any hb7).then0 x9 hb7
   have hl78:s7.next≤s8.next:=x8.nxt
   have xs10:Ext Any Non s7 s10:=xs9.trans x10 hb7 (fun _ _ _=>trivial) fun y hy h=>by
    have h1:=h.1
    omega
   have xa10:=xa7.then0 xs10 hb0
   have y10:=y7.then0 xs10 hb3
   have o10':Ay s10 s8.next 0 (pkC p):=o10
   have p0:Own s10 s8.next (0+0) (.int .i64 p.num):=o10' 0 _ rfl
   have p1:Own s10 s8.next (0+1) (.int .i64 p.size):=o10' 1 _ rfl
   have p2:Own s10 s8.next (0+2) p.v:=o10' 2 _ rfl
   have hDn:s8.next+4=s10.next:=by omega
   have hD3:s3.next≤s8.next:=Nat.le_trans y7.nxt hl78
   generalize hD:s8.next=D at *
   refine Nz_.w Hv_ (by omega) ?_
   simp only[UU,Ac,W_oS,W_on,Aa,W_mv,Ab,Ap,T.get_set,Af,Ae,Ao,Al,Ad,Ai,reduceIte,Ah,Av,As,Au,Ak,Aq,Ar,Aw,Aj,An,Nat.reduceEqDiff,reduceCtorEq, ↓reduceIte,Be EJ (by decide)]
   refine W.load1 Da p2.at' ?_
   have xa11:=xa10.thenRd hb0 (D+(0+2))
   have z11:Ext Any Non s10 (s10.rdN (D+(0+2))):=(Ext.refl (F:=Any) (G:=Non) s10).thenRd (xa10.bnd hb0) _
   generalize hs11:s10.rdN (D+(0+2))=s11 at *
   have n11:s11.next=s10.next:=by rw[←hs11];rfl
   try simp only[Ac,W_oS,W_on,Aa,W_mv,Ab,Ap,T.get_set,Af,Ae,Ao,Al,Ad,Ai,reduceIte,Ah,Av,As,Au,Ak,Aq,Ar,Aw,Aj,An,Nat.reduceEqDiff,reduceCtorEq, ↓reduceIte]
   refine AbV_ (xa11.bnd hb0) ((ghp.ext0 xs10).ext0 z11) g16 hzj (by omega) fun s12 w x12 hw hwl=> ?_
   have xa12:=xa11.then0 x12 hb0
   have z12:Ext Any Non s10 s12:=z11.then0 x12 (xa10.bnd hb0)
   try simp only[Ac,W_oS,W_on,Aa,W_mv,Ab,Ap,T.get_set,Af,Ae,Ao,Al,Ad,Ai,reduceIte,Ah,Av,As,Au,Ak,Aq,Ar,Aw,Aj,An,Nat.reduceEqDiff,reduceCtorEq, ↓reduceIte,Be EJ (by decide)]
   refine W.store1 Da hw.one (p2.ext0 z12) fun s13 n13 x13 o13=> ?_
   have z13:Ext Any (In D (0+2) 1) s10 s13:=(z12.weak (xa10.bnd hb0) (fun _ _ h=>h) fun _ _ h=>h.elim).trans x13 (xa10.bnd hb0) (fun _ _ _=>trivial) fun _ _ h=>h
   have xa13:Ext Any Non s0 s13:=xa12.trans x13 hb0 (fun _ _ _=>trivial) fun y hy h=>by
    have h1:=h.1
    have h2:=hx.nxt
    omega
   have q0:Own s13 D (0+0) (.int .i64 p.num):=p0.ext z13 fun h=>by have h1:=h.1;omega
   have q1:Own s13 D (0+1) (.int .i64 p.size):=p1.ext z13 fun h=>by have h1:=h.1;omega
   have hw13:HiR s13 w p.hs:=hw.ext g16 x13 fun x hx h=>by
    have h1:=hwl x hx
    have h2:=h.2
    omega
   have rowD:Row s13 D 0 (pkC ⟨p.num,p.size,w,p.hs⟩):=fun j u e=>by
    match j,e with
    |0,e=>cases e;exact q0.at'
    |1,e=>cases e;exact q1.at'
    |2,e=>cases e;exact o13.at'
    |j+3,e=>cases e
   try simp only[Ac,W_oS,W_on,Aa,W_mv,Ab,Ap,T.get_set,Af,Ae,Ao,Al,Ad,Ai,reduceIte,Ah,Av,As,Au,Ak,Aq,Ar,Aw,Aj,An,Nat.reduceEqDiff,reduceCtorEq, ↓reduceIte]
   refine OE_.w Jr_ (by omega) ?_
   simp only[Zl,Ac,W_oS,W_on,Aa,W_mv,Ab,Ap,T.get_set,Af,Ae,Ao,Al,Ad,Ai,reduceIte,Ah,Av,As,Au,Ak,Aq,Ar,Aw,Aj,An,Nat.reduceEqDiff,reduceCtorEq, ↓reduceIte,h6]
   refine W.loadA C3 rowD rfl fun s14 m14 n14 x14=> ?_
   have xa14:=xa13.then0 x14 hb0
   have hO13:MgO s0 s13 os sc vo vs bo bs:=by
    have h10:=hO3.ext0 y10
    have g3: ∀x,MkF 3 os.length bo x→ ¬In D (0+2) 1 x:=fun x h1 h2=>by
     have:=hO3.mo.lt x h1
     have:=h2.1
     omega
    have g4: ∀x,MkF 1 sc.length bs x→ ¬In D (0+2) 1 x:=fun x h1 h2=>by
     have:=hO3.ms.lt x h1
     have:=h2.1
     omega
    exact⟨h10.mo.ext z13 g3,h10.ms.ext z13 g4,h10.no,h10.ns,h10.dj,fun o ho=>⟨(h10.hs o ho).1.ext (h10.hs o ho).2.1 z13 fun x h1 h2=>by
     have h3:=(hO3.hs o ho).1.lt (hO3.hs o ho).2.1 x h1
     have h4:=h2.1
     omega,(h10.hs o ho).2⟩⟩
   try simp only[Ac,W_oS,W_on,Aa,W_mv,Ab,Ap,T.get_set,Af,Ae,Ao,Al,Ad,Ai,reduceIte,Ah,Av,As,Au,Ak,Aq,Ar,Aw,Aj,An,Nat.reduceEqDiff,reduceCtorEq, ↓reduceIte]
   refine Bo_ (n:=n) (p:=⟨p.num,p.size,w,p.hs⟩) hb0 xa14 (hO13.ext0 x14) (hw13.ext0 x14) g16 (fun x hx=> ?_) (by omega) fun s15 v15 b15 xa15 x15 hO15=> ?_
   ·have h1:=hwl x hx
    have h2:=xa11.nxt
    have h3:=y10.nxt
    refine⟨by omega,fun h=> ?_,fun h=> ?_⟩
    ·have:=hO3.mo.lt x h;omega
    ·have:=hO3.ms.lt x h;omega
   try simp only[Ac,W_oS,W_on,Aa,W_mv,Ab,Ap,T.get_set,Af,Ae,Ao,Al,Ad,Ai,reduceIte,Ah,Av,As,Au,Ak,Aq,Ar,Aw,Aj,An,Nat.reduceEqDiff,reduceCtorEq, ↓reduceIte]
   have hkey:p.num=f.num:=by
    have:=List.find?_some hr
    unfold hitP at this
    rw[Bool.and_eq_true,decide_eq_true_eq]at this
    exact this.1
   refine next _ f.num _ _ v15 vs b15 bs _ _ _ (by omega) Km_ xa15 hO15 (by simp;omega) (by omega) ?_ hSC (by simp[T.get_set,h0]) (by simp[T.get_set]) (by simp[T.get_set,h7]) (by simp[T.get_set]) (by simp[T.get_set,h17,ev]) (by simp[T.get_set,h18]) (by simp[T.get_set,h19])
   rw[List.map_append,List.append_assoc]
   exact hK
theorem Rn {n:Nat}{s:St}{Q:Value→St→Prop}(hb:s.lim≤s.next)(hp:PkR s vp ps)(hf:FdR s vf fs)(hps:ps.length≤1000000)(hzp: ∀p∈ps,p.hs.length≤400000)(hfs:fs.length≤90000)(hzf: ∀f∈fs,f.l.length≤200000)(hn:33000000≤n)
  (q: ∀s1 os sc vo vs,Ext Any Non s s1→PkR s1 vo os→os.map PkI.key=(Bd ps 0 fs).1→IntR s1 vs sc→sc=(Bd ps 0 fs).2→Q (.tuple #[vo,vs]) s1):
  W (AJ envS (runF envS n) 55 [vp,vf]) s Q:=by
 refine RV_ fun tm h0 h1=> ?_
 have hf':FdR (s.cxN cxN) vf fs:=hf.same rfl rfl
 refine PI_.w rfl (by omega) ?_
 simp only[EJ_,Ac,W_oS,W_on,Aa,W_mv,Ab,Ap,T.get_set,Af,Ae,Ao,Al,Ad,Ai,reduceIte,Ah,Av,As,Au,Ak,Aq,Ar,Aw,Aj,An,Nat.reduceEqDiff,reduceCtorEq, ↓reduceIte]
 refine GF_.w Pe_ (by omega) ?_
 simp only[W7,Ac,W_oS,W_on,Aa,W_mv,Ab,Ap,T.get_set,Af,Ae,Ao,Al,Ad,Ai,reduceIte,Ah,Av,As,Au,Ak,Aq,Ar,Aw,Aj,An,Nat.reduceEqDiff,reduceCtorEq, ↓reduceIte]
 refine Aec_.w MI_ (by omega) ?_
 simp only[Gd_,Ac,W_oS,W_on,Aa,W_mv,Ab,Ap,T.get_set,Af,Ae,Ao,Al,Ad,Ai,reduceIte,Ah,Av,As,Au,Ak,Aq,Ar,Aw,Aj,An,Nat.reduceEqDiff,reduceCtorEq, ↓reduceIte]
 refine IK_.w Nj_ (by omega) ?_
 simp only[AV_,Ac,W_oS,W_on,Aa,W_mv,Ab,Ap,T.get_set,Af,Ae,Ao,Al,Ad,Ai,reduceIte,Ah,Av,As,Au,Ak,Aq,Ar,Aw,Aj,An,Nat.reduceEqDiff,reduceCtorEq, ↓reduceIte]
 refine Xu_.w UW_ (by omega) ?_
 simp only[Vi,Ac,W_oS,W_on,Aa,W_mv,Ab,Ap,T.get_set,Af,Ae,Ao,Al,Ad,Ai,reduceIte,Ah,Av,As,Au,Ak,Aq,Ar,Aw,Aj,An,Nat.reduceEqDiff,reduceCtorEq, ↓reduceIte,h1]
 rw[hf'.len]
 try simp only[Ac,W_oS,W_on,Aa,W_mv,Ab,Ap,T.get_set,Af,Ae,Ao,Al,Ad,Ai,reduceIte,Ah,Av,As,Au,Ak,Aq,Ar,Aw,Aj,An,Nat.reduceEqDiff,reduceCtorEq, ↓reduceIte]
 exact YM_ (s0:=s.cxN cxN) (K:=(Bd ps 0 fs).1) (SC:=(Bd ps 0 fs).2) hb (hp.same rfl rfl) hf' hps hzp hfs hzf rfl (fun s1 os sc vo vs x1 g1 g2 g3 g4=>q _ os sc vo vs x1.cx' (g1.same rfl rfl) g2 (g3.same rfl rfl) g4) fs.length 0 _ 0 [] [] _ _ s.next s.next _ _ _ (by omega) (by omega) AdS_ (Ext.refl _)
  ⟨.inl ⟨rfl,rfl,rfl⟩, .inl ⟨rfl,rfl,rfl⟩,Nat.le_refl _,Nat.le_refl _,fun x h=>absurd h.1 (Nat.lt_irrefl 0),fun o ho=>by cases ho⟩ (by simp) (by simp) (by simp) (by simp) (by simp[T.get_set,h0]) (by simp[T.get_set]) (by simp[T.get_set]) (by simp[T.get_set]) (by simp[T.get_set]) (by simp[T.get_set]) (by simp[T.get_set])
end
def BT:Nat:=Bw Try.f43
abbrev JY:Nat:=65
def Wj:Code:=Try.f43.body.getD .skip
theorem IC:envS.fn.get 43=some Try.f43:=by kernel_rfl
theorem LC_ {a0:Value}{n:Nat}{s:St}{Q:Value→St→Prop}(h: ∀tm,T.get tm 0=some a0→W (runF envS n ⟨43,65,BT,tm,[.code Wj], .run, .normal,none⟩) (s.cxN cxN) fun p s1=>Q p.1 (s1.cxN s.cx)):W (AJ envS (runF envS n) 43 [a0]) s Q:=
 W.call (by kernel_rfl) (by kernel_rfl) IC (by kernel_rfl) rfl rfl (by simp) (h _ (by kernel_rfl))
theorem OD:Try.f43.results.toList=[.tmp 2]:=by kernel_rfl
def Th:List Item:=skim 64 [.code Wj]
def Mw:List Item:=skim 64 Th.tail
theorem JO_:skim 64 Th.tail=Mw:=by kernel_rfl
def LP:List Item:=skim 64 Mw.tail
theorem IJ_:skim 64 Mw.tail=LP:=by kernel_rfl
def H8:List Item:=skim 64 LP.tail
theorem OZ_:skim 64 LP.tail=H8:=by kernel_rfl
def Hs:List Item:=skim 64 H8.tail
theorem Cq_:skim 64 H8.tail=Hs:=by kernel_rfl
def J7:List Item:=skim 64 (brT Hs)
theorem Jj_:skim 64 (brT Hs)=J7:=by kernel_rfl
def M1:List Item:=skim 64 (brF Hs)
theorem Jd_:skim 64 (brF Hs)=M1:=by kernel_rfl
def NM:List Item:=skim 64 J7.tail
theorem Ow_:skim 64 J7.tail=NM:=by kernel_rfl
def FA:List Item:=skim 64 M1.tail
theorem O7:skim 64 M1.tail=FA:=by kernel_rfl
def Su:List Item:=skim 64 NM.tail
theorem YD_:skim 64 NM.tail=Su:=by kernel_rfl
def KU:List Item:=skim 64 (brT FA)
theorem Pl_:skim 64 (brT FA)=KU:=by kernel_rfl
def Ol:List Item:=skim 64 (brF FA)
theorem KG_:skim 64 (brF FA)=Ol:=by kernel_rfl
theorem ZK_:skim 64 Su.tail=H8:=by kernel_rfl
def Ts:List Item:=skim 64 KU.tail
theorem AcU_:skim 64 KU.tail=Ts:=by kernel_rfl
def G6:List Item:=skim 64 Ol.tail
theorem AfE_:skim 64 Ol.tail=G6:=by kernel_rfl
def Gw:List Item:=skim 64 G6.tail
theorem AM_:skim 64 G6.tail=Gw:=by kernel_rfl
def MW:List Item:=skim 64 (brT Gw)
theorem Qu_:skim 64 (brT Gw)=MW:=by kernel_rfl
def LU:List Item:=skim 64 (brF Gw)
theorem La_:skim 64 (brF Gw)=LU:=by kernel_rfl
def Nm:List Item:=skim 64 MW.tail
theorem OQ_:skim 64 MW.tail=Nm:=by kernel_rfl
def Hn:List Item:=skim 64 LU.tail
theorem JA_:skim 64 LU.tail=Hn:=by kernel_rfl
def GC:List Item:=skim 64 Nm.tail
theorem Ez_:skim 64 Nm.tail=GC:=by kernel_rfl
def H9:List Item:=skim 64 Hn.tail
theorem Dj_:skim 64 Hn.tail=H9:=by kernel_rfl
def OY:List Item:=skim 64 (brT GC)
theorem Abb_:skim 64 (brT GC)=OY:=by kernel_rfl
def Qm:List Item:=skim 64 (brF GC)
theorem XM_:skim 64 (brF GC)=Qm:=by kernel_rfl
def KD:List Item:=skim 64 (brT H9)
theorem Re_:skim 64 (brT H9)=KD:=by kernel_rfl
def Nz:List Item:=skim 64 (brF H9)
theorem Wr_:skim 64 (brF H9)=Nz:=by kernel_rfl
def Sc:List Item:=skim 64 OY.tail
theorem KK_:skim 64 OY.tail=Sc:=by kernel_rfl
theorem AbI_:skim 64 Qm.tail=G6:=by kernel_rfl
def IT:List Item:=skim 64 KD.tail
theorem Wj_:skim 64 KD.tail=IT:=by kernel_rfl
def O5:List Item:=skim 64 Nz.tail
theorem Vy_:skim 64 Nz.tail=O5:=by kernel_rfl
def Fe:List Item:=skim 64 IT.tail
theorem PG:skim 64 IT.tail=Fe:=by kernel_rfl
def Ly:List Item:=skim 64 (brT Fe)
theorem Aai_:skim 64 (brT Fe)=Ly:=by kernel_rfl
def TM:List Item:=skim 64 (brF Fe)
theorem Aaj_:skim 64 (brF Fe)=TM:=by kernel_rfl
def Q9:List Item:=skim 64 Ly.tail
theorem Xh_:skim 64 Ly.tail=Q9:=by kernel_rfl
theorem AbC_:skim 64 TM.tail=Hn:=by kernel_rfl
def AL_ (E:Env)(call round:Ag)(tm:T Value):M (T Value):=
 mv (some (.int .i64 0)) fun v2=>
 setF 2 v2 tm fun tm1=>
 M.pure tm1
theorem Iy_:RegEq 43 65 BT Th AL_:=⟨by kernel_rfl,fun _ _ _ _ _ _ _ _ _=>by kernel_rfl⟩
def Ye (E:Env)(call round:Ag)(tm:T Value):M (T Value):=
 mv (some (.int .i64 0)) fun v3=>
 setF 3 v3 tm fun tm1=>
 M.pure tm1
theorem SQ_:RegEq 43 65 BT Mw Ye:=⟨by kernel_rfl,fun _ _ _ _ _ _ _ _ _=>by kernel_rfl⟩
def XK (E:Env)(call round:Ag)(tm:T Value):M (T Value):=
 mv (T.get tm 0) fun v10=>
 setF 10 v10 tm fun tm1=>
 M.bind (oS (seqO [(some v10)]) fun l=>A7 E .len [55] l) fun v11=>
 setF 11 v11 tm1 fun tm2=>
 mv (some (.int .i64 0)) fun v12=>
 setF 12 v12 tm2 fun tm3=>
 M.pure tm3
theorem AcW_:RegEq 43 65 BT LP XK:=⟨by kernel_rfl,fun _ _ _ _ _ _ _ _ _=>by kernel_rfl⟩
def TQ (E:Env)(call round:Ag)(tm:T Value):M (T Value):=
 M.bind (oS (T.get tm 12) fun a=>oS (T.get tm 11) fun b=>Cl.get (aBin E .lss 3 (.tmp 12) (.tmp 11)) a b) fun v13=>
 setF 13 v13 tm fun tm1=>
 M.pure tm1
theorem BB_:RegEq 43 65 BT H8 TQ:=⟨by kernel_rfl,fun _ _ _ _ _ _ _ _ _=>by kernel_rfl⟩
theorem Zh:Bg Hs=some 13:=by kernel_rfl
def ZP (E:Env)(call round:Ag)(tm:T Value):M (T Value):=
 M.bind (oS (T.get tm 10) fun a=>oS (T.get tm 12) fun b=>Bo E 55 a b) fun v14=>
 M.bind (oS (some v14) fun a=>AE E 85 a) fun v15=>
 M.bind (BN E 85) fun v5=>
 setF 5 v5 tm fun tm1=>
 M.bind (oS (some v5) fun a=>oS (some v15) fun b=>Bt E 85 a b) fun _=>
 M.pure tm1
theorem Tz_:RegEq 43 65 BT J7 ZP:=⟨by kernel_rfl,fun _ _ _ _ _ _ _ _ _=>by kernel_rfl⟩
def El_ (E:Env)(call round:Ag)(tm:T Value):M (T Value):=
 mv (T.get tm 0) fun v22=>
 M.bind (oS (seqO [(some v22)]) fun l=>A7 E .len [55] l) fun v23=>
 M.bind (oS (some v23) fun a=>oS (some (.int .i64 500)) fun b=>Cl.get (aBin E .gtr 3 (.tmp 23) (.const (.int .i64 500))) a b) fun v24=>
 mv (some v24) fun v25=>
 M.bind (M.chk (isK v25) (M.if (isB v25 false) (oS (T.get tm 3) fun a=>M.pure a) (M.pure undef))) fun v26=>
 M.bind (M.chk (isK v25) (M.if (isB v25 false) (oS (some v26) fun a=>oS (some (.int .i64 20000)) fun b=>Cl.get (aBin E .gtr 3 (.tmp 26) (.const (.int .i64 20000))) a b) (M.pure undef))) fun v27=>
 M.bind (M.on (some v25) fun a=>M.on (some (.bool true)) fun b=>M.on (some v27) fun c=>Bv a b c) fun v28=>
 setF 28 v28 tm fun tm1=>
 M.pure tm1
theorem GR_:RegEq 43 65 BT M1 El_:=⟨by kernel_rfl,fun _ _ _ _ _ _ _ _ _=>by kernel_rfl⟩
def YB (E:Env)(call round:Ag)(tm:T Value):M (T Value):=
 mv (T.get tm 3) fun v16=>
 M.bind (oS (T.get tm 5) fun a=>kFld E 85 a 2) fun v17=>
 M.bind (oS (some v17) fun a=>AE E 36 a) fun v18=>
 M.bind (oS (seqO [(some v18)]) fun l=>A7 E .len [36] l) fun v19=>
 M.bind (oS (some v16) fun a=>oS (some v19) fun b=>Cl.get (aBin E .add 3 (.tmp 16) (.tmp 19)) a b) fun v20=>
 mv (some v20) fun v3=>
 setF 3 v3 tm fun tm1=>
 M.pure tm1
theorem KX_:RegEq 43 65 BT NM YB:=⟨by kernel_rfl,fun _ _ _ _ _ _ _ _ _=>by kernel_rfl⟩
theorem ZW:Bg FA=some 28:=by kernel_rfl
def Y3 (E:Env)(call round:Ag)(tm:T Value):M (T Value):=
 M.bind (oS (T.get tm 12) fun a=>oS (some (.int .i64 1)) fun b=>Cl.get (aBin E .add 3 (.tmp 12) (.const (.int .i64 1))) a b) fun v21=>
 mv (some v21) fun v12=>
 setF 12 v12 tm fun tm1=>
 M.pure tm1
theorem GO_:RegEq 43 65 BT Su Y3:=⟨by kernel_rfl,fun _ _ _ _ _ _ _ _ _=>by kernel_rfl⟩
def Ep_ (E:Env)(call round:Ag)(tm:T Value):M (T Value):=
 mv (some (.int .i64 3)) fun v2=>
 setF 2 v2 tm fun tm1=>
 M.pure tm1
theorem Aeo_:RegEq 43 65 BT KU Ep_:=⟨by kernel_rfl,fun _ _ _ _ _ _ _ _ _=>by kernel_rfl⟩
def Vn (E:Env)(call round:Ag)(tm:T Value):M (T Value):=
 mv (T.get tm 0) fun v29=>
 setF 29 v29 tm fun tm1=>
 M.bind (oS (seqO [(some v29)]) fun l=>A7 E .len [55] l) fun v30=>
 setF 30 v30 tm1 fun tm2=>
 mv (some (.int .i64 0)) fun v31=>
 setF 31 v31 tm2 fun tm3=>
 M.pure tm3
theorem Ub_:RegEq 43 65 BT Ol Vn:=⟨by kernel_rfl,fun _ _ _ _ _ _ _ _ _=>by kernel_rfl⟩
theorem Po_: ∃k,Ts= .code .ret::k:=⟨Ts.tail,by kernel_rfl⟩
def PT (E:Env)(call round:Ag)(tm:T Value):M (T Value):=
 M.bind (oS (T.get tm 31) fun a=>oS (T.get tm 30) fun b=>Cl.get (aBin E .lss 3 (.tmp 31) (.tmp 30)) a b) fun v32=>
 setF 32 v32 tm fun tm1=>
 M.pure tm1
theorem AF_:RegEq 43 65 BT G6 PT:=⟨by kernel_rfl,fun _ _ _ _ _ _ _ _ _=>by kernel_rfl⟩
theorem Wy:Bg Gw=some 32:=by kernel_rfl
def Xa (E:Env)(call round:Ag)(tm:T Value):M (T Value):=
 M.bind (oS (T.get tm 29) fun a=>oS (T.get tm 31) fun b=>Bo E 55 a b) fun v33=>
 M.bind (oS (some v33) fun a=>AE E 85 a) fun v34=>
 M.bind (BN E 85) fun v7=>
 setF 7 v7 tm fun tm1=>
 M.bind (oS (some v7) fun a=>oS (some v34) fun b=>Bt E 85 a b) fun _=>
 M.pure tm1
theorem Kr_:RegEq 43 65 BT MW Xa:=⟨by kernel_rfl,fun _ _ _ _ _ _ _ _ _=>by kernel_rfl⟩
def Ca_ (E:Env)(call round:Ag)(tm:T Value):M (T Value):=
 mv (T.get tm 0) fun v39=>
 setF 39 v39 tm fun tm1=>
 M.bind (oS (seqO [(some v39)]) fun l=>A7 E .len [55] l) fun v40=>
 setF 40 v40 tm1 fun tm2=>
 mv (some (.int .i64 0)) fun v41=>
 setF 41 v41 tm2 fun tm3=>
 M.pure tm3
theorem Sd_:RegEq 43 65 BT LU Ca_:=⟨by kernel_rfl,fun _ _ _ _ _ _ _ _ _=>by kernel_rfl⟩
def EA_ (E:Env)(call round:Ag)(tm:T Value):M (T Value):=
 M.bind (oS (T.get tm 7) fun a=>AE E 85 a) fun v35=>
 M.bind (M.on (some (.func (.func 94) #[] #[])) fun f=>M.on (seqO [(some v35)]) fun l=>Bh call round f l) fun v36=>
 M.bind (oS (some v36) fun a=>kUn E.P .not a) fun v37=>
 setF 37 v37 tm fun tm1=>
 M.pure tm1
theorem Yr_:RegEq 43 65 BT Nm EA_:=⟨by kernel_rfl,fun _ _ _ _ _ _ _ _ _=>by kernel_rfl⟩
def R9 (E:Env)(call round:Ag)(tm:T Value):M (T Value):=
 M.bind (oS (T.get tm 41) fun a=>oS (T.get tm 40) fun b=>Cl.get (aBin E .lss 3 (.tmp 41) (.tmp 40)) a b) fun v42=>
 setF 42 v42 tm fun tm1=>
 M.pure tm1
theorem Yz:RegEq 43 65 BT Hn R9:=⟨by kernel_rfl,fun _ _ _ _ _ _ _ _ _=>by kernel_rfl⟩
theorem AD_:Bg GC=some 37:=by kernel_rfl
theorem Xz:Bg H9=some 42:=by kernel_rfl
def YQ (E:Env)(call round:Ag)(tm:T Value):M (T Value):=
 mv (some (.int .i64 5)) fun v2=>
 setF 2 v2 tm fun tm1=>
 M.pure tm1
theorem Kt_:RegEq 43 65 BT OY YQ:=⟨by kernel_rfl,fun _ _ _ _ _ _ _ _ _=>by kernel_rfl⟩
def Uc (E:Env)(call round:Ag)(tm:T Value):M (T Value):=
 M.bind (oS (T.get tm 31) fun a=>oS (some (.int .i64 1)) fun b=>Cl.get (aBin E .add 3 (.tmp 31) (.const (.int .i64 1))) a b) fun v38=>
 mv (some v38) fun v31=>
 setF 31 v31 tm fun tm1=>
 M.pure tm1
theorem Kx_:RegEq 43 65 BT Qm Uc:=⟨by kernel_rfl,fun _ _ _ _ _ _ _ _ _=>by kernel_rfl⟩
def DP_ (E:Env)(call round:Ag)(tm:T Value):M (T Value):=
 mv (T.get tm 41) fun v43=>
 M.bind (oS (T.get tm 39) fun a=>oS (T.get tm 41) fun b=>Bo E 55 a b) fun v44=>
 M.bind (oS (some v44) fun a=>AE E 85 a) fun v45=>
 M.bind (BN E 85) fun v9=>
 setF 9 v9 tm fun tm1=>
 mv (some v43) fun v8=>
 setF 8 v8 tm1 fun tm2=>
 M.bind (oS (some v9) fun a=>oS (some v45) fun b=>Bt E 85 a b) fun _=>
 M.pure tm2
theorem ZF_:RegEq 43 65 BT KD DP_:=⟨by kernel_rfl,fun _ _ _ _ _ _ _ _ _=>by kernel_rfl⟩
def CK_ (E:Env)(call round:Ag)(tm:T Value):M (T Value):=
 mv (some (.int .i64 0)) fun v2=>
 setF 2 v2 tm fun tm1=>
 M.pure tm1
theorem Mw_:RegEq 43 65 BT Nz CK_:=⟨by kernel_rfl,fun _ _ _ _ _ _ _ _ _=>by kernel_rfl⟩
theorem Ze_: ∃k,Sc= .code .ret::k:=⟨Sc.tail,by kernel_rfl⟩
def AB_ (E:Env)(call round:Ag)(tm:T Value):M ((Rho×T Value)×List OpLog):=
 M.bind (apartO (oS (T.get tm 8) fun a=>M.pure a)) fun p0=>
 M.bind (apartO (oS (some p0.1) fun a=>oS (some (.int .i64 0)) fun b=>Cl.get (aBin E .gtr 3 (.tmp 46) (.const (.int .i64 0))) a b)) fun p1=>
 M.bind (apartO (oS (some p1.1) fun a=>M.pure a)) fun p2=>
 M.bind (apartO (M.chk (isK p2.1) (M.if (isB p2.1 true) (oS (T.get tm 9) fun a=>kFld E 85 a 0) (M.pure undef)))) fun p3=>
 M.bind (apartO (M.chk (isK p2.1) (M.if (isB p2.1 true) (oS (some p3.1) fun a=>AE E 3 a) (M.pure undef)))) fun p4=>
 M.bind (apartO (M.chk (isK p2.1) (M.if (isB p2.1 true) (oS (T.get tm 0) fun a=>M.pure a) (M.pure undef)))) fun p5=>
 M.bind (apartO (M.chk (isK p2.1) (M.if (isB p2.1 true) (oS (T.get tm 8) fun a=>M.pure a) (M.pure undef)))) fun p6=>
 M.bind (apartO (M.chk (isK p2.1) (M.if (isB p2.1 true) (oS (some p6.1) fun a=>oS (some (.int .i64 1)) fun b=>Cl.get (aBin E .sub 3 (.tmp 52) (.const (.int .i64 1))) a b) (M.pure undef)))) fun p7=>
 M.bind (apartO (M.chk (isK p2.1) (M.if (isB p2.1 true) (oS (some p5.1) fun a=>oS (some p7.1) fun b=>Bo E 55 a b) (M.pure undef)))) fun p8=>
 M.bind (apartO (M.chk (isK p2.1) (M.if (isB p2.1 true) (oS (some p8.1) fun a=>kFld E 85 a 0) (M.pure undef)))) fun p9=>
 M.bind (apartO (M.chk (isK p2.1) (M.if (isB p2.1 true) (oS (some p9.1) fun a=>AE E 3 a) (M.pure undef)))) fun p10=>
 M.bind (apartO (M.chk (isK p2.1) (M.if (isB p2.1 true) (oS (some p4.1) fun a=>oS (some p10.1) fun b=>Cl.get (aBin E .leq 3 (.tmp 50) (.tmp 56)) a b) (M.pure undef)))) fun p11=>
 M.bind (apartO (M.on (some p2.1) fun a=>M.on (some p11.1) fun b=>M.on (some (.bool false)) fun c=>Bv a b c)) fun p12=>
 M.bind (apartO (oS (some p12.1) fun a=>M.pure a)) fun p13=>
 M.bind (apartO (M.chk (isK p13.1) (M.if (isB p13.1 false) (oS (T.get tm 9) fun a=>AE E 85 a) (M.pure undef)))) fun p14=>
 M.bind (apartO (M.chk (isK p13.1) (M.if (isB p13.1 false) (M.on (some (.func (.func 95) #[] #[])) fun f=>M.on (seqO [(some p14.1)]) fun l=>Bh call round f l) (M.pure undef)))) fun p15=>
 M.bind (apartO (M.chk (isK p13.1) (M.if (isB p13.1 false) (oS (some p15.1) fun a=>kUn E.P .not a) (M.pure undef)))) fun p16=>
 M.pure (([p16.1,p15.1,p14.1,p13.1,p12.1,p11.1,p10.1,p9.1,p8.1,p7.1,p6.1,p5.1,p4.1,p3.1,p2.1,p1.1,p0.1],tm),[p16.2,p15.2,p14.2,p13.2,p12.2,p11.2,p10.2,p9.2,p8.2,p7.2,p6.2,p5.2,p4.2,p3.2,p2.2,p1.2,p0.2])
theorem Hk_:DrawEq 43 65 BT IT [0,1,3,7,15,7,7,71,231,487,999,2047,4095,8191,16383,32767,65535,131071] AB_:=⟨by kernel_rfl,by kernel_rfl,fun _ _ _ _ _ _ _ _ _=>by kernel_rfl⟩
theorem SX (E:Env)(call round:Ag)(x46 x47 x48 x49 x50 x51 x52 x53 x54 x55 x56 x57 x58 x59 x60 x61 x62:Value)(tm:T Value)(s:St):BP call round (Ct E BT 65 (hdC IT)) [x62,x61,x60,x59,x58,x57,x56,x55,x54,x53,x52,x51,x50,x49,x48,x47,x46] tm s=(M.bind (M.on (some x59) fun a=>M.on (some (.bool true)) fun b=>M.on (some x62) fun c=>Bv a b c) fun v63=>setT 63 v63 tm fun tm1=>M.pure tm1) s:=by kernel_rfl
theorem Py_: ∃k,O5= .code .ret::k:=⟨O5.tail,by kernel_rfl⟩
theorem Yh:Bg Fe=some 63:=by kernel_rfl
def Ds_ (E:Env)(call round:Ag)(tm:T Value):M (T Value):=
 mv (some (.int .i64 2)) fun v2=>
 setF 2 v2 tm fun tm1=>
 M.pure tm1
theorem QR_:RegEq 43 65 BT Ly Ds_:=⟨by kernel_rfl,fun _ _ _ _ _ _ _ _ _=>by kernel_rfl⟩
def Gl_ (E:Env)(call round:Ag)(tm:T Value):M (T Value):=
 M.bind (oS (T.get tm 41) fun a=>oS (some (.int .i64 1)) fun b=>Cl.get (aBin E .add 3 (.tmp 41) (.const (.int .i64 1))) a b) fun v64=>
 mv (some v64) fun v41=>
 setF 41 v41 tm fun tm1=>
 M.pure tm1
theorem HD_:RegEq 43 65 BT TM Gl_:=⟨by kernel_rfl,fun _ _ _ _ _ _ _ _ _=>by kernel_rfl⟩
theorem Vz_: ∃k,Q9= .code .ret::k:=⟨Q9.tail,by kernel_rfl⟩
def JM:Nat:=Bw Try.f94
abbrev SD_:Nat:=29
def Ue:Code:=Try.f94.body.getD .skip
theorem DX_:envS.fn.get 94=some Try.f94:=by kernel_rfl
theorem Jv_ {a0:Value}{n:Nat}{s:St}{Q:Value→St→Prop}(h: ∀tm,T.get tm 0=some a0→W (runF envS n ⟨94,29,JM,tm,[.code Ue], .run, .normal,none⟩) (s.cxN cxN) fun p s1=>Q p.1 (s1.cxN s.cx)):W (AJ envS (runF envS n) 94 [a0]) s Q:=
 W.call (by kernel_rfl) (by kernel_rfl) DX_ (by kernel_rfl) rfl rfl (by simp) (h _ (by kernel_rfl))
theorem AcC_:Try.f94.results.toList=[.tmp 2]:=by kernel_rfl
def Ss:List Item:=skim 64 [.code Ue]
def K1:List Item:=skim 64 Ss.tail
theorem Zh_:skim 64 Ss.tail=K1:=by kernel_rfl
def JX:List Item:=skim 64 K1.tail
theorem AbU_:skim 64 K1.tail=JX:=by kernel_rfl
def Rp:List Item:=skim 64 JX.tail
theorem PG_:skim 64 JX.tail=Rp:=by kernel_rfl
def XN (E:Env)(call round:Ag)(tm:T Value):M (T Value):=
 M.bind (oS (T.get tm 0) fun a=>kBox a) fun v1=>
 setF 1 v1 tm fun tm1=>
 mv (some (.bool false)) fun v2=>
 setF 2 v2 tm1 fun tm2=>
 M.pure tm2
theorem Ms_:RegEq 94 29 JM Ss XN:=⟨by kernel_rfl,fun _ _ _ _ _ _ _ _ _=>by kernel_rfl⟩
def AJ_ (E:Env)(call round:Ag)(tm:T Value):M (T Value):=
 M.bind (oS (T.get tm 1) fun a=>kFld E 85 a 2) fun v4=>
 M.bind (oS (some v4) fun a=>AE E 36 a) fun v5=>
 M.bind (M.on (some (.func (.func 126) #[] #[])) fun f=>M.on (seqO [(some v5),(some (.func (.func 127) #[] #[]))]) fun l=>Bh call round f l) fun v6=>
 mv (some v6) fun v3=>
 setF 3 v3 tm fun tm1=>
 M.pure tm1
theorem RR_:RegEq 94 29 JM K1 AJ_:=⟨by kernel_rfl,fun _ _ _ _ _ _ _ _ _=>by kernel_rfl⟩
def EO_ (E:Env)(call round:Ag)(tm:T Value):M (T Value):=
 M.bind (oS (T.get tm 1) fun a=>kFld E 85 a 0) fun v7=>
 M.bind (oS (some v7) fun a=>AE E 3 a) fun v8=>
 M.bind (oS (some v8) fun a=>oS (some (.int .i64 1)) fun b=>Cl.get (aBin E .geq 3 (.tmp 8) (.const (.int .i64 1))) a b) fun v9=>
 mv (some v9) fun v10=>
 M.bind (M.chk (isK v10) (M.if (isB v10 true) (oS (T.get tm 1) fun a=>kFld E 85 a 0) (M.pure undef))) fun v11=>
 M.bind (M.chk (isK v10) (M.if (isB v10 true) (oS (some v11) fun a=>AE E 3 a) (M.pure undef))) fun v12=>
 M.bind (M.chk (isK v10) (M.if (isB v10 true) (oS (some v12) fun a=>oS (some (.int .i64 999999)) fun b=>Cl.get (aBin E .leq 3 (.tmp 12) (.const (.int .i64 999999))) a b) (M.pure undef))) fun v13=>
 M.bind (M.on (some v10) fun a=>M.on (some v13) fun b=>M.on (some (.bool false)) fun c=>Bv a b c) fun v14=>
 mv (some v14) fun v15=>
 M.bind (M.chk (isK v15) (M.if (isB v15 true) (oS (T.get tm 1) fun a=>kFld E 85 a 1) (M.pure undef))) fun v16=>
 M.bind (M.chk (isK v15) (M.if (isB v15 true) (oS (some v16) fun a=>AE E 3 a) (M.pure undef))) fun v17=>
 M.bind (M.chk (isK v15) (M.if (isB v15 true) (oS (some v17) fun a=>oS (some (.int .i64 0)) fun b=>Cl.get (aBin E .geq 3 (.tmp 17) (.const (.int .i64 0))) a b) (M.pure undef))) fun v18=>
 M.bind (M.on (some v15) fun a=>M.on (some v18) fun b=>M.on (some (.bool false)) fun c=>Bv a b c) fun v19=>
 mv (some v19) fun v20=>
 M.bind (M.chk (isK v20) (M.if (isB v20 true) (oS (T.get tm 1) fun a=>kFld E 85 a 1) (M.pure undef))) fun v21=>
 M.bind (M.chk (isK v20) (M.if (isB v20 true) (oS (some v21) fun a=>AE E 3 a) (M.pure undef))) fun v22=>
 M.bind (M.chk (isK v20) (M.if (isB v20 true) (oS (some v22) fun a=>oS (some (.int .i64 65536)) fun b=>Cl.get (aBin E .leq 3 (.tmp 22) (.const (.int .i64 65536))) a b) (M.pure undef))) fun v23=>
 M.bind (M.on (some v20) fun a=>M.on (some v23) fun b=>M.on (some (.bool false)) fun c=>Bv a b c) fun v24=>
 mv (some v24) fun v25=>
 M.bind (M.chk (isK v25) (M.if (isB v25 true) (oS (T.get tm 3) fun a=>M.pure a) (M.pure undef))) fun v26=>
 M.bind (M.chk (isK v25) (M.if (isB v25 true) (oS (some v26) fun a=>kUn E.P .not a) (M.pure undef))) fun v27=>
 M.bind (M.on (some v25) fun a=>M.on (some v27) fun b=>M.on (some (.bool false)) fun c=>Bv a b c) fun v28=>
 mv (some v28) fun v2=>
 setF 2 v2 tm fun tm1=>
 M.pure tm1
theorem Yq_:RegEq 94 29 JM JX EO_:=⟨by kernel_rfl,fun _ _ _ _ _ _ _ _ _=>by kernel_rfl⟩
theorem Aea_: ∃k,Rp= .code .ret::k:=⟨Rp.tail,by kernel_rfl⟩
def Tu:Nat:=Bw Try.f127
def Yy:Code:=Try.f127.body.getD .skip
theorem Sj:envS.fn.get 127=some Try.f127:=by kernel_rfl
theorem AcM_ {a0:Value}{n:Nat}{s:St}{Q:Value→St→Prop}(h: ∀tm,T.get tm 0=some a0→W (runF envS n ⟨127,12,Tu,tm,[.code Yy], .run, .normal,none⟩) (s.cxN cxN) fun p s1=>Q p.1 (s1.cxN s.cx)):W (AJ envS (runF envS n) 127 [a0]) s Q:=
 W.call (by kernel_rfl) (by kernel_rfl) Sj (by kernel_rfl) rfl rfl (by simp) (h _ (by kernel_rfl))
theorem W4:Try.f127.results.toList=[.tmp 2]:=by kernel_rfl
def Rv:List Item:=skim 64 [.code Yy]
def L8:List Item:=skim 64 Rv.tail
theorem YA_:skim 64 Rv.tail=L8:=by kernel_rfl
def Qp:List Item:=skim 64 L8.tail
theorem EP_:skim 64 L8.tail=Qp:=by kernel_rfl
def Dt_ (E:Env)(call round:Ag)(tm:T Value):M (T Value):=
 M.bind (oS (T.get tm 0) fun a=>kBox a) fun v1=>
 setF 1 v1 tm fun tm1=>
 mv (some (.bool false)) fun v2=>
 setF 2 v2 tm1 fun tm2=>
 M.pure tm2
theorem OX_:RegEq 127 12 Tu Rv Dt_:=⟨by kernel_rfl,fun _ _ _ _ _ _ _ _ _=>by kernel_rfl⟩
def ZH (E:Env)(call round:Ag)(tm:T Value):M (T Value):=
 M.bind (oS (T.get tm 1) fun a=>kFld E 35 a 1) fun v3=>
 M.bind (oS (some v3) fun a=>AE E 3 a) fun v4=>
 M.bind (oS (some v4) fun a=>oS (some (.int .i64 0)) fun b=>Cl.get (aBin E .lss 3 (.tmp 4) (.const (.int .i64 0))) a b) fun v5=>
 mv (some v5) fun v6=>
 M.bind (M.chk (isK v6) (M.if (isB v6 false) (oS (T.get tm 1) fun a=>kFld E 35 a 2) (M.pure undef))) fun v7=>
 M.bind (M.chk (isK v6) (M.if (isB v6 false) (oS (some v7) fun a=>AE E 3 a) (M.pure undef))) fun v8=>
 M.bind (M.chk (isK v6) (M.if (isB v6 false) (M.on (some (.func (.func 20) #[] #[])) fun f=>M.on (seqO [(some v8)]) fun l=>Bh call round f l) (M.pure undef))) fun v9=>
 M.bind (M.chk (isK v6) (M.if (isB v6 false) (oS (some v9) fun a=>oS (some (.int .i64 0)) fun b=>Cl.get (aBin E .eql 3 (.tmp 9) (.const (.int .i64 0))) a b) (M.pure undef))) fun v10=>
 M.bind (M.on (some v6) fun a=>M.on (some (.bool true)) fun b=>M.on (some v10) fun c=>Bv a b c) fun v11=>
 mv (some v11) fun v2=>
 setF 2 v2 tm fun tm1=>
 M.pure tm1
theorem OC_:RegEq 127 12 Tu L8 ZH:=⟨by kernel_rfl,fun _ _ _ _ _ _ _ _ _=>by kernel_rfl⟩
theorem UD: ∃k,Qp= .code .ret::k:=⟨Qp.tail,by kernel_rfl⟩
def QX:Nat:=Bw Try.f126
def WR:Code:=Try.f126.body.getD .skip
theorem Zj:envS.fn.get 126=some Try.f126:=by kernel_rfl
theorem PA_ {a0 a1:Value}{n:Nat}{s:St}{Q:Value→St→Prop}(h: ∀tm,T.get tm 0=some a0→T.get tm 1=some a1→W (runF envS n ⟨126,9,QX,tm,[.code WR], .run, .normal,none⟩) (s.cxN cxN) fun p s1=>Q p.1 (s1.cxN s.cx)):W (AJ envS (runF envS n) 126 [a0,a1]) s Q:=
 W.call (by kernel_rfl) (by kernel_rfl) Zj (by kernel_rfl) rfl rfl (by simp) (h _ (by kernel_rfl) (by kernel_rfl))
theorem OW_:Try.f126.results.toList=[.tmp 4]:=by kernel_rfl
def TL:List Item:=skim 64 [.code WR]
def NE:List Item:=skim 64 TL.tail
theorem AbN_:skim 64 TL.tail=NE:=by kernel_rfl
def Qx:List Item:=skim 64 NE.tail
theorem Lb_:skim 64 NE.tail=Qx:=by kernel_rfl
def ZD (E:Env)(call round:Ag)(tm:T Value):M (T Value):=
 mv (some (.bool false)) fun v4=>
 setF 4 v4 tm fun tm1=>
 M.pure tm1
theorem KZ_:RegEq 126 9 QX TL ZD:=⟨by kernel_rfl,fun _ _ _ _ _ _ _ _ _=>by kernel_rfl⟩
def Wu (E:Env)(call round:Ag)(tm:T Value):M (T Value):=
 mv (T.get tm 0) fun v5=>
 mv (T.get tm 1) fun v6=>
 M.bind (M.on (some (.func (.func 144) #[] #[])) fun f=>M.on (seqO [(some v5),(some v6)]) fun l=>Bh call round f l) fun v7=>
 M.bind (oS (some v7) fun a=>oS (some (.int .i64 0)) fun b=>Cl.get (aBin E .geq 3 (.tmp 7) (.const (.int .i64 0))) a b) fun v8=>
 mv (some v8) fun v4=>
 setF 4 v4 tm fun tm1=>
 M.pure tm1
theorem Xt_:RegEq 126 9 QX NE Wu:=⟨by kernel_rfl,fun _ _ _ _ _ _ _ _ _=>by kernel_rfl⟩
theorem Hd_: ∃k,Qx= .code .ret::k:=⟨Qx.tail,by kernel_rfl⟩
def D1:Nat:=Bw Try.f144
abbrev Um_:Nat:=19
def Up:Code:=Try.f144.body.getD .skip
theorem Ru:envS.fn.get 144=some Try.f144:=by kernel_rfl
theorem SU_ {a0 a1:Value}{n:Nat}{s:St}{Q:Value→St→Prop}(h: ∀tm,T.get tm 0=some a0→T.get tm 1=some a1→W (runF envS n ⟨144,19,D1,tm,[.code Up], .run, .normal,none⟩) (s.cxN cxN) fun p s1=>Q p.1 (s1.cxN s.cx)):W (AJ envS (runF envS n) 144 [a0,a1]) s Q:=
 W.call (by kernel_rfl) (by kernel_rfl) Ru (by kernel_rfl) rfl rfl (by simp) (h _ (by kernel_rfl) (by kernel_rfl))
theorem Vd:Try.f144.results.toList=[.tmp 4]:=by kernel_rfl
def RZ:List Item:=skim 64 [.code Up]
def Lq:List Item:=skim 64 RZ.tail
theorem PN_:skim 64 RZ.tail=Lq:=by kernel_rfl
def Hg:List Item:=skim 64 Lq.tail
theorem VJ_:skim 64 Lq.tail=Hg:=by kernel_rfl
def HU:List Item:=skim 64 Hg.tail
theorem V6:skim 64 Hg.tail=HU:=by kernel_rfl
def Ke:List Item:=skim 64 (brT HU)
theorem Afk_:skim 64 (brT HU)=Ke:=by kernel_rfl
def Mb:List Item:=skim 64 (brF HU)
theorem So_:skim 64 (brF HU)=Mb:=by kernel_rfl
def NW:List Item:=skim 64 Ke.tail
theorem NA_:skim 64 Ke.tail=NW:=by kernel_rfl
def Sp:List Item:=skim 64 Mb.tail
theorem AbJ_:skim 64 Mb.tail=Sp:=by kernel_rfl
def GG:List Item:=skim 64 NW.tail
theorem Xf:skim 64 NW.tail=GG:=by kernel_rfl
def M0:List Item:=skim 64 (brT GG)
theorem AdF_:skim 64 (brT GG)=M0:=by kernel_rfl
def Po:List Item:=skim 64 (brF GG)
theorem Aar_:skim 64 (brF GG)=Po:=by kernel_rfl
def T7:List Item:=skim 64 M0.tail
theorem Zz_:skim 64 M0.tail=T7:=by kernel_rfl
theorem Oz_:skim 64 Po.tail=Hg:=by kernel_rfl
def YS (E:Env)(call round:Ag)(tm:T Value):M (T Value):=
 mv (some (.int .i64 0)) fun v4=>
 setF 4 v4 tm fun tm1=>
 M.pure tm1
theorem WE_:RegEq 144 19 D1 RZ YS:=⟨by kernel_rfl,fun _ _ _ _ _ _ _ _ _=>by kernel_rfl⟩
def Bx_ (E:Env)(call round:Ag)(tm:T Value):M (T Value):=
 mv (T.get tm 0) fun v6=>
 M.bind (oS (seqO [(some v6)]) fun l=>A7 E .len [36] l) fun v7=>
 setF 7 v7 tm fun tm1=>
 mv (some (.int .i64 0)) fun v8=>
 setF 8 v8 tm1 fun tm2=>
 M.pure tm2
theorem Adc_:RegEq 144 19 D1 Lq Bx_:=⟨by kernel_rfl,fun _ _ _ _ _ _ _ _ _=>by kernel_rfl⟩
def O4 (E:Env)(call round:Ag)(tm:T Value):M (T Value):=
 M.bind (oS (T.get tm 8) fun a=>oS (T.get tm 7) fun b=>Cl.get (aBin E .lss 3 (.tmp 8) (.tmp 7)) a b) fun v9=>
 setF 9 v9 tm fun tm1=>
 M.pure tm1
theorem Va:RegEq 144 19 D1 Hg O4:=⟨by kernel_rfl,fun _ _ _ _ _ _ _ _ _=>by kernel_rfl⟩
theorem V3:Bg HU=some 9:=by kernel_rfl
def Bg_ (E:Env)(call round:Ag)(tm:T Value):M (T Value):=
 mv (T.get tm 8) fun v10=>
 mv (some v10) fun v5=>
 setF 5 v5 tm fun tm1=>
 M.pure tm1
theorem Aas_:RegEq 144 19 D1 Ke Bg_:=⟨by kernel_rfl,fun _ _ _ _ _ _ _ _ _=>by kernel_rfl⟩
def Xg (E:Env)(call round:Ag)(tm:T Value):M (T Value):=
 mv (some (.int .i64 (-1))) fun v4=>
 setF 4 v4 tm fun tm1=>
 M.pure tm1
theorem GV_:RegEq 144 19 D1 Mb Xg:=⟨by kernel_rfl,fun _ _ _ _ _ _ _ _ _=>by kernel_rfl⟩
def BL_ (E:Env)(call round:Ag)(tm:T Value):M (T Value):=
 mv (T.get tm 1) fun v11=>
 mv (T.get tm 0) fun v12=>
 mv (T.get tm 5) fun v13=>
 M.bind (oS (some v12) fun a=>oS (some v13) fun b=>Bo E 36 a b) fun v14=>
 M.bind (oS (some v14) fun a=>AE E 35 a) fun v15=>
 M.bind (M.on (some v11) fun f=>M.on (seqO [(some v15)]) fun l=>Bh call round f l) fun v16=>
 setF 16 v16 tm fun tm1=>
 M.pure tm1
theorem Aad_:RegEq 144 19 D1 NW BL_:=⟨by kernel_rfl,fun _ _ _ _ _ _ _ _ _=>by kernel_rfl⟩
theorem Sf_: ∃k,Sp= .code .ret::k:=⟨Sp.tail,by kernel_rfl⟩
theorem WQ:Bg GG=some 16:=by kernel_rfl
def WA (E:Env)(call round:Ag)(tm:T Value):M (T Value):=
 mv (T.get tm 5) fun v17=>
 mv (some v17) fun v4=>
 setF 4 v4 tm fun tm1=>
 M.pure tm1
theorem US_:RegEq 144 19 D1 M0 WA:=⟨by kernel_rfl,fun _ _ _ _ _ _ _ _ _=>by kernel_rfl⟩
def UO (E:Env)(call round:Ag)(tm:T Value):M (T Value):=
 M.bind (oS (T.get tm 8) fun a=>oS (some (.int .i64 1)) fun b=>Cl.get (aBin E .add 3 (.tmp 8) (.const (.int .i64 1))) a b) fun v18=>
 mv (some v18) fun v8=>
 setF 8 v8 tm fun tm1=>
 M.pure tm1
theorem AcX_:RegEq 144 19 D1 Po UO:=⟨by kernel_rfl,fun _ _ _ _ _ _ _ _ _=>by kernel_rfl⟩
theorem Ih_: ∃k,T7= .code .ret::k:=⟨T7.tail,by kernel_rfl⟩
def CM:Nat:=Bw Try.f95
abbrev UJ:Nat:=35
def UB:Code:=Try.f95.body.getD .skip
theorem TN:envS.fn.get 95=some Try.f95:=by kernel_rfl
theorem Tl_ {a0:Value}{n:Nat}{s:St}{Q:Value→St→Prop}(h: ∀tm,T.get tm 0=some a0→W (runF envS n ⟨95,35,CM,tm,[.code UB], .run, .normal,none⟩) (s.cxN cxN) fun p s1=>Q p.1 (s1.cxN s.cx)):W (AJ envS (runF envS n) 95 [a0]) s Q:=
 W.call (by kernel_rfl) (by kernel_rfl) TN (by kernel_rfl) rfl rfl (by simp) (h _ (by kernel_rfl))
theorem Xb:Try.f95.results.toList=[.tmp 2]:=by kernel_rfl
def Rl:List Item:=skim 64 [.code UB]
def Nq:List Item:=skim 64 Rl.tail
theorem WH_:skim 64 Rl.tail=Nq:=by kernel_rfl
def Mi:List Item:=skim 64 Nq.tail
theorem RO_:skim 64 Nq.tail=Mi:=by kernel_rfl
def GQ:List Item:=skim 64 Mi.tail
theorem Tg_:skim 64 Mi.tail=GQ:=by kernel_rfl
def Gg:List Item:=skim 64 GQ.tail
theorem WH:skim 64 GQ.tail=Gg:=by kernel_rfl
def N5:List Item:=skim 64 (brT Gg)
theorem AdZ_:skim 64 (brT Gg)=N5:=by kernel_rfl
def KT:List Item:=skim 64 (brF Gg)
theorem Gx_:skim 64 (brF Gg)=KT:=by kernel_rfl
def JR:List Item:=skim 64 N5.tail
theorem VC_:skim 64 N5.tail=JR:=by kernel_rfl
def Rg:List Item:=skim 64 KT.tail
theorem Ack_:skim 64 KT.tail=Rg:=by kernel_rfl
def Fc:List Item:=skim 64 JR.tail
theorem ER_:skim 64 JR.tail=Fc:=by kernel_rfl
def KK:List Item:=skim 64 (brT Fc)
theorem Ui_:skim 64 (brT Fc)=KK:=by kernel_rfl
def Jf:List Item:=skim 64 (brF Fc)
theorem HS_:skim 64 (brF Fc)=Jf:=by kernel_rfl
def T5:List Item:=skim 64 KK.tail
theorem QS_:skim 64 KK.tail=T5:=by kernel_rfl
def Qs:List Item:=skim 64 Jf.tail
theorem Zo_:skim 64 Jf.tail=Qs:=by kernel_rfl
theorem RC_:skim 64 Qs.tail=GQ:=by kernel_rfl
def BW_ (E:Env)(call round:Ag)(tm:T Value):M (T Value):=
 M.bind (oS (T.get tm 0) fun a=>kBox a) fun v1=>
 setF 1 v1 tm fun tm1=>
 mv (some (.bool false)) fun v2=>
 setF 2 v2 tm1 fun tm2=>
 M.pure tm2
theorem RP_:RegEq 95 35 CM Rl BW_:=⟨by kernel_rfl,fun _ _ _ _ _ _ _ _ _=>by kernel_rfl⟩
def Gc_ (E:Env)(call round:Ag)(tm:T Value):M (T Value):=
 mv (some (.int .i64 0)) fun v3=>
 setF 3 v3 tm fun tm1=>
 M.pure tm1
theorem TA_:RegEq 95 35 CM Nq Gc_:=⟨by kernel_rfl,fun _ _ _ _ _ _ _ _ _=>by kernel_rfl⟩
def Ax_ (E:Env)(call round:Ag)(tm:T Value):M (T Value):=
 M.bind (oS (T.get tm 1) fun a=>kFld E 85 a 2) fun v6=>
 M.bind (oS (some v6) fun a=>AE E 36 a) fun v7=>
 setF 7 v7 tm fun tm1=>
 M.bind (oS (seqO [(some v7)]) fun l=>A7 E .len [36] l) fun v8=>
 setF 8 v8 tm1 fun tm2=>
 mv (some (.int .i64 0)) fun v9=>
 setF 9 v9 tm2 fun tm3=>
 M.pure tm3
theorem Yb_:RegEq 95 35 CM Mi Ax_:=⟨by kernel_rfl,fun _ _ _ _ _ _ _ _ _=>by kernel_rfl⟩
def RH (E:Env)(call round:Ag)(tm:T Value):M (T Value):=
 M.bind (oS (T.get tm 9) fun a=>oS (T.get tm 8) fun b=>Cl.get (aBin E .lss 3 (.tmp 9) (.tmp 8)) a b) fun v10=>
 setF 10 v10 tm fun tm1=>
 M.pure tm1
theorem Vh:RegEq 95 35 CM GQ RH:=⟨by kernel_rfl,fun _ _ _ _ _ _ _ _ _=>by kernel_rfl⟩
theorem UX:Bg Gg=some 10:=by kernel_rfl
def AS_ (E:Env)(call round:Ag)(tm:T Value):M (T Value):=
 M.bind (oS (T.get tm 7) fun a=>oS (T.get tm 9) fun b=>Bo E 36 a b) fun v11=>
 M.bind (oS (some v11) fun a=>AE E 35 a) fun v12=>
 M.bind (BN E 35) fun v5=>
 setF 5 v5 tm fun tm1=>
 M.bind (oS (some v5) fun a=>oS (some v12) fun b=>Bt E 35 a b) fun _=>
 M.pure tm1
theorem Ade_:RegEq 95 35 CM N5 AS_:=⟨by kernel_rfl,fun _ _ _ _ _ _ _ _ _=>by kernel_rfl⟩
def U0 (E:Env)(call round:Ag)(tm:T Value):M (T Value):=
 mv (some (.bool true)) fun v2=>
 setF 2 v2 tm fun tm1=>
 M.pure tm1
theorem Zx_:RegEq 95 35 CM KT U0:=⟨by kernel_rfl,fun _ _ _ _ _ _ _ _ _=>by kernel_rfl⟩
def Xd (E:Env)(call round:Ag)(tm:T Value):M ((Rho×T Value)×List OpLog):=
 M.bind (apartO (oS (T.get tm 5) fun a=>kFld E 35 a 1)) fun p0=>
 M.bind (apartO (oS (some p0.1) fun a=>AE E 3 a)) fun p1=>
 M.bind (apartO (oS (T.get tm 3) fun a=>M.pure a)) fun p2=>
 M.bind (apartO (oS (some p1.1) fun a=>oS (some p2.1) fun b=>Cl.get (aBin E .lss 3 (.tmp 14) (.tmp 15)) a b)) fun p3=>
 M.bind (apartO (oS (some p3.1) fun a=>M.pure a)) fun p4=>
 M.bind (apartO (M.chk (isK p4.1) (M.if (isB p4.1 false) (oS (T.get tm 5) fun a=>kFld E 35 a 1) (M.pure undef)))) fun p5=>
 M.bind (apartO (M.chk (isK p4.1) (M.if (isB p4.1 false) (oS (some p5.1) fun a=>AE E 3 a) (M.pure undef)))) fun p6=>
 M.bind (apartO (M.chk (isK p4.1) (M.if (isB p4.1 false) (oS (T.get tm 1) fun a=>kFld E 85 a 1) (M.pure undef)))) fun p7=>
 M.bind (apartO (M.chk (isK p4.1) (M.if (isB p4.1 false) (oS (some p7.1) fun a=>AE E 3 a) (M.pure undef)))) fun p8=>
 M.bind (apartO (M.chk (isK p4.1) (M.if (isB p4.1 false) (oS (T.get tm 5) fun a=>kFld E 35 a 2) (M.pure undef)))) fun p9=>
 M.bind (apartO (M.chk (isK p4.1) (M.if (isB p4.1 false) (oS (some p9.1) fun a=>AE E 3 a) (M.pure undef)))) fun p10=>
 M.bind (apartO (M.chk (isK p4.1) (M.if (isB p4.1 false) (M.on (some (.func (.func 20) #[] #[])) fun f=>M.on (seqO [(some p10.1)]) fun l=>Bh call round f l) (M.pure undef)))) fun p11=>
 M.bind (apartO (M.chk (isK p4.1) (M.if (isB p4.1 false) (oS (some p8.1) fun a=>oS (some p11.1) fun b=>Cl.get (aBin E .sub 3 (.tmp 21) (.tmp 24)) a b) (M.pure undef)))) fun p12=>
 M.bind (apartO (M.chk (isK p4.1) (M.if (isB p4.1 false) (oS (some p6.1) fun a=>oS (some p12.1) fun b=>Cl.get (aBin E .gtr 3 (.tmp 19) (.tmp 25)) a b) (M.pure undef)))) fun p13=>
 M.pure (([p13.1,p12.1,p11.1,p10.1,p9.1,p8.1,p7.1,p6.1,p5.1,p4.1,p3.1,p2.1,p1.1,p0.1],tm),[p13.2,p12.2,p11.2,p10.2,p9.2,p8.2,p7.2,p6.2,p5.2,p4.2,p3.2,p2.2,p1.2,p0.2])
theorem ZI_:DrawEq 95 35 CM JR [0,1,0,7,15,31,63,31,159,31,543,1567,3999,8191,16383] Xd:=⟨by kernel_rfl,by kernel_rfl,fun _ _ _ _ _ _ _ _ _=>by kernel_rfl⟩
theorem CJ_ (E:Env)(call round:Ag)(x13 x14 x15 x16 x17 x18 x19 x20 x21 x22 x23 x24 x25 x26:Value)(tm:T Value)(s:St):BP call round (Ct E CM 35 (hdC JR)) [x26,x25,x24,x23,x22,x21,x20,x19,x18,x17,x16,x15,x14,x13] tm s=(M.bind (M.on (some x17) fun a=>M.on (some (.bool true)) fun b=>M.on (some x26) fun c=>Bv a b c) fun v27=>setT 27 v27 tm fun tm1=>M.pure tm1) s:=by kernel_rfl
theorem Mn_: ∃k,Rg= .code .ret::k:=⟨Rg.tail,by kernel_rfl⟩
theorem Y4:Bg Fc=some 27:=by kernel_rfl
def V2 (E:Env)(call round:Ag)(tm:T Value):M (T Value):=
 mv (some (.bool false)) fun v2=>
 setF 2 v2 tm fun tm1=>
 M.pure tm1
theorem Afm_:RegEq 95 35 CM KK V2:=⟨by kernel_rfl,fun _ _ _ _ _ _ _ _ _=>by kernel_rfl⟩
def Di_ (E:Env)(call round:Ag)(tm:T Value):M ((Rho×T Value)×List OpLog):=
 M.bind (apartO (oS (T.get tm 5) fun a=>kFld E 35 a 1)) fun p0=>
 M.bind (apartO (oS (some p0.1) fun a=>AE E 3 a)) fun p1=>
 M.bind (apartO (oS (T.get tm 5) fun a=>kFld E 35 a 2)) fun p2=>
 M.bind (apartO (oS (some p2.1) fun a=>AE E 3 a)) fun p3=>
 M.bind (apartO (M.on (some (.func (.func 20) #[] #[])) fun f=>M.on (seqO [(some p3.1)]) fun l=>Bh call round f l)) fun p4=>
 M.bind (apartO (oS (some p1.1) fun a=>oS (some p4.1) fun b=>Cl.get (aBin E .add 3 (.tmp 29) (.tmp 32)) a b)) fun p5=>
 M.pure (([p5.1,p4.1,p3.1,p2.1,p1.1,p0.1],tm),[p5.2,p4.2,p3.2,p2.2,p1.2,p0.2])
theorem KA_:DrawEq 95 35 CM Jf [0,1,0,4,12,31,63] Di_:=⟨by kernel_rfl,by kernel_rfl,fun _ _ _ _ _ _ _ _ _=>by kernel_rfl⟩
theorem Aak_ (E:Env)(call round:Ag)(x28 x29 x30 x31 x32 x33:Value)(tm:T Value)(s:St):BP call round (Ct E CM 35 (hdC Jf)) [x33,x32,x31,x30,x29,x28] tm s=(M.bind (oS (some x33) fun a=>M.pure a) fun v3=>setT 3 v3 tm fun tm1=>M.pure tm1) s:=by kernel_rfl
theorem IO_: ∃k,T5= .code .ret::k:=⟨T5.tail,by kernel_rfl⟩
def U2 (E:Env)(call round:Ag)(tm:T Value):M (T Value):=
 M.bind (oS (T.get tm 9) fun a=>oS (some (.int .i64 1)) fun b=>Cl.get (aBin E .add 3 (.tmp 9) (.const (.int .i64 1))) a b) fun v34=>
 mv (some v34) fun v9=>
 setF 9 v9 tm fun tm1=>
 M.pure tm1
theorem Acb_:RegEq 95 35 CM Qs U2:=⟨by kernel_rfl,fun _ _ _ _ _ _ _ _ _=>by kernel_rfl⟩
def oddH (h:HdI):Bool:=decide (h.2.1<0)||decide (BM h.2.2=0)
theorem Me_ {n:Nat}{h:HdI}{s:St}{Q:Value→St→Prop}(hb:s.lim≤s.next)(h16:h.1.length=16)(hn:40≤n)(q: ∀s1,Ext Any Non s s1→Q (.bool (oddH h)) s1):W (AJ envS (runF envS n) 127 [.agg (Bx h).toArray]) s Q:=by
 refine AcM_ fun tm h0=> ?_
 refine OX_.w rfl (by omega) ?_
 simp only[Dt_,Ac,W_oS,W_on,Aa,W_mv,Ab,Ap,T.get_set,Af,Ae,Ao,Al,Ad,Ai,reduceIte,Ah,Av,As,Au,Ak,Aq,Ar,Aw,Aj,An,Nat.reduceEqDiff,reduceCtorEq, ↓reduceIte,h0]
 refine W.box fun sa na xa oa=> ?_
 rw[DI]at oa
 have oa':Ay sa s.next 0 (Bx h):=oa
 try simp only[Ac,W_oS,W_on,Aa,W_mv,Ab,Ap,T.get_set,Af,Ae,Ao,Al,Ad,Ai,reduceIte,Ah,Av,As,Au,Ak,Aq,Ar,Aw,Aj,An,Nat.reduceEqDiff,reduceCtorEq, ↓reduceIte]
 refine OC_.w YA_ (by omega) ?_
 have o16:=oa' 16 _ (JW h16).1
 have o17:=oa' 17 _ (JW h16).2
 simp only[ZH,Ac,W_oS,W_on,Aa,W_mv,Ab,Ap,T.get_set,Af,Ae,Ao,Al,Ad,Ai,reduceIte,Ah,Av,As,Au,Ak,Aq,Ar,Aw,Aj,An,Nat.reduceEqDiff,reduceCtorEq, ↓reduceIte,Be KF (by decide)]
 refine W.load1 Bl o16.at' ?_
 have x1:Ext Any Non (s.cxN cxN) (sa.rdN (s.next+(0+16))):=(xa.any hb).thenRd hb _
 by_cases h1:h.2.1<0
 ·simp only[Ac,W_oS,W_on,Aa,W_mv,Ab,Ap,T.get_set,Af,Ae,Ao,Al,Ad,Ai,reduceIte,Ah,Av,As,Au,Ak,Aq,Ar,Aw,Aj,An,Nat.reduceEqDiff,reduceCtorEq, ↓reduceIte,AD,AL,AC,AK,AT,AP,AQ,AM,h1,decide_true]
  refine W.end' (rs:=[2]) (vs:=[.bool true]) EP_ (.inl UD) (by omega) Sj W4 x1.cx (by simp[T.get_set]) ?_
  have:=q _ x1.cx'
  unfold oddH at this
  rw[decide_eq_true h1,Bool.true_or]at this
  exact this
 ·simp only[Ac,W_oS,W_on,Aa,W_mv,Ab,Ap,T.get_set,Af,Ae,Ao,Al,Ad,Ai,reduceIte,Ah,Av,As,Au,Ak,Aq,Ar,Aw,Aj,An,Nat.reduceEqDiff,reduceCtorEq, ↓reduceIte,AD,AL,AC,AK,AT,AP,AQ,AM,h1,decide_false,Be Pr (by decide)]
  refine W.load1 Bl (o17.same rfl rfl).at' ?_
  have x2:Ext Any Non (s.cxN cxN) ((sa.rdN (s.next+(0+16))).rdN (s.next+(0+17))):=x1.thenRd hb _
  try simp only[Ac,W_oS,W_on,Aa,W_mv,Ab,Ap,T.get_set,Af,Ae,Ao,Al,Ad,Ai,reduceIte,Ah,Av,As,Au,Ak,Aq,Ar,Aw,Aj,An,Nat.reduceEqDiff,reduceCtorEq, ↓reduceIte]
  refine FH _ (by omega) ?_
  try simp only[Ac,W_oS,W_on,Aa,W_mv,Ab,Ap,T.get_set,Af,Ae,Ao,Al,Ad,Ai,reduceIte,Ah,Av,As,Au,Ak,Aq,Ar,Aw,Aj,An,Nat.reduceEqDiff,reduceCtorEq, ↓reduceIte,AD,AL,AC,AK,AT,AP,AQ,AM]
  refine W.end' (rs:=[2]) (vs:=[.bool (decide (BM h.2.2=0))]) EP_ (.inl UD) (by omega) Sj W4 x2.cx (by simp[T.get_set]) ?_
  have:=q _ x2.cx'
  unfold oddH at this
  rw[decide_eq_false h1,Bool.false_or]at this
  exact this
theorem Ud {α:Type}{l:List α}{p:α→Bool}{i:Nat}(hi:i<l.length):(l.take (i+1)).any p=((l.take i).any p||p l[i]):=by
 rw[List.take_succ_eq_append_getElem hi,List.any_append]
 simp
theorem PL_ {α:Type}{l:List α}{p:α→Bool}{i:Nat}(h:(l.take i).any p=true):l.any p=true:=by
 rw[List.any_eq_true]at h ⊢
 obtain⟨x,h1,h2⟩:=h
 exact⟨x,List.mem_of_mem_take h1,h2⟩
theorem Abf_ {v:Value}{hs:List HdI}{Q:Value×FrameMode→St→Prop}{s0:St}(hb0:s0.lim≤s0.next)(hr:HiR s0 v hs)(h16: ∀h∈hs,h.1.length=16)(hz:hs.length≤9223372036854775807)(hcx:s0.cx=cxN)
  (q: ∀s1 (r:Int),Ext Any Non s0 s1→decide (0≤r)=hs.any oddH→Q (.int .i64 r, .run) s1):
  ∀(k i n:Nat) (tm:T Value) (s:St) (td:List Item),i+k=hs.length→10*k+100≤n→skim 64 td=Hg→Ext Any Non s0 s→(hs.take i).any oddH=false→
  T.get tm 0=some v→T.get tm 1=some (.func (.func 127) #[] #[])→T.get tm 7=some (.int .i64 (hs.length:Nat))→T.get tm 8=some (.int .i64 (i:Nat))→
  W (runF envS n ⟨144,Um_,D1,tm,td, .run, .normal,none⟩) s Q:=by
 intro k
 induction k with
 |zero=>
  intro i n tm s td hi hn hT hx ha h0 h1 h7 h8
  refine Va.w hT (by omega) ?_
  simp only[O4,Ac,W_oS,W_on,Aa,W_mv,Ab,Ap,T.get_set,Af,Ae,Ao,Al,Ad,Ai,reduceIte,Ah,Av,As,Au,Ak,Aq,Ar,Aw,Aj,An,Nat.reduceEqDiff,reduceCtorEq, ↓reduceIte,AD,AL,AC,AK,AT,AP,AQ,AM,h7,h8]
  refine W.cond (v:=false) V6 V3 (by simp[T.get_set];omega) (by omega) (fun h=>by cases h) fun _=> ?_
  refine GV_.w So_ (by omega) ?_
  simp only[Xg,Ac,W_oS,W_on,Aa,W_mv,Ab,Ap,T.get_set,Af,Ae,Ao,Al,Ad,Ai,reduceIte,Ah,Av,As,Au,Ak,Aq,Ar,Aw,Aj,An,Nat.reduceEqDiff,reduceCtorEq, ↓reduceIte]
  refine W.end' (rs:=[4]) (vs:=[.int .i64 (-1)]) AbJ_ (.inl Sf_) (by omega) Ru Vd (hx.cx.trans hcx) (by simp[T.get_set]) ?_
  refine q s (-1) hx ?_
  rw[show i=hs.length by omega,List.take_length]at ha
  rw[ha]
  rfl
 |succ k ih=>
  intro i n tm s td hi hn hT hx ha h0 h1 h7 h8
  have hil:i<hs.length:=by omega
  have h16i:=h16 _ (List.getElem_mem hil)
  have hb:=hx.bnd hb0
  obtain⟨b,o,c,rfl,ga,fa⟩:=(hr.ext0 hx).at h16 hil
  refine Va.w hT (by omega) ?_
  simp only[O4,Ac,W_oS,W_on,Aa,W_mv,Ab,Ap,T.get_set,Af,Ae,Ao,Al,Ad,Ai,reduceIte,Ah,Av,As,Au,Ak,Aq,Ar,Aw,Aj,An,Nat.reduceEqDiff,reduceCtorEq, ↓reduceIte,AD,AL,AC,AK,AT,AP,AQ,AM,h7,h8]
  refine W.cond (v:=true) V6 V3 (by simp[T.get_set];omega) (by omega) (fun _=> ?_) fun h=>by cases h
  refine Aas_.w Afk_ (by omega) ?_
  simp only[Bg_,Ac,W_oS,W_on,Aa,W_mv,Ab,Ap,T.get_set,Af,Ae,Ao,Al,Ad,Ai,reduceIte,Ah,Av,As,Au,Ak,Aq,Ar,Aw,Aj,An,Nat.reduceEqDiff,reduceCtorEq, ↓reduceIte,h8]
  refine Aad_.w NA_ (by omega) ?_
  simp only[BL_,Ac,W_oS,W_on,Aa,W_mv,Ab,Ap,T.get_set,Af,Ae,Ao,Al,Ad,Ai,reduceIte,Ah,Av,As,Au,Ak,Aq,Ar,Aw,Aj,An,Nat.reduceEqDiff,reduceCtorEq, ↓reduceIte,h0,h1,BC D3 hil]
  refine W.loadA H3 ga (Fg h16i) fun s1 m1 n1 x1=> ?_
  try simp only[Ac,W_oS,W_on,Aa,W_mv,Ab,Ap,T.get_set,Af,Ae,Ao,Al,Ad,Ai,reduceIte,Ah,Av,As,Au,Ak,Aq,Ar,Aw,Aj,An,Nat.reduceEqDiff,reduceCtorEq, ↓reduceIte]
  refine Me_ (x1.bnd hb) h16i (by omega) fun s2 x2=> ?_
  have hx2:Ext Any Non s0 s2:=(hx.then0 x1 hb0).then0 x2 hb0
  cases ho:oddH hs[i]with
  |true=>
   try simp only[Ac,W_oS,W_on,Aa,W_mv,Ab,Ap,T.get_set,Af,Ae,Ao,Al,Ad,Ai,reduceIte,Ah,Av,As,Au,Ak,Aq,Ar,Aw,Aj,An,Nat.reduceEqDiff,reduceCtorEq, ↓reduceIte]
   refine W.cond (v:=true) Xf WQ (by simp[T.get_set]) (by omega) (fun _=> ?_) fun h=>by cases h
   refine US_.w AdF_ (by omega) ?_
   simp only[WA,Ac,W_oS,W_on,Aa,W_mv,Ab,Ap,T.get_set,Af,Ae,Ao,Al,Ad,Ai,reduceIte,Ah,Av,As,Au,Ak,Aq,Ar,Aw,Aj,An,Nat.reduceEqDiff,reduceCtorEq, ↓reduceIte]
   refine W.end' (rs:=[4]) (vs:=[.int .i64 (i:Nat)]) Zz_ (.inl Ih_) (by omega) Ru Vd (hx2.cx.trans hcx) (by simp[T.get_set]) ?_
   refine q s2 i hx2 ?_
   have:hs.any oddH=true:=PL_ (i:=i+1) (by rw[Ud hil,ho,Bool.or_true])
   rw[this,decide_eq_true (by omega)]
  |false=>
   try simp only[Ac,W_oS,W_on,Aa,W_mv,Ab,Ap,T.get_set,Af,Ae,Ao,Al,Ad,Ai,reduceIte,Ah,Av,As,Au,Ak,Aq,Ar,Aw,Aj,An,Nat.reduceEqDiff,reduceCtorEq, ↓reduceIte]
   refine W.cond (v:=false) Xf WQ (by simp[T.get_set]) (by omega) (fun h=>by cases h) fun _=> ?_
   refine AcX_.w Aar_ (by omega) ?_
   have ei:wrap64 ((i:Nat)+1:Int)=((i+1:Nat):Int):=by
    rw[Bq (by omega) (by omega)];simp
   simp only[UO,Ac,W_oS,W_on,Aa,W_mv,Ab,Ap,T.get_set,Af,Ae,Ao,Al,Ad,Ai,reduceIte,Ah,Av,As,Au,Ak,Aq,Ar,Aw,Aj,An,Nat.reduceEqDiff,reduceCtorEq, ↓reduceIte,AD,AL,AC,AK,AT,AP,AQ,AM,h8,ei]
   exact ih (i+1) _ _ _ _ (by omega) (by omega) Oz_ hx2 (by rw[Ud hil,ho,ha];rfl) (by simp[T.get_set,h0]) (by simp[T.get_set,h1]) (by simp[T.get_set,h7]) (by simp[T.get_set])
theorem AeQ_ {n:Nat}{v:Value}{hs:List HdI}{s:St}{Q:Value→St→Prop}(hb:s.lim≤s.next)(hr:HiR s v hs)(h16: ∀h∈hs,h.1.length=16)(hz:hs.length≤9223372036854775807)(hn:10*hs.length+200≤n)(q: ∀s1,Ext Any Non s s1→Q (.bool (hs.any oddH)) s1):
  W (AJ envS (runF envS n) 126 [v, .func (.func 127) #[] #[]]) s Q:=by
 refine PA_ fun tm h0 h1=> ?_
 refine KZ_.w rfl (by omega) ?_
 simp only[ZD,Ac,W_oS,W_on,Aa,W_mv,Ab,Ap,T.get_set,Af,Ae,Ao,Al,Ad,Ai,reduceIte,Ah,Av,As,Au,Ak,Aq,Ar,Aw,Aj,An,Nat.reduceEqDiff,reduceCtorEq, ↓reduceIte]
 refine Xt_.w AbN_ (by omega) ?_
 simp only[Wu,Ac,W_oS,W_on,Aa,W_mv,Ab,Ap,T.get_set,Af,Ae,Ao,Al,Ad,Ai,reduceIte,Ah,Av,As,Au,Ak,Aq,Ar,Aw,Aj,An,Nat.reduceEqDiff,reduceCtorEq, ↓reduceIte,h0,h1]
 have hr1:HiR ((s.cxN cxN).cxN cxN) v hs:=hr.same rfl rfl
 refine SU_ fun tm' g0 g1=> ?_
 refine WE_.w rfl (by omega) ?_
 simp only[YS,Ac,W_oS,W_on,Aa,W_mv,Ab,Ap,T.get_set,Af,Ae,Ao,Al,Ad,Ai,reduceIte,Ah,Av,As,Au,Ak,Aq,Ar,Aw,Aj,An,Nat.reduceEqDiff,reduceCtorEq, ↓reduceIte]
 refine Adc_.w PN_ (by omega) ?_
 simp only[Bx_,Ac,W_oS,W_on,Aa,W_mv,Ab,Ap,T.get_set,Af,Ae,Ao,Al,Ad,Ai,reduceIte,Ah,Av,As,Au,Ak,Aq,Ar,Aw,Aj,An,Nat.reduceEqDiff,reduceCtorEq, ↓reduceIte,g0]
 rw[hr1.len]
 try simp only[Ac,W_oS,W_on,Aa,W_mv,Ab,Ap,T.get_set,Af,Ae,Ao,Al,Ad,Ai,reduceIte,Ah,Av,As,Au,Ak,Aq,Ar,Aw,Aj,An,Nat.reduceEqDiff,reduceCtorEq, ↓reduceIte]
 refine Abf_ (s0:=(s.cxN cxN).cxN cxN) (v:=v) (hs:=hs) hb hr1 h16 hz rfl (fun s1 r x1 hrr=> ?_) hs.length 0 _ _ _ _ (by omega) (by omega) VJ_ (Ext.refl _) rfl (by simp[T.get_set,g0]) (by simp[T.get_set,g1]) (by simp[T.get_set]) (by simp[T.get_set])
 try simp only[Ac,W_oS,W_on,Aa,W_mv,Ab,Ap,T.get_set,Af,Ae,Ao,Al,Ad,Ai,reduceIte,Ah,Av,As,Au,Ak,Aq,Ar,Aw,Aj,An,Nat.reduceEqDiff,reduceCtorEq, ↓reduceIte,AD,AL,AC,AK,AT,AP,AQ,AM]
 refine W.end' (rs:=[4]) (vs:=[.bool (hs.any oddH)]) Lb_ (.inl Hd_) (by omega) Zj OW_ rfl (by simp[T.get_set];exact hrr) ?_
 exact q _ ⟨x1.nxt,x1.lim,rfl,x1.mem,x1.rd,x1.wr⟩
def Cm (p:PkI):Bool:=decide (1≤p.num)&&decide (p.num≤999999)&&decide (0≤p.size)&&decide (p.size≤65536)&& !(p.hs.any oddH)
theorem RW_ {n:Nat}{p:PkI}{s:St}{Q:Value→St→Prop}(hb:s.lim≤s.next)(hr:HiR s p.v p.hs)(h16: ∀h∈p.hs,h.1.length=16)(hz:p.hs.length≤9223372036854775807)(hn:10*p.hs.length+400≤n)(q: ∀s1,Ext Any Non s s1→Q (.bool (Cm p)) s1):
  W (AJ envS (runF envS n) 94 [.agg (pkC p).toArray]) s Q:=by
 refine Jv_ fun tm h0=> ?_
 refine Ms_.w rfl (by omega) ?_
 simp only[XN,Ac,W_oS,W_on,Aa,W_mv,Ab,Ap,T.get_set,Af,Ae,Ao,Al,Ad,Ai,reduceIte,Ah,Av,As,Au,Ak,Aq,Ar,Aw,Aj,An,Nat.reduceEqDiff,reduceCtorEq, ↓reduceIte,h0]
 refine W.box fun sa na xa oa=> ?_
 rw[DI]at oa
 have oa':Ay sa s.next 0 (pkC p):=oa
 have o0:Own sa s.next (0+0) (.int .i64 p.num):=oa' 0 _ rfl
 have o1:Own sa s.next (0+1) (.int .i64 p.size):=oa' 1 _ rfl
 have o2:Own sa s.next (0+2) p.v:=oa' 2 _ rfl
 try simp only[Ac,W_oS,W_on,Aa,W_mv,Ab,Ap,T.get_set,Af,Ae,Ao,Al,Ad,Ai,reduceIte,Ah,Av,As,Au,Ak,Aq,Ar,Aw,Aj,An,Nat.reduceEqDiff,reduceCtorEq, ↓reduceIte]
 refine RR_.w Zh_ (by omega) ?_
 simp only[AJ_,Ac,W_oS,W_on,Aa,W_mv,Ab,Ap,T.get_set,Af,Ae,Ao,Al,Ad,Ai,reduceIte,Ah,Av,As,Au,Ak,Aq,Ar,Aw,Aj,An,Nat.reduceEqDiff,reduceCtorEq, ↓reduceIte,Be EJ (by decide)]
 refine W.load1 Da o2.at' ?_
 have x1:Ext Any Non (s.cxN cxN) (sa.rdN (s.next+(0+2))):=(xa.any hb).thenRd hb _
 try simp only[Ac,W_oS,W_on,Aa,W_mv,Ab,Ap,T.get_set,Af,Ae,Ao,Al,Ad,Ai,reduceIte,Ah,Av,As,Au,Ak,Aq,Ar,Aw,Aj,An,Nat.reduceEqDiff,reduceCtorEq, ↓reduceIte]
 refine AeQ_ (x1.bnd hb) (((hr.same (s':=s.cxN cxN) rfl rfl).ext0 x1)) h16 hz (by omega) fun s2 x2=> ?_
 have hx2:Ext Any Non (s.cxN cxN) s2:=x1.then0 x2 hb
 have b0:Own s2 s.next (0+0) (.int .i64 p.num):=(o0.same (s':=sa.rdN (s.next+(0+2))) rfl rfl).ext0 x2
 have b1:Own s2 s.next (0+1) (.int .i64 p.size):=(o1.same (s':=sa.rdN (s.next+(0+2))) rfl rfl).ext0 x2
 try simp only[Ac,W_oS,W_on,Aa,W_mv,Ab,Ap,T.get_set,Af,Ae,Ao,Al,Ad,Ai,reduceIte,Ah,Av,As,Au,Ak,Aq,Ar,Aw,Aj,An,Nat.reduceEqDiff,reduceCtorEq, ↓reduceIte]
 refine Yq_.w AbU_ (by omega) ?_
 simp only[EO_,Ac,W_oS,W_on,Aa,W_mv,Ab,Ap,T.get_set,Af,Ae,Ao,Al,Ad,Ai,reduceIte,Ah,Av,As,Au,Ak,Aq,Ar,Aw,Aj,An,Nat.reduceEqDiff,reduceCtorEq, ↓reduceIte,Be DU (by decide)]
 refine W.load1 Bl b0.at' ?_
 have fin: ∀(s3:St) (tm3:T Value) (r:Bool),Ext Any Non (s.cxN cxN) s3→T.get tm3 2=some (.bool r)→r=Cm p→W (runF envS (n-1-1-1) ⟨94,SD_,JM,tm3,JX.tail, .run, .normal,none⟩) s3 fun p s1=>Q p.1 (s1.cxN s.cx):=fun s3 tm3 r x3 hr3 e=>by
  refine W.end' (rs:=[2]) (vs:=[.bool r]) PG_ (.inl Aea_) (by omega) DX_ AcC_ x3.cx (by simp[hr3]) ?_
  rw[e]
  exact q _ x3.cx'
 have y3:Ext Any Non (s.cxN cxN) (s2.rdN (s.next+(0+0))):=hx2.thenRd hb _
 by_cases c1:(1:Int)≤p.num
 case neg=>
  simp only[Ac,W_oS,W_on,Aa,W_mv,Ab,Ap,T.get_set,Af,Ae,Ao,Al,Ad,Ai,reduceIte,Ah,Av,As,Au,Ak,Aq,Ar,Aw,Aj,An,Nat.reduceEqDiff,reduceCtorEq, ↓reduceIte,AD,AL,AC,AK,AT,AP,AQ,AM,c1,decide_false]
  exact fin _ _ false y3 (by simp[T.get_set]) (by unfold Cm;rw[decide_eq_false c1];simp)
 simp only[Ac,W_oS,W_on,Aa,W_mv,Ab,Ap,T.get_set,Af,Ae,Ao,Al,Ad,Ai,reduceIte,Ah,Av,As,Au,Ak,Aq,Ar,Aw,Aj,An,Nat.reduceEqDiff,reduceCtorEq, ↓reduceIte,AD,AL,AC,AK,AT,AP,AQ,AM,c1,decide_true,Be DU (by decide)]
 refine W.load1 Bl (b0.same rfl rfl).at' ?_
 have y4:=y3.thenRd hb (s.next+(0+0))
 by_cases c2:p.num≤999999
 case neg=>
  simp only[Ac,W_oS,W_on,Aa,W_mv,Ab,Ap,T.get_set,Af,Ae,Ao,Al,Ad,Ai,reduceIte,Ah,Av,As,Au,Ak,Aq,Ar,Aw,Aj,An,Nat.reduceEqDiff,reduceCtorEq, ↓reduceIte,AD,AL,AC,AK,AT,AP,AQ,AM,c2,decide_false]
  exact fin _ _ false y4 (by simp[T.get_set]) (by unfold Cm;rw[decide_eq_false c2];simp)
 simp only[Ac,W_oS,W_on,Aa,W_mv,Ab,Ap,T.get_set,Af,Ae,Ao,Al,Ad,Ai,reduceIte,Ah,Av,As,Au,Ak,Aq,Ar,Aw,Aj,An,Nat.reduceEqDiff,reduceCtorEq, ↓reduceIte,AD,AL,AC,AK,AT,AP,AQ,AM,c2,decide_true,Be Fb (by decide)]
 refine W.load1 Bl (b1.same rfl rfl).at' ?_
 have y5:=y4.thenRd hb (s.next+(0+1))
 by_cases c3:(0:Int)≤p.size
 case neg=>
  simp only[Ac,W_oS,W_on,Aa,W_mv,Ab,Ap,T.get_set,Af,Ae,Ao,Al,Ad,Ai,reduceIte,Ah,Av,As,Au,Ak,Aq,Ar,Aw,Aj,An,Nat.reduceEqDiff,reduceCtorEq, ↓reduceIte,AD,AL,AC,AK,AT,AP,AQ,AM,c3,decide_false]
  exact fin _ _ false y5 (by simp[T.get_set]) (by unfold Cm;rw[decide_eq_false c3];simp)
 simp only[Ac,W_oS,W_on,Aa,W_mv,Ab,Ap,T.get_set,Af,Ae,Ao,Al,Ad,Ai,reduceIte,Ah,Av,As,Au,Ak,Aq,Ar,Aw,Aj,An,Nat.reduceEqDiff,reduceCtorEq, ↓reduceIte,AD,AL,AC,AK,AT,AP,AQ,AM,c3,decide_true,Be Fb (by decide)]
 refine W.load1 Bl (b1.same rfl rfl).at' ?_
 have y6:=y5.thenRd hb (s.next+(0+1))
 by_cases c4:p.size≤65536
 case neg=>
  simp only[Ac,W_oS,W_on,Aa,W_mv,Ab,Ap,T.get_set,Af,Ae,Ao,Al,Ad,Ai,reduceIte,Ah,Av,As,Au,Ak,Aq,Ar,Aw,Aj,An,Nat.reduceEqDiff,reduceCtorEq, ↓reduceIte,AD,AL,AC,AK,AT,AP,AQ,AM,c4,decide_false]
  exact fin _ _ false y6 (by simp[T.get_set]) (by unfold Cm;rw[decide_eq_false c4];simp)
 simp only[Ac,W_oS,W_on,Aa,W_mv,Ab,Ap,T.get_set,Af,Ae,Ao,Al,Ad,Ai,reduceIte,Ah,Av,As,Au,Ak,Aq,Ar,Aw,Aj,An,Nat.reduceEqDiff,reduceCtorEq, ↓reduceIte,AD,AL,AC,AK,AT,AP,AQ,AM,c4,decide_true,DO]
 exact fin _ _ (!(p.hs.any oddH)) y6 (by simp[T.get_set]) (by unfold Cm;rw[decide_eq_true c1,decide_eq_true c2,decide_eq_true c3,decide_eq_true c4];simp)
end Go.Proofs.Ytofanlcjeohcjaa.Am
end
