import Derived.Test.YtofanlcjeohcjaaIAg20
import Derived.Test.YtofanlcjeohcjaaIAg18
import Derived.Test.YtofanlcjeohcjaaIAg17
import Derived.Test.YtofanlcjeohcjaaIAg07
namespace Go.Proofs.Ytofanlcjeohcjaa.Am
open Go.RowKit
theorem QE_:Dd envS 35=some (List.replicate 16 (.int .u8 0)++[.int .i64 0, .int .i64 0]):=by kernel_rfl
def B6 (size:Int):Int→List HdI→Bool
 |_,[]=>true
 |e,h::t=>decide (e≤h.2.1)&&decide (h.2.1≤size-BM h.2.2)&&B6 size (h.2.1+BM h.2.2) t
theorem Mk_ (a:Int):0≤BM a∧BM a≤1050:=by
 unfold BM
 split<;>omega
section
variable {p:PkI}{Q:Value×FrameMode→St→Prop}
theorem RB_ {B:Nat}{s0:St}(hb0:s0.lim≤s0.next)(hr:HiR s0 p.v p.hs)(h16: ∀h∈p.hs,h.1.length=16)(hz:p.hs.length≤9223372036854775807)(hs0:0≤p.size)(hs1:p.size≤65536)(hodd:p.hs.any oddH=false)(hcx:s0.cx=cxN)(ho:Own s0 B 1 (.int .i64 p.size))
  (q: ∀s1,Ext Any Non s0 s1→Q (.bool (B6 p.size 0 p.hs), .run) s1):
  ∀(k i n:Nat) (e:Int) (tm:T Value) (s:St) (td:List Item),i+k=p.hs.length→20*k+100≤n→skim 64 td=GQ→Ext Any Non s0 s→0≤e→e≤70000→B6 p.size 0 p.hs=B6 p.size e (p.hs.drop i)→
  T.get tm 1=some (.pointer (some ⟨B,0,none⟩))→T.get tm 3=some (.int .i64 e)→T.get tm 7=some p.v→T.get tm 8=some (.int .i64 (p.hs.length:Nat))→T.get tm 9=some (.int .i64 (i:Nat))→
  W (runF envS n ⟨95,UJ,CM,tm,td, .run, .normal,none⟩) s Q:=by
 intro k
 induction k with
 |zero=>
  intro i n e tm s td hi hn hT hx he0 he1 hl h1 h3 h7 h8 h9
  refine Vh.w hT (by omega) ?_
  simp only[RH,Ac,W_oS,W_on,Aa,W_mv,Ab,Ap,T.get_set,Af,Ae,Ao,Al,Ad,Ai,reduceIte,Ah,Av,As,Au,Ak,Aq,Ar,Aw,Aj,An,Nat.reduceEqDiff,reduceCtorEq, ↓reduceIte,AD,AL,AC,AK,AT,AP,AQ,AM,h8,h9]
  refine W.cond (v:=false) WH UX (by simp[T.get_set];omega) (by omega) (fun h=>by cases h) fun _=> ?_
  refine Zx_.w Gx_ (by omega) ?_
  simp only[U0,Ac,W_oS,W_on,Aa,W_mv,Ab,Ap,T.get_set,Af,Ae,Ao,Al,Ad,Ai,reduceIte,Ah,Av,As,Au,Ak,Aq,Ar,Aw,Aj,An,Nat.reduceEqDiff,reduceCtorEq, ↓reduceIte]
  refine W.end' (rs:=[2]) (vs:=[.bool true]) Ack_ (.inl Mn_) (by omega) TN Xb (hx.cx.trans hcx) (by simp[T.get_set]) ?_
  have:=q s hx
  rw[hl,List.drop_of_length_le (by omega)]at this
  exact this
 |succ k ih=>
  intro i n e tm s td hi hn hT hx he0 he1 hl h1 h3 h7 h8 h9
  have hil:i<p.hs.length:=by omega
  have h16i:=h16 _ (List.getElem_mem hil)
  have hb:=hx.bnd hb0
  obtain⟨b,o,c,ev,ga,_⟩:=(hr.ext0 hx).at h16 hil
  have hd:p.hs.drop i=p.hs[i]::p.hs.drop (i+1):=(List.getElem_cons_drop ..).symm
  have hod:oddH p.hs[i]=false:=by
   cases ho:oddH p.hs[i]with
   |false=>rfl
   |true=>
    have:p.hs.any oddH=true:=List.any_eq_true.2 ⟨_,List.getElem_mem hil,ho⟩
    rw[hodd]at this
    cases this
  generalize hh:p.hs[i]=h at *
  have hat:0≤h.2.1:=by
   unfold oddH at hod
   rw[Bool.or_eq_false_iff,decide_eq_false_iff_not]at hod
   omega
  obtain⟨z0,z1⟩:=Mk_ h.2.2
  refine Vh.w hT (by omega) ?_
  simp only[RH,Ac,W_oS,W_on,Aa,W_mv,Ab,Ap,T.get_set,Af,Ae,Ao,Al,Ad,Ai,reduceIte,Ah,Av,As,Au,Ak,Aq,Ar,Aw,Aj,An,Nat.reduceEqDiff,reduceCtorEq, ↓reduceIte,AD,AL,AC,AK,AT,AP,AQ,AM,h8,h9]
  refine W.cond (v:=true) WH UX (by simp[T.get_set];omega) (by omega) (fun _=> ?_) fun h=>by cases h
  refine Ade_.w AdZ_ (by omega) ?_
  simp only[AS_,Ac,W_oS,W_on,Aa,W_mv,Ab,Ap,T.get_set,Af,Ae,Ao,Al,Ad,Ai,reduceIte,Ah,Av,As,Au,Ak,Aq,Ar,Aw,Aj,An,Nat.reduceEqDiff,reduceCtorEq, ↓reduceIte,h7,ev,h9,BC D3 hil]
  refine W.loadA H3 ga (Fg h16i) fun s1 m1 n1 x1=> ?_
  try simp only[Ac,W_oS,W_on,Aa,W_mv,Ab,Ap,T.get_set,Af,Ae,Ao,Al,Ad,Ai,reduceIte,Ah,Av,As,Au,Ak,Aq,Ar,Aw,Aj,An,Nat.reduceEqDiff,reduceCtorEq, ↓reduceIte]
  refine W.alloc QE_ fun s2 n2 x2 o2=> ?_
  try simp only[Ac,W_oS,W_on,Aa,W_mv,Ab,Ap,T.get_set,Af,Ae,Ao,Al,Ad,Ai,reduceIte,Ah,Av,As,Au,Ak,Aq,Ar,Aw,Aj,An,Nat.reduceEqDiff,reduceCtorEq, ↓reduceIte]
  have n2':s2.next=s1.next+19:=n2
  refine W.store H3 (Fg h16i) (CG_ h) (fun j hj=>Ay.owned o2 j (by simpa using hj)) fun s3 n3 x3 o3=> ?_
  rw[DI]at o3
  have xs1:Ext Any Non s0 s1:=hx.then0 x1 hb0
  have hlt0:s0.next≤s1.next:=xs1.nxt
  have xs2:Ext Any Non s0 s2:=xs1.then0 x2 hb0
  have xs3:Ext Any Non s0 s3:=xs2.trans x3 hb0 (fun _ _ _=>trivial) fun y hy h=>by
   have h1:=h.1
   omega
  have hb3:=xs3.bnd hb0
  have oB:Own s3 B (0+1) (.int .i64 p.size):=by
   have:=ho.ext xs3 id
   rwa [Nat.zero_add]
  have o16:Own s3 s1.next (0+16) (.int .i64 h.2.1):=o3 16 _ (JW h16i).1
  have o17:Own s3 s1.next (0+17) (.int .i64 h.2.2):=o3 17 _ (JW h16i).2
  generalize hC:s1.next=C at *
  have keep: ∀b o u,Own s3 b o u→At (dSt s3.mem s3.next) b o u:=fun b o u hu=>(hu.same (s':=dSt s3.mem s3.next) rfl rfl).at'
  have hsub:wrap64 (p.size-BM h.2.2)=p.size-BM h.2.2:=Bq (by omega) (by omega)
  have after: ∀(n':Nat) (s4:St) (bad:Bool) (tm4:T Value) (td4:List Item),n≤n'+8→skim 64 td4=Fc→Ext Any Non s0 s4→s4.mem=s3.mem→s4.next=s3.next→(bad=true→B6 p.size 0 p.hs=false)→(bad=false→B6 p.size 0 p.hs=B6 p.size (h.2.1+BM h.2.2) (p.hs.drop (i+1))∧h.2.1≤p.size)→
    T.get tm4 27=some (.bool bad)→T.get tm4 1=some (.pointer (some ⟨B,0,none⟩))→T.get tm4 5=some (.pointer (some ⟨C,0,none⟩))→T.get tm4 7=some p.v→T.get tm4 8=some (.int .i64 (p.hs.length:Nat))→T.get tm4 9=some (.int .i64 (i:Nat))→W (runF envS n' ⟨95,UJ,CM,tm4,td4, .run, .normal,none⟩) s4 Q:=by
   intro n' s4 bad tm4 td4 hn' hT4 x4 m4 n4 hb1 hb2 g27 g1 g5 g7 g8 g9
   cases bad with
   |true=>
    refine W.cond (v:=true) hT4 Y4 g27 (by omega) (fun _=> ?_) fun h=>by cases h
    refine Afm_.w Ui_ (by omega) ?_
    simp only[V2,Ac,W_oS,W_on,Aa,W_mv,Ab,Ap,T.get_set,Af,Ae,Ao,Al,Ad,Ai,reduceIte,Ah,Av,As,Au,Ak,Aq,Ar,Aw,Aj,An,Nat.reduceEqDiff,reduceCtorEq, ↓reduceIte]
    refine W.end' (rs:=[2]) (vs:=[.bool false]) QS_ (.inl IO_) (by omega) TN Xb (x4.cx.trans hcx) (by simp[T.get_set]) ?_
    have:=q s4 x4
    rw[hb1 rfl]at this
    exact this
   |false=>
    obtain⟨hl2,hle⟩:=hb2 rfl
    refine W.cond (v:=false) hT4 Y4 g27 (by omega) (fun h=>by cases h) fun _=> ?_
    refine KA_.w HS_ (by omega) ?_
    have keep4: ∀b o u,Own s3 b o u→At (dSt s4.mem s4.next) b o u:=fun b o u hu=>(hu.same (s':=dSt s4.mem s4.next) m4 n4).at'
    simp only[Di_,g5,CF,Dz,Af,Ae,Ad,EE]
    rw[W_dq fun s Q=>Be (s:=s) KF (by decide) Q]
    refine W.dload Bl (keep4 _ _ _ o16) fun rd1 hr1=> ?_
    rw[W_dq fun s Q=>Be (s:=s) Pr (by decide) Q]
    refine W.dload Bl (keep4 _ _ _ o17) fun rd2 hr2=> ?_
    refine W.dop0 (FH _ (by omega) ⟨rfl, ?_⟩)
    have hadd:wrap64 (h.2.1+BM h.2.2)=h.2.1+BM h.2.2:=Bq (by omega) (by omega)
    rw[W_dq fun s Q=>AD (s:=s) _ _,hadd,Aa]
    refine⟨Dj (by simp) (by simp), ?_⟩
    refine W.cast (Aak_ _ _ _ _ _ _ _ _ _ _ _) ?_
    try simp only[Ac,W_oS,W_on,Aa,W_mv,Ab,Ap,T.get_set,Af,Ae,Ao,Al,Ad,Ai,reduceIte,Ah,Av,As,Au,Ak,Aq,Ar,Aw,Aj,An,Nat.reduceEqDiff,reduceCtorEq, ↓reduceIte]
    generalize hs':(⟨(dSt s4.mem s4.next).mem,(dSt s4.mem s4.next).next,s4.lim,_,_,s4.cx⟩:St)=s5
    have x5:Ext Any Non s0 s5:=by
     rw[←hs']
     refine x4.then0 (Ext.draw (F:=Any) (Nat.le_refl _) (fun _ _=>rfl) (by simp) fun _ _ _ _ _=>trivial) hb0
    refine Acb_.w Zo_ (by omega) ?_
    have ei:wrap64 ((i:Nat)+1:Int)=((i+1:Nat):Int):=by
     rw[Bq (by omega) (by omega)];simp
    simp only[U2,Ac,W_oS,W_on,Aa,W_mv,Ab,Ap,T.get_set,Af,Ae,Ao,Al,Ad,Ai,reduceIte,Ah,Av,As,Au,Ak,Aq,Ar,Aw,Aj,An,Nat.reduceEqDiff,reduceCtorEq, ↓reduceIte,AD,AL,AC,AK,AT,AP,AQ,AM,g9,ei]
    exact ih (i+1) _ (h.2.1+BM h.2.2) _ _ _ (by omega) (by omega) RC_ x5 (by omega) (by omega) hl2 (by simp[T.get_set,g1]) (by simp[T.get_set]) (by simp[T.get_set,g7]) (by simp[T.get_set,g8]) (by simp[T.get_set])
  rw[hd]at hl
  have hlb:B6 p.size e (h::p.hs.drop (i+1))=(decide (e≤h.2.1)&&decide (h.2.1≤p.size-BM h.2.2)&&B6 p.size (h.2.1+BM h.2.2) (p.hs.drop (i+1))):=rfl
  rw[hlb]at hl
  refine ZI_.w VC_ (by omega) ?_
  simp only[Xd,T.get_set,Nat.reduceEqDiff, ↓reduceIte,h1,h3,CF,Dz,Af,Ae,Ad,EE]
  rw[W_dq fun s Q=>Be (s:=s) KF (by decide) Q]
  refine W.dload Bl (keep _ _ _ o16) fun rd1 hr1=> ?_
  simp only[Bm]
  rw[W_dq fun s Q=>AC (s:=s) _ _]
  by_cases hlt:h.2.1<e
  ·simp only[Bm,hlt,decide_true,Ah,Cx,As,if_f,Aa]
   refine⟨Dj (by simp) (by simp), ?_⟩
   refine W.cast (CJ_ _ _ _ _ _ _ _ _ _ _ _ _ _ _ _ _ _ _ _) ?_
   try simp only[Ac,W_oS,W_on,Aa,W_mv,Ab,Ap,T.get_set,Af,Ae,Ao,Al,Ad,Ai,reduceIte,Ah,Av,As,Au,Ak,Aq,Ar,Aw,Aj,An,Nat.reduceEqDiff,reduceCtorEq, ↓reduceIte]
   refine after _ _ true _ _ (by omega) ER_ (xs3.then0 (Ext.draw (F:=Any) (Nat.le_refl _) (fun _ _=>rfl) (by simp) fun _ _ _ _ _=>trivial) hb0) rfl rfl (fun _=>by rw[hl,decide_eq_false (by omega)];rfl) (fun h=>by cases h) (by simp[T.get_set]) (by simp[T.get_set,h1]) (by simp[T.get_set]) (by simp[T.get_set,h7,ev]) (by simp[T.get_set,h8]) (by simp[T.get_set,h9])
  ·simp only[Bm,hlt,decide_false,Ah,Cx,Ak,if_t]
   rw[W_dq fun s Q=>Be (s:=s) KF (by decide) Q]
   refine W.dload Bl (keep _ _ _ o16) fun rd2 hr2=> ?_
   rw[W_dq fun s Q=>Be (s:=s) Fb (by decide) Q]
   refine W.dload Bl (keep _ _ _ oB) fun rd3 hr3=> ?_
   rw[W_dq fun s Q=>Be (s:=s) Pr (by decide) Q]
   refine W.dload Bl (keep _ _ _ o17) fun rd4 hr4=> ?_
   refine W.dop0 (FH _ (by omega) ⟨rfl, ?_⟩)
   rw[W_dq fun s Q=>AL (s:=s) _ _,hsub]
   dsimp only
   rw[W_dq fun s Q=>AK (s:=s) _ _,Aa]
   refine⟨Dj (by simp) (by simp), ?_⟩
   refine W.cast (CJ_ _ _ _ _ _ _ _ _ _ _ _ _ _ _ _ _ _ _ _) ?_
   try simp only[Ac,W_oS,W_on,Aa,W_mv,Ab,Ap,T.get_set,Af,Ae,Ao,Al,Ad,Ai,reduceIte,Ah,Av,As,Au,Ak,Aq,Ar,Aw,Aj,An,Nat.reduceEqDiff,reduceCtorEq, ↓reduceIte]
   refine after _ _ (decide (p.size-BM h.2.2<h.2.1)) _ _ (by omega) ER_ (xs3.then0 (Ext.draw (F:=Any) (Nat.le_refl _) (fun _ _=>rfl) (by simp) fun _ _ _ _ _=>trivial) hb0) rfl rfl (fun hq=> ?_) (fun hq=> ?_) (by simp[T.get_set]) (by simp[T.get_set,h1]) (by simp[T.get_set]) (by simp[T.get_set,h7,ev]) (by simp[T.get_set,h8]) (by simp[T.get_set,h9])
   ·have hq':=of_decide_eq_true hq
    rw[hl,decide_eq_false (show ¬h.2.1≤p.size-BM h.2.2 by omega)]
    simp
   ·have hq':=of_decide_eq_false hq
    refine⟨?_,by omega⟩
    rw[hl,decide_eq_true (show e≤h.2.1 by omega),decide_eq_true (show h.2.1≤p.size-BM h.2.2 by omega)]
    rfl
theorem Agg_ {n:Nat}{s:St}{Q:Value→St→Prop}(hb:s.lim≤s.next)(hr:HiR s p.v p.hs)(h16: ∀h∈p.hs,h.1.length=16)(hz:p.hs.length≤9223372036854775807)(hok:Cm p=true)(hn:20*p.hs.length+200≤n)(q: ∀s1,Ext Any Non s s1→Q (.bool (B6 p.size 0 p.hs)) s1):
  W (AJ envS (runF envS n) 95 [.agg (pkC p).toArray]) s Q:=by
 unfold Cm at hok
 simp only[Bool.and_eq_true,decide_eq_true_eq,Bool.not_eq_true']at hok
 obtain⟨⟨⟨⟨_,_⟩,c3⟩,c4⟩,c5⟩:=hok
 refine Tl_ fun tm h0=> ?_
 refine RP_.w rfl (by omega) ?_
 simp only[BW_,Ac,W_oS,W_on,Aa,W_mv,Ab,Ap,T.get_set,Af,Ae,Ao,Al,Ad,Ai,reduceIte,Ah,Av,As,Au,Ak,Aq,Ar,Aw,Aj,An,Nat.reduceEqDiff,reduceCtorEq, ↓reduceIte,h0]
 refine W.box fun sa na xa oa=> ?_
 rw[DI]at oa
 have oa':Ay sa s.next 0 (pkC p):=oa
 have o1:Own sa s.next (0+1) (.int .i64 p.size):=oa' 1 _ rfl
 have o2:Own sa s.next (0+2) p.v:=oa' 2 _ rfl
 try simp only[Ac,W_oS,W_on,Aa,W_mv,Ab,Ap,T.get_set,Af,Ae,Ao,Al,Ad,Ai,reduceIte,Ah,Av,As,Au,Ak,Aq,Ar,Aw,Aj,An,Nat.reduceEqDiff,reduceCtorEq, ↓reduceIte]
 refine TA_.w WH_ (by omega) ?_
 simp only[Gc_,Ac,W_oS,W_on,Aa,W_mv,Ab,Ap,T.get_set,Af,Ae,Ao,Al,Ad,Ai,reduceIte,Ah,Av,As,Au,Ak,Aq,Ar,Aw,Aj,An,Nat.reduceEqDiff,reduceCtorEq, ↓reduceIte]
 refine Yb_.w RO_ (by omega) ?_
 simp only[Ax_,Ac,W_oS,W_on,Aa,W_mv,Ab,Ap,T.get_set,Af,Ae,Ao,Al,Ad,Ai,reduceIte,Ah,Av,As,Au,Ak,Aq,Ar,Aw,Aj,An,Nat.reduceEqDiff,reduceCtorEq, ↓reduceIte,Be EJ (by decide)]
 refine W.load1 Da o2.at' ?_
 have x1:Ext Any Non (s.cxN cxN) (sa.rdN (s.next+(0+2))):=(xa.any hb).thenRd hb _
 have hr1:HiR (sa.rdN (s.next+(0+2))) p.v p.hs:=(hr.same (s':=s.cxN cxN) rfl rfl).ext0 x1
 try simp only[Ac,W_oS,W_on,Aa,W_mv,Ab,Ap,T.get_set,Af,Ae,Ao,Al,Ad,Ai,reduceIte,Ah,Av,As,Au,Ak,Aq,Ar,Aw,Aj,An,Nat.reduceEqDiff,reduceCtorEq, ↓reduceIte]
 rw[hr1.len]
 try simp only[Ac,W_oS,W_on,Aa,W_mv,Ab,Ap,T.get_set,Af,Ae,Ao,Al,Ad,Ai,reduceIte,Ah,Av,As,Au,Ak,Aq,Ar,Aw,Aj,An,Nat.reduceEqDiff,reduceCtorEq, ↓reduceIte]
 refine RB_ (p:=p) (B:=s.next) (s0:=sa.rdN (s.next+(0+2))) (x1.bnd hb) hr1 h16 hz c3 c4 c5 x1.cx (by have:=o1.same (s':=sa.rdN (s.next+(0+2))) rfl rfl;rwa [Nat.zero_add]at this) (fun s1 y1=>q _ (x1.then0 y1 hb).cx') p.hs.length 0 _ 0 _ _ _ (by omega) (by omega) Tg_ (Ext.refl _) (by omega) (by omega) (by rw[List.drop_zero]) (by simp[T.get_set];rfl) (by simp[T.get_set]) (by simp[T.get_set]) (by simp[T.get_set]) (by simp[T.get_set])
end
def BX (ps:List PkI):Nat:=(ps.map fun p=>p.hs.length).sum
def CV:Option Int→List PkI→Bool
 |_,[]=>true
 |pr,p::t=>(match pr with|none=>true|some x=>decide (x<p.num))&&B6 p.size 0 p.hs&&CV (some p.num) t
def EW (ps:List PkI):Int:=if decide (500<ps.length)||decide (20000<BX ps)then 3 else if ps.all Cm then(if CV none ps then 0 else 2)else 5
theorem Ua {ps:List PkI}{i:Nat}(hi:i<ps.length):BX (ps.take (i+1))=BX (ps.take i)+ps[i].hs.length:=by
 unfold BX
 rw[List.take_succ_eq_append_getElem hi,List.map_append,List.sum_append]
 simp
theorem ET_ {ps:List PkI}(i:Nat):BX (ps.take i)≤BX ps:=by
 have e:BX ps=BX (ps.take i)+BX (ps.drop i):=by
  unfold BX
  rw[←List.sum_append,←List.map_append,List.take_append_drop]
 omega
theorem Jh {ps:List PkI}{i:Nat}(hi:i<ps.length):ps[i].hs.length≤BX ps:=by
 have h1:=Ua hi
 have h2:=ET_ (ps:=ps) (i+1)
 omega
theorem XY_ {ps:List PkI}{i:Nat}{pr:Option Int}(hi:i<ps.length):CV pr (ps.drop i)=((match pr with|none=>true|some x=>decide (x<ps[i].num))&&B6 ps[i].size 0 ps[i].hs&&CV (some ps[i].num) (ps.drop (i+1))):=by
 rw[←List.getElem_cons_drop (h:=hi)]
 rfl
section
variable {v:Value}{ps:List PkI}{Q:Value×FrameMode→St→Prop}{s0:St}
theorem UQ_ (hb0:s0.lim≤s0.next)(hr:PkR s0 v ps)(hz:BX ps≤1000000000)(hcx:s0.cx=cxN)(hall:ps.all Cm=true)(hps:ps.length≤1000000000)
  (q: ∀s1,Ext Any Non s0 s1→Q (.int .i64 (if CV none ps then 0 else 2), .run) s1):
  ∀(k i n:Nat) (pr:Option Int) (tm:T Value) (s:St) (td:List Item),i+k=ps.length→20*k+20*BX ps+300≤n→skim 64 td=Hn→Ext Any Non s0 s→CV none ps=CV pr (ps.drop i)→(i=0∧pr=none∨ ∃(h:i-1<ps.length),0<i∧pr=some ps[i-1].num)→
  T.get tm 0=some v→T.get tm 39=some v→T.get tm 40=some (.int .i64 (ps.length:Nat))→T.get tm 41=some (.int .i64 (i:Nat))→
  W (runF envS n ⟨43,JY,BT,tm,td, .run, .normal,none⟩) s Q:=by
 intro k
 induction k with
 |zero=>
  intro i n pr tm s td hi hn hT hx ho hpr h0 h39 h40 h41
  refine Yz.w hT (by omega) ?_
  simp only[R9,Ac,W_oS,W_on,Aa,W_mv,Ab,Ap,T.get_set,Af,Ae,Ao,Al,Ad,Ai,reduceIte,Ah,Av,As,Au,Ak,Aq,Ar,Aw,Aj,An,Nat.reduceEqDiff,reduceCtorEq, ↓reduceIte,AD,AL,AC,AK,AT,AP,AQ,AM,h40,h41]
  refine W.cond (v:=false) Dj_ Xz (by simp[T.get_set];omega) (by omega) (fun h=>by cases h) fun _=> ?_
  refine Mw_.w Wr_ (by omega) ?_
  simp only[CK_,Ac,W_oS,W_on,Aa,W_mv,Ab,Ap,T.get_set,Af,Ae,Ao,Al,Ad,Ai,reduceIte,Ah,Av,As,Au,Ak,Aq,Ar,Aw,Aj,An,Nat.reduceEqDiff,reduceCtorEq, ↓reduceIte]
  refine W.end' (rs:=[2]) (vs:=[.int .i64 0]) Vy_ (.inl Py_) (by omega) IC OD (hx.cx.trans hcx) (by simp[T.get_set]) ?_
  have:=q s hx
  rw[ho,List.drop_of_length_le (by omega)]at this
  exact this
 |succ k ih=>
  intro i n pr tm s td hi hn hT hx ho hpr h0 h39 h40 h41
  have hil:i<ps.length:=by omega
  have hb:=hx.bnd hb0
  obtain⟨b,o,c,ev,ga,gh,g16,_,_⟩:=(hr.ext0 hx).at hil
  have hbo:Cm ps[i]=true:=List.all_eq_true.1 hall _ (List.getElem_mem hil)
  have htl:=Jh hil
  rw[XY_ hil]at ho
  refine Yz.w hT (by omega) ?_
  simp only[R9,Ac,W_oS,W_on,Aa,W_mv,Ab,Ap,T.get_set,Af,Ae,Ao,Al,Ad,Ai,reduceIte,Ah,Av,As,Au,Ak,Aq,Ar,Aw,Aj,An,Nat.reduceEqDiff,reduceCtorEq, ↓reduceIte,AD,AL,AC,AK,AT,AP,AQ,AM,h40,h41]
  refine W.cond (v:=true) Dj_ Xz (by simp[T.get_set];omega) (by omega) (fun _=> ?_) fun h=>by cases h
  refine ZF_.w Re_ (by omega) ?_
  simp only[DP_,Ac,W_oS,W_on,Aa,W_mv,Ab,Ap,T.get_set,Af,Ae,Ao,Al,Ad,Ai,reduceIte,Ah,Av,As,Au,Ak,Aq,Ar,Aw,Aj,An,Nat.reduceEqDiff,reduceCtorEq, ↓reduceIte,h39,ev,h41,BC Ch hil]
  refine W.loadA C3 ga rfl fun s1 m1 n1 x1=> ?_
  try simp only[Ac,W_oS,W_on,Aa,W_mv,Ab,Ap,T.get_set,Af,Ae,Ao,Al,Ad,Ai,reduceIte,Ah,Av,As,Au,Ak,Aq,Ar,Aw,Aj,An,Nat.reduceEqDiff,reduceCtorEq, ↓reduceIte]
  refine W.alloc L0 fun s2 n2 x2 o2=> ?_
  try simp only[Ac,W_oS,W_on,Aa,W_mv,Ab,Ap,T.get_set,Af,Ae,Ao,Al,Ad,Ai,reduceIte,Ah,Av,As,Au,Ak,Aq,Ar,Aw,Aj,An,Nat.reduceEqDiff,reduceCtorEq, ↓reduceIte]
  have n2':s2.next=s1.next+4:=n2
  refine W.store C3 (v:= .agg (pkC ps[i]).toArray) rfl (OB gh) (fun j hj=>Ay.owned o2 j (by simpa using hj)) fun s3 n3 x3 o3=> ?_
  rw[DI]at o3
  have xs2:Ext Any Non s0 s2:=(hx.then0 x1 hb0).then0 x2 hb0
  have hlt0:s0.next≤s1.next:=(hx.then0 x1 hb0).nxt
  have xs3:Ext Any Non s0 s3:=xs2.trans x3 hb0 (fun _ _ _=>trivial) fun y hy h=>by
   have h1:=h.1
   omega
  have hb3:=xs3.bnd hb0
  have hr3:PkR s3 v ps:=hr.ext0 xs3
  have o0:Own s3 s1.next (0+0) (.int .i64 ps[i].num):=o3 0 _ rfl
  have o3':Ay s3 s1.next 0 (pkC ps[i]):=o3
  have hCn:s1.next+4=s3.next:=by omega
  generalize hC:s1.next=C at *
  have after: ∀(n':Nat) (s4:St) (bad:Bool) (tm4:T Value) (td4:List Item),n≤n'+10→skim 64 td4=Fe→Ext Any Non s0 s4→(bad=true→CV none ps=false)→(bad=false→CV none ps=CV (some ps[i].num) (ps.drop (i+1)))→
    T.get tm4 63=some (.bool bad)→T.get tm4 0=some v→T.get tm4 39=some v→T.get tm4 40=some (.int .i64 (ps.length:Nat))→T.get tm4 41=some (.int .i64 (i:Nat))→W (runF envS n' ⟨43,JY,BT,tm4,td4, .run, .normal,none⟩) s4 Q:=by
   intro n' s4 bad tm4 td4 hn' hT4 x4 hb1 hb2 g63 g0 g39 g40 g41
   cases bad with
   |true=>
    refine W.cond (v:=true) hT4 Yh g63 (by omega) (fun _=> ?_) fun h=>by cases h
    refine QR_.w Aai_ (by omega) ?_
    simp only[Ds_,Ac,W_oS,W_on,Aa,W_mv,Ab,Ap,T.get_set,Af,Ae,Ao,Al,Ad,Ai,reduceIte,Ah,Av,As,Au,Ak,Aq,Ar,Aw,Aj,An,Nat.reduceEqDiff,reduceCtorEq, ↓reduceIte]
    refine W.end' (rs:=[2]) (vs:=[.int .i64 2]) Xh_ (.inl Vz_) (by omega) IC OD (x4.cx.trans hcx) (by simp[T.get_set]) ?_
    have:=q s4 x4
    rw[hb1 rfl]at this
    exact this
   |false=>
    refine W.cond (v:=false) hT4 Yh g63 (by omega) (fun h=>by cases h) fun _=> ?_
    refine HD_.w Aaj_ (by omega) ?_
    have ei:wrap64 ((i:Nat)+1:Int)=((i+1:Nat):Int):=by
     rw[Bq (by omega) (by omega)];simp
    simp only[Gl_,Ac,W_oS,W_on,Aa,W_mv,Ab,Ap,T.get_set,Af,Ae,Ao,Al,Ad,Ai,reduceIte,Ah,Av,As,Au,Ak,Aq,Ar,Aw,Aj,An,Nat.reduceEqDiff,reduceCtorEq, ↓reduceIte,AD,AL,AC,AK,AT,AP,AQ,AM,g41,ei]
    exact ih (i+1) _ (some ps[i].num) _ _ _ (by omega) (by omega) AbC_ x4 (hb2 rfl) (.inr ⟨by omega,by omega,rfl⟩) (by simp[T.get_set,g0]) (by simp[T.get_set,g39]) (by simp[T.get_set,g40]) (by simp[T.get_set])
  have lies: ∀(mem:T Cell) (next:Nat) (f:Value×OpLog→M ((Rho×T Value)×List OpLog)) (Q':(Rho×T Value)×List OpLog→St→Prop),mem=s3.mem→next=s3.next→(∀(s1:St) (rd:List Nat),s3.next≤s1.next→(∀x,x<s3.next→T.get s1.mem x=T.get s3.mem x)→(∀x∈rd,x<s3.next)→W (f (.bool (B6 ps[i].size 0 ps[i].hs),⟨s3.next,s1.next,rd,[]⟩)) (dSt s1.mem s1.next) Q')→
    W (M.bind (apartO (AJ envS (runF envS (n-1-1-1-1)) 95 [.agg (pkC ps[i]).toArray])) f) (dSt mem next) Q':=by
   intro mem next f Q' e1 e2 h
   subst e1;subst e2
   refine W.dop (Agg_ (s:=oSt s3.mem s3.next) (Nat.le_refl _) ((hr3.at hil).choose_spec.choose_spec.choose_spec.2.2.1.same rfl rfl) g16 (by omega) hbo (by omega) fun s1 x1=>⟨Any,x1,fun rd hrd=> ?_⟩)
   exact h s1 rd x1.nxt (fun x hx=>x1.mem x hx id) fun x hx=>(hrd x hx).1
  refine Hk_.w Wj_ (by omega) ?_
  simp only[AB_,T.get_set,Nat.reduceEqDiff, ↓reduceIte,h0,CF,Dz,Af,Ae,Ad,EE,Bm]
  rw[W_dq fun s Q=>AK (s:=s) _ _]
  have keep: ∀b o u,Own s3 b o u→At (dSt s3.mem s3.next) b o u:=fun b o u hu=>(hu.same (s':=dSt s3.mem s3.next) rfl rfl).at'
  have keepR:Row (dSt s3.mem s3.next) C 0 (pkC ps[i]):=fun j u e=>keep _ _ _ (o3' j u e)
  rcases hpr with⟨hi0,hpr⟩|⟨hi1,hi0,hpr⟩
  ·have e0:decide ((0:Int)<((i:Nat):Int))=false:=decide_eq_false (by omega)
   subst hpr
   simp only[e0,Bm,Ah,Cx,Au,if_f]
   rw[W_dq fun s Q=>Aj (s:=s) _ _ _ _]
   simp only[Bool.false_eq_true,reduceIte,Bm,Ah,Cx,Ak,if_t]
   refine W.dloadA C3 keepR rfl fun mem1 rd14 em hr14=> ?_
   subst em
   refine lies _ _ _ _ rfl rfl fun s4 rd15 n4 m4 hr15=> ?_
   rw[W_dq fun s Q=>DO (s:=s) _ _ Q,Aa]
   refine⟨LI (by simp) (by
    simp only[List.reverse_cons,List.reverse_nil,List.nil_append,List.cons_append,List.mem_cons,List.not_mem_nil,or_false]
    rintro m (rfl|rfl|rfl|rfl|rfl|rfl|rfl|rfl|rfl|rfl|rfl|rfl|rfl|rfl|rfl|rfl|rfl)<;>refine⟨rfl,fun y hy=> ?_⟩<;>first|(cases hy;done)|(exact hr15 _ hy)|(have h1:=(hr14 _ hy).2;omega)), ?_⟩
   refine W.cast (SX _ _ _ _ _ _ _ _ _ _ _ _ _ _ _ _ _ _ _ _ _ _) ?_
   try simp only[Ac,W_oS,W_on,Aa,W_mv,Ab,Ap,T.get_set,Af,Ae,Ao,Al,Ad,Ai,reduceIte,Ah,Av,As,Au,Ak,Aq,Ar,Aw,Aj,An,Nat.reduceEqDiff,reduceCtorEq, ↓reduceIte]
   refine after _ _ (!(B6 ps[i].size 0 ps[i].hs)) _ _ (by omega) PG (xs3.then0 (Ext.draw (F:=Any) (show s3.next≤s4.next from n4) (fun x hx=>m4 x hx) (by simp) fun _ _ _ _ _=>trivial) hb0) (fun hq=> ?_) (fun hq=> ?_) (by simp[T.get_set]) (by simp[T.get_set,h0]) (by simp[T.get_set,h39,ev]) (by simp[T.get_set,h40]) (by simp[T.get_set,h41])
   ·rw[ho,show B6 ps[i].size 0 ps[i].hs=false by simpa using hq]
    simp
   ·rw[ho,show B6 ps[i].size 0 ps[i].hs=true by simpa using hq]
    simp
  ·have e0:decide ((0:Int)<((i:Nat):Int))=true:=decide_eq_true (by omega)
   subst hpr
   obtain⟨b',o',c',ev',gp,_⟩:=hr3.at hi1
   have gp0:At (dSt s3.mem s3.next) b' (o'+(i-1)*3+0) (.int .i64 ps[i-1].num):=(gp 0 _ rfl).same (s':=dSt s3.mem s3.next) rfl rfl
   have esub:wrap64 (((i:Nat):Int)-1)=((i-1:Nat):Int):=by
    rw[Bq (by omega) (by omega)];omega
   have gplt:b'+(o'+(i-1)*3+0)<s3.next:=gp0.1
   simp only[e0,Bm,Ah,Cx,Av,if_t,ev']
   rw[W_dq fun s Q=>Be (s:=s) DU (by decide) Q]
   refine W.dload Bl (keep _ _ _ o0) fun rd4 hr4=> ?_
   simp only[Bm]
   rw[W_dq fun s Q=>AL (s:=s) ((i:Nat):Int) 1,esub]
   dsimp only
   rw[W_dq fun s Q=>BC (s:=s) Ch hi1 Q]
   dsimp only
   rw[W_dq fun s Q=>Be (s:=s) DU (by decide) Q]
   refine W.dload Bl gp0 fun rd10 hr10=> ?_
   rw[W_dq fun s Q=>AT (s:=s) _ _]
   dsimp only
   rw[W_dq fun s Q=>Aj (s:=s) _ _ _ _]
   by_cases hle:ps[i].num≤ps[i-1].num
   ·simp only[hle,decide_true,reduceIte,Bm,Ah,Cx,As,if_f,Aa]
    refine⟨Dj (by simp) (by simp), ?_⟩
    refine W.cast (SX _ _ _ _ _ _ _ _ _ _ _ _ _ _ _ _ _ _ _ _ _ _) ?_
    try simp only[Ac,W_oS,W_on,Aa,W_mv,Ab,Ap,T.get_set,Af,Ae,Ao,Al,Ad,Ai,reduceIte,Ah,Av,As,Au,Ak,Aq,Ar,Aw,Aj,An,Nat.reduceEqDiff,reduceCtorEq, ↓reduceIte]
    refine after _ _ true _ _ (by omega) PG (xs3.then0 (Ext.draw (F:=Any) (Nat.le_refl _) (fun _ _=>rfl) (by simp) fun _ _ _ _ _=>trivial) hb0) (fun _=> ?_) (fun h=>by cases h) (by simp[T.get_set]) (by simp[T.get_set,h0]) (by simp[T.get_set,h39,ev]) (by simp[T.get_set,h40]) (by simp[T.get_set,h41])
    rw[ho]
    dsimp only
    rw[decide_eq_false (show ¬ps[i-1].num<ps[i].num by omega)]
    simp
   ·simp only[hle,decide_false,reduceIte,Bm,Ah,Cx,Ak,if_t]
    refine W.dloadA C3 keepR rfl fun mem1 rd14 em hr14=> ?_
    subst em
    refine lies _ _ _ _ rfl rfl fun s4 rd15 n4 m4 hr15=> ?_
    rw[W_dq fun s Q=>DO (s:=s) _ _ Q,Aa]
    refine⟨LI (by simp) (by
     simp only[List.reverse_cons,List.reverse_nil,List.nil_append,List.cons_append,List.mem_cons,List.not_mem_nil,or_false]
     rintro m (rfl|rfl|rfl|rfl|rfl|rfl|rfl|rfl|rfl|rfl|rfl|rfl|rfl|rfl|rfl|rfl|rfl)<;>refine⟨rfl,fun y hy=> ?_⟩<;>first|(cases hy;done)|(exact hr15 _ hy)|(have h1:=(hr14 _ hy).2;omega)|(have h1:=hr4 _ hy;omega)|(have h1:=hr10 _ hy;omega)), ?_⟩
    refine W.cast (SX _ _ _ _ _ _ _ _ _ _ _ _ _ _ _ _ _ _ _ _ _ _) ?_
    try simp only[Ac,W_oS,W_on,Aa,W_mv,Ab,Ap,T.get_set,Af,Ae,Ao,Al,Ad,Ai,reduceIte,Ah,Av,As,Au,Ak,Aq,Ar,Aw,Aj,An,Nat.reduceEqDiff,reduceCtorEq, ↓reduceIte]
    refine after _ _ (!(B6 ps[i].size 0 ps[i].hs)) _ _ (by omega) PG (xs3.then0 (Ext.draw (F:=Any) (show s3.next≤s4.next from n4) (fun x hx=>m4 x hx) (by simp) fun _ _ _ _ _=>trivial) hb0) (fun hq=> ?_) (fun hq=> ?_) (by simp[T.get_set]) (by simp[T.get_set,h0]) (by simp[T.get_set,h39,ev]) (by simp[T.get_set,h40]) (by simp[T.get_set,h41])
    ·rw[ho,show B6 ps[i].size 0 ps[i].hs=false by simpa using hq]
     simp
    ·rw[ho]
     dsimp only
     rw[show B6 ps[i].size 0 ps[i].hs=true by simpa using hq,decide_eq_true (show ps[i-1].num<ps[i].num by omega)]
     simp
theorem LM_ (hb0:s0.lim≤s0.next)(hr:PkR s0 v ps)(hz:BX ps≤1000000000)(hcx:s0.cx=cxN)(hps:ps.length≤1000000000)
  (q: ∀s1,Ext Any Non s0 s1→Q (.int .i64 (if ps.all Cm then(if CV none ps then 0 else 2)else 5), .run) s1):
  ∀(k i n:Nat) (tm:T Value) (s:St) (td:List Item),i+k=ps.length→40*ps.length+20*k+40*BX ps+1000≤n→skim 64 td=G6→Ext Any Non s0 s→(ps.take i).all Cm=true→
  T.get tm 0=some v→T.get tm 29=some v→T.get tm 30=some (.int .i64 (ps.length:Nat))→T.get tm 31=some (.int .i64 (i:Nat))→
  W (runF envS n ⟨43,JY,BT,tm,td, .run, .normal,none⟩) s Q:=by
 intro k
 induction k with
 |zero=>
  intro i n tm s td hi hn hT hx ho h0 h29 h30 h31
  rw[show i=ps.length by omega,List.take_length]at ho
  refine AF_.w hT (by omega) ?_
  simp only[PT,Ac,W_oS,W_on,Aa,W_mv,Ab,Ap,T.get_set,Af,Ae,Ao,Al,Ad,Ai,reduceIte,Ah,Av,As,Au,Ak,Aq,Ar,Aw,Aj,An,Nat.reduceEqDiff,reduceCtorEq, ↓reduceIte,AD,AL,AC,AK,AT,AP,AQ,AM,h30,h31]
  refine W.cond (v:=false) AM_ Wy (by simp[T.get_set];omega) (by omega) (fun h=>by cases h) fun _=> ?_
  refine Sd_.w La_ (by omega) ?_
  simp only[Ca_,Ac,W_oS,W_on,Aa,W_mv,Ab,Ap,T.get_set,Af,Ae,Ao,Al,Ad,Ai,reduceIte,Ah,Av,As,Au,Ak,Aq,Ar,Aw,Aj,An,Nat.reduceEqDiff,reduceCtorEq, ↓reduceIte,h0]
  rw[hr.len]
  try simp only[Ac,W_oS,W_on,Aa,W_mv,Ab,Ap,T.get_set,Af,Ae,Ao,Al,Ad,Ai,reduceIte,Ah,Av,As,Au,Ak,Aq,Ar,Aw,Aj,An,Nat.reduceEqDiff,reduceCtorEq, ↓reduceIte]
  refine UQ_ (s0:=s) (hx.bnd hb0) (hr.ext0 hx) hz (hx.cx.trans hcx) ho hps (fun s1 x1=> ?_) ps.length 0 _ none _ _ _ (by omega) (by omega) JA_ (Ext.refl _) (by rw[List.drop_zero]) (.inl ⟨rfl,rfl⟩) (by simp[T.get_set,h0]) (by simp[T.get_set]) (by simp[T.get_set]) (by simp[T.get_set])
  have:=q s1 (hx.then0 x1 hb0)
  rw[ho]at this
  exact this
 |succ k ih=>
  intro i n tm s td hi hn hT hx ho h0 h29 h30 h31
  have hil:i<ps.length:=by omega
  have hb:=hx.bnd hb0
  obtain⟨b,o,c,ev,ga,gh,g16,_,_⟩:=(hr.ext0 hx).at hil
  have htl:=Jh hil
  refine AF_.w hT (by omega) ?_
  simp only[PT,Ac,W_oS,W_on,Aa,W_mv,Ab,Ap,T.get_set,Af,Ae,Ao,Al,Ad,Ai,reduceIte,Ah,Av,As,Au,Ak,Aq,Ar,Aw,Aj,An,Nat.reduceEqDiff,reduceCtorEq, ↓reduceIte,AD,AL,AC,AK,AT,AP,AQ,AM,h30,h31]
  refine W.cond (v:=true) AM_ Wy (by simp[T.get_set];omega) (by omega) (fun _=> ?_) fun h=>by cases h
  refine Kr_.w Qu_ (by omega) ?_
  simp only[Xa,Ac,W_oS,W_on,Aa,W_mv,Ab,Ap,T.get_set,Af,Ae,Ao,Al,Ad,Ai,reduceIte,Ah,Av,As,Au,Ak,Aq,Ar,Aw,Aj,An,Nat.reduceEqDiff,reduceCtorEq, ↓reduceIte,h29,ev,h31,BC Ch hil]
  refine W.loadA C3 ga rfl fun s1 m1 n1 x1=> ?_
  try simp only[Ac,W_oS,W_on,Aa,W_mv,Ab,Ap,T.get_set,Af,Ae,Ao,Al,Ad,Ai,reduceIte,Ah,Av,As,Au,Ak,Aq,Ar,Aw,Aj,An,Nat.reduceEqDiff,reduceCtorEq, ↓reduceIte]
  refine W.alloc L0 fun s2 n2 x2 o2=> ?_
  try simp only[Ac,W_oS,W_on,Aa,W_mv,Ab,Ap,T.get_set,Af,Ae,Ao,Al,Ad,Ai,reduceIte,Ah,Av,As,Au,Ak,Aq,Ar,Aw,Aj,An,Nat.reduceEqDiff,reduceCtorEq, ↓reduceIte]
  have n2':s2.next=s1.next+4:=n2
  refine W.store C3 (v:= .agg (pkC ps[i]).toArray) rfl (OB gh) (fun j hj=>Ay.owned o2 j (by simpa using hj)) fun s3 n3 x3 o3=> ?_
  rw[DI]at o3
  have xs2:Ext Any Non s0 s2:=(hx.then0 x1 hb0).then0 x2 hb0
  have hlt0:s0.next≤s1.next:=(hx.then0 x1 hb0).nxt
  have xs3:Ext Any Non s0 s3:=xs2.trans x3 hb0 (fun _ _ _=>trivial) fun y hy h=>by
   have h1:=h.1
   omega
  have hr3:PkR s3 v ps:=hr.ext0 xs3
  refine Yr_.w OQ_ (by omega) ?_
  simp only[EA_,Ac,W_oS,W_on,Aa,W_mv,Ab,Ap,T.get_set,Af,Ae,Ao,Al,Ad,Ai,reduceIte,Ah,Av,As,Au,Ak,Aq,Ar,Aw,Aj,An,Nat.reduceEqDiff,reduceCtorEq, ↓reduceIte]
  refine W.loadA C3 (Ay.row o3) rfl fun s4 m4 n4 x4=> ?_
  have xs4:=xs3.then0 x4 hb0
  try simp only[Ac,W_oS,W_on,Aa,W_mv,Ab,Ap,T.get_set,Af,Ae,Ao,Al,Ad,Ai,reduceIte,Ah,Av,As,Au,Ak,Aq,Ar,Aw,Aj,An,Nat.reduceEqDiff,reduceCtorEq, ↓reduceIte]
  refine RW_ (xs4.bnd hb0) ((hr.ext0 xs4).hs _ (List.getElem_mem hil)) g16 (by omega) (by omega) fun s5 x5=> ?_
  have xs5:=xs4.then0 x5 hb0
  simp only[Ac,W_oS,W_on,Aa,W_mv,Ab,Ap,T.get_set,Af,Ae,Ao,Al,Ad,Ai,reduceIte,Ah,Av,As,Au,Ak,Aq,Ar,Aw,Aj,An,Nat.reduceEqDiff,reduceCtorEq, ↓reduceIte,DO]
  cases hbo:Cm ps[i]with
  |false=>
   simp only[Bool.not_false]
   refine W.cond (v:=true) Ez_ AD_ (by simp[T.get_set]) (by omega) (fun _=> ?_) fun h=>by cases h
   refine Kt_.w Abb_ (by omega) ?_
   simp only[YQ,Ac,W_oS,W_on,Aa,W_mv,Ab,Ap,T.get_set,Af,Ae,Ao,Al,Ad,Ai,reduceIte,Ah,Av,As,Au,Ak,Aq,Ar,Aw,Aj,An,Nat.reduceEqDiff,reduceCtorEq, ↓reduceIte]
   refine W.end' (rs:=[2]) (vs:=[.int .i64 5]) KK_ (.inl Ze_) (by omega) IC OD (xs5.cx.trans hcx) (by simp[T.get_set]) ?_
   have hno:ps.all Cm=false:=by
    cases ha:ps.all Cm with
    |false=>rfl
    |true=>
     have:=List.all_eq_true.1 ha _ (List.getElem_mem hil)
     rw[hbo]at this
     cases this
   have:=q s5 xs5
   rw[hno]at this
   exact this
  |true=>
   simp only[Bool.not_true]
   refine W.cond (v:=false) Ez_ AD_ (by simp[T.get_set]) (by omega) (fun h=>by cases h) fun _=> ?_
   refine Kx_.w XM_ (by omega) ?_
   have ei:wrap64 ((i:Nat)+1:Int)=((i+1:Nat):Int):=by
    rw[Bq (by omega) (by omega)];simp
   simp only[Uc,Ac,W_oS,W_on,Aa,W_mv,Ab,Ap,T.get_set,Af,Ae,Ao,Al,Ad,Ai,reduceIte,Ah,Av,As,Au,Ak,Aq,Ar,Aw,Aj,An,Nat.reduceEqDiff,reduceCtorEq, ↓reduceIte,AD,AL,AC,AK,AT,AP,AQ,AM,h31,ei]
   exact ih (i+1) _ _ _ _ (by omega) (by omega) AbI_ xs5 (by rw[List.take_succ_eq_append_getElem hil,List.all_append,ho];simp[hbo]) (by simp[T.get_set,h0]) (by simp[T.get_set,h29,ev]) (by simp[T.get_set,h30]) (by simp[T.get_set])
theorem Ti_ (hb0:s0.lim≤s0.next)(hr:PkR s0 v ps)(hz:BX ps≤1000000000)(hcx:s0.cx=cxN)(hps:ps.length≤1000000000)
  (q: ∀s1,Ext Any Non s0 s1→Q (.int .i64 (EW ps), .run) s1):
  ∀(k i n:Nat) (tm:T Value) (s:St) (td:List Item),i+k=ps.length→100*ps.length+20*k+40*BX ps+2000≤n→skim 64 td=H8→Ext Any Non s0 s→
  T.get tm 0=some v→T.get tm 3=some (.int .i64 (BX (ps.take i):Nat))→T.get tm 10=some v→T.get tm 11=some (.int .i64 (ps.length:Nat))→T.get tm 12=some (.int .i64 (i:Nat))→
  W (runF envS n ⟨43,JY,BT,tm,td, .run, .normal,none⟩) s Q:=by
 intro k
 induction k with
 |zero=>
  intro i n tm s td hi hn hT hx h0 h3 h10 h11 h12
  rw[show i=ps.length by omega,List.take_length]at h3
  refine BB_.w hT (by omega) ?_
  simp only[TQ,Ac,W_oS,W_on,Aa,W_mv,Ab,Ap,T.get_set,Af,Ae,Ao,Al,Ad,Ai,reduceIte,Ah,Av,As,Au,Ak,Aq,Ar,Aw,Aj,An,Nat.reduceEqDiff,reduceCtorEq, ↓reduceIte,AD,AL,AC,AK,AT,AP,AQ,AM,h11,h12]
  refine W.cond (v:=false) Cq_ Zh (by simp[T.get_set];omega) (by omega) (fun h=>by cases h) fun _=> ?_
  refine GR_.w Jd_ (by omega) ?_
  simp only[El_,Ac,W_oS,W_on,Aa,W_mv,Ab,Ap,T.get_set,Af,Ae,Ao,Al,Ad,Ai,reduceIte,Ah,Av,As,Au,Ak,Aq,Ar,Aw,Aj,An,Nat.reduceEqDiff,reduceCtorEq, ↓reduceIte,AD,AL,AC,AK,AT,AP,AQ,AM,h0]
  rw[hr.len]
  try simp only[Ac,W_oS,W_on,Aa,W_mv,Ab,Ap,T.get_set,Af,Ae,Ao,Al,Ad,Ai,reduceIte,Ah,Av,As,Au,Ak,Aq,Ar,Aw,Aj,An,Nat.reduceEqDiff,reduceCtorEq, ↓reduceIte,AD,AL,AC,AK,AT,AP,AQ,AM]
  have long: ∀(n':Nat) (tm4:T Value) (td4:List Item),20≤n'→skim 64 td4=FA→T.get tm4 28=some (.bool true)→EW ps=3→W (runF envS n' ⟨43,JY,BT,tm4,td4, .run, .normal,none⟩) s Q:=by
   intro n' tm4 td4 hn' hT4 g28 hc
   refine W.cond (v:=true) hT4 ZW g28 (by omega) (fun _=> ?_) fun h=>by cases h
   refine Aeo_.w Pl_ (by omega) ?_
   simp only[Ep_,Ac,W_oS,W_on,Aa,W_mv,Ab,Ap,T.get_set,Af,Ae,Ao,Al,Ad,Ai,reduceIte,Ah,Av,As,Au,Ak,Aq,Ar,Aw,Aj,An,Nat.reduceEqDiff,reduceCtorEq, ↓reduceIte]
   refine W.end' (rs:=[2]) (vs:=[.int .i64 3]) AcU_ (.inl Po_) (by omega) IC OD (hx.cx.trans hcx) (by simp[T.get_set]) ?_
   have:=q s hx
   rw[hc]at this
   exact this
  by_cases c1:500<ps.length
  ·have e1:decide ((500:Int)<((ps.length:Nat):Int))=true:=decide_eq_true (by omega)
   simp only[e1,Ac,W_oS,W_on,Aa,W_mv,Ab,Ap,T.get_set,Af,Ae,Ao,Al,Ad,Ai,reduceIte,Ah,Av,As,Au,Ak,Aq,Ar,Aw,Aj,An,Nat.reduceEqDiff,reduceCtorEq, ↓reduceIte]
   exact long _ _ _ (by omega) O7 (by simp[T.get_set]) (by unfold EW;rw[decide_eq_true c1,Bool.true_or];rfl)
  ·have e1:decide ((500:Int)<((ps.length:Nat):Int))=false:=decide_eq_false (by omega)
   simp only[e1,Ac,W_oS,W_on,Aa,W_mv,Ab,Ap,T.get_set,Af,Ae,Ao,Al,Ad,Ai,reduceIte,Ah,Av,As,Au,Ak,Aq,Ar,Aw,Aj,An,Nat.reduceEqDiff,reduceCtorEq, ↓reduceIte,AD,AL,AC,AK,AT,AP,AQ,AM,h3]
   by_cases c2:20000<BX ps
   ·have e2:decide ((20000:Int)<((BX ps:Nat):Int))=true:=decide_eq_true (by omega)
    simp only[e2,Ac,W_oS,W_on,Aa,W_mv,Ab,Ap,T.get_set,Af,Ae,Ao,Al,Ad,Ai,reduceIte,Ah,Av,As,Au,Ak,Aq,Ar,Aw,Aj,An,Nat.reduceEqDiff,reduceCtorEq, ↓reduceIte]
    exact long _ _ _ (by omega) O7 (by simp[T.get_set]) (by unfold EW;rw[decide_eq_true c2,Bool.or_true];rfl)
   ·have e2:decide ((20000:Int)<((BX ps:Nat):Int))=false:=decide_eq_false (by omega)
    simp only[e2,Ac,W_oS,W_on,Aa,W_mv,Ab,Ap,T.get_set,Af,Ae,Ao,Al,Ad,Ai,reduceIte,Ah,Av,As,Au,Ak,Aq,Ar,Aw,Aj,An,Nat.reduceEqDiff,reduceCtorEq, ↓reduceIte]
    refine W.cond (v:=false) O7 ZW (by simp[T.get_set]) (by omega) (fun h=>by cases h) fun _=> ?_
    refine Ub_.w KG_ (by omega) ?_
    simp only[Vn,Ac,W_oS,W_on,Aa,W_mv,Ab,Ap,T.get_set,Af,Ae,Ao,Al,Ad,Ai,reduceIte,Ah,Av,As,Au,Ak,Aq,Ar,Aw,Aj,An,Nat.reduceEqDiff,reduceCtorEq, ↓reduceIte,h0]
    rw[hr.len]
    try simp only[Ac,W_oS,W_on,Aa,W_mv,Ab,Ap,T.get_set,Af,Ae,Ao,Al,Ad,Ai,reduceIte,Ah,Av,As,Au,Ak,Aq,Ar,Aw,Aj,An,Nat.reduceEqDiff,reduceCtorEq, ↓reduceIte]
    refine LM_ (s0:=s) (hx.bnd hb0) (hr.ext0 hx) hz (hx.cx.trans hcx) hps (fun s1 x1=> ?_) ps.length 0 _ _ _ _ (by omega) (by omega) AfE_ (Ext.refl _) rfl (by simp[T.get_set,h0]) (by simp[T.get_set]) (by simp[T.get_set]) (by simp[T.get_set])
    have:=q s1 (hx.then0 x1 hb0)
    unfold EW at this
    rw[decide_eq_false c1,decide_eq_false c2]at this
    exact this
 |succ k ih=>
  intro i n tm s td hi hn hT hx h0 h3 h10 h11 h12
  have hil:i<ps.length:=by omega
  have hb:=hx.bnd hb0
  obtain⟨b,o,c,ev,ga,gh,g16,_,_⟩:=(hr.ext0 hx).at hil
  have htl:=Jh hil
  have ht1:=Ua hil
  have ht2:=ET_ (ps:=ps) (i+1)
  refine BB_.w hT (by omega) ?_
  simp only[TQ,Ac,W_oS,W_on,Aa,W_mv,Ab,Ap,T.get_set,Af,Ae,Ao,Al,Ad,Ai,reduceIte,Ah,Av,As,Au,Ak,Aq,Ar,Aw,Aj,An,Nat.reduceEqDiff,reduceCtorEq, ↓reduceIte,AD,AL,AC,AK,AT,AP,AQ,AM,h11,h12]
  refine W.cond (v:=true) Cq_ Zh (by simp[T.get_set];omega) (by omega) (fun _=> ?_) fun h=>by cases h
  refine Tz_.w Jj_ (by omega) ?_
  simp only[ZP,Ac,W_oS,W_on,Aa,W_mv,Ab,Ap,T.get_set,Af,Ae,Ao,Al,Ad,Ai,reduceIte,Ah,Av,As,Au,Ak,Aq,Ar,Aw,Aj,An,Nat.reduceEqDiff,reduceCtorEq, ↓reduceIte,h10,ev,h12,BC Ch hil]
  refine W.loadA C3 ga rfl fun s1 m1 n1 x1=> ?_
  try simp only[Ac,W_oS,W_on,Aa,W_mv,Ab,Ap,T.get_set,Af,Ae,Ao,Al,Ad,Ai,reduceIte,Ah,Av,As,Au,Ak,Aq,Ar,Aw,Aj,An,Nat.reduceEqDiff,reduceCtorEq, ↓reduceIte]
  refine W.alloc L0 fun s2 n2 x2 o2=> ?_
  try simp only[Ac,W_oS,W_on,Aa,W_mv,Ab,Ap,T.get_set,Af,Ae,Ao,Al,Ad,Ai,reduceIte,Ah,Av,As,Au,Ak,Aq,Ar,Aw,Aj,An,Nat.reduceEqDiff,reduceCtorEq, ↓reduceIte]
  have n2':s2.next=s1.next+4:=n2
  refine W.store C3 (v:= .agg (pkC ps[i]).toArray) rfl (OB gh) (fun j hj=>Ay.owned o2 j (by simpa using hj)) fun s3 n3 x3 o3=> ?_
  rw[DI]at o3
  have xs2:Ext Any Non s0 s2:=(hx.then0 x1 hb0).then0 x2 hb0
  have hlt0:s0.next≤s1.next:=(hx.then0 x1 hb0).nxt
  have xs3:Ext Any Non s0 s3:=xs2.trans x3 hb0 (fun _ _ _=>trivial) fun y hy h=>by
   have h1:=h.1
   omega
  have o2f:Own s3 s1.next (0+2) ps[i].v:=o3 2 _ rfl
  refine KX_.w Ow_ (by omega) ?_
  simp only[YB,Ac,W_oS,W_on,Aa,W_mv,Ab,Ap,T.get_set,Af,Ae,Ao,Al,Ad,Ai,reduceIte,Ah,Av,As,Au,Ak,Aq,Ar,Aw,Aj,An,Nat.reduceEqDiff,reduceCtorEq, ↓reduceIte,h3,Be EJ (by decide)]
  refine W.load1 Da o2f.at' ?_
  have xs4:=xs3.thenRd hb0 (s1.next+(0+2))
  try simp only[Ac,W_oS,W_on,Aa,W_mv,Ab,Ap,T.get_set,Af,Ae,Ao,Al,Ad,Ai,reduceIte,Ah,Av,As,Au,Ak,Aq,Ar,Aw,Aj,An,Nat.reduceEqDiff,reduceCtorEq, ↓reduceIte]
  rw[((hr.ext0 xs4).hs _ (List.getElem_mem hil)).len]
  have es:wrap64 ((BX (ps.take i):Nat)+(ps[i].hs.length:Nat):Int)=((BX (ps.take (i+1)):Nat):Int):=by
   rw[Bq (by omega) (by omega)];omega
  simp only[Ac,W_oS,W_on,Aa,W_mv,Ab,Ap,T.get_set,Af,Ae,Ao,Al,Ad,Ai,reduceIte,Ah,Av,As,Au,Ak,Aq,Ar,Aw,Aj,An,Nat.reduceEqDiff,reduceCtorEq, ↓reduceIte,AD,AL,AC,AK,AT,AP,AQ,AM,es]
  refine GO_.w YD_ (by omega) ?_
  have ei:wrap64 ((i:Nat)+1:Int)=((i+1:Nat):Int):=by
   rw[Bq (by omega) (by omega)];simp
  simp only[Y3,Ac,W_oS,W_on,Aa,W_mv,Ab,Ap,T.get_set,Af,Ae,Ao,Al,Ad,Ai,reduceIte,Ah,Av,As,Au,Ak,Aq,Ar,Aw,Aj,An,Nat.reduceEqDiff,reduceCtorEq, ↓reduceIte,AD,AL,AC,AK,AT,AP,AQ,AM,h12,ei]
  exact ih (i+1) _ _ _ _ (by omega) (by omega) ZK_ xs4 (by simp[T.get_set,h0]) (by simp[T.get_set]) (by simp[T.get_set,h10,ev]) (by simp[T.get_set,h11]) (by simp[T.get_set])
end
theorem AfY_ {n:Nat}{v:Value}{ps:List PkI}{s:St}{Q:Value→St→Prop}(hb:s.lim≤s.next)(hr:PkR s v ps)(hz:BX ps≤1000000000)(hps:ps.length≤1000000000)(hn:200*ps.length+40*BX ps+3000≤n)(q: ∀s1,Ext Any Non s s1→Q (.int .i64 (EW ps)) s1):
  W (AJ envS (runF envS n) 43 [v]) s Q:=by
 refine LC_ fun tm h0=> ?_
 have hr':PkR (s.cxN cxN) v ps:=hr.same rfl rfl
 refine Iy_.w rfl (by omega) ?_
 simp only[AL_,Ac,W_oS,W_on,Aa,W_mv,Ab,Ap,T.get_set,Af,Ae,Ao,Al,Ad,Ai,reduceIte,Ah,Av,As,Au,Ak,Aq,Ar,Aw,Aj,An,Nat.reduceEqDiff,reduceCtorEq, ↓reduceIte]
 refine SQ_.w JO_ (by omega) ?_
 simp only[Ye,Ac,W_oS,W_on,Aa,W_mv,Ab,Ap,T.get_set,Af,Ae,Ao,Al,Ad,Ai,reduceIte,Ah,Av,As,Au,Ak,Aq,Ar,Aw,Aj,An,Nat.reduceEqDiff,reduceCtorEq, ↓reduceIte]
 refine AcW_.w IJ_ (by omega) ?_
 simp only[XK,Ac,W_oS,W_on,Aa,W_mv,Ab,Ap,T.get_set,Af,Ae,Ao,Al,Ad,Ai,reduceIte,Ah,Av,As,Au,Ak,Aq,Ar,Aw,Aj,An,Nat.reduceEqDiff,reduceCtorEq, ↓reduceIte,h0]
 rw[hr'.len]
 try simp only[Ac,W_oS,W_on,Aa,W_mv,Ab,Ap,T.get_set,Af,Ae,Ao,Al,Ad,Ai,reduceIte,Ah,Av,As,Au,Ak,Aq,Ar,Aw,Aj,An,Nat.reduceEqDiff,reduceCtorEq, ↓reduceIte]
 exact Ti_ (s0:=s.cxN cxN) hb hr' hz rfl hps (fun s1 x1=>q _ x1.cx') ps.length 0 _ _ _ _ (by omega) (by omega) OZ_ (Ext.refl _) (by simp[T.get_set,h0]) (by simp[T.get_set];rfl) (by simp[T.get_set]) (by simp[T.get_set]) (by simp[T.get_set])
theorem Eg {ps:List PkI}{last:Int}{f:FdI}{fs:List FdI}(h:f.num≤last∨999999<f.num):Bd ps last (f::fs)=Bd ps last fs:=by
 show(if f.num≤last∨999999<f.num then Bd ps last fs else _)=_
 rw[if_pos h]
theorem Hu {last:Int}{f:FdI}{fs:List FdI}(h: ¬(f.num≤last∨999999<f.num)):Bd [] last (f::fs)=((f.num,(f.l.length:Int),(BV f.l).1.map toI)::(Bd [] f.num fs).1,f.num::(Bd [] f.num fs).2):=by
 show(if f.num≤last∨999999<f.num then Bd [] last fs else _)=_
 rw[if_neg h]
 rfl
theorem NK_ {ps:List PkI}{last:Int}{f:FdI}{fs:List FdI}{p:PkI}(h: ¬(f.num≤last∨999999<f.num))(hp:ps.find? (hitP f)=some p):Bd ps last (f::fs)=(p.key::(Bd ps f.num fs).1,(Bd ps f.num fs).2):=by
 show(if f.num≤last∨999999<f.num then Bd ps last fs else match ps.find? (hitP f)with|some p=>_|none=>_)=_
 rw[if_neg h,hp]
structure KeyOk (fs:List FdI)(k:KeyP):Prop where
 of: ∃f∈fs,k=(f.num,(f.l.length:Int),(BV f.l).1.map toI)
 hi:k.1≤999999
def Pn:Int→List KeyP→Prop
 |_,[]=>True
 |e,k::t=>e<k.1∧Pn k.1 t
theorem TX: ∀(fs:List FdI) (last:Int),Pn last (Bd [] last fs).1∧ ∀k∈(Bd [] last fs).1,KeyOk fs k
 |[],_=>⟨trivial,fun k hk=>by cases hk⟩
 |f::fs,last=>by
  by_cases h:f.num≤last∨999999<f.num
  ·obtain⟨h1,h2⟩:=TX fs last
   rw[Eg h]
   exact⟨h1,fun k hk=>⟨by obtain⟨g,hg,e⟩:=(h2 k hk).of;exact⟨g,by simp[hg],e⟩,(h2 k hk).hi⟩⟩
  ·obtain⟨h1,h2⟩:=TX fs f.num
   rw[Hu h]
   refine⟨⟨by show last<f.num;omega,h1⟩,fun k hk=> ?_⟩
   rcases List.mem_cons.1 hk with rfl|hk
   ·exact⟨⟨f,by simp,rfl⟩,by show f.num≤999999;omega⟩
   ·exact⟨by obtain⟨g,hg,e⟩:=(h2 k hk).of;exact⟨g,by simp[hg],e⟩,(h2 k hk).hi⟩
theorem EB_ {f:FdI}{last:Int}(hl:last<f.num): ∀(pre:List PkI),(∀p∈pre,p.num≤last)→ ∀xs,(pre++xs).find? (hitP f)=xs.find? (hitP f)
 |[],_,xs=>rfl
 |p::pre,h,xs=>by
  have h1:=h p (by simp)
  have:hitP f p=false:=by
   unfold hitP
   rw[decide_eq_false (by omega),Bool.false_and]
  show((p::(pre++xs)).find? (hitP f))=_
  rw[List.find?_cons,this]
  exact EB_ hl pre (fun q hq=>h q (by simp[hq])) xs
theorem Pa: ∀(fs:List FdI) (last:Int) (pre xs:List PkI),(∀p∈pre,p.num≤last)→xs.map PkI.key=(Bd [] last fs).1→Bd (pre++xs) last fs=((Bd [] last fs).1,[])
 |[],_,_,_,_,_=>rfl
 |f::fs,last,pre,xs,hp,hx=>by
  by_cases h:f.num≤last∨999999<f.num
  ·rw[Eg h]at hx ⊢
   rw[Eg h]
   exact Pa fs last pre xs hp hx
  ·rw[Hu h]at hx
   match xs,hx with
   |[],hx=>simp at hx
   |x::xs,hx=>
    rw[List.map_cons,List.cons.injEq]at hx
    obtain⟨hk,hx⟩:=hx
    have hk':x.num=f.num∧x.size=(f.l.length:Int):=by
     unfold PkI.key at hk
     simp only[Prod.mk.injEq]at hk
     exact⟨hk.1,hk.2.1⟩
    have hf:(pre++x::xs).find? (hitP f)=some x:=by
     rw[EB_ (last:=last) (by omega) pre hp,List.find?_cons]
     have:hitP f x=true:=by
      unfold hitP
      rw[decide_eq_true hk'.1,decide_eq_true hk'.2]
      rfl
     rw[this]
    have ih:=Pa fs f.num (pre++[x]) xs (fun p hp'=>by
     rcases List.mem_append.1 hp' with hq|hq
     ·have:=hp p hq
      omega
     ·have:p=x:=by simpa using hq
      subst this
      omega) hx
    rw[List.append_assoc]at ih
    have ih':Bd (pre++x::xs) f.num fs=((Bd [] f.num fs).1,[]):=ih
    rw[NK_ h hf,Hu h,ih',hk]
theorem Ms: ∀(fs:List FdI) (ps:List PkI) (last:Int),∀k∈(Bd ps last fs).1,∃f∈fs,k.1=f.num
 |[],_,_,k,hk=>by cases hk
 |f::fs,ps,last,k,hk=>by
  by_cases h:f.num≤last∨999999<f.num
  ·rw[Eg h]at hk
   obtain⟨g,hg,e⟩:=Ms fs ps last k hk
   exact⟨g,by simp[hg],e⟩
  ·have hun:Bd ps last (f::fs)=(match ps.find? (hitP f)with
     |some p=>(p.key::(Bd ps f.num fs).1,(Bd ps f.num fs).2)
     |none=>((f.num,(f.l.length:Int),(BV f.l).1.map toI)::(Bd ps f.num fs).1,f.num::(Bd ps f.num fs).2)):=by
    show(if f.num≤last∨999999<f.num then Bd ps last fs else _)=_
    rw[if_neg h]
    rfl
   rw[hun]at hk
   cases hp:ps.find? (hitP f)with
   |none=>
    rw[hp]at hk
    rcases List.mem_cons.1 hk with rfl|hk
    ·exact⟨f,by simp,rfl⟩
    ·obtain⟨g,hg,e⟩:=Ms fs ps f.num k hk
     exact⟨g,by simp[hg],e⟩
   |some p=>
    rw[hp]at hk
    rcases List.mem_cons.1 hk with rfl|hk
    ·have:=List.find?_some hp
     unfold hitP at this
     rw[Bool.and_eq_true,decide_eq_true_eq]at this
     exact⟨f,by simp,this.1⟩
    ·obtain⟨g,hg,e⟩:=Ms fs ps f.num k hk
     exact⟨g,by simp[hg],e⟩
theorem Ra: ∀(hs:List Hd) (e:Nat),chainB e hs→e+hs.length≤endB e hs
 |[],_,_=>Nat.le_refl _
 |h::hs,e,hc=>by
  have:=Ra hs _ hc.2
  have h1:=hc.1
  show e+(hs.length+1)≤endB (h.2.1+26+h.2.2) hs
  omega
theorem Db_ (l:List Nat):(BV l).1.length≤l.length:=by
 obtain⟨h1,h2,_,h4,_⟩:=MP l
 have:=Ra _ 0 h1
 omega
theorem VT {m:Nat}(h1:1≤m)(h2:m≤1024):BM ((m:Nat):Int)=((m+26:Nat):Int):=by
 unfold BM
 rw[if_neg (by omega)]
 omega
theorem Yb: ∀(hs:List Hd) (e size:Nat),(∀h∈hs,1≤h.2.2∧h.2.2≤1024)→chainB e hs→endB e hs≤size→B6 (size:Int) (e:Int) (hs.map toI)=true
 |[],_,_,_,_,_=>rfl
 |h::hs,e,size,hg,hc,he=>by
  obtain⟨g1,g2⟩:=hg h (by simp)
  have hs':=VT g1 g2
  have he':endB (h.2.1+26+h.2.2) hs≤size:=he
  have hl:=Ra hs _ hc.2
  have h1:=hc.1
  show(decide ((e:Int)≤(h.2.1:Int))&&decide ((h.2.1:Int)≤(size:Int)-BM ((h.2.2:Nat):Int))&&B6 (size:Int) ((h.2.1:Int)+BM ((h.2.2:Nat):Int)) (hs.map toI))=true
  rw[hs',decide_eq_true (by omega),decide_eq_true (by omega)]
  have:=Yb hs (h.2.1+26+h.2.2) size (fun x hx=>hg x (by simp[hx])) hc.2 he'
  rw[show(h.2.1:Int)+((h.2.2+26:Nat):Int)=((h.2.1+26+h.2.2:Nat):Int) by omega,this]
  rfl
theorem AcI_ (l:List Nat):((BV l).1.map toI).any oddH=false:=by
 cases ha:((BV l).1.map toI).any oddH with
 |false=>rfl
 |true=>
  rw[List.any_eq_true]at ha
  obtain⟨x,hx,ho⟩:=ha
  obtain⟨h,hh,rfl⟩:=List.mem_map.1 hx
  obtain⟨_,_,_,g1,g2,_,_⟩:=((MP l).2.2.1 h hh).facts
  unfold oddH at ho
  have hz:BM (toI h).2.2=((h.2.2+26:Nat):Int):=VT g1 g2
  rw[hz,Bool.or_eq_true,decide_eq_true_eq,decide_eq_true_eq]at ho
  have:(toI h).2.1=(h.2.1:Int):=rfl
  rw[this]at ho
  omega
theorem RK_ {p:PkI}{fs:List FdI}(hk:KeyOk fs p.key)(hpos:0<p.num)(hz: ∀f∈fs,f.l.length≤65536):Cm p=true∧B6 p.size 0 p.hs=true:=by
 obtain⟨f,hf,e⟩:=hk.of
 unfold PkI.key at e
 simp only[Prod.mk.injEq]at e
 obtain⟨e1,e2,e3⟩:=e
 have hi:p.num≤999999:=hk.hi
 have hl:=hz f hf
 constructor
 ·unfold Cm
  rw[e2,e3,AcI_,decide_eq_true (by omega),decide_eq_true hi,decide_eq_true (by omega),decide_eq_true (by omega)]
  rfl
 ·rw[e2,e3]
  obtain⟨h1,h2,h3,h4,_⟩:=MP f.l
  exact Yb _ 0 _ (fun h hh=>by obtain⟨_,_,_,g1,g2,_,_⟩:=(h3 h hh).facts;exact⟨g1,g2⟩) h1 (by omega)
theorem AbR_ (pr:Option Int)(p:PkI)(t:List PkI):CV pr (p::t)=((match pr with|none=>true|some x=>decide (x<p.num))&&B6 p.size 0 p.hs&&CV (some p.num) t):=rfl
theorem DS_ {fs:List FdI}(hz: ∀f∈fs,f.l.length≤65536): ∀(xs:List PkI) (e:Int) (pr:Option Int),0≤e→Pn e (xs.map PkI.key)→(∀k∈xs.map PkI.key,KeyOk fs k)→(pr=none∨pr=some e)→xs.all Cm=true∧CV pr xs=true
 |[],_,_,_,_,_,_=>⟨rfl,rfl⟩
 |x::xs,e,pr,he,hr,hk,hpr=>by
  have h1:e<x.num:=hr.1
  obtain⟨b1,b2⟩:=RK_ (hk x.key (by simp)) (by omega) hz
  obtain⟨c1,c2⟩:=DS_ hz xs x.num (some x.num) (by omega) hr.2 (fun k hk'=>hk k (by simp only[List.map_cons,List.mem_cons];exact .inr hk')) (.inr rfl)
  refine⟨by rw[List.all_cons,b1,c1];rfl, ?_⟩
  rw[AbR_,b2,c2]
  rcases hpr with rfl|rfl
  ·rfl
  ·dsimp only
   rw[decide_eq_true h1]
   rfl
def totF (fs:List FdI):Nat:=(fs.map fun f=>f.l.length).sum
theorem FS: ∀(fs:List FdI) (last:Int) (xs:List PkI),xs.map PkI.key=(Bd [] last fs).1→BX xs≤totF fs∧xs.length≤fs.length
 |[],_,xs,hx=>by
  have:xs=[]:=by simpa [Bd]using hx
  subst this
  exact⟨Nat.le_refl _,Nat.le_refl _⟩
 |f::fs,last,xs,hx=>by
  by_cases h:f.num≤last∨999999<f.num
  ·rw[Eg h]at hx
   obtain⟨h1,h2⟩:=FS fs last xs hx
   constructor
   ·unfold totF at h1 ⊢
    rw[List.map_cons,List.sum_cons]
    omega
   ·rw[List.length_cons]
    omega
  ·rw[Hu h]at hx
   match xs,hx with
   |[],hx=>simp at hx
   |x::xs,hx=>
    rw[List.map_cons,List.cons.injEq]at hx
    obtain⟨h1,h2⟩:=FS fs f.num xs hx.2
    have h3:x.hs=(BV f.l).1.map toI:=by
     have:=hx.1
     unfold PkI.key at this
     simp only[Prod.mk.injEq]at this
     exact this.2.2
    have h4:=Db_ f.l
    constructor
    ·unfold BX totF at h1 ⊢
     rw[List.map_cons,List.sum_cons,List.map_cons,List.sum_cons,h3,List.length_map]
     omega
    ·simp only[List.length_cons]
     omega
theorem Uj_ {fs:List FdI}{xs:List PkI}(hx:xs.map PkI.key=(Bd [] 0 fs).1)(hl:fs.length≤30)(hz:totF fs≤6000)(hzf: ∀f∈fs,f.l.length≤65536):EW xs=0:=by
 obtain⟨h1,h2⟩:=FS fs 0 xs hx
 obtain⟨k1,k2⟩:=TX fs 0
 rw[←hx]at k1 k2
 obtain⟨c1,c2⟩:=DS_ hzf xs 0 none (Int.le_refl 0) k1 k2 (.inl rfl)
 unfold EW
 rw[decide_eq_false (by omega),decide_eq_false (by omega),c1,c2]
 rfl
theorem Qk_ {fs:List FdI}{f:FdI}(h:f∈fs):f.l.length≤totF fs:=by
 induction fs with
 |nil=>cases h
 |cons g fs ih=>
  unfold totF at ih ⊢
  rw[List.map_cons,List.sum_cons]
  rcases List.mem_cons.1 h with rfl|h
  ·omega
  ·have:=ih h
   omega
def bigF (fs:List FdI):Bool:=decide (30<fs.length)||decide (6000<totF (fs.take 31))
theorem AfJ_ {fs:List FdI}{i:Nat}(hi:i<fs.length):totF (fs.take (i+1))=totF (fs.take i)+fs[i].l.length:=by
 unfold totF
 rw[List.take_succ_eq_append_getElem hi,List.map_append,List.sum_append]
 simp
theorem AbM_ {fs:List FdI}{N:Nat}(h: ∀f∈fs,f.l.length≤N):totF fs≤fs.length*N:=by
 induction fs with
 |nil=>simp[totF]
 |cons f fs ih=>
  have h1:=ih fun g hg=>h g (by simp[hg])
  have h2:=h f (by simp)
  unfold totF at h1 ⊢
  rw[List.map_cons,List.sum_cons,List.length_cons,Nat.succ_mul]
  omega
section
variable {vf:Value}{fs:List FdI}{Q:Value×FrameMode→St→Prop}{s0:St}
theorem Mx_ (hb0:s0.lim≤s0.next)(hf:FdR s0 vf fs)(hfs:fs.length≤9223372036854775807)(hzf: ∀f∈fs,f.l.length≤1048576)(hcx:s0.cx=cxN)(q: ∀s1,Ext Any Non s0 s1→Q (.bool (bigF fs), .run) s1):
  ∀(k i n:Nat) (tm:T Value) (s:St) (td:List Item),i+k=min fs.length 31→10*k+20≤n→skim 64 td=Ij→Ext Any Non s0 s→
  T.get tm 0=some vf→T.get tm 3=some (.int .i64 (totF (fs.take i):Nat))→T.get tm 4=some (.int .i64 (i:Nat))→
  W (runF envS n ⟨54,XY,DT,tm,td, .run, .normal,none⟩) s Q:=by
 have tail: ∀(n':Nat) (tm:T Value) (s:St) (td:List Item),10≤n'→skim 64 td=IM→Ext Any Non s0 s→T.get tm 0=some vf→T.get tm 3=some (.int .i64 (totF (fs.take 31):Nat))→W (runF envS n' ⟨54,XY,DT,tm,td, .run, .normal,none⟩) s Q:=by
  intro n' tm s td hn hT hx h0 h3
  refine JX_.w hT (by omega) ?_
  simp only[YW,Ac,W_oS,W_on,Aa,W_mv,Ab,Ap,T.get_set,Af,Ae,Ao,Al,Ad,Ai,reduceIte,Ah,Av,As,Au,Ak,Aq,Ar,Aw,Aj,An,Nat.reduceEqDiff,reduceCtorEq, ↓reduceIte,AD,AL,AC,AK,AT,AP,AQ,AM,h0]
  rw[hf.len]
  try simp only[Ac,W_oS,W_on,Aa,W_mv,Ab,Ap,T.get_set,Af,Ae,Ao,Al,Ad,Ai,reduceIte,Ah,Av,As,Au,Ak,Aq,Ar,Aw,Aj,An,Nat.reduceEqDiff,reduceCtorEq, ↓reduceIte,AD,AL,AC,AK,AT,AP,AQ,AM]
  by_cases c1:30<fs.length
  ·have e1:decide ((30:Int)<((fs.length:Nat):Int))=true:=decide_eq_true (by omega)
   simp only[e1,Ac,W_oS,W_on,Aa,W_mv,Ab,Ap,T.get_set,Af,Ae,Ao,Al,Ad,Ai,reduceIte,Ah,Av,As,Au,Ak,Aq,Ar,Aw,Aj,An,Nat.reduceEqDiff,reduceCtorEq, ↓reduceIte]
   refine W.end' (rs:=[2]) (vs:=[.bool true]) T9 (.inl V4) (by omega) Q0 Fj_ (hx.cx.trans hcx) (by simp[T.get_set]) ?_
   have:=q s hx
   unfold bigF at this
   rw[decide_eq_true c1,Bool.true_or]at this
   exact this
  ·have e1:decide ((30:Int)<((fs.length:Nat):Int))=false:=decide_eq_false (by omega)
   have e2:decide ((6000:Int)<((totF (fs.take 31):Nat):Int))=decide (6000<totF (fs.take 31)):=by
    by_cases h:6000<totF (fs.take 31)
    ·rw[decide_eq_true h,decide_eq_true (by omega)]
    ·rw[decide_eq_false h,decide_eq_false (by omega)]
   simp only[e1,Ac,W_oS,W_on,Aa,W_mv,Ab,Ap,T.get_set,Af,Ae,Ao,Al,Ad,Ai,reduceIte,Ah,Av,As,Au,Ak,Aq,Ar,Aw,Aj,An,Nat.reduceEqDiff,reduceCtorEq, ↓reduceIte,AD,AL,AC,AK,AT,AP,AQ,AM,h3,e2]
   refine W.end' (rs:=[2]) (vs:=[.bool (decide (6000<totF (fs.take 31)))]) T9 (.inl V4) (by omega) Q0 Fj_ (hx.cx.trans hcx) (by simp[T.get_set]) ?_
   have:=q s hx
   unfold bigF at this
   rw[decide_eq_false c1,Bool.false_or]at this
   exact this
 intro k
 induction k with
 |zero=>
  intro i n tm s td hi hn hT hx h0 h3 h4
  have ht:fs.take i=fs.take 31:=by
   rcases Nat.lt_or_ge 31 fs.length with h|h
   ·rw[show i=31 by omega]
   ·rw[List.take_of_length_le (show fs.length≤i by omega),List.take_of_length_le h]
  rw[ht]at h3
  refine XW.w hT (by omega) ?_
  simp only[QO,Ac,W_oS,W_on,Aa,W_mv,Ab,Ap,T.get_set,Af,Ae,Ao,Al,Ad,Ai,reduceIte,Ah,Av,As,Au,Ak,Aq,Ar,Aw,Aj,An,Nat.reduceEqDiff,reduceCtorEq, ↓reduceIte,AD,AL,AC,AK,AT,AP,AQ,AM,h0,h4]
  rw[hf.len]
  try simp only[Ac,W_oS,W_on,Aa,W_mv,Ab,Ap,T.get_set,Af,Ae,Ao,Al,Ad,Ai,reduceIte,Ah,Av,As,Au,Ak,Aq,Ar,Aw,Aj,An,Nat.reduceEqDiff,reduceCtorEq, ↓reduceIte,AD,AL,AC,AK,AT,AP,AQ,AM]
  by_cases c1:i<fs.length
  ·have e1:decide (((i:Nat):Int)<((fs.length:Nat):Int))=true:=decide_eq_true (by omega)
   simp only[e1,Ac,W_oS,W_on,Aa,W_mv,Ab,Ap,T.get_set,Af,Ae,Ao,Al,Ad,Ai,reduceIte,Ah,Av,As,Au,Ak,Aq,Ar,Aw,Aj,An,Nat.reduceEqDiff,reduceCtorEq, ↓reduceIte,AD,AL,AC,AK,AT,AP,AQ,AM,h4]
   refine W.cond (v:=false) Sa Pj (by simp[T.get_set];omega) (by omega) (fun h=>by cases h) fun _=> ?_
   exact tail _ _ s _ (by omega) ZE hx (by simp[T.get_set,h0]) (by simp[T.get_set,h3])
  ·have e1:decide (((i:Nat):Int)<((fs.length:Nat):Int))=false:=decide_eq_false (by omega)
   simp only[e1,Ac,W_oS,W_on,Aa,W_mv,Ab,Ap,T.get_set,Af,Ae,Ao,Al,Ad,Ai,reduceIte,Ah,Av,As,Au,Ak,Aq,Ar,Aw,Aj,An,Nat.reduceEqDiff,reduceCtorEq, ↓reduceIte]
   refine W.cond (v:=false) Sa Pj (by simp[T.get_set]) (by omega) (fun h=>by cases h) fun _=> ?_
   exact tail _ _ s _ (by omega) ZE hx (by simp[T.get_set,h0]) (by simp[T.get_set,h3])
 |succ k ih=>
  intro i n tm s td hi hn hT hx h0 h3 h4
  have hil:i<fs.length:=by omega
  obtain⟨b,o,c,ev,ga,gB,_⟩:=(hf.ext0 hx).at hil
  have e1:decide (((i:Nat):Int)<((fs.length:Nat):Int))=true:=decide_eq_true (by omega)
  have hzi:=hzf _ (List.getElem_mem hil)
  have htb:=AbM_ (fs:=fs.take i) (N:=1048576) fun f hf'=>hzf f (List.mem_of_mem_take hf')
  have hti:(fs.take i).length≤31:=by rw[List.length_take];omega
  have hm:(fs.take i).length*1048576≤31*1048576:=Nat.mul_le_mul_right _ hti
  refine XW.w hT (by omega) ?_
  simp only[QO,Ac,W_oS,W_on,Aa,W_mv,Ab,Ap,T.get_set,Af,Ae,Ao,Al,Ad,Ai,reduceIte,Ah,Av,As,Au,Ak,Aq,Ar,Aw,Aj,An,Nat.reduceEqDiff,reduceCtorEq, ↓reduceIte,AD,AL,AC,AK,AT,AP,AQ,AM,h0,h4]
  rw[hf.len]
  simp only[Ac,W_oS,W_on,Aa,W_mv,Ab,Ap,T.get_set,Af,Ae,Ao,Al,Ad,Ai,reduceIte,Ah,Av,As,Au,Ak,Aq,Ar,Aw,Aj,An,Nat.reduceEqDiff,reduceCtorEq, ↓reduceIte,AD,AL,AC,AK,AT,AP,AQ,AM,e1,h4]
  refine W.cond (v:=true) Sa Pj (by simp[T.get_set];omega) (by omega) (fun _=> ?_) fun h=>by cases h
  refine Rm_.w Acy_ (by omega) ?_
  simp only[Z4,Ac,W_oS,W_on,Aa,W_mv,Ab,Ap,T.get_set,Af,Ae,Ao,Al,Ad,Ai,reduceIte,Ah,Av,As,Au,Ak,Aq,Ar,Aw,Aj,An,Nat.reduceEqDiff,reduceCtorEq, ↓reduceIte,h0,ev,h3,h4,BC DC hil,Be H4 (by decide)]
  refine W.load1 CL (ga 1 _ rfl) ?_
  have x1:=hx.thenRd hb0 (b+(o+i*2+1))
  try simp only[Ac,W_oS,W_on,Aa,W_mv,Ab,Ap,T.get_set,Af,Ae,Ao,Al,Ad,Ai,reduceIte,Ah,Av,As,Au,Ak,Aq,Ar,Aw,Aj,An,Nat.reduceEqDiff,reduceCtorEq, ↓reduceIte]
  rw[gB.len' BD]
  have es:wrap64 ((totF (fs.take i):Nat)+(fs[i].l.length:Nat):Int)=((totF (fs.take (i+1)):Nat):Int):=by
   rw[Bq (by omega) (by omega),AfJ_ hil];omega
  simp only[Ac,W_oS,W_on,Aa,W_mv,Ab,Ap,T.get_set,Af,Ae,Ao,Al,Ad,Ai,reduceIte,Ah,Av,As,Au,Ak,Aq,Ar,Aw,Aj,An,Nat.reduceEqDiff,reduceCtorEq, ↓reduceIte,AD,AL,AC,AK,AT,AP,AQ,AM,es]
  refine AaM_.w Xx_ (by omega) ?_
  have ei:wrap64 ((i:Nat)+1:Int)=((i+1:Nat):Int):=by
   rw[Bq (by omega) (by omega)];simp
  simp only[Fe_,Ac,W_oS,W_on,Aa,W_mv,Ab,Ap,T.get_set,Af,Ae,Ao,Al,Ad,Ai,reduceIte,Ah,Av,As,Au,Ak,Aq,Ar,Aw,Aj,An,Nat.reduceEqDiff,reduceCtorEq, ↓reduceIte,AD,AL,AC,AK,AT,AP,AQ,AM,h4,ei]
  exact ih (i+1) _ _ _ _ (by omega) (by omega) Qo_ x1 (by simp[T.get_set,h0,ev]) (by simp[T.get_set]) (by simp[T.get_set])
theorem Agc_ {n:Nat}{s:St}{Q:Value→St→Prop}(hb:s.lim≤s.next)(hf:FdR s vf fs)(hfs:fs.length≤9223372036854775807)(hzf: ∀f∈fs,f.l.length≤1048576)(hn:1000≤n)(q: ∀s1,Ext Any Non s s1→Q (.bool (bigF fs)) s1):W (AJ envS (runF envS n) 54 [vf]) s Q:=by
 refine Ads_ fun tm h0=> ?_
 refine KV_.w rfl (by omega) ?_
 simp only[VE,Ac,W_oS,W_on,Aa,W_mv,Ab,Ap,T.get_set,Af,Ae,Ao,Al,Ad,Ai,reduceIte,Ah,Av,As,Au,Ak,Aq,Ar,Aw,Aj,An,Nat.reduceEqDiff,reduceCtorEq, ↓reduceIte]
 refine GL_.w Je_ (by omega) ?_
 simp only[Ai_,Ac,W_oS,W_on,Aa,W_mv,Ab,Ap,T.get_set,Af,Ae,Ao,Al,Ad,Ai,reduceIte,Ah,Av,As,Au,Ak,Aq,Ar,Aw,Aj,An,Nat.reduceEqDiff,reduceCtorEq, ↓reduceIte]
 refine Ut_.w Gs_ (by omega) ?_
 simp only[At_,Ac,W_oS,W_on,Aa,W_mv,Ab,Ap,T.get_set,Af,Ae,Ao,Al,Ad,Ai,reduceIte,Ah,Av,As,Au,Ak,Aq,Ar,Aw,Aj,An,Nat.reduceEqDiff,reduceCtorEq, ↓reduceIte]
 exact Mx_ (s0:=s.cxN cxN) hb (hf.same rfl rfl) hfs hzf rfl (fun s1 x1=>q _ x1.cx') (min fs.length 31) 0 _ _ _ _ (by omega) (by omega) NU_ (Ext.refl _) (by simp[T.get_set,h0]) (by simp[T.get_set];rfl) (by simp[T.get_set])
theorem AfB_ (h:bigF fs=false):fs.length≤30∧totF fs≤6000:=by
 unfold bigF at h
 rw[Bool.or_eq_false_iff,decide_eq_false_iff_not,decide_eq_false_iff_not]at h
 have h1:fs.length≤30:=by omega
 rw[List.take_of_length_le (by omega)]at h
 exact⟨h1,by omega⟩
end
section
variable {vf vx vs w:Value}{fs:List FdI}{xs:List PkI}{sc:List Int}{Q:Value×FrameMode→St→Prop}{s0:St}
theorem Vc_ {n i k:Nat}{f:FdI}{last:Int}{tm:T Value}{s:St}{td:List Item}(hb:s.lim≤s.next)(hx:PkR s vx xs)(hs:IntR s vs sc)(hf:FdR s vf fs)(hw:HiR s w ((BV f.l).1.map toI))(hk:k<xs.length)(hk2:k<sc.length)(hi:i<fs.length)(hfi:fs[i]=f)(hkey:xs[k].key=(f.num,(f.l.length:Int),(BV f.l).1.map toI))(hsk:sc[k]=f.num)(hlast:last=f.num)(hl:f.l.length≤1000000)
  (h0:T.get tm 0=some vf) (h6:T.get tm 6=some vx) (h7:T.get tm 7=some vs) (h8:T.get tm 8=some (.int .i64 last)) (h9:T.get tm 9=some (.int .i64 (k:Nat))) (h10:T.get tm 10=some (.int .i64 (i:Nat))) (h11:T.get tm 11=some w) (hT:skim 64 td=GE) (hn:20000000≤n)
  (q: ∀(n1:Nat) (s1:St) (tm1:T Value) (td1:List Item),n-1≤n1→skim 64 td1=JF→Ext Any Non s s1→(∀j,j≠119→T.get tm1 j=T.get tm j)→T.get tm1 119=some (.bool false)→W (runF envS n1 ⟨14,EF,Bu,tm1,td1, .run, .normal,none⟩) s1 Q):
  W (runF envS n ⟨14,EF,Bu,tm,td, .run, .normal,none⟩) s Q:=by
 obtain⟨k1,k2,k3⟩:xs[k].num=f.num∧xs[k].size=(f.l.length:Int)∧xs[k].hs=(BV f.l).1.map toI:=by
  unfold PkI.key at hkey
  simp only[Prod.mk.injEq]at hkey
  exact hkey
 subst hlast
 have e1:decide (((xs.length:Nat):Int)≤((k:Nat):Int))=false:=decide_eq_false (by omega)
 have e2:decide (((sc.length:Nat):Int)≤((k:Nat):Int))=false:=decide_eq_false (by omega)
 have eqn: ∀x:Int,(!decide (x=x))=false:=fun x=>by simp
 obtain⟨bx,ox,cx,ex,gx,ghx,g16,_,_⟩:=hx.at hk
 obtain⟨bf,of,cf,ef,gf,gB,_⟩:=hf.at hi
 rw[hfi]at gf gB
 obtain⟨bs,os,cs,es,gs⟩: ∃bs os cs,vs= .slice (some ⟨bs,os,none⟩) sc.length cs∧At s bs (os+k*1) (.int .i64 sc[k]):=by
  rcases hs with⟨_,e⟩|⟨b,o,c,e,r⟩
  ·rw[e]at hk2;cases hk2
  ·refine⟨b,o,c,e, ?_⟩
   have:=r k (.int .i64 sc[k]) (by rw[List.getElem?_map,List.getElem?_eq_getElem hk2];rfl)
   rwa [show o+k=o+k*1 by omega]at this
 rw[hsk]at gs
 have x0:At (dSt s.mem s.next) bx (ox+k*3+0) (.int .i64 f.num):=by rw[←k1];exact(gx 0 _ rfl).same rfl rfl
 have x1:At (dSt s.mem s.next) bx (ox+k*3+1) (.int .i64 (f.l.length:Nat)):=by
  have:=(gx 1 _ rfl).same (s':=dSt s.mem s.next) rfl rfl
  rw[k2]at this
  exact this
 have x2:At (dSt s.mem s.next) bx (ox+k*3+2) xs[k].v:=(gx 2 _ rfl).same rfl rfl
 have f1:At (dSt s.mem s.next) bf (of+i*2+1) f.v:=(gf 1 _ rfl).same rfl rfl
 refine Sn_.w hT (by omega) ?_
 simp only[WD,h0,h6,h7,h8,h9,h10,h11,ex,ef,es,CF,Dz,Af,Ae,Ad,EE,Bm]
 rw[W_dq fun s Q=>Cc (s:=s) Ch Q]
 dsimp only
 rw[W_dq fun s Q=>AP (s:=s) _ _,e1]
 simp only[Bm,Ah,Cx,Ak,if_t]
 rw[W_dq fun s Q=>Cc (s:=s) Kg Q]
 dsimp only
 rw[W_dq fun s Q=>AP (s:=s) _ _,e2]
 dsimp only
 rw[W_dq fun s Q=>Aj (s:=s) _ _ _ _]
 simp only[Bool.false_eq_true,reduceIte,Bm,Ah,Cx,Ak,if_t]
 rw[W_dq fun s Q=>BC (s:=s) Kg hk2 Q]
 refine W.dload Bl (gs.same rfl rfl) fun rd14 hr14=> ?_
 simp only[Bm]
 rw[W_dq fun s Q=>AM (s:=s) _ _,eqn]
 dsimp only
 rw[W_dq fun s Q=>Aj (s:=s) _ _ _ _]
 simp only[Bool.false_eq_true,reduceIte,Bm,Ah,Cx,Ak,if_t]
 rw[W_dq fun s Q=>BC (s:=s) Ch hk Q]
 rw[W_dq fun s Q=>Be (s:=s) DU (by decide) Q]
 refine W.dload Bl x0 fun rd23 hr23=> ?_
 simp only[Bm]
 rw[W_dq fun s Q=>AM (s:=s) _ _,eqn]
 dsimp only
 rw[W_dq fun s Q=>Aj (s:=s) _ _ _ _]
 simp only[Bool.false_eq_true,reduceIte,Bm,Ah,Cx,Ak,if_t]
 rw[W_dq fun s Q=>BC (s:=s) Ch hk Q]
 rw[W_dq fun s Q=>Be (s:=s) Fb (by decide) Q]
 refine W.dload Bl x1 fun rd32 hr32=> ?_
 simp only[Bm]
 rw[W_dq fun s Q=>BC (s:=s) DC hi Q]
 rw[W_dq fun s Q=>Be (s:=s) H4 (by decide) Q]
 refine W.dload CL f1 fun rd37 hr37=> ?_
 rw[W_dq fun s Q=>Bs.len' (s':=s) gB BD Q]
 dsimp only
 rw[W_dq fun s Q=>AM (s:=s) _ _,eqn]
 dsimp only
 rw[W_dq fun s Q=>Aj (s:=s) _ _ _ _]
 simp only[Bool.false_eq_true,reduceIte,Bm,Ah,Cx,Ak,if_t]
 rw[W_dq fun s Q=>BC (s:=s) Ch hk Q]
 rw[W_dq fun s Q=>Be (s:=s) EJ (by decide) Q]
 refine W.dload Da x2 fun rd46 hr46=> ?_
 simp only[Bm]
 have hlen:xs[k].hs.length≤1000000:=by
  rw[k3,List.length_map]
  have:=Db_ f.l
  omega
 refine W.dop (Gh_ (s:=oSt s.mem s.next) (hs:=xs[k].hs) (Nat.le_refl _) (ghx.same rfl rfl) (by rw[k3];exact hw.same rfl rfl) g16 (by omega) (by omega) fun s1 y1 m1 n1=>⟨_,y1,fun rd48 hr48=> ?_⟩)
 have m1':s1.mem=s.mem:=m1
 have n1':s1.next=s.next:=n1
 rw[m1',n1']
 rw[W_dq fun s Q=>DO (s:=s) _ _ Q,Aa]
 refine⟨Dj (by simp) (by simp), ?_⟩
 refine W.cast (SI_ _ _ _ _ _ _ _ _ _ _ _ _ _ _ _ _ _ _ _ _ _ _ _ _ _ _ _ _ _ _ _ _ _ _ _ _ _ _ _ _ _ _ _ _ _ _ _ _ _ _ _ _ _ _ _) ?_
 simp only[Ac,W_oS,W_on,Aa,W_mv,Ab,Ap,T.get_set,Af,Ae,Ao,Al,Ad,Ai,reduceIte,Ah,Av,As,Au,Ak,Aq,Ar,Aw,Aj,An,Nat.reduceEqDiff,reduceCtorEq, ↓reduceIte,Bool.not_true]
 exact q _ _ _ _ (Nat.le_refl _) Adj_ (Ext.draw (F:=Any) (Nat.le_refl _) (fun _ _=>rfl) (by simp) fun _ _ _ _ _=>trivial) (fun j hj=>by rw[T.get_set,if_neg hj]) (by rw[T.get_set,if_pos rfl])
theorem ZD_ {K:List KeyP}(hb0:s0.lim≤s0.next)(hx:PkR s0 vx xs)(hs:IntR s0 vs sc)(hf:FdR s0 vf fs)(hK:xs.map PkI.key=K)(hz: ∀f∈fs,f.l.length≤100000)(hfs:fs.length≤1000)(hKl:K.length≤1000):
  ∀(m i n k:Nat) (last:Int) (tm:T Value) (s:St) (td:List Item),i+m=fs.length→20*m+30000000≤n→skim 64 td=Hy→Ext Any Non s0 s→K.drop k=(Bd [] last (fs.drop i)).1→sc.drop k=(Bd [] last (fs.drop i)).2→k≤K.length→
  T.get tm 0=some vf→T.get tm 5=some (.bool true)→T.get tm 6=some vx→T.get tm 7=some vs→T.get tm 8=some (.int .i64 last)→T.get tm 9=some (.int .i64 (k:Nat))→T.get tm 10=some (.int .i64 (i:Nat))→
  (∀(n1:Nat) (tm1:T Value) (s1:St) (td1:List Item),n-(20*m+10)≤n1→skim 64 td1=IZ→Ext Any Non s0 s1→T.get tm1 0=some vf→T.get tm1 1=T.get tm 1→T.get tm1 5=some (.bool true)→T.get tm1 6=some vx→T.get tm1 7=some vs→T.get tm1 9=some (.int .i64 (K.length:Nat))→W (runF envS n1 ⟨14,EF,Bu,tm1,td1, .run, .normal,none⟩) s1 Q)→
  W (runF envS n ⟨14,EF,Bu,tm,td, .run, .normal,none⟩) s Q:=by
 intro m
 induction m with
 |zero=>
  intro i n k last tm s td hi hn hT hx0 hk1 hk2 hk3 h0 h5 h6 h7 h8 h9 h10 q
  rw[List.drop_of_length_le (show fs.length≤i by omega)]at hk1
  have hkl:k=K.length:=by
   have:=congrArg List.length hk1
   rw[List.length_drop]at this
   have h2:(Bd [] last []).1.length=0:=rfl
   omega
  refine CY_.w hT (by omega) ?_
  simp only[Qt,Ac,W_oS,W_on,Aa,W_mv,Ab,Ap,T.get_set,Af,Ae,Ao,Al,Ad,Ai,reduceIte,Ah,Av,As,Au,Ak,Aq,Ar,Aw,Aj,An,Nat.reduceEqDiff,reduceCtorEq, ↓reduceIte,AD,AL,AC,AK,AT,AP,AQ,AM,h0,h10]
  rw[hf.len]
  try simp only[Ac,W_oS,W_on,Aa,W_mv,Ab,Ap,T.get_set,Af,Ae,Ao,Al,Ad,Ai,reduceIte,Ah,Av,As,Au,Ak,Aq,Ar,Aw,Aj,An,Nat.reduceEqDiff,reduceCtorEq, ↓reduceIte,AD,AL,AC,AK,AT,AP,AQ,AM]
  refine W.cond (v:=false) WU Vs (by simp[T.get_set];omega) (by omega) (fun h=>by cases h) fun _=> ?_
  exact q _ _ s _ (by omega) PY_ hx0 (by simp[T.get_set,h0]) (by simp[T.get_set]) (by simp[T.get_set,h5]) (by simp[T.get_set,h6]) (by simp[T.get_set,h7]) (by simp[T.get_set,h9,hkl])
 |succ m ih=>
  intro i n k last tm s td hi hn hT hx0 hk1 hk2 hk3 h0 h5 h6 h7 h8 h9 h10 q
  have hil:i<fs.length:=by omega
  have hb:=hx0.bnd hb0
  obtain⟨b,o,c,ev,ga,gB,gby⟩:=(hf.ext0 hx0).at hil
  have hzi:=hz _ (List.getElem_mem hil)
  have hd:fs.drop i=fs[i]::fs.drop (i+1):=(List.getElem_cons_drop ..).symm
  rw[hd]at hk1 hk2
  obtain⟨f,hfi⟩: ∃f,fs[i]=f:=⟨_,rfl⟩
  rw[hfi]at ga gB gby hzi hk1 hk2
  have g0:At s b (o+i*2+0) (.int .i64 f.num):=ga 0 _ rfl
  have next: ∀(n' k':Nat) (last':Int) (tm':T Value) (s':St) (td':List Item),n≤n'+12→skim 64 td'=IH→Ext Any Non s0 s'→K.drop k'=(Bd [] last' (fs.drop (i+1))).1→sc.drop k'=(Bd [] last' (fs.drop (i+1))).2→k'≤K.length→
    T.get tm' 0=some vf→T.get tm' 1=T.get tm 1→T.get tm' 5=some (.bool true)→T.get tm' 6=some vx→T.get tm' 7=some vs→T.get tm' 8=some (.int .i64 last')→T.get tm' 9=some (.int .i64 (k':Nat))→T.get tm' 10=some (.int .i64 (i:Nat))→
    W (runF envS n' ⟨14,EF,Bu,tm',td', .run, .normal,none⟩) s' Q:=by
   intro n' k' last' tm' s' td' hn' hT' x' e1 e2 e3 g0 g1 g5 g6 g7 g8 g9 g10
   refine IN_.w hT' (by omega) ?_
   have ei:wrap64 ((i:Nat)+1:Int)=((i+1:Nat):Int):=by
    rw[Bq (by omega) (by omega)];simp
   simp only[EL_,Ac,W_oS,W_on,Aa,W_mv,Ab,Ap,T.get_set,Af,Ae,Ao,Al,Ad,Ai,reduceIte,Ah,Av,As,Au,Ak,Aq,Ar,Aw,Aj,An,Nat.reduceEqDiff,reduceCtorEq, ↓reduceIte,AD,AL,AC,AK,AT,AP,AQ,AM,g10,ei]
   refine ih (i+1) _ k' last' _ _ _ (by omega) (by omega) Adb_ x' e1 e2 e3 (by simp[T.get_set,g0]) (by simp[T.get_set,g5]) (by simp[T.get_set,g6]) (by simp[T.get_set,g7]) (by simp[T.get_set,g8]) (by simp[T.get_set,g9]) (by simp[T.get_set]) fun n1 tm1 s1 td1 a1 a2 a3 a4 a5 a6 a7 a8 a9=> ?_
   exact q n1 tm1 s1 td1 (by omega) a2 a3 a4 (a5.trans (by simp[T.get_set,g1])) a6 a7 a8 a9
  refine CY_.w hT (by omega) ?_
  simp only[Qt,Ac,W_oS,W_on,Aa,W_mv,Ab,Ap,T.get_set,Af,Ae,Ao,Al,Ad,Ai,reduceIte,Ah,Av,As,Au,Ak,Aq,Ar,Aw,Aj,An,Nat.reduceEqDiff,reduceCtorEq, ↓reduceIte,AD,AL,AC,AK,AT,AP,AQ,AM,h0,h10]
  rw[hf.len]
  try simp only[Ac,W_oS,W_on,Aa,W_mv,Ab,Ap,T.get_set,Af,Ae,Ao,Al,Ad,Ai,reduceIte,Ah,Av,As,Au,Ak,Aq,Ar,Aw,Aj,An,Nat.reduceEqDiff,reduceCtorEq, ↓reduceIte,AD,AL,AC,AK,AT,AP,AQ,AM]
  refine W.cond (v:=true) WU Vs (by simp[T.get_set];omega) (by omega) (fun _=> ?_) fun h=>by cases h
  refine ZQ_.w GW_ (by omega) ?_
  simp only[Zi,Ac,W_oS,W_on,Aa,W_mv,Ab,Ap,T.get_set,Af,Ae,Ao,Al,Ad,Ai,reduceIte,Ah,Av,As,Au,Ak,Aq,Ar,Aw,Aj,An,Nat.reduceEqDiff,reduceCtorEq, ↓reduceIte,h0,ev,h10,BC DC hil,Be Eb (by decide)]
  refine W.load1 Bl g0 ?_
  have y1:=hx0.thenRd hb0 (b+(o+i*2+0))
  by_cases c1:f.num≤last
  ·rw[Eg (.inl c1)]at hk1 hk2
   simp only[Ac,W_oS,W_on,Aa,W_mv,Ab,Ap,T.get_set,Af,Ae,Ao,Al,Ad,Ai,reduceIte,Ah,Av,As,Au,Ak,Aq,Ar,Aw,Aj,An,Nat.reduceEqDiff,reduceCtorEq, ↓reduceIte,AD,AL,AC,AK,AT,AP,AQ,AM,h8,c1,decide_true]
   refine W.cond (v:=true) SR QM (by simp[T.get_set]) (by omega) (fun _=> ?_) fun h=>by cases h
   exact next _ k last _ _ _ (by omega) Ug y1 hk1 hk2 hk3 (by simp[T.get_set,h0,ev]) (by simp[T.get_set]) (by simp[T.get_set,h5]) (by simp[T.get_set,h6]) (by simp[T.get_set,h7]) (by simp[T.get_set,h8]) (by simp[T.get_set,h9]) (by simp[T.get_set,h10])
  simp only[Ac,W_oS,W_on,Aa,W_mv,Ab,Ap,T.get_set,Af,Ae,Ao,Al,Ad,Ai,reduceIte,Ah,Av,As,Au,Ak,Aq,Ar,Aw,Aj,An,Nat.reduceEqDiff,reduceCtorEq, ↓reduceIte,AD,AL,AC,AK,AT,AP,AQ,AM,h0,ev,h8,h10,c1,decide_false,BC DC hil,Be Eb (by decide)]
  refine W.load1 Bl (g0.same rfl rfl) ?_
  have y2:=y1.thenRd hb0 (b+(o+i*2+0))
  try simp only[Ac,W_oS,W_on,Aa,W_mv,Ab,Ap,T.get_set,Af,Ae,Ao,Al,Ad,Ai,reduceIte,Ah,Av,As,Au,Ak,Aq,Ar,Aw,Aj,An,Nat.reduceEqDiff,reduceCtorEq, ↓reduceIte,AD,AL,AC,AK,AT,AP,AQ,AM]
  by_cases c2:999999<f.num
  ·rw[Eg (.inr c2)]at hk1 hk2
   refine W.cond (v:=true) SR QM (by simp[T.get_set];exact c2) (by omega) (fun _=> ?_) fun h=>by cases h
   exact next _ k last _ _ _ (by omega) Ug y2 hk1 hk2 hk3 (by simp[T.get_set,h0,ev]) (by simp[T.get_set]) (by simp[T.get_set,h5]) (by simp[T.get_set,h6]) (by simp[T.get_set,h7]) (by simp[T.get_set,h8]) (by simp[T.get_set,h9]) (by simp[T.get_set,h10])
  rw[Hu (show ¬(f.num≤last∨999999<f.num) by omega)]at hk1 hk2
  refine W.cond (v:=false) SR QM (by simp[T.get_set];omega) (by omega) (fun h=>by cases h) fun _=> ?_
  refine TB_.w OP_ (by omega) ?_
  simp only[Uf,Ac,W_oS,W_on,Aa,W_mv,Ab,Ap,T.get_set,Af,Ae,Ao,Al,Ad,Ai,reduceIte,Ah,Av,As,Au,Ak,Aq,Ar,Aw,Aj,An,Nat.reduceEqDiff,reduceCtorEq, ↓reduceIte,h0,ev,h10,BC DC hil,Be Eb (by decide)]
  refine W.load1 Bl (g0.same rfl rfl) ?_
  have y3:=y2.thenRd hb0 (b+(o+i*2+0))
  try simp only[Ac,W_oS,W_on,Aa,W_mv,Ab,Ap,T.get_set,Af,Ae,Ao,Al,Ad,Ai,reduceIte,Ah,Av,As,Au,Ak,Aq,Ar,Aw,Aj,An,Nat.reduceEqDiff,reduceCtorEq, ↓reduceIte]
  refine WL_.w ZU_ (by omega) ?_
  simp only[FZ_,Ac,W_oS,W_on,Aa,W_mv,Ab,Ap,T.get_set,Af,Ae,Ao,Al,Ad,Ai,reduceIte,Ah,Av,As,Au,Ak,Aq,Ar,Aw,Aj,An,Nat.reduceEqDiff,reduceCtorEq, ↓reduceIte,h0,ev,h10,BC DC hil,Be H4 (by decide)]
  refine W.load1 CL ((ga 1 _ rfl).same rfl rfl) ?_
  have y4:=y3.thenRd hb0 (b+(o+i*2+1))
  generalize hs4:(((s.rdN (b+(o+i*2+0))).rdN (b+(o+i*2+0))).rdN (b+(o+i*2+0))).rdN (b+(o+i*2+1))=s4 at *
  have z4:Ext Any Non s s4:=by
   rw[←hs4]
   exact((((Ext.refl (F:=Any) (G:=Non) s).thenRd hb _).thenRd hb _).thenRd hb _).thenRd hb _
  have hB4:=gB.ext0 z4
  try simp only[Ac,W_oS,W_on,Aa,W_mv,Ab,Ap,T.get_set,Af,Ae,Ao,Al,Ad,Ai,reduceIte,Ah,Av,As,Au,Ak,Aq,Ar,Aw,Aj,An,Nat.reduceEqDiff,reduceCtorEq, ↓reduceIte]
  refine Ec_ (y4.bnd hb0) hB4 (Bs.lt hB4) gby (by omega) (by omega) fun s5 w x5 hw=> ?_
  have y5:=y4.then0 x5 hb0
  obtain⟨hwi,_⟩:=hw.hi
  rw[B2 (k:=0) rfl,B2 (k:=1) rfl,B2 (k:=2) rfl,B2 (k:=3) rfl]
  try simp only[Ac,W_oS,W_on,Aa,W_mv,Ab,Ap,T.get_set,Af,Ae,Ao,Al,Ad,Ai,reduceIte,Ah,Av,As,Au,Ak,Aq,Ar,Aw,Aj,An,Nat.reduceEqDiff,reduceCtorEq, ↓reduceIte]
  have hkK:k<K.length:=by
   have:=congrArg List.length hk1
   rw[List.length_drop]at this
   simp at this
   omega
  have hkx:k<xs.length:=by rw[←hK,List.length_map]at hkK;exact hkK
  have hks:k<sc.length:=by
   have:=congrArg List.length hk2
   rw[List.length_drop]at this
   simp at this
   omega
  have e1:K.drop k=K[k]::K.drop (k+1):=(List.getElem_cons_drop ..).symm
  have e2:sc.drop k=sc[k]::sc.drop (k+1):=(List.getElem_cons_drop ..).symm
  rw[e1,List.cons.injEq]at hk1
  rw[e2,List.cons.injEq]at hk2
  have hxk:xs[k].key=K[k]:=by simp[←hK]
  refine Vc_ (f:=f) (last:=f.num) (i:=i) (k:=k) (w:=w) (sc:=sc) (y5.bnd hb0) (hx.ext0 y5) (IntR.ext0 hs y5) (hf.ext0 y5) hwi hkx hks hil hfi (hxk.trans hk1.1) hk2.1 rfl (by omega) (by simp[T.get_set,h0,ev]) (by simp[T.get_set,h6]) (by simp[T.get_set,h7]) (by simp[T.get_set]) (by simp[T.get_set,h9]) (by simp[T.get_set,h10]) (by simp[T.get_set]) AaR_ (by omega) fun n6 s6 tm6 td6 b1 b2 b3 b4 b5=> ?_
  refine W.cond (v:=false) b2 Aey_ b5 (by omega) (fun h=>by cases h) fun _=> ?_
  refine KC_.w Wa_ (by omega) ?_
  have ek:wrap64 ((k:Nat)+1:Int)=((k+1:Nat):Int):=by
   rw[Bq (by omega) (by omega)];simp
  have g9:T.get tm6 9=some (.int .i64 (k:Nat)):=by rw[b4 9 (by decide)];simp[T.get_set,h9]
  simp only[Aw_,Ac,W_oS,W_on,Aa,W_mv,Ab,Ap,T.get_set,Af,Ae,Ao,Al,Ad,Ai,reduceIte,Ah,Av,As,Au,Ak,Aq,Ar,Aw,Aj,An,Nat.reduceEqDiff,reduceCtorEq, ↓reduceIte,AD,AL,AC,AK,AT,AP,AQ,AM,g9,ek]
  exact next _ (k+1) f.num _ _ _ (by omega) AcV_ (y5.then0 b3 hb0) hk1.2 hk2.2 (by omega) (by simp[T.get_set,b4,h0,ev]) (by simp[T.get_set,b4]) (by simp[T.get_set,b4,h5]) (by simp[T.get_set,b4,h6]) (by simp[T.get_set,b4,h7]) (by simp[T.get_set,b4]) (by simp[T.get_set]) (by simp[T.get_set,b4,h10])
end
def recB (b:List Nat):List Nat:=G2 b.length++gput (idB b++b)
theorem HsR.ext0 {F:Nat→Prop}{s s':St}{v:Value}{hs:List Hd}(h:HsR s v hs)(e:Ext F Non s s'):HsR s' v hs:=by
 rcases h with h|⟨b,o,c,h0,h3⟩
 ·exact .inl h
 ·exact .inr ⟨b,o,c,h0,h3.ext e fun _ _=>id⟩
theorem Jo.new {s s':St}{v:Value}{hs:List Hd}(h:Jo s s' v hs): ∀x,HsF v x→s.next≤x:=by
 intro x hx
 rcases h with⟨rfl,_⟩|⟨b,h1,h,_⟩
 ·exact hx.elim
 ·rw[h.val]at hx
  have:=hx.1
  show s.next≤x
  have h2:b+0≤x:=hx.1
  omega
section
variable {parts:List (Value×List Nat)}{b o c:Nat}
end
section
variable {parts:List (Value×List Nat)}{b o c:Nat}
end
end Go.Proofs.Ytofanlcjeohcjaa.Am
