import Derived.Test.YtjfhmacppabehaaIDf19
import Derived.Test.YtjfhmacppabehaaIDf07
import Derived.Test.YtjfhmacppabehaaIDf06
import GoSem.ClaimWide
import Derived.Carry
import Derived.ChangeSame
namespace Go.Proofs.Ytjfhmacppabehaa.Am
open Go.RowKit
theorem MkS.lenq {E:Env}{s s':St}{t z sz n:Nat}{l:List Value}{v:Value}{b:Nat}(h:MkS s sz n l v b)(ht:slN E t=some z)(Q:Value→St→Prop):W (A7 E .len [t] [v]) s' Q=Q (.int .i64 (n:Nat)) s':=h.len ht Q
section
variable {B n:Nat}{s:St}{Q:Value→St→Prop}
theorem GN_ {sv lv:Value}{m1 m2 b1 b2:Nat}{l1 l2:List Value}(hb:s.lim≤s.next)(f0:Own s B 0 sv)(f1:Own s B 1 lv)(hs:MkS s 1 m1 l1 sv b1)(hl:MkS s 1 m2 l2 lv b2)(hz:m1+m2≤5000000)(hn:20≤n)(q: ∀s1,Ext Any Non s s1→s1.mem=s.mem→s1.next=s.next→Q (.int .i64 (m1+m2:Nat)) s1):W (Ap envS (runF envS n) 41 [.pointer (some ⟨B,0,none⟩)]) s Q:=by
 have hb0:(s.cxN cxN).lim≤(s.cxN cxN).next:=hb
 have f0':Own (s.cxN cxN) B 0 sv:=f0.same rfl rfl
 have f1':Own (s.cxN cxN) B 1 lv:=f1.same rfl rfl
 have hm0:(s.cxN cxN).mem=s.mem:=rfl
 have hn0:(s.cxN cxN).next=s.next:=rfl
 refine Hx_ fun tm t0=> ?_
 refine KC_.w rfl (by omega) ?_
 simp only[Qt,Aa,W_mv,Ab]
 refine OT_.w ZS (by omega) ?_
 generalize hs0:s.cxN cxN=s0 at *
 simp only[V0,T.get_set,Nat.reduceEqDiff,reduceIte,t0,AY,BX]
 rw[W_dq fun s Q=>Aq (s:=s) _ Q]
 dsimp only
 try simp only[AY]
 rw[W_dq fun s Q=>Bd (s:=s) Ek (by decide) Q]
 dsimp only
 try simp only[AY]
 refine W.dload BR ((f0'.same (s':=dSt s0.mem s0.next) rfl rfl).at') fun rd3 hr3=> ?_
 try simp only[AY,Aj,Ah,Ag]
 rw[W_dq fun s Q=>MkS.lenq (s':=s) hs BT Q]
 dsimp only
 try simp only[BX]
 rw[W_dq fun s Q=>Aq (s:=s) _ Q]
 dsimp only
 try simp only[AY]
 rw[W_dq fun s Q=>Bd (s:=s) Ds (by decide) Q]
 dsimp only
 try simp only[AY]
 refine W.dload BR ((f1'.same (s':=dSt s0.mem s0.next) rfl rfl).at') fun rd8 hr8=> ?_
 try simp only[AY]
 rw[W_dq fun s Q=>MkS.lenq (s':=s) hl BT Q]
 dsimp only
 try simp only[AY]
 rw[W_dq fun s Q=>QT (s:=s) _ _ Q,Aa]
 have e:wrap64 (((m1:Nat):Int)+((m2:Nat):Int))=((m1+m2:Nat):Int):=by
  rw[Cf (by omega) (by omega)];omega
 rw[e]
 refine⟨Fo (by simp) (by simp), ?_⟩
 refine W.cast (JN_ _ _ _ _ _ _ _ _ _ _ _ _ _ _ _ _) ?_
 simp only[Ad,W_oS,Aa,AV]
 generalize hs':(⟨(dSt s0.mem s0.next).mem,(dSt s0.mem s0.next).next,s0.lim,_,_,s0.cx⟩:St)=s7
 have x7:Ext Any Non s0 s7:=by
  rw[←hs']
  exact Ext.draw (F:=Any) (Nat.le_refl _) (fun _ _=>rfl) (by simp) fun _ _ _ _ _=>trivial
 have m7:s7.mem=s0.mem:=by rw[←hs'];rfl
 have n7:s7.next=s0.next:=by rw[←hs'];rfl
 rw[←hs0]at x7
 refine W.end' (rs:=[2]) (vs:=[.int .i64 (m1+m2:Nat)]) KS_ (.inl Cq_) (by omega) Wl Y4 x7.cx (by simp[T.get_set]) ?_
 exact q _ x7.cx' (m7.trans hm0) (n7.trans hn0)
end
theorem FileI.flip {G:Nat→Prop}{s s':St}{col:Nat→Nat}{c k x:Nat}{f:FileS}(h:FileI s col c f)(hk:k<f.sb.length)(hn:s'.next=s.next)(e:Ext G (In f.sbk k 1) s s')(ho:Own s' f.sbk k (.int .u8 (x:Nat))):FileI s' col c {f with sb:=f.sb.set k x}:=by
 have hin: ∀y,In f.sbk k 1 y→MkF 1 f.sb.length f.sbk y:=fun y hy=>⟨by omega,by have:=hy.1;omega,by have:=hy.2;omega⟩
 have b0:=h.o0.1
 have b1:=h.o1.1
 refine⟨h.o0.ext e fun g=> ?_,h.o1.ext e fun g=> ?_,h.k,h.ms.put hk hn e ho,fun y hy=>h.ks y (by rw[List.length_set]at hy;exact hy),h.ml.ext e fun y hy g=> ?_,h.kl⟩
 ·have h1:=h.ks _ (hin _ g)
  have h2:=h.k (f.blk+0) (by omega) (by omega)
  omega
 ·have h1:=h.ks _ (hin _ g)
  have h2:=h.k (f.blk+1) (by omega) (by omega)
  omega
 ·have h1:=h.ks _ (hin _ g)
  have h2:=h.kl y hy
  omega
section
variable {n D M:Nat}{s:St}{k:DkS}{col:Nat→Nat}{a:ByteArray}{bit:Int}{Q:Value→St→Prop}
theorem OB (hb:s.lim≤s.next)(hI:DkI s col D M k)(hlen:k.fs.length≤300)(hz:k.used≤1000000)(hn:400≤n)(hbit:bit≤9223372036854775807)(hby: ∀f∈k.fs,Byt f.sb)
  (hc: ∀j (hj:j<k.fs.length) (m:Nat),Bb k.fs a=some j→bit=(m:Nat)→m/8<k.fs[j].sb.length∨k.fs[j].sb.length+k.fs[j].lb.length≤m/8)
  (q1:Bb k.fs a=none→ ∀s1,Ext Any Non s s1→Q (.int .i64 6) s1)
  (q2: ∀j (hj:j<k.fs.length),Bb k.fs a=some j→bit<0∨(∃m:Nat,bit=(m:Nat)∧k.fs[j].sb.length+k.fs[j].lb.length≤m/8)→ ∀s1,Ext Any Non s s1→Q (.int .i64 5) s1)
  (q3: ∀j (hj:j<k.fs.length) (m:Nat),Bb k.fs a=some j→bit=(m:Nat)→m/8<k.fs[j].sb.length→ ∀s1,DkI s1 col D M {k with fs:=k.fs.set j {k.fs[j]with sb:=k.fs[j].sb.set (m/8) (k.fs[j].sb.getD (m/8) 0^^^2^(m%8))}}→Ext Any (fun x=>col x<1000) s s1→s1.next=s.next→Q (.int .i64 0) s1):
  W (Ap envS (runF envS n) 17 [.pointer (some ⟨D,0,none⟩), .string a, .int .i64 bit]) s Q:=by
 have hb0:(s.cxN cxN).lim≤(s.cxN cxN).next:=hb
 have hI0:DkI (s.cxN cxN) col D M k:=hI.same rfl rfl
 refine Z3 fun tm t0 t1 t2=> ?_
 refine Ne_.w rfl (by omega) ?_
 simp only[VX,Aa,W_mv,Ab]
 refine PN_.w Kj_ (by omega) ?_
 simp only[QC,Ad,W_on,Aa,W_mv,Ab,T.get_set,Aj,Ah,Ag,Al,reduceIte,reduceCtorEq, ↓reduceIte,t0]
 refine GB hb0 (hI0.d0.same rfl rfl) (by omega) fun s1 m1 n1 x1=> ?_
 have y1:=x1
 have n1':s1.next=s.next:=n1
 have hI1:DkI s1 col D M k:=hI0.same m1 n1
 try simp only[Ad,W_oS,W_on,Aa,W_mv,Ab,AV,T.get_set,Aj,Ah,A1,AX,Ag,Al,reduceIte,Ax,AP,AZ,A0,AE,Au,Az,AW,Aw,Aq,Nat.reduceEqDiff,reduceCtorEq, ↓reduceIte]
 refine W.cond (v:=false) MK_ ZU (by simp[T.get_set]) (by omega) (fun h=>by cases h) fun _=> ?_
 refine YA.w Lq_ (by omega) ?_
 simp only[Rs,Ad,W_oS,Aa,W_mv,Ab,T.get_set,reduceIte,Aq,Nat.reduceEqDiff,reduceCtorEq, ↓reduceIte,t0,t1,Bd Eb (by decide)]
 refine W.load1 DO hI1.d1.at' ?_
 try simp only[Ad,W_oS,W_on,Aa,W_mv,Ab,AV,T.get_set,Aj,Ah,A1,AX,Ag,Al,reduceIte,Ax,AP,AZ,A0,AE,Au,Az,AW,Aw,Aq,Nat.reduceEqDiff,reduceCtorEq, ↓reduceIte]
 refine Hn (fs:=k.fs) (mx:=k.mx) (hI1.om.same rfl rfl) ?_
 try simp only[Ad,W_oS,W_on,Aa,W_mv,Ab,AV,T.get_set,Aj,Ah,A1,AX,Ag,Al,reduceIte,Ax,AP,AZ,A0,AE,Au,Az,AW,Aw,Aq,Nat.reduceEqDiff,reduceCtorEq, ↓reduceIte]
 have y2:=(y1.thenRd hb0 (D+(0+1))).thenRd hb0 M
 have hI2:DkI ((s1.rdN (D+(0+1))).rdN M) col D M k:=hI1.same rfl rfl
 have n2:((s1.rdN (D+(0+1))).rdN M).next=s.next:=n1'
 generalize (s1.rdN (D+(0+1))).rdN M=s2 at *
 refine Fh_.w JM_ (by omega) ?_
 cases hj:Bb k.fs a with
 |none=>
  have hv:Br k.fs a= .pointer none:=by unfold Br;rw[hj]
  rw[hv]
  simp only[MU,Ad,W_oS,Aa,W_mv,Ab,T.get_set,reduceIte, ↓reduceIte,HC]
  refine W.cond (v:=true) TH Xc (by simp[T.get_set]) (by omega) (fun _=> ?_) fun h=>by cases h
  refine Ly_.w IC_ (by omega) ?_
  simp only[WH,Aa,W_mv,Ab]
  refine W.end' (rs:=[6]) (vs:=[.int .i64 6]) FP_ (.inl Oi) (by omega) Hg H2 y2.cx (by simp[T.get_set]) ?_
  exact q1 hj _ y2.cx'
 |some j=>
  have hlt:=FJ hj
  have hv:Br k.fs a= .pointer (some ⟨k.fs[j].blk,0,none⟩):=by
   unfold Br
   rw[hj]
   simp only[List.getElem?_eq_getElem hlt]
  rw[hv]
  simp only[MU,Ad,W_oS,Aa,W_mv,Ab,T.get_set,reduceIte, ↓reduceIte,Em GX]
  refine W.cond (v:=false) TH Xc (by simp[T.get_set]) (by omega) (fun h=>by cases h) fun _=> ?_
  have g:=hI2.fl j hlt
  have hused:=DkS.used_at hlt
  refine Hb_.w Ma_ (by omega) ?_
  by_cases hneg:bit<0
  ·have e1:decide (bit<0)=true:=decide_eq_true hneg
   simp only[LP,Ad,W_oS,W_on,Aa,W_mv,Ab,T.get_set,Aj,Ah,Ag,reduceIte,Ax,AZ,Au,AW,Aw,Nat.reduceEqDiff, ↓reduceIte,BK,t2,e1]
   refine W.cond (v:=true) M9 LK (by simp[T.get_set]) (by omega) (fun _=> ?_) fun h=>by cases h
   refine Ul.w Vl (by omega) ?_
   simp only[Mt,Aa,W_mv,Ab]
   refine W.end' (rs:=[6]) (vs:=[.int .i64 5]) Q6 (.inl Oi) (by omega) Hg H2 y2.cx (by simp[T.get_set]) ?_
   exact q2 j hlt hj (.inl hneg) _ y2.cx'
  ·obtain⟨m,rfl⟩: ∃m:Nat,bit=(m:Nat):=⟨bit.toNat,by omega⟩
   have e1:decide (((m:Nat):Int)<0)=false:=decide_eq_false hneg
   simp only[LP,Ad,W_oS,W_on,Aa,W_mv,Ab,T.get_set,Aj,Ah,Ag,Al,reduceIte,Ax,AE,Au,Az,Aw,Nat.reduceEqDiff,reduceCtorEq, ↓reduceIte,BK,t2,e1,Kz (m:=m) (by omega)]
   refine GN_ (y2.bnd hb0) g.o0 g.o1 g.ms g.ml (by omega) (by omega) fun s3 x3 m3 n3=> ?_
   have y3:=y2.on x3 hb0 fun _ _ h=>h
   have hI3:DkI s3 col D M k:=hI2.same m3 n3
   simp only[GJ]
   rcases hc j hlt m hj rfl with hin|hout
   ·have e2:decide (((k.fs[j].sb.length+k.fs[j].lb.length:Nat):Int)≤((m/8:Nat):Int))=false:=decide_eq_false (by omega)
    simp only[e2]
    refine W.cond (v:=false) M9 LK (by simp[T.get_set]) (by omega) (fun h=>by cases h) fun _=> ?_
    refine LP_.w Bg_ (by omega) ?_
    have g3:=hI3.fl j hlt
    simp only[Xd,T.get_set,Nat.reduceEqDiff,reduceIte,t2,AY,BX]
    rw[W_dq fun s Q=>Kz (s:=s) (m:=m) (by omega) Q]
    dsimp only
    try simp only[BX]
    rw[W_dq fun s Q=>Aq (s:=s) _ Q]
    dsimp only
    try simp only[AY]
    rw[W_dq fun s Q=>Bd (s:=s) Ek (by decide) Q]
    dsimp only
    try simp only[AY]
    refine W.dload BR ((g3.o0.same (s':=dSt s3.mem s3.next) rfl rfl).at') fun rd5 hr5=> ?_
    try simp only[AY]
    refine Eq.mpr (BX _ _ _ _ _) ?_
    dsimp only
    try simp only[AV]
    rw[Aa]
    refine⟨Fo (by simp) (by simp), ?_⟩
    refine W.cast (Nq_ _ _ _ _ _ _ _ _ _ _ _ _) ?_
    simp only[Ad,W_oS,Aa,AV]
    generalize hs':(⟨(dSt s3.mem s3.next).mem,(dSt s3.mem s3.next).next,s3.lim,_,_,s3.cx⟩:St)=s4
    have m4:s4.mem=s3.mem:=by rw[←hs'];rfl
    have n4:s4.next=s3.next:=by rw[←hs'];rfl
    have x4:Ext Any Non s3 s4:=by
     rw[←hs']
     exact Ext.draw (F:=Any) (Nat.le_refl _) (fun _ _=>rfl) (by simp) fun _ _ _ _ _=>trivial
    have y4:=y3.on x4 hb0 fun _ _ h=>h
    have hI4:DkI s4 col D M k:=hI3.same m4 n4
    have g4:=hI4.fl j hlt
    refine IL_.w Ar_ (by omega) ?_
    have e3:decide (((k.fs[j].sb.length:Nat):Int)≤((m/8:Nat):Int))=false:=decide_eq_false (by omega)
    simp only[Vn,Ad,W_oS,Aa,W_mv,Ab,T.get_set,Aj,Ah,Ag,reduceIte,Nat.reduceEqDiff, ↓reduceIte,GJ,MkS.lenq g4.ms BT,e3]
    refine W.cond (v:=false) PG_ BN_ (by simp[T.get_set]) (by omega) (fun h=>by cases h) fun _=> ?_
    refine AG_.w Yp (by omega) ?_
    obtain⟨c,ev,ob⟩:=g4.ms.get hin
    have hbv:k.fs[j].sb.getD (m/8) 0<256:=by
     rw[List.getD_eq_getElem?_getD,List.getElem?_eq_getElem hin]
     exact hby _ (List.getElem_mem hlt) _ (List.getElem_mem hin)
    have hpw:2^(m%8)<2^8:=Nat.pow_lt_pow_right (by decide) (Nat.mod_lt _ (by decide))
    have hx8:k.fs[j].sb.getD (m/8) 0^^^2^(m%8)<256:=Nat.xor_lt_two_pow (n:=8) hbv hpw
    simp only[Uk,T.get_set,Nat.reduceEqDiff,reduceIte,t2,AY,BX,ev]
    rw[W_dq fun s Q=>C2 (s:=s) BT hin Q]
    dsimp only
    try simp only[AY]
    refine W.dload Ih (((show Own s4 k.fs[j].sbk (0+m/8*1) _ by rw[Nat.mul_one,Nat.zero_add];exact ob).same (s':=dSt s4.mem s4.next) rfl rfl).at') fun rd3 hr3=> ?_
    try simp only[BX]
    rw[W_dq fun s Q=>Rw (s:=s) (m:=m) Q]
    dsimp only
    try simp only[AY]
    rw[W_dq fun s Q=>RJ (s:=s) (k:=m%8) (Nat.mod_lt _ (by decide)) Q]
    dsimp only
    try simp only[AY]
    rw[W_dq fun s Q=>V8 (s:=s) hx8 Q]
    dsimp only
    try simp only[AY]
    rw[W_dq fun s Q=>C2 (s:=s) BT hin Q,Aa]
    refine⟨Fo (by simp) (by simp), ?_⟩
    refine W.cast (Iq_ _ _ _ _ _ _ _ _ _ _ _ _ _ _) ?_
    simp only[Ad,W_oS,Aa]
    generalize hs':(⟨(dSt s4.mem s4.next).mem,(dSt s4.mem s4.next).next,s4.lim,_,_,s4.cx⟩:St)=s5
    have m5:s5.mem=s4.mem:=by rw[←hs'];rfl
    have n5:s5.next=s4.next:=by rw[←hs'];rfl
    have x5:Ext Any Non s4 s5:=by
     rw[←hs']
     exact Ext.draw (F:=Any) (Nat.le_refl _) (fun _ _=>rfl) (by simp) fun _ _ _ _ _=>trivial
    have y5:=y4.on x5 hb0 fun _ _ h=>h
    have hI5:DkI s5 col D M k:=hI4.same m5 n5
    have g5:=hI5.fl j hlt
    have ob5:Own s5 k.fs[j].sbk (0+m/8*1) (.int .u8 (k.fs[j].sb.getD (m/8) 0:Nat)):=by rw[Nat.mul_one,Nat.zero_add];exact ob.same m5 n5
    refine W.store1 Ih rfl ob5 fun s6 n6 x6 o6=> ?_
    rw[Nat.mul_one,Nat.zero_add]at x6 o6
    try simp only[Ad,W_oS,W_on,Aa,W_mv,Ab,AV,T.get_set,Aj,Ah,A1,AX,Ag,Al,reduceIte,Ax,AP,AZ,A0,AE,Au,Az,AW,Aw,Aq,Nat.reduceEqDiff,reduceCtorEq, ↓reduceIte]
    have hcol: ∀y,In k.fs[j].sbk (m/8) 1 y→col y=2+3*j+1:=fun y hy=>g5.ks y ⟨by omega,by have:=hy.1;omega,by have:=hy.2;omega⟩
    have y6:Ext Any (fun x=>col x<1000) (s.cxN cxN) s6:=(y5.gw hb0 fun _ _ h=>h.elim).on x6 hb0 fun y _ hq=>by have:=hcol y hq;omega
    have hf:=g5.flip hin n6 x6 o6
    have hI6:=hI5.file hlt x6 (fun y _ hq=>by have:=hcol y hq;omega) (fun _ _=>rfl) hf rfl
    refine Bb_.w YP (by omega) ?_
    simp only[Uy,Aa,W_mv,Ab]
    refine W.end' (rs:=[6]) (vs:=[.int .i64 0]) MY_ (.inl Ag_) (by omega) Hg H2 y6.cx (by simp[T.get_set]) ?_
    exact q3 j hlt m hj rfl hin _ (hI6.same rfl rfl) y6.cx' (by show s6.next=s.next;omega)
   ·have e2:decide (((k.fs[j].sb.length+k.fs[j].lb.length:Nat):Int)≤((m/8:Nat):Int))=true:=decide_eq_true (by omega)
    simp only[e2]
    refine W.cond (v:=true) M9 LK (by simp[T.get_set]) (by omega) (fun _=> ?_) fun h=>by cases h
    refine Ul.w Vl (by omega) ?_
    simp only[Mt,Aa,W_mv,Ab]
    refine W.end' (rs:=[6]) (vs:=[.int .i64 5]) Q6 (.inl Oi) (by omega) Hg H2 y3.cx (by simp[T.get_set]) ?_
    exact q2 j hlt hj (.inr ⟨m,rfl,hout⟩) _ y3.cx'
end
section
variable {s:St}
theorem W.rowM {vs:List Value}{Q:Value→St→Prop}(hb:s.lim≤s.next)(hz:vs.length<capU)(q: ∀s1 v,MkS s1 1 vs.length vs v s.next→Ext Any Non s s1→Q v s1):W (Am.rowM vs) s Q:=by
 cases vs with
 |nil=>exact W.pure (q s _ (.inl ⟨rfl,rfl,rfl⟩) (Ext.refl _))
 |cons x l=>
  show W (Am.fN (x::l).length fun n=>Am.rowN (x::l) n) s Q
  rw[A4]
  generalize hvs:x::l=vs at *
  have h0:0<vs.length:=by rw[←hvs];simp
  unfold Am.rowN
  refine W.chk (BN hz) (W.bind (W.newL fun s1 n1 x1 r1=> ?_))
  have e1:Nat.add s.next (Nat.mul vs.length 1)=s.next+vs.length:=by
   show s.next+vs.length*1=_
   omega
  rw[e1]
  refine W.bind (W.wrC (by omega) ?_)
  unfold Am.pSl
  show W (Am.fA ⟨s.next,0,none⟩ fun a=>Am.fN _ fun l=>Am.fN _ fun c=>M.pure (.slice (some a) l c)) _ Q
  rw[Ct,A4,A4]
  have hval:Value.slice (some ⟨s.next,0,none⟩) vs.length (Nat.add (Nat.mul capU (Nat.add (Nat.mul (s.next+vs.length) 1024) 1)) vs.length)= .slice (some ⟨s.next,0,none⟩) vs.length (capU*((s.next+vs.length*1)*1024+1)+vs.length):=by
   rw[Nat.mul_one]
   generalize capU=c
   rfl
  rw[hval]
  refine W.pure (q _ _ (.inr ⟨⟨rfl, ?_, ?_, ?_, ?_⟩,h0⟩) ?_)
  ·exact r1.ext (Ext.wrN (F:=Any) (G:=fun y=>y=s.next+vs.length) s1 _ _ rfl) fun i hi h=>by omega
  ·omega
  ·show T.get (T.set s1.mem (s.next+vs.length) _) (s.next+vs.length*1)=_
   rw[Nat.mul_one,T.get_set,if_pos rfl]
  ·show s.next+vs.length*1<s1.next
   omega
  ·exact(x1.weak (G':=Non) hb (fun _ _ _=>trivial) fun _ _ h=>h).on (Ext.wrN (F:=Any) (G:=fun y=>y=s.next+vs.length) s1 _ _ rfl) hb fun y hy h=>by omega
structure NmsOk (l:List ByteArray):Prop where
 dist:EX (l.map (·.data.toList))=true
 short:Fq (l.map (·.data.toList)) 1000000=true
 sort:Fl (l.map (·.data.toList))=l.map (·.data.toList)
 len:l.length≤300
theorem Xa: ∀fs:List FileS,EQ (fs.map FileS.ent)=some ((fs.map FileS.name).map (·.data.toList))
 |[]=>rfl
 |f::fs=>by
  show(match Lt f.ent.key,EQ (fs.map FileS.ent)with|some k,some ks=>some (k::ks)|_,_=>none)=_
  rw[Xa fs]
  rfl
theorem Ep_ (l:List ByteArray):(l.map (·.data.toList)).map encStr=l.map Value.string:=by
 rw[List.map_map]
 refine List.map_congr_left fun a _=> ?_
 show encStr a.data.toList=Value.string a
 unfold encStr
 congr
theorem W.keysQ {Q:Value→St→Prop}{l:Nat}(q: ∀s1,s1.next=s.next+2→Ext Non Non s s1→Own s1 s.next 0 (.map (some l))→Q (.func (.func 72) #[] #[.chan (some s.next)]) s1):W (keysM 72 [.map (some l)]) s Q:=by
 show W (M.bind (Am.newL [.map (some l)]) fun b=>M.pure (.func (.func 72) #[] #[.chan (some b)])) s Q
 exact W.bind (W.newL fun s1 n1 x1 r1=>W.pure (q s1 n1 x1 (r1 0 _ rfl)))
theorem W.sortedQ {Q:Value→St→Prop}{l b m:Nat}{fs:List FileS}(hb:s.lim≤s.next)(h0:Own s b 0 (.map (some l)))(ho:Obj s l (.map (fs.map FileS.ent) m))(hbo:BH (fs.map FileS.ent) 0 m=true)(hN:NmsOk (fs.map FileS.name))(q: ∀s1 v,MkS s1 1 fs.length ((fs.map FileS.name).map Value.string) v s.next→Ext Any Non s s1→Q v s1):W (sortedM 72 [.func (.func 72) #[] #[.chan (some b)]]) s Q:=by
 show W (M.chk (Nat.beq 72 72&&(#[]:Array Value).isEmpty) (M.bind (Am.rdV ⟨b,0,none⟩) fun x=>match x with
   | .map (some l)=>M.bind (Am.mapAt l) sortKs
   |_=>M.fail)) s Q
 refine W.chk (by decide) (W.bind (W.rdV h0.at' ?_))
 have ho1:Obj (s.rdN (b+0)) l (.map (fs.map FileS.ent) m):=ho.same rfl rfl
 refine W.bind (W.bind (W.rdC ho1.2 ho1.1 (W.pure ?_)))
 show W (M.on (EQ (fs.map FileS.ent)) fun ks=>M.chk (BH (fs.map FileS.ent) 0 m&&EX ks&&Fq ks 1000000&&Nat.ble ks.length 1000000) (Am.rowM ((Fl ks).map encStr))) ((s.rdN (b+0)).rdN l) Q
 refine W.on (Xa fs) (W.chk ?_ ?_)
 ·have hl:=hN.len
  rw[hbo,hN.dist,hN.short,Nat.ble_eq_true_of_le (show((fs.map FileS.name).map (·.data.toList)).length≤1000000 by simp at hl ⊢;omega)]
  rfl
 ·rw[hN.sort,Ep_]
  have y:=((Ext.refl (F:=Any) (G:=Non) s).thenRd hb (b+0)).thenRd hb l
  have hl:=hN.len
  refine W.rowM (s:=(s.rdN (b+0)).rdN l) hb (Nat.lt_of_le_of_lt (show _≤1000000 by simp at hl ⊢;omega) (by decide)) fun s1 v mk x1=> ?_
  refine q s1 v ?_ (y.on x1 hb fun _ _ h=>h)
  rw[show((fs.map FileS.name).map Value.string).length=fs.length by simp]at mk
  exact mk
end
theorem Jd_ (a:ByteArray):(a.extract 0 0).data.toList=[]:=by
 cases a
 simp[ByteArray.extract,ByteArray.copySlice]
theorem ZR (a:ByteArray){s:St}(Q:Value→St→Prop):W (BQ envS 9 (.string a) none (some (.int .i64 ((0:Nat):Int)))) s Q=Q (.string (a.extract 0 0)) s:=by
 have: ∀s,BQ envS 9 (.string a) none (some (.int .i64 ((0:Nat):Int))) s= .some (.string (a.extract 0 0)) s:=fun s=>by kernel_rfl
 exact Bi (this s)
section
variable {n:Nat}{s:St}{a:ByteArray}{Q:Value→St→Prop}
theorem Id_ (hn:60≤n)(q:Q (.bool true) s):W (Ap envS (runF envS n) 46 [.string a, .string ⟨#[]⟩]) s Q:=by
 refine GE_ fun tm h0 h1=> ?_
 refine KF_.w rfl (by omega) ?_
 simp only[To,Aa,W_mv,Ab]
 refine FI_.w Or_ (by omega) ?_
 simp only[Vu,Ad,W_on,Aa,W_mv,Ab,T.get_set,Aj,Ah,Ag,Al,reduceIte,Nat.reduceEqDiff,reduceCtorEq, ↓reduceIte,h0,h1]
 refine FR_ fun tm2 g0 g1=> ?_
 refine Og_.w rfl (by omega) ?_
 simp only[We,Aa,W_mv,Ab]
 refine Ht_.w CH_ (by omega) ?_
 have e1:decide ((((⟨#[]⟩:ByteArray).size:Nat):Int)≤((a.size:Nat):Int))=true:=decide_eq_true (by show(0:Int)≤_;omega)
 have e2:(⟨#[]⟩:ByteArray).size=0:=rfl
 simp only[R8,Ad,W_oS,W_on,Aa,W_mv,Ab,T.get_set,Aj,Ah,Ag,reduceIte,Ax,AP,Au,Az,Aw,Nat.reduceEqDiff,reduceCtorEq, ↓reduceIte,GJ,g0,g1,XG Ii,e1]
 rw[e2,ZR]
 have e3:((a.extract 0 0).data.toList==(⟨#[]⟩:ByteArray).data.toList)=true:=by rw[Jd_];rfl
 simp only[RS,e3]
 refine W.end' (rs:=[4]) (vs:=[.bool true]) JR_ (.inl KJ_) (by omega) Tr PD_ rfl (by simp[T.get_set]) ?_
 show W _ _ _
 try simp only[Nf]
 refine W.end' (rs:=[4]) (vs:=[.bool true]) By_ (.inl Hl_) (by omega) P4 DG_ rfl (by simp[T.get_set]) ?_
 exact q
end
theorem Jw:slN envS 30=some 1:=by kernel_rfl
theorem AC_:envS.orc.get 43=some (keysM 72):=by kernel_rfl
theorem Aa_:envS.orc.get 42=some (sortedM 72):=by kernel_rfl
def NmR (s:St)(v:Value)(l:List ByteArray)(b:Nat):Prop:=MkS s 1 l.length (l.map Value.string) v b
theorem NmR.at {s:St}{v:Value}{l:List ByteArray}{b i:Nat}(h:NmR s v l b)(hi:i<l.length): ∃c,v= .slice (some ⟨b,0,none⟩) l.length c∧Own s b (0+i*1) (.string l[i]):=by
 rcases h with⟨_,h0,_⟩|⟨h,h0⟩
 ·omega
 ·refine⟨_,h.val, ?_⟩
  rw[Nat.mul_one,Nat.zero_add]
  have h1:=h.own i (.string l[i]) (by simp[hi])
  rwa [Nat.zero_add]at h1
section
variable {n P:Nat}{s:St}{a:ByteArray}{Q:Value→St→Prop}
theorem Zl (hb:s.lim≤s.next)(hP:Own s P 0 (.string ⟨#[]⟩))(hn:100≤n)(q: ∀s1,s1.mem=s.mem→s1.next=s.next→Ext Any Non s s1→Q (.bool false) s1):W (Ap envS (runF envS n) 45 [.string a, .pointer (some ⟨P,0,none⟩)]) s Q:=by
 have hb0:(s.cxN cxN).lim≤(s.cxN cxN).next:=hb
 refine HZ_ fun tm h0 h1=> ?_
 refine Dg_.w rfl (by omega) ?_
 simp only[VY,Aa,W_mv,Ab]
 refine BJ_.w Zi (by omega) ?_
 simp only[Vp,Ad,W_oS,W_on,Aa,W_mv,Ab,T.get_set,Aj,Ah,Ag,Al,reduceIte,Nat.reduceEqDiff,reduceCtorEq, ↓reduceIte,h0,h1]
 refine W.load1 EZ (hP.same (s':=s.cxN cxN) rfl rfl).at' ?_
 have y1:=(Ext.refl (F:=Any) (G:=Non) (s.cxN cxN)).thenRd hb0 (P+0)
 try simp only[Ad,W_oS,W_on,Aa,W_mv,Ab,AV,T.get_set,Aj,Ah,A1,AX,Ag,Al,reduceIte,Ax,AP,AZ,A0,AE,Au,Az,AW,Aw,Aq,Nat.reduceEqDiff,reduceCtorEq, ↓reduceIte]
 refine Id_ (by omega) ?_
 simp only[FB,Bool.not_true]
 refine W.end' (rs:=[3]) (vs:=[.bool false]) DZ_ (.inl Bq_) (by omega) T1 JG_ rfl (by simp[T.get_set]) ?_
 exact q _ rfl rfl y1.cx'
theorem Cj_ {l:List ByteArray}{v:Value}{b:Nat}{Q:Value×FrameMode→St→Prop}{s0:St}(hb0:s0.lim≤s0.next)(hl:l.length≤300)(hr:NmR s0 v l b)(hP:Own s0 P 0 (.string ⟨#[]⟩))(hcx:s0.cx=cxN)(q: ∀s1,s1.mem=s0.mem→s1.next=s0.next→Ext Any Non s0 s1→Q (.int .i64 (-1), .run) s1):
  ∀(k i n:Nat) (tm:T Value) (s:St) (td:List Item),i+k=l.length→10*k+200≤n→skim 64 td=Gj→Ext Any Non s0 s→s.mem=s0.mem→s.next=s0.next→
  T.get tm 0=some v→T.get tm 1=some (.func (.func 45) #[] #[.pointer (some ⟨P,0,none⟩)])→T.get tm 7=some (.int .i64 (l.length:Nat))→T.get tm 8=some (.int .i64 (i:Nat))→
  W (runF envS n ⟨73,CM_,Dd,tm,td, .run, .normal,none⟩) s Q:=by
 intro k
 induction k with
 |zero=>
  intro i n tm s td hi hn hT hx hm hnx h0 h1 h7 h8
  refine Vi.w hT (by omega) ?_
  simp only[O5,Ad,W_oS,Aa,Ab,BK,h7,h8]
  refine W.cond (v:=false) Vo SM (by simp[T.get_set];omega) (by omega) (fun h=>by cases h) fun _=> ?_
  refine ZV.w KL_ (by omega) ?_
  simp only[RR,Aa,W_mv,Ab]
  refine W.end' (rs:=[4]) (vs:=[.int .i64 (-1)]) KW_ (.inl Dq_) (by omega) Sb KA_ (hx.cx.trans hcx) (by simp[T.get_set]) ?_
  exact q s hm hnx hx
 |succ k ih=>
  intro i n tm s td hi hn hT hx hm hnx h0 h1 h7 h8
  have hil:i<l.length:=by omega
  obtain⟨c,rfl,ho⟩:=NmR.at hr hil
  refine Vi.w hT (by omega) ?_
  simp only[O5,Ad,W_oS,Aa,Ab,BK,h7,h8]
  refine W.cond (v:=true) Vo SM (by simp[T.get_set];omega) (by omega) (fun _=> ?_) fun h=>by cases h
  refine In_.w NN_ (by omega) ?_
  simp only[PJ,Aa,W_mv,Ab,T.get_set,reduceIte,Nat.reduceEqDiff, ↓reduceIte,h8]
  refine Qj_.w Jf_ (by omega) ?_
  simp only[VB,Ad,W_oS,W_on,Aa,W_mv,Ab,T.get_set,Aj,Ah,Ag,reduceIte,Nat.reduceEqDiff,reduceCtorEq, ↓reduceIte,h0,h1,C2 Jw hil]
  refine W.load1 EZ (ho.same hm hnx).at' ?_
  have y1:=hx.thenRd hb0 (b+(0+i*1))
  try simp only[Qp]
  refine Zl (P:=P) (y1.bnd hb0) ((hP.same hm hnx).same rfl rfl) (by omega) fun s2 m2 n2 x2=> ?_
  have y2:=y1.on x2 hb0 fun _ _ h=>h
  try simp only[Ad,W_oS,W_on,Aa,W_mv,Ab,AV,T.get_set,Aj,Ah,A1,AX,Ag,Al,reduceIte,Ax,AP,AZ,A0,AE,Au,Az,AW,Aw,Aq,Nat.reduceEqDiff,reduceCtorEq, ↓reduceIte]
  refine W.cond (v:=false) NP_ GH_ (by simp[T.get_set]) (by omega) (fun h=>by cases h) fun _=> ?_
  refine KM_.w HA_ (by omega) ?_
  have ei:wrap64 ((i:Nat)+1:Int)=((i+1:Nat):Int):=by
   rw[Cf (by omega) (by omega)];simp
  simp only[T3,Ad,W_oS,Aa,W_mv,Ab,T.get_set,reduceIte,Nat.reduceEqDiff, ↓reduceIte,Dh,h8,ei]
  exact ih (i+1) _ _ _ _ (by omega) (by omega) GW_ y2 (m2.trans hm) (n2.trans hnx) (by simp[T.get_set,h0]) (by simp[T.get_set,h1]) (by simp[T.get_set,h7]) (by simp[T.get_set])
theorem PY_ {l:List ByteArray}{v:Value}{b:Nat}(hb:s.lim≤s.next)(hl:l.length≤300)(hr:NmR s v l b)(hP:Own s P 0 (.string ⟨#[]⟩))(hn:10*l.length+300≤n)(q: ∀s1,s1.mem=s.mem→s1.next=s.next→Ext Any Non s s1→Q v s1):W (Ap envS (runF envS n) 44 [v, .func (.func 45) #[] #[.pointer (some ⟨P,0,none⟩)]]) s Q:=by
 have hb0:(s.cxN cxN).lim≤(s.cxN cxN).next:=hb
 refine Nf_ fun tm h0 h1=> ?_
 refine Nc_.w rfl (by omega) ?_
 simp only[So,Aa,W_mv,Ab]
 refine OI_.w Ir_ (by omega) ?_
 simp only[VQ,Ad,W_on,Aa,W_mv,Ab,T.get_set,Aj,Ah,Ag,Al,reduceIte,Nat.reduceEqDiff,reduceCtorEq, ↓reduceIte,h0,h1]
 refine KI_ fun tm2 g0 g1=> ?_
 refine MQ_.w rfl (by omega) ?_
 simp only[Vg,Aa,W_mv,Ab]
 refine Mr_.w HR_ (by omega) ?_
 simp only[Q2,Ad,W_oS,Aa,W_mv,Ab,T.get_set,Aj,Ah,Ag,reduceIte,reduceCtorEq, ↓reduceIte,g0,MkS.lenq hr Jw]
 refine Cj_ (P:=P) (s0:=(s.cxN cxN).cxN cxN) hb hl (MkS.same hr rfl rfl) (hP.same rfl rfl) rfl (fun s1 m1 n1 x1=> ?_) l.length 0 _ _ _ _ (by omega) (by omega) Ee_ (Ext.refl _) rfl rfl (by simp[T.get_set,g0]) (by simp[T.get_set,g1]) (by simp[T.get_set]) (by simp[T.get_set])
 show W _ (s1.cxN cxN) _
 try simp only[Ad]
 refine HN_.w Jy_ (by omega) ?_
 simp only[P2,Ad,W_oS,Aa,W_mv,Ab,T.get_set,reduceIte, ↓reduceIte,Dq,decide_true]
 refine W.cond (v:=true) Az_ DD_ (by simp[T.get_set]) (by omega) (fun _=> ?_) fun h=>by cases h
 refine Op_.w Nv_ (by omega) ?_
 simp only[Tg,Aa,W_mv,Ab,T.get_set,reduceIte,reduceCtorEq, ↓reduceIte,h0]
 refine W.end' (rs:=[4]) (vs:=[v]) JV_ (.inl LL_) (by omega) Sm Z0 rfl (by simp[T.get_set]) ?_
 exact q _ m1 n1 ⟨x1.nxt,x1.lim,rfl,x1.mem,x1.rd,x1.wr⟩
theorem FZ_ {D M:Nat}{k:DkS}{col:Nat→Nat}(hb:s.lim≤s.next)(hI:DkI s col D M k)(hN:NmsOk (k.fs.map FileS.name))(hn:10*k.fs.length+500≤n)(q: ∀s1 v b,s.next≤b→NmR s1 v (k.fs.map FileS.name) b→Ext Any Non s s1→Q v s1):W (Ap envS (runF envS n) 11 [.pointer (some ⟨D,0,none⟩), .string ⟨#[]⟩]) s Q:=by
 have hb0:(s.cxN cxN).lim≤(s.cxN cxN).next:=hb
 have hI0:DkI (s.cxN cxN) col D M k:=hI.same rfl rfl
 have hlen:k.fs.length≤300:=by have:=hN.len;simpa using this
 refine FM_ fun tm t0 t1=> ?_
 refine GB_.w rfl (by omega) ?_
 simp only[X4,Ad,W_oS,Aa,W_mv,Ab,t1]
 refine W.box fun s1 n1 x1 o1=> ?_
 have ea:(s.cxN cxN).next=s.next:=rfl
 rw[ES (show oneCell (.string ⟨#[]⟩)=true from rfl)]at n1 o1
 rw[ea]at o1 n1 ⊢
 have n1':s1.next=s.next+2:=n1
 have y1:Ext Any Non (s.cxN cxN) s1:=x1.weak hb0 (fun _ _ _=>trivial) fun _ _ h=>h
 have hI1:=hI0.ext0 x1 hlen
 have oP:Own s1 s.next 0 (.string ⟨#[]⟩):=o1 0 _ rfl
 try simp only[Ad,W_oS,W_on,Aa,W_mv,Ab,AV,T.get_set,Aj,Ah,A1,AX,Ag,Al,reduceIte,Ax,AP,AZ,A0,AE,Au,Az,AW,Aw,Aq,Nat.reduceEqDiff,reduceCtorEq, ↓reduceIte]
 refine Ah_.w KR_ (by omega) ?_
 simp only[VC,Ad,W_on,Aa,W_mv,Ab,T.get_set,Aj,Ah,Ag,Al,reduceIte,reduceCtorEq, ↓reduceIte,t0]
 refine GB (y1.bnd hb0) hI1.d0 (by omega) fun s2 m2 n2 x2=> ?_
 have y2:=y1.on x2 hb0 fun _ _ h=>h
 have hI2:=hI1.same m2 n2
 have oP2:=oP.same m2 n2
 try simp only[Ad,W_oS,W_on,Aa,W_mv,Ab,AV,T.get_set,Aj,Ah,A1,AX,Ag,Al,reduceIte,Ax,AP,AZ,A0,AE,Au,Az,AW,Aw,Aq,Nat.reduceEqDiff,reduceCtorEq, ↓reduceIte]
 refine W.cond (v:=false) CU_ PC_ (by simp[T.get_set]) (by omega) (fun h=>by cases h) fun _=> ?_
 refine Bi_.w OM_ (by omega) ?_
 simp only[W9,Ad,W_oS,W_on,Aa,W_mv,Ab,T.get_set,Aj,Ah,Ag,Al,reduceIte,Aq,reduceCtorEq, ↓reduceIte,t0,Bd Eb (by decide)]
 refine W.load1 DO hI2.d1.at' ?_
 have y3:=y2.thenRd hb0 (D+(0+1))
 have hI3:DkI (s2.rdN (D+(0+1))) col D M k:=hI2.same rfl rfl
 have oP3:Own (s2.rdN (D+(0+1))) s.next 0 (.string ⟨#[]⟩):=oP2.same rfl rfl
 have n3:(s2.rdN (D+(0+1))).next=s.next+2:=n2.trans n1'
 generalize s2.rdN (D+(0+1))=s3 at *
 try simp only[Ad,W_oS,W_on,Aa,W_mv,Ab,AV,T.get_set,Aj,Ah,A1,AX,Ag,Al,reduceIte,Ax,AP,AZ,A0,AE,Au,Az,AW,Aw,Aq,Nat.reduceEqDiff,reduceCtorEq, ↓reduceIte]
 refine W.orc AC_ (W.keysQ fun s4 n4 x4 o4=> ?_)
 have y4:=y3.on x4 hb0 fun _ _ h=>h
 have hI4:=hI3.ext0 x4 hlen
 have oP4:=oP3.ext0 x4
 rw[n3]at o4 n4 ⊢
 try simp only[Ad,W_oS,W_on,Aa,W_mv,Ab,AV,T.get_set,Aj,Ah,A1,AX,Ag,Al,reduceIte,Ax,AP,AZ,A0,AE,Au,Az,AW,Aw,Aq,Nat.reduceEqDiff,reduceCtorEq, ↓reduceIte]
 refine W.orc Aa_ (W.sortedQ (y4.bnd hb0) o4 hI4.om hI4.bo hN fun s5 v mk x5=> ?_)
 have y5:=y4.on x5 hb0 fun _ _ h=>h
 have oP5:=oP4.ext0 x5
 try simp only[Ad,W_oS,W_on,Aa,W_mv,Ab,AV,T.get_set,Aj,Ah,A1,AX,Ag,Al,reduceIte,Ax,AP,AZ,A0,AE,Au,Az,AW,Aw,Aq,Nat.reduceEqDiff,reduceCtorEq, ↓reduceIte]
 refine X8.w Mh_ (by omega) ?_
 simp only[XM,Ad,W_oS,W_on,Aa,W_mv,Ab,T.get_set,Aj,Ah,Ag,Al,reduceIte,Nat.reduceEqDiff, ↓reduceIte]
 have hr:NmR s5 v (k.fs.map FileS.name) s4.next:=by
  unfold NmR
  rw[List.length_map]
  exact mk
 refine PY_ (P:=s.next) (y5.bnd hb0) hN.len hr oP5 (by simp;omega) fun s6 m6 n6 x6=> ?_
 have y6:=y5.on x6 hb0 fun _ _ h=>h
 try simp only[Ad,W_oS,W_on,Aa,W_mv,Ab,AV,T.get_set,Aj,Ah,A1,AX,Ag,Al,reduceIte,Ax,AP,AZ,A0,AE,Au,Az,AW,Aw,Aq,Nat.reduceEqDiff,reduceCtorEq, ↓reduceIte]
 refine W.end' (rs:=[4]) (vs:=[v]) PQ_ (.inl DA_) (by omega) Vq Cb_ y6.cx (by simp[T.get_set]) ?_
 exact q _ v s4.next (by omega) (MkS.same (MkS.same hr m6 n6) rfl rfl) y6.cx'
end
theorem MkS.pre {s:St}{m:List Nat}{v:Value}{b kk:Nat}(h:MkS s 1 m.length (u8l m) v b)(hk:kk≤m.length)(hz:m.length<capU): ∃v',(∀(s':St) (Q:Value→St→Prop),W (BQ envS 26 v none (some (.int .i64 (kk:Nat)))) s' Q=Q v' s')∧Bs s v' (m.take kk)∧ ∀x,BsF v' x→MkF 1 m.length b x:=by
 rcases h with⟨rfl,h0,_⟩|⟨h,h0⟩
 ·have hm:m=[]:=List.eq_nil_of_length_eq_zero h0
  subst hm
  have:kk=0:=by simpa using hk
  subst this
  exact⟨.slice none 0 0,fun s' Q=>TY (lo:=none) (hi:=some (.int .i64 ((0:Nat):Int))) CK rfl rfl Q, .inl ⟨rfl,rfl⟩,fun x hx=>hx.elim⟩
 ·have e:=h.val
  have hc:(capU*((b+m.length*1)*1024+1)+m.length)%capU=m.length:=LN hz
  have hok:BL (capU*((b+m.length*1)*1024+1)+m.length) 1=true:=Kg hz (by decide)
  generalize capU*((b+m.length*1)*1024+1)+m.length=C at *
  obtain⟨o',e1,e2,e3,e4,e5⟩:=Bs.sub' (b:=b) (o:=0) (c:=C) (i:=0) (j:=kk) (l:=m) (Nat.zero_le _) hk (by omega) hok (fun i u hu=>(h.own i u hu).at')
  rw[List.drop_zero]at e1 e2 e4 e5
  refine⟨_,fun s' Q=> ?_, .inr ⟨b,o',C-0,e1,e2,e3,e4⟩,fun x hx=> ?_⟩
  ·rw[e]
   exact Xw (l:=0) (h:=kk) (lo:=none) (hi:=some (.int .i64 (kk:Nat))) CK rfl rfl (Nat.zero_le _) (by omega) hok Q
  ·rw[e1]at hx
   have h1:b+o'≤x:=hx.1
   have h2:x<b+o'+(m.take kk).length:=hx.2
   rw[List.length_take]at h2
   refine⟨h0,by omega, ?_⟩
   rcases e5 with e5|e5
   ·omega
   ·rw[List.length_take]at e5
    omega
section
variable {n D M j kk:Nat}{s:St}{k:DkS}{col:Nat→Nat}{tm:T Value}{td:List Item}{Q:Value×FrameMode→St→Prop}
theorem Lt_ (hb0:s.lim≤s.next)(hI0:DkI s col D M k)(hj:j<k.fs.length)(t7:T.get tm 7=some (.pointer (some ⟨k.fs[j].blk,0,none⟩)))(t8:T.get tm 8=some (.int .i64 (kk:Nat)))(hkk:kk≤k.fs[j].lb.length)(hused:k.fs[j].sb.length+k.fs[j].lb.length≤1000000)(hlen:k.fs.length≤300)(hT:skim 64 td=Ed)(hn:20≤n)
  (q: ∀td' s1 v b,skim 64 td'=IY→DkI s1 (paint col s.next (2+3*j+1)) D M {k with fs:=k.fs.set j (k.fs[j].kept v b (k.fs[j].sb++k.fs[j].lb.take kk))}→Ext Any (fun x=>col x<1000) s s1→W (runF envS (n-1) ⟨18,GD,BJ,tm,td', .run, .normal,none⟩) s1 Q):
  W (runF envS n ⟨18,GD,BJ,tm,td, .run, .normal,none⟩) s Q:=by
 have g:=hI0.fl j hj
 have k0:=g.k k.fs[j].blk (Nat.le_refl _) (by omega)
 have k1:=g.k (k.fs[j].blk+1) (by omega) (by omega)
 obtain⟨lv',hsl,hbl,hbf⟩:=g.ml.pre hkk (Nat.lt_of_le_of_lt (show _≤1000000 by omega) (by decide))
 have hkl:(k.fs[j].lb.take kk).length≤k.fs[j].lb.length:=by rw[List.length_take];omega
 refine Ja_.w hT (by omega) ?_
 simp only[Sv,t7,t8,AY,BX]
 rw[W_dq fun s Q=>Aq (s:=s) _ Q]
 dsimp only
 try simp only[AY]
 rw[W_dq fun s Q=>Bd (s:=s) Ek (by decide) Q]
 dsimp only
 try simp only[AY]
 refine W.dload BR ((g.o0.same (s':=dSt s.mem s.next) rfl rfl).at') fun rd5 hr5=> ?_
 try simp only[BX]
 rw[W_dq fun s Q=>Aq (s:=s) _ Q]
 dsimp only
 try simp only[AY]
 rw[W_dq fun s Q=>Bd (s:=s) Ds (by decide) Q]
 dsimp only
 try simp only[AY]
 refine W.dload BR ((g.o1.same (s':=dSt s.mem s.next) rfl rfl).at') fun rd9 hr9=> ?_
 try simp only[BX,HU,Ag]
 rw[W_dq fun s Q=>hsl s Q]
 dsimp only
 try simp only[AY,Aj,Ah,Ag]
 refine W.dopG ?_
 rw[JX]
 refine W.appV (s:=oSt s.mem s.next) (Nat.le_refl _) Kl (g.ms.same rfl rfl) (hbl.same (s':=oSt s.mem s.next) rfl rfl).src.g (by decide) (by decide) (by omega) (by rw[Ca,Nat.mul_one]) (Fk _) fun s2 v2 b2 hb2 mk2 x2=>⟨_,_,x2,fun rd10 wr10 hr10 hw10=> ?_⟩
 have n2:s.next≤s2.next:=x2.nxt
 try simp only[AY]
 rw[W_dq fun s Q=>Aq (s:=s) _ Q]
 dsimp only
 try simp only[AY]
 rw[W_dq fun s Q=>Bd (s:=s) Ek (by decide) Q]
 dsimp only
 try simp only[AY]
 refine W.dopG ?_
 have o0:Own (oSt s2.mem s2.next) k.fs[j].blk 0 k.fs[j].sv:=((g.o0.same (s':=oSt s.mem s.next) rfl rfl).ext x2 fun h=>by have h1:=g.ks _ h;rw[Nat.add_zero,k0]at h1;omega).same rfl rfl
 have o1:Own (oSt s2.mem s2.next) k.fs[j].blk 1 k.fs[j].lv:=((g.o1.same (s':=oSt s.mem s.next) rfl rfl).ext x2 fun h=>by have h1:=g.ks _ h;rw[k1]at h1;omega).same rfl rfl
 refine W.store1 BR mk2.one o0 fun s3 n3 x3 o3=>⟨_,_,x3,fun rd13 wr13 hr13 hw13=> ?_⟩
 have n3':s3.next=s2.next:=n3
 try simp only[AY]
 rw[W_dq fun s Q=>Aq (s:=s) _ Q]
 dsimp only
 try simp only[AY]
 rw[W_dq fun s Q=>Bd (s:=s) Ds (by decide) Q,Aa]
 refine⟨HG ?_, ?_⟩
 ·simp only[List.reverse_cons,List.reverse_nil,List.nil_append,List.cons_append,allP,Dc,List.take,Fg]
  have lts: ∀x,s.next≤x→ ¬x<s.next:=fun x h=>by omega
  simp+contextual [lts]
  repeat' first
   |exact .inl rfl
   |apply And.intro
 ·refine W.cast (Z1 _ _ _ _ _ _ _ _ _ _ _ _ _ _ _ _ _ _ _ _ _ _) ?_
  simp only[Ad,W_oS,Aa]
  generalize hs':(⟨(dSt s3.mem s3.next).mem,(dSt s3.mem s3.next).next,s.lim,_,_,s.cx⟩:St)=s7
  have m7:s7.mem=s3.mem:=by rw[←hs'];rfl
  have n7:s7.next=s3.next:=by rw[←hs'];rfl
  have x7:Ext Any (fun x=>x=k.fs[j].blk∨x=k.fs[j].blk+1∨MkF 1 k.fs[j].sb.length k.fs[j].sbk x) s s7:=by
   rw[←hs']
   refine Ext.drawG (by show s.next≤s3.next;omega) (fun x hx hg=> ?_) ?_ fun _ _ _ _ _=>trivial
   ·have e1:T.get s3.mem x=T.get s2.mem x:=x3.mem x (by show x<s2.next;omega) fun h=>hg (.inl (by have h1:=h.1;have h2:=h.2;omega))
    exact e1.trans (x2.mem x hx fun h=>hg (.inr (.inr h)))
   ·simp only[List.mem_cons,List.not_mem_nil,or_false]
    rintro m (rfl|rfl|rfl|rfl|rfl|rfl|rfl|rfl|rfl|rfl|rfl|rfl|rfl|rfl|rfl|rfl|rfl|rfl) x hx hxl<;>first|(cases hx;done)|exact .inr (.inr (hw10 x hx).2)|exact .inl (by have h4:=(hw13 x hx).2;have h1:=h4.1;have h2:=h4.2;omega)
  have o17:Own s7 k.fs[j].blk 1 k.fs[j].lv:=(o1.ext x3 fun h=>by have h1:=h.1;have h2:=h.2;omega).same m7 n7
  refine W.store1 BR rfl o17 fun s8 n8 x8 o8=> ?_
  try simp only[Ad,W_oS,W_on,Aa,W_mv,Ab,AV,T.get_set,Aj,Ah,A1,AX,Ag,Al,reduceIte,Ax,AP,AZ,A0,AE,Au,Az,AW,Aw,Aq,Nat.reduceEqDiff,reduceCtorEq, ↓reduceIte]
  have y8:Ext Any (fun x=>x=k.fs[j].blk∨x=k.fs[j].blk+1∨MkF 1 k.fs[j].sb.length k.fs[j].sbk x) s s8:=x7.on x8 hb0 fun y _ hq=> .inr (.inl (by have h1:=hq.1;have h2:=hq.2;omega))
  have hnb: ∀x,MkF 1 (k.fs[j].sb.length+(k.fs[j].lb.take kk).length) b2 x→x≠k.fs[j].blk∧x≠k.fs[j].blk+1:=fun x hx=>by
   rcases hb2 with h|h
   ·rw[h.1,h.2,Nat.add_zero]at hx
    have h1:=g.ks x hx
    exact⟨fun h2=>by rw[h2]at h1;omega,fun h2=>by rw[h2]at h1;omega⟩
   ·have h3:=hx.2.1
    have h4:=g.o1.1
    have h6:s.next≤b2:=h
    exact⟨by omega,by omega⟩
  have mk8:MkS s8 1 (k.fs[j].sb++k.fs[j].lb.take kk).length (u8l (k.fs[j].sb++k.fs[j].lb.take kk)) v2 b2:=by
   rw[NJ,List.length_append]
   have mk3:=(mk2.same (s':=oSt s2.mem s2.next) rfl rfl).ext x3 fun x hx h=>(hnb x hx).1 (by have h1:=h.1;have h2:=h.2;omega)
   exact(mk3.same m7 n7).ext x8 fun x hx h=>(hnb x hx).2 (by have h1:=h.1;have h2:=h.2;omega)
  have o08:Own s8 k.fs[j].blk 0 v2:=(Own.same o3 m7 n7).ext x8 fun h=>by have h1:=h.1;have h2:=h.2;omega
  have hf:=g.kept y8 o08 o8 mk8 (hb2.imp (fun h=>⟨h.1,by rw[List.length_append,h.2,Nat.add_zero]⟩) fun h=>h)
  have hD:=hI0.file (col':=paint col s.next (2+3*j+1)) hj y8 (fun y hy h=>by
   rcases h with rfl|rfl|h
   ·omega
   ·omega
   ·have:=g.ks y h
    omega) (fun y hy=>BB hy) hf (FileS.kept_ent ..)
  refine q _ _ v2 b2 Yu hD (y8.gw hb0 fun y hy h=> ?_)
  rcases h with rfl|rfl|h
  ·omega
  ·omega
  ·have:=g.ks y h
   omega
end
theorem NE:slN envS 49=some 1:=by kernel_rfl
theorem LN_:tyS envS 3=some (1,false):=by kernel_rfl
theorem Ext.rdG {G:Nat→Prop}{s s':St}(h:Ext Any G s s')(hb:s.lim≤s.next)(x:Nat):Ext Any G s (s'.rdN x):=h.on (Ext.rdN (F:=Any) (G:=Non) s' x fun _=>trivial) hb fun _ _ h=>h.elim
def KsF (v:Value):Nat→Prop:=match v with
 | .slice (some a) n _=>In a.block a.off n
 |_=>fun _=>False
def KsR (s:St)(v:Value)(ks:List Int):Prop:=(v= .slice none 0 0∧ks=[])∨ ∃b o c,v= .slice (some ⟨b,o,none⟩) ks.length c∧Ba s b o (ks.map (Value.int .i64))
theorem KsR.ext {F G:Nat→Prop}{s s':St}{v:Value}{ks:List Int}(h:KsR s v ks)(e:Ext F G s s')(hG: ∀x,KsF v x→ ¬G x):KsR s' v ks:=by
 rcases h with h|⟨b,o,c,rfl,h⟩
 ·exact .inl h
 ·exact .inr ⟨b,o,c,rfl,h.ext e fun i hi=>hG _ (show In b o ks.length _ from⟨by omega,by rw[List.length_map]at hi;omega⟩)⟩
theorem KsR.ext0 {F:Nat→Prop}{s s':St}{v:Value}{ks:List Int}(h:KsR s v ks)(e:Ext F Non s s'):KsR s' v ks:=h.ext e fun _ _=>id
theorem KsR.same {s s':St}{v:Value}{ks:List Int}(h:KsR s v ks)(hm:s'.mem=s.mem)(hn:s'.next=s.next):KsR s' v ks:=by
 rcases h with h|⟨b,o,c,rfl,h⟩
 ·exact .inl h
 ·exact .inr ⟨b,o,c,rfl,fun i u e=>(h i u e).same hm hn⟩
theorem KsR.len {s s':St}{v:Value}{ks:List Int}{Q:Value→St→Prop}(h:KsR s v ks):W (A7 envS .len [49] [v]) s' Q=Q (.int .i64 (ks.length:Nat)) s':=by
 rcases h with⟨rfl,rfl⟩|⟨b,o,c,rfl,h⟩
 ·exact CA (n:=0) NE Q
 ·exact CA NE Q
theorem KsR.at {s:St}{v:Value}{ks:List Int}{i:Nat}(h:KsR s v ks)(hi:i<ks.length): ∃b o c,v= .slice (some ⟨b,o,none⟩) ks.length c∧Own s b (o+i*1) (.int .i64 ks[i]):=by
 rcases h with⟨rfl,rfl⟩|⟨b,o,c,rfl,h⟩
 ·cases hi
 ·exact⟨b,o,c,rfl,by rw[Nat.mul_one];exact h i _ (by simp[hi])⟩
def Cx (ks:List Int)(i L:Nat):Nat:=if h:i<ks.length then(ks[i]%((L+1:Nat):Int)).toNat else 0
theorem Yr (ks:List Int)(i L:Nat):Cx ks i L≤L:=by
 unfold Cx
 split
 ·have h1:=Int.emod_lt_of_pos ks[i] (b:=((L+1:Nat):Int)) (by omega)
  have h2:=Int.emod_nonneg ks[i] (b:=((L+1:Nat):Int)) (by omega)
  omega
 ·exact Nat.zero_le _
theorem Ki_ {x:Int}{m:Nat}(hm:1≤m):(x.tmod (m:Nat)+(m:Nat)).tmod (m:Nat)=x%(m:Nat):=by
 have b2: -(m:Nat)<x.tmod (m:Nat):=by
  have:=Int.lt_tmod_of_pos x (b:=(m:Nat)) (by omega)
  omega
 have e:x=x.tmod (m:Nat)+(m:Nat)*x.tdiv (m:Nat):=(Int.tmod_add_mul_tdiv x (m:Nat)).symm
 rw[Int.tmod_eq_emod_of_nonneg (by omega),Int.add_emod_right]
 conv=>rhs;rw[e]
 rw[Int.add_mul_emod_self_left]
def CrF (ks:List Int)(fs fs':List FileS)(i:Nat):Prop:=fs'.length=fs.length∧ ∀t (h:t<fs.length) (h':t<fs'.length),(t<i→ ∃v b,fs'[t]=fs[t].kept v b (fs[t].sb++fs[t].lb.take (Cx ks t fs[t].lb.length)))∧(i≤t→fs'[t]=fs[t])
theorem CrF.names {ks:List Int}{fs fs':List FileS}{i:Nat}(h:CrF ks fs fs' i):fs'.map FileS.name=fs.map FileS.name:=by
 apply List.ext_getElem
 ·simp[h.1]
 ·intro t h1 h2
  rw[List.getElem_map,List.getElem_map]
  rw[List.length_map]at h1 h2
  rcases Nat.lt_or_ge t i with q|q
  ·obtain⟨v,b,e⟩:=(h.2 t h2 h1).1 q
   rw[e]
   rfl
  ·rw[(h.2 t h2 h1).2 q]
theorem CrF.succ {ks:List Int}{fs fs':List FileS}{i b:Nat}{v:Value}(h:CrF ks fs fs' i)(hi:i<fs.length)(hi':i<fs'.length):CrF ks fs (fs'.set i (fs'[i].kept v b (fs'[i].sb++fs'[i].lb.take (Cx ks i fs'[i].lb.length)))) (i+1):=by
 have ei:=(h.2 i hi hi').2 (Nat.le_refl _)
 refine⟨by rw[List.length_set];exact h.1,fun t h1 h2=>⟨fun q=> ?_,fun q=> ?_⟩⟩
 ·rw[List.length_set]at h2
  by_cases c:t=i
  ·subst c
   exact⟨v,b,by rw[List.getElem_set_self,ei]⟩
  ·rw[List.getElem_set_ne (by omega)]
   exact(h.2 t h1 h2).1 (by omega)
 ·rw[List.length_set]at h2
  rw[List.getElem_set_ne (by omega)]
  exact(h.2 t h1 h2).2 (by omega)
theorem CrF.zero (ks:List Int)(fs:List FileS):CrF ks fs fs 0:=⟨rfl,fun _ _ _=>⟨fun h=>absurd h (Nat.not_lt_zero _),fun _=>rfl⟩⟩
section
variable {D M:Nat}{k:DkS}{ks:List Int}{kv v:Value}{bN:Nat}{col0:Nat→Nat}{s0:St}
theorem DF_ {Q:Value×FrameMode→St→Prop}(hb0:s0.lim≤s0.next)(hlen:k.fs.length≤300)(hz:k.used≤1000000)(hlk: ∀i (h:i<k.fs.length),Bb k.fs k.fs[i].name=some i)
  (hv0:NmR s0 v (k.fs.map FileS.name) bN) (hk0:KsR s0 kv ks) (hcv: ∀x,MkF 1 k.fs.length bN x→1000≤col0 x) (hck: ∀x,KsF kv x→1000≤col0 x∧x<s0.next)
  (q: ∀n' tm' td' s1 col' fs',100≤n'→skim 64 td'=HO→T.get tm' 0=some (.pointer (some ⟨D,0,none⟩))→DkI s1 col' D M {k with fs:=fs'}→CrF ks k.fs fs' k.fs.length→(∀x,x<s0.next→col' x=col0 x)→Ext Any (fun x=>col0 x<1000) s0 s1→W (runF envS n' ⟨18,GD,BJ,tm',td', .run, .normal,none⟩) s1 Q):
  ∀(m i n:Nat) (tm:T Value) (s:St) (td:List Item) (col':Nat→Nat) (fs':List FileS),i+m=k.fs.length→20*m+200≤n→skim 64 td=FY→Ext Any (fun x=>col0 x<1000) s0 s→DkI s col' D M {k with fs:=fs'}→CrF ks k.fs fs' i→(∀x,x<s0.next→col' x=col0 x)→
  T.get tm 0=some (.pointer (some ⟨D,0,none⟩))→T.get tm 1=some kv→T.get tm 13=some v→T.get tm 14=some (.int .i64 (k.fs.length:Nat))→T.get tm 15=some (.int .i64 (i:Nat))→
  W (runF envS n ⟨18,GD,BJ,tm,td, .run, .normal,none⟩) s Q:=by
 intro m
 induction m with
 |zero=>
  intro i n tm s td col' fs' hi hn hT hx hI hC hag h0 h1 h13 h14 h15
  refine SZ.w hT (by omega) ?_
  simp only[Nt,Ad,W_oS,Aa,Ab,BK,h14,h15]
  refine W.cond (v:=false) PY V9 (by simp[T.get_set];omega) (by omega) (fun h=>by cases h) fun _=> ?_
  have e:i=k.fs.length:=by omega
  subst e
  exact q _ _ _ _ _ _ (by omega) Da_ (by simp[T.get_set,h0]) hI hC hag hx
 |succ m ih=>
  intro i n tm s td col' fs' hi hn hT hx hI hC hag h0 h1 h13 h14 h15
  have hil:i<k.fs.length:=by omega
  have hil':i<fs'.length:=by rw[hC.1];exact hil
  have ei:=(hC.2 i hil hil').2 (Nat.le_refl _)
  have hnl:(k.fs.map FileS.name).length=k.fs.length:=by simp
  have hv:NmR s v (k.fs.map FileS.name) bN:=MkS.ext hv0 hx fun x hxx hg=>by
   rw[hnl]at hxx
   have:=hcv x hxx
   omega
  have hk:KsR s kv ks:=hk0.ext hx fun x hxx hg=>by have:=(hck x hxx).1;omega
  obtain⟨c,ev,ho⟩:=NmR.at hv (i:=i) (by simpa using hil)
  rw[hnl]at ev
  rw[List.getElem_map]at ho
  refine SZ.w hT (by omega) ?_
  simp only[Nt,Ad,W_oS,Aa,Ab,BK,h14,h15]
  refine W.cond (v:=true) PY V9 (by simp[T.get_set];omega) (by omega) (fun _=> ?_) fun h=>by cases h
  refine DE_.w Ei_ (by omega) ?_
  simp only[VK,Ad,W_oS,Aa,W_mv,Ab,T.get_set,reduceIte,Nat.reduceEqDiff, ↓reduceIte,h13,h15,ev,C2 Jw hil]
  refine W.load1 EZ ho.at' ?_
  have x1:=hx.rdG hb0 (bN+(0+i*1))
  try simp only[Ad,W_oS,W_on,Aa,W_mv,Ab,AV,T.get_set,Aj,Ah,A1,AX,Ag,Al,reduceIte,Ax,AP,AZ,A0,AE,Au,Az,AW,Aw,Aq,Nat.reduceEqDiff,reduceCtorEq, ↓reduceIte]
  refine Jn_.w YG (by omega) ?_
  simp only[Xb,Ad,W_oS,Aa,W_mv,Ab,T.get_set,reduceIte,Aq,reduceCtorEq, ↓reduceIte,h0,Bd Eb (by decide)]
  refine W.load1 DO (hI.d1.same (s':=s.rdN (bN+(0+i*1))) rfl rfl).at' ?_
  have x2:=x1.rdG hb0 (D+(0+1))
  try simp only[Ad,W_oS,W_on,Aa,W_mv,Ab,AV,T.get_set,Aj,Ah,A1,AX,Ag,Al,reduceIte,Ax,AP,AZ,A0,AE,Au,Az,AW,Aw,Aq,Nat.reduceEqDiff,reduceCtorEq, ↓reduceIte]
  refine Hn (fs:=fs') (mx:=k.mx) (hI.om.same rfl rfl) ?_
  have x3:=x2.rdG hb0 M
  have hI3:DkI (((s.rdN (bN+(0+i*1))).rdN (D+(0+1))).rdN M) col' D M {k with fs:=fs'}:=hI.same rfl rfl
  have hk3:KsR (((s.rdN (bN+(0+i*1))).rdN (D+(0+1))).rdN M) kv ks:=hk.same rfl rfl
  generalize ((s.rdN (bN+(0+i*1))).rdN (D+(0+1))).rdN M=s3 at *
  have hlj:Bb fs' k.fs[i].name=some i:=by
   unfold Bb
   rw[hC.names]
   exact hlk i hil
  have hlv:Br fs' k.fs[i].name= .pointer (some ⟨fs'[i].blk,0,none⟩):=by
   unfold Br
   rw[hlj]
   simp only[List.getElem?_eq_getElem hil']
  rw[hlv]
  try simp only[Ad,W_oS,W_on,Aa,W_mv,Ab,AV,T.get_set,Aj,Ah,A1,AX,Ag,Al,reduceIte,Ax,AP,AZ,A0,AE,Au,Az,AW,Aw,Aq,Nat.reduceEqDiff,reduceCtorEq, ↓reduceIte]
  have hus:=DkS.used_at hil
  have hus':fs'[i].sb.length+fs'[i].lb.length≤1000000:=by rw[ei];omega
  have g:=hI3.fl i hil'
  have fin: ∀(n':Nat) (tm':T Value) (td':List Item) (s':St),n≤n'+12→skim 64 td'=Ed→Ext Any (fun x=>col0 x<1000) s0 s'→DkI s' col' D M {k with fs:=fs'}→T.get tm' 0=some (.pointer (some ⟨D,0,none⟩))→T.get tm' 1=some kv→T.get tm' 13=some v→T.get tm' 14=some (.int .i64 (k.fs.length:Nat))→T.get tm' 15=some (.int .i64 (i:Nat))→T.get tm' 7=some (.pointer (some ⟨fs'[i].blk,0,none⟩))→T.get tm' 8=some (.int .i64 (Cx ks i fs'[i].lb.length:Nat))→
    W (runF envS n' ⟨18,GD,BJ,tm',td', .run, .normal,none⟩) s' Q:=by
   intro n' tm' td' s' hn' hT' x' hI' g0 g1 g13 g14 g15 g7 g8
   refine Lt_ (j:=i) (kk:=Cx ks i fs'[i].lb.length) (k:={k with fs:=fs'}) (x'.bnd hb0) hI' hil' g7 g8 (Yr ..) hus' (by show fs'.length≤300;rw[hC.1];exact hlen) hT' (by omega) fun td2 s2 v2 b2 hT2 hI2 x2=> ?_
   refine Yt.w hT2 (by omega) ?_
   have ei':wrap64 ((i:Nat)+1:Int)=((i+1:Nat):Int):=by
    rw[Cf (by omega) (by omega)];simp
   simp only[Ub,Ad,W_oS,Aa,W_mv,Ab,Dh,g15,ei']
   have hn0:=x'.nxt
   exact ih (i+1) _ _ _ _ _ _ (by omega) (by omega) LT_ (x'.on x2 hb0 fun y hy h=>by rw[hag y hy]at h;exact h) hI2 (hC.succ hil hil') (fun x hx=>(BB (by omega)).trans (hag x hx)) (by simp[T.get_set,g0]) (by simp[T.get_set,g1]) (by simp[T.get_set,g13]) (by simp[T.get_set,g14]) (by simp[T.get_set])
  refine ID_.w GT_ (by omega) ?_
  simp only[UU,Ad,W_oS,Aa,W_mv,Ab,T.get_set,Aj,Ah,Ag,reduceIte,Nat.reduceEqDiff, ↓reduceIte,BK,h1,hk3.len]
  by_cases hki:i<ks.length
  ·refine W.cond (v:=true) PI WY (by simp[T.get_set];omega) (by omega) (fun _=> ?_) fun h=>by cases h
   refine Pa_.w Kw_ (by omega) ?_
   simp only[RZ,Ad,W_oS,Aa,W_mv,Ab,T.get_set,Aj,Ah,Ag,reduceIte,Aq,Nat.reduceEqDiff, ↓reduceIte,Bd Ds (by decide)]
   refine W.load1 BR g.o1.at' ?_
   have x4:=x3.rdG hb0 (fs'[i].blk+(0+1))
   have eo:wrap64 (((fs'[i].lb.length:Nat):Int)+1)=((fs'[i].lb.length+1:Nat):Int):=by
    rw[Cf (by omega) (by omega)];simp
   simp only[Dh,MkS.lenq g.ml BT,eo]
   obtain⟨kb,ko,kc,ekv,hko⟩:=hk3.at hki
   refine Zo.w Na_ (by omega) ?_
   simp only[PK,Ad,W_oS,Aa,W_mv,Ab,T.get_set,reduceIte,Nat.reduceEqDiff, ↓reduceIte,h1,ekv,C2 NE hki]
   refine W.load1 LN_ (hko.same (s':=s3.rdN (fs'[i].blk+(0+1))) rfl rfl).at' ?_
   have x5:=x4.rdG hb0 (kb+(ko+i*1))
   have b1:(ks[i]).tmod ((fs'[i].lb.length+1:Nat):Int)<((fs'[i].lb.length+1:Nat):Int):=Int.tmod_lt_of_pos _ (by omega)
   have b2: -((fs'[i].lb.length+1:Nat):Int)<(ks[i]).tmod ((fs'[i].lb.length+1:Nat):Int):=by
    have:=Int.lt_tmod_of_pos ks[i] (b:=((fs'[i].lb.length+1:Nat):Int)) (by omega)
    omega
   have ew:wrap64 ((ks[i]).tmod ((fs'[i].lb.length+1:Nat):Int)+((fs'[i].lb.length+1:Nat):Int))=(ks[i]).tmod ((fs'[i].lb.length+1:Nat):Int)+((fs'[i].lb.length+1:Nat):Int):=Cf (by omega) (by omega)
   have ek:ks[i]%((fs'[i].lb.length+1:Nat):Int)=((Cx ks i fs'[i].lb.length:Nat):Int):=by
    unfold Cx
    rw[dif_pos hki]
    have h2:=Int.emod_nonneg ks[i] (b:=((fs'[i].lb.length+1:Nat):Int)) (by omega)
    omega
   simp only[Dh,TR (n:=fs'[i].lb.length+1) (by omega),ew,Ki_ (m:=fs'[i].lb.length+1) (by omega),ek]
   exact fin _ _ _ _ (by omega) IX_ x5 (hI3.same rfl rfl) (by simp[T.get_set,h0]) (by simp[T.get_set,h1,ekv]) (by simp[T.get_set,h13,ev]) (by simp[T.get_set,h14]) (by simp[T.get_set,h15]) (by simp[T.get_set]) (by simp[T.get_set])
  ·refine W.cond (v:=false) PI WY (by simp[T.get_set];omega) (by omega) (fun h=>by cases h) fun _=> ?_
   have ek:Cx ks i fs'[i].lb.length=0:=by unfold Cx;rw[dif_neg hki]
   exact fin _ _ _ _ (by omega) Lp_ x3 hI3 (by simp[T.get_set,h0]) (by simp[T.get_set,h1]) (by simp[T.get_set,h13,ev]) (by simp[T.get_set,h14]) (by simp[T.get_set,h15]) (by simp[T.get_set]) (by rw[ek];simp[T.get_set])
end
section
variable {D M n:Nat}{k:DkS}{ks:List Int}{kv:Value}{col:Nat→Nat}{s:St}{a:ByteArray}{Q:Value→St→Prop}
theorem PS_ (hb:s.lim≤s.next)(hI:DkI s col D M k)(hN:NmsOk (k.fs.map FileS.name))(hlk: ∀i (h:i<k.fs.length),Bb k.fs k.fs[i].name=some i)(hz:k.used≤1000000)(hk:KsR s kv ks)(hck: ∀x,KsF kv x→1000≤col x∧x<s.next)(hn:40*k.fs.length+800≤n)
  (q: ∀s1 col' fs',After s s1 col col' D M {k with fs:=fs',fused:=false,left:=0,out:=false}→CrF ks k.fs fs' k.fs.length→Q (.int .i64 0) s1):
  W (Ap envS (runF envS n) 18 [.pointer (some ⟨D,0,none⟩),kv]) s Q:=by
 have hb0:(s.cxN cxN).lim≤(s.cxN cxN).next:=hb
 have hlen:k.fs.length≤300:=by have:=hN.len;simpa using this
 have hnl:(k.fs.map FileS.name).length=k.fs.length:=by simp
 have hI0:DkI (s.cxN cxN) (paint col s.next 1000) D M k:=(hI.col fun x hx=>BB hx).same rfl rfl
 have hag: ∀x,x<s.next→paint col s.next 1000 x=col x:=fun x hx=>BB hx
 have hnew: ∀x,s.next≤x→paint col s.next 1000 x=1000:=fun x hx=>DV hx
 have hDlt:D+6<s.next:=hI.d6.1
 generalize hcol1:paint col s.next 1000=col1 at *
 refine Ie_ fun tm t0 t1=> ?_
 refine IH_.w rfl (by omega) ?_
 simp only[Ug,Aa,W_mv,Ab]
 refine Dl_.w Gx_ (by omega) ?_
 simp only[UM,Ad,W_on,Aa,W_mv,Ab,T.get_set,Aj,Ah,Ag,Al,reduceIte,reduceCtorEq, ↓reduceIte,t0]
 refine GB hb0 hI0.d0 (by omega) fun s1 m1 n1 x1=> ?_
 have hI1:=hI0.same m1 n1
 have n1':s1.next=s.next:=n1
 try simp only[Ad,W_oS,W_on,Aa,W_mv,Ab,AV,T.get_set,Aj,Ah,A1,AX,Ag,Al,reduceIte,Ax,AP,AZ,A0,AE,Au,Az,AW,Aw,Aq,Nat.reduceEqDiff,reduceCtorEq, ↓reduceIte]
 refine W.cond (v:=false) Nm_ Bj_ (by simp[T.get_set]) (by omega) (fun h=>by cases h) fun _=> ?_
 refine FC_.w Ni_ (by omega) ?_
 simp only[VF,Ad,W_oS,W_on,Aa,W_mv,Ab,T.get_set,Aj,Ah,Ag,Al,reduceIte,reduceCtorEq, ↓reduceIte,t0]
 refine FZ_ (x1.bnd hb0) hI1 hN (by omega) fun s2 v bN hbN hr x2=> ?_
 have y2:=x1.on x2 hb0 fun _ _ h=>h
 have hI2:=hI1.ext0 x2 hlen
 have hn2:s.next≤s2.next:=y2.nxt
 simp only[MkS.lenq hr Jw]
 rw[hnl]
 have hks2:KsR s2 kv ks:=KsR.ext0 (hk.same (s':=s.cxN cxN) rfl rfl) y2
 refine DF_ (k:=k) (ks:=ks) (col0:=col1) (D:=D) (M:=M) (v:=v) (bN:=bN) (kv:=kv) (y2.bnd hb0) hlen hz hlk hr hks2 (fun x hx=>by rw[hnew x (by have:=hx.2.1;omega)];exact Nat.le_refl _) (fun x hx=>by have h1:=hck x hx;rw[hag x h1.2];omega) (fun n' tm' td' s3 col' fs' hn' hT' h0 hI3 hC hag3 x3=> ?_) k.fs.length 0 _ _ _ _ col1 k.fs (by omega) (by omega) ZP (Ext.refl _) hI2 (CrF.zero ..) (fun _ _=>rfl) (by simp[T.get_set,t0]) (by simp[T.get_set,t1]) (by simp[T.get_set]) (by simp[T.get_set]) (by simp[T.get_set])
 have y3:=(y2.gw (G':=fun x=>col1 x<1000) hb0 fun _ _ h=>h.elim).on x3 hb0 fun y hy h=>h
 have hk0: ∀x,D≤x→x<D+7→col1 x<1000:=fun x h1 h2=>by rw[hI0.kd x h1 h2];decide
 refine Nb_.w hT' (by omega) ?_
 simp only[Qd,Ad,W_oS,Aa,W_mv,Aq,h0,Bd LJ (by decide)]
 refine W.store1 Ec rfl hI3.d6 fun s4 n4 x4 o4=> ?_
 have z4:Ext Any (fun y=>y=D+6) s3 s4:=x4.weak (y3.bnd hb0) (fun _ _ _=>trivial) fun y _ hq=>by have h1:=hq.1;have h2:=hq.2;omega
 have hI4:=hI3.own (st:=k.steps) (fu:=k.fused) (le:=k.left) (ou:=false) z4 (fun y _ h=>by omega) (hI3.d3.ext z4 fun h=>by omega) (hI3.d4.ext z4 fun h=>by omega) (hI3.d5.ext z4 fun h=>by omega) o4
 simp only[Bd Jn (by decide)]
 refine W.store1 Ec rfl hI4.d4 fun s5 n5 x5 o5=> ?_
 have y4:=y3.on z4 hb0 fun y hy h=>hk0 y (by omega) (by omega)
 have z5:Ext Any (fun y=>y=D+4) s4 s5:=x5.weak (y4.bnd hb0) (fun _ _ _=>trivial) fun y _ hq=>by have h1:=hq.1;have h2:=hq.2;omega
 have hI5:=hI4.own (st:=k.steps) (fu:=false) (le:=k.left) (ou:=false) z5 (fun y _ h=>by omega) (hI4.d3.ext z5 fun h=>by omega) o5 (hI4.d5.ext z5 fun h=>by omega) (hI4.d6.ext z5 fun h=>by omega)
 simp only[Bd Ph (by decide)]
 refine W.store1 Fh rfl hI5.d5 fun s6 n6 x6 o6=> ?_
 have y5:=y4.on z5 hb0 fun y hy h=>hk0 y (by omega) (by omega)
 have z6:Ext Any (fun y=>y=D+5) s5 s6:=x6.weak (y5.bnd hb0) (fun _ _ _=>trivial) fun y _ hq=>by have h1:=hq.1;have h2:=hq.2;omega
 have hI6:=hI5.own (st:=k.steps) (fu:=false) (le:=0) (ou:=false) z6 (fun y _ h=>by omega) (hI5.d3.ext z6 fun h=>by omega) (hI5.d4.ext z6 fun h=>by omega) o6 (hI5.d6.ext z6 fun h=>by omega)
 have y6:=y5.on z6 hb0 fun y hy h=>hk0 y (by omega) (by omega)
 try simp only[Ad,W_oS,W_on,Aa,W_mv,Ab,AV,T.get_set,Aj,Ah,A1,AX,Ag,Al,reduceIte,Ax,AP,AZ,A0,AE,Au,Az,AW,Aw,Aq,Nat.reduceEqDiff,reduceCtorEq, ↓reduceIte]
 refine AM_.w Dr_ (by omega) ?_
 simp only[XF,Aa,W_mv,Ab]
 refine W.end' (rs:=[4]) (vs:=[.int .i64 0]) EK_ (.inl YI) (by omega) Vk Jp_ y6.cx (by simp[T.get_set]) ?_
 exact q _ col' fs' ⟨hI6.same rfl rfl,fun x hx=>(hag3 x (by omega)).trans (hag x hx),(y6.gw hb0 fun y hy h=>by rw[←hag y hy];exact h).cx'⟩ hC
end
abbrev nmA:ByteArray:=⟨#[97]⟩
abbrev nmB:ByteArray:=⟨#[98]⟩
abbrev nmC:ByteArray:=⟨#[99]⟩
theorem HE_:NmsOk [nmA,nmB]:=⟨by kernel_rfl,by kernel_rfl,by kernel_rfl,by decide⟩
structure Held (s:St)(col:Nat→Nat)(v:Value)(l:List Nat):Prop where
 bs:Bs s v l
 lt: ∀x,BsF v x→x<s.next
 co: ∀x,BsF v x→1000≤col x
theorem Held.gw {s s1:St}{col:Nat→Nat}{v:Value}{l:List Nat}(h:Held s col v l)(x:Ext Any (fun x=>col x<1000) s s1):Held s1 col v l:=
 ⟨h.bs.ext x fun y hy g=>by have:=h.co y hy;omega,fun y hy=>Nat.lt_of_lt_of_le (h.lt y hy) x.nxt,h.co⟩
theorem Held.ext0 {s s1:St}{col:Nat→Nat}{v:Value}{l:List Nat}(h:Held s col v l)(x:Ext Any Non s s1):Held s1 col v l:=
 ⟨h.bs.ext0 x,fun y hy=>Nat.lt_of_lt_of_le (h.lt y hy) x.nxt,h.co⟩
theorem Held.after {s s1:St}{col col':Nat→Nat}{v:Value}{l:List Nat}{D M:Nat}{k:DkS}(h:Held s col v l)(x:After s s1 col col' D M k):Held s1 col' v l:=
 ⟨h.bs.ext x.ext fun y hy g=>by have:=h.co y hy;omega,fun y hy=>Nat.lt_of_lt_of_le (h.lt y hy) x.ext.nxt,fun y hy=>by rw[x.agree y (h.lt y hy)];exact h.co y hy⟩
theorem Held.col {s:St}{col col':Nat→Nat}{v:Value}{l:List Nat}(h:Held s col v l)(e: ∀x,x<s.next→col' x=col x):Held s col' v l:=⟨h.bs,h.lt,fun y hy=>by rw[e y (h.lt y hy)];exact h.co y hy⟩
theorem Held.same {s s1:St}{col:Nat→Nat}{v:Value}{l:List Nat}(h:Held s col v l)(hm:s1.mem=s.mem)(hn:s1.next=s.next):Held s1 col v l:=⟨h.bs.same hm hn,fun y hy=>by rw[hn];exact h.lt y hy,h.co⟩
theorem Du {f g:FileS}(hf:f.name=nmA)(hg:g.name=nmB):Bb [f,g] nmA=some 0:=by
 unfold Bb
 simp only[List.map,hf,hg]
 rfl
theorem KK {f g:FileS}(hf:f.name=nmA)(hg:g.name=nmB):Bb [f,g] nmB=some 1:=by
 unfold Bb
 simp only[List.map,hf,hg]
 rfl
theorem GD_ {f g:FileS}(hf:f.name=nmA)(hg:g.name=nmB):Bb [f,g] nmC=none:=by
 unfold Bb
 simp only[List.map,hf,hg]
 rfl
theorem UA {f:FileS}(hf:f.name=nmA):Bb [f] nmB=none:=by
 unfold Bb
 simp only[List.map,hf]
 rfl
section
variable {n D M mx:Nat}{s:St}{room st le:Int}{fu:Bool}{f g:FileS}{col:Nat→Nat}{bv:Value}{l:List Nat}{Q:Value→St→Prop}
theorem NQ_ (hb:s.lim≤s.next)(hI:DkI s col D M ⟨[],mx,room,st,false,le,false⟩)(hB:Held s col bv l)(hz:((l.length:Nat):Int)≤room)(hl:l.length≤3000)(hn:400≤n)
  (q: ∀s1 col' f mx' st',After s s1 col col' D M ⟨[f],mx',room,st',false,le,false⟩→f.name=nmA→f.sb=[]→f.lb=l→Q (.int .i64 0) s1):W (Ap envS (runF envS n) 9 [.pointer (some ⟨D,0,none⟩), .string nmA,bv]) s Q:=by
 refine U4 (a:=nmA) hb hI (by simp) nm_a hB.bs (fun x hx=>⟨hB.lt x hx,hB.co x hx⟩) (by show 0+l.length≤_;omega) hn (fun h=>by cases h) (fun _ h=> ?_) (fun _ _ h=>by cases h.1) fun _ _ _ s1 col' blk v b hA=> ?_
 ·have h':room<((0+l.length:Nat):Int):=h
  omega
 ·exact q s1 col' ⟨nmA,mx,blk, .slice none 0 0,0,[],v,b,l⟩ (mx+1) (wrap64 (st+1)) hA rfl rfl rfl
theorem Kt_ (hb:s.lim≤s.next)(hI:DkI s col D M ⟨[f],mx,room,st,false,le,false⟩)(hf:f.name=nmA)(hfs:f.sb.length+f.lb.length≤3000)(hB:Held s col bv l)(hz:((f.sb.length+f.lb.length+l.length:Nat):Int)≤room)(hl:l.length≤3000)(hn:400≤n)
  (q: ∀s1 col' g mx' st',After s s1 col col' D M ⟨[f,g],mx',room,st',false,le,false⟩→g.name=nmB→g.sb=[]→g.lb=l→Q (.int .i64 0) s1):W (Ap envS (runF envS n) 9 [.pointer (some ⟨D,0,none⟩), .string nmB,bv]) s Q:=by
 have hu:DkS.used ⟨[f],mx,room,st,false,le,false⟩=f.sb.length+f.lb.length+0:=rfl
 refine U4 (a:=nmB) hb hI (by simp) nm_b hB.bs (fun x hx=>⟨hB.lt x hx,hB.co x hx⟩) (by rw[hu];omega) hn (fun h=>by cases h) (fun _ h=> ?_) (fun _ _ h=>by cases h.1) fun _ _ _ s1 col' blk v b hA=> ?_
 ·have h':room<((DkS.used ⟨[f],mx,room,st,false,le,false⟩+l.length:Nat):Int):=h
  rw[hu]at h'
  omega
 ·have e1:Ea ⟨[f],mx,room,st,false,le,false⟩ nmB blk v b l=[f,⟨nmB,mx,blk, .slice none 0 0,0,[],v,b,l⟩]:=by
   unfold Ea
   simp only[UA hf]
   rfl
  have e2:DN ⟨[f],mx,room,st,false,le,false⟩ nmB=mx+1:=by
   unfold DN
   simp only[UA hf]
  rw[e1,e2]at hA
  exact q s1 col' ⟨nmB,mx,blk, .slice none 0 0,0,[],v,b,l⟩ (mx+1) (wrap64 (st+1)) hA rfl rfl rfl
theorem Br_ (hb:s.lim≤s.next)(hI:DkI s col D M ⟨[f,g],mx,room,st,false,le,false⟩)(hf:f.name=nmA)(hg:g.name=nmB)(hz:f.sb.length+f.lb.length+(g.sb.length+g.lb.length)≤4000)(hn:400≤n)
  (q: ∀s1 col' f' st',After s s1 col col' D M ⟨[f',g],mx,room,st',false,le,false⟩→f'.name=nmA→f'.sb=f.sb++f.lb→f'.lb=[]→Q (.int .i64 0) s1):W (Ap envS (runF envS n) 14 [.pointer (some ⟨D,0,none⟩), .string nmA]) s Q:=by
 refine TG (a:=nmA) hb hI (by simp) (by show f.sb.length+f.lb.length+(g.sb.length+g.lb.length+0)≤_;omega) (by omega) (fun h=>by cases h) (fun _ h=> ?_) (fun _ j _ h=>by cases h.1) fun _ j hj hlt _ s1 col' v b hA=> ?_
 ·have h':Bb [f,g] nmA=none:=h
  rw[Du hf hg]at h'
  cases h'
 ·have h':Bb [f,g] nmA=some j:=hj
  rw[Du hf hg]at h'
  cases h'
  exact q s1 col' (f.kept v b (f.sb++f.lb)) (wrap64 (st+1)) hA hf rfl rfl
theorem Ai_ (hb:s.lim≤s.next)(hI:DkI s col D M ⟨[f,g],mx,room,st,false,le,false⟩)(hf:f.name=nmA)(hg:g.name=nmB)(hz:f.sb.length+f.lb.length+(g.sb.length+g.lb.length)≤4000)(hn:400≤n)
  (q: ∀s1 col' g' st',After s s1 col col' D M ⟨[f,g'],mx,room,st',false,le,false⟩→g'.name=nmB→g'.sb=g.sb++g.lb→g'.lb=[]→Q (.int .i64 0) s1):W (Ap envS (runF envS n) 14 [.pointer (some ⟨D,0,none⟩), .string nmB]) s Q:=by
 refine TG (a:=nmB) hb hI (by simp) (by show f.sb.length+f.lb.length+(g.sb.length+g.lb.length+0)≤_;omega) (by omega) (fun h=>by cases h) (fun _ h=> ?_) (fun _ j _ h=>by cases h.1) fun _ j hj hlt _ s1 col' v b hA=> ?_
 ·have h':Bb [f,g] nmB=none:=h
  rw[KK hf hg]at h'
  cases h'
 ·have h':Bb [f,g] nmB=some j:=hj
  rw[KK hf hg]at h'
  cases h'
  exact q s1 col' (g.kept v b (g.sb++g.lb)) (wrap64 (st+1)) hA hg rfl rfl
theorem XN {m:Nat}{ou:Bool}(hb:s.lim≤s.next)(hI:DkI s col D M ⟨[f,g],mx,room,st,fu,le,ou⟩)(hf:f.name=nmA)(hg:g.name=nmB)(hz:f.sb.length+f.lb.length+(g.sb.length+g.lb.length)≤4000)(hbf:Byt f.sb)(hbg:Byt g.sb)(hm:m/8<f.sb.length)(hn:400≤n)
  (q: ∀s1,DkI s1 col D M ⟨[{f with sb:=f.sb.set (m/8) (f.sb.getD (m/8) 0^^^2^(m%8))},g],mx,room,st,fu,le,ou⟩→Ext Any (fun x=>col x<1000) s s1→Q (.int .i64 0) s1):W (Ap envS (runF envS n) 17 [.pointer (some ⟨D,0,none⟩), .string nmA, .int .i64 (m:Nat)]) s Q:=by
 have hj0: ∀j,Bb [f,g] nmA=some j→j=0:=fun j h=>by rw[Du hf hg]at h;cases h;rfl
 refine OB (a:=nmA) hb hI (by simp) (by show f.sb.length+f.lb.length+(g.sb.length+g.lb.length+0)≤_;omega) hn (by omega) (fun x hx=> ?_) (fun j hj m' h1 h2=> ?_) (fun h=> ?_) (fun j hj h1 h2=> ?_) fun j hj m' h1 h2 h3 s1 hI1 x1 n1=> ?_
 ·have hx':x∈[f,g]:=hx
  simp only[List.mem_cons,List.not_mem_nil,or_false]at hx'
  rcases hx' with rfl|rfl
  ·exact hbf
  ·exact hbg
 ·have:=hj0 j h1
  subst this
  have:m=m':=by omega
  subst this
  exact .inl hm
 ·have h':Bb [f,g] nmA=none:=h
  rw[Du hf hg]at h'
  cases h'
 ·have:=hj0 j h1
  subst this
  rcases h2 with h2|⟨m',h2,h3⟩
  ·omega
  ·have:m=m':=by omega
   subst this
   have h4:f.sb.length+f.lb.length≤m/8:=h3
   omega
 ·have:=hj0 j h1
  subst this
  have:m=m':=by omega
  subst this
  exact q s1 hI1 x1
theorem Re {bit:Int}{ou:Bool}(hb:s.lim≤s.next)(hI:DkI s col D M ⟨[f,g],mx,room,st,fu,le,ou⟩)(hf:f.name=nmA)(hg:g.name=nmB)(hz:f.sb.length+f.lb.length+(g.sb.length+g.lb.length)≤4000)(hbf:Byt f.sb)(hbg:Byt g.sb)(hm:bit<0∨bit=((8*f.sb.length:Nat):Int))(hfl:f.lb=[])(hn:400≤n)
  (q: ∀s1,Ext Any Non s s1→Q (.int .i64 5) s1):W (Ap envS (runF envS n) 17 [.pointer (some ⟨D,0,none⟩), .string nmA, .int .i64 bit]) s Q:=by
 have hj0: ∀j,Bb [f,g] nmA=some j→j=0:=fun j h=>by rw[Du hf hg]at h;cases h;rfl
 have hll:f.lb.length=0:=by rw[hfl];rfl
 refine OB (a:=nmA) hb hI (by simp) (by show f.sb.length+f.lb.length+(g.sb.length+g.lb.length+0)≤_;omega) hn (by omega) (fun x hx=> ?_) (fun j hj m' h1 h2=> ?_) (fun h=> ?_) (fun j hj h1 h2 s1 x1=>q s1 x1) fun j hj m' h1 h2 h3 s1 hI1 x1 n1=> ?_
 ·have hx':x∈[f,g]:=hx
  simp only[List.mem_cons,List.not_mem_nil,or_false]at hx'
  rcases hx' with rfl|rfl
  ·exact hbf
  ·exact hbg
 ·have:=hj0 j h1
  subst this
  right
  show f.sb.length+f.lb.length≤m'/8
  omega
 ·have h':Bb [f,g] nmA=none:=h
  rw[Du hf hg]at h'
  cases h'
 ·have:=hj0 j h1
  subst this
  have h4:m'/8<f.sb.length:=h3
  omega
theorem Qo_ {ou:Bool}(hb:s.lim≤s.next)(hI:DkI s col D M ⟨[f,g],mx,room,st,fu,le,ou⟩)(hf:f.name=nmA)(hg:g.name=nmB)(hz:f.sb.length+f.lb.length+(g.sb.length+g.lb.length)≤4000)(hbf:Byt f.sb)(hbg:Byt g.sb)(hn:400≤n)
  (q: ∀s1,Ext Any Non s s1→Q (.int .i64 6) s1):W (Ap envS (runF envS n) 17 [.pointer (some ⟨D,0,none⟩), .string nmC, .int .i64 0]) s Q:=by
 have hj0: ∀j,Bb [f,g] nmC=some j→False:=fun j h=>by rw[GD_ hf hg]at h;cases h
 refine OB (a:=nmC) hb hI (by simp) (by show f.sb.length+f.lb.length+(g.sb.length+g.lb.length+0)≤_;omega) hn (by omega) (fun x hx=> ?_) (fun j hj m' h1 h2=>(hj0 j h1).elim) (fun h s1 x1=>q s1 x1) (fun j hj h1 h2=>(hj0 j h1).elim) fun j hj m' h1 h2 h3 s1 hI1 x1 n1=>(hj0 j h1).elim
 have hx':x∈[f,g]:=hx
 simp only[List.mem_cons,List.not_mem_nil,or_false]at hx'
 rcases hx' with rfl|rfl
 ·exact hbf
 ·exact hbg
theorem OE_ {ou:Bool}(hb:s.lim≤s.next)(hI:DkI s col D M ⟨[f,g],mx,room,st,fu,le,ou⟩)(hf:f.name=nmA)(hg:g.name=nmB)(hz:f.sb.length+f.lb.length+(g.sb.length+g.lb.length)≤4000)(hfl:f.lb=[])(hgl:g.lb=[])(hn:1000≤n)
  (q: ∀s1 col' f' g',After s s1 col col' D M ⟨[f',g'],mx,room,st,false,0,false⟩→f'.name=nmA→g'.name=nmB→f'.sb=f.sb→g'.sb=g.sb→f'.lb=[]→g'.lb=[]→Q (.int .i64 0) s1):W (Ap envS (runF envS n) 18 [.pointer (some ⟨D,0,none⟩), .slice none 0 0]) s Q:=by
 refine PS_ (ks:=[]) hb hI ?_ ?_ (by show f.sb.length+f.lb.length+(g.sb.length+g.lb.length+0)≤_;omega) (.inl ⟨rfl,rfl⟩) (fun x hx=>hx.elim) (by show 40*2+800≤n;omega) fun s1 col' fs' hA hC=> ?_
 ·show NmsOk [f.name,g.name]
  rw[hf,hg]
  exact HE_
 ·intro i hi
  match i,hi with
  |0,_=>
   show Bb [f,g] f.name=some 0
   rw[hf]
   exact Du hf hg
  |1,_=>
   show Bb [f,g] g.name=some 1
   rw[hg]
   exact KK hf hg
  |i+2,hi=>exact absurd hi (by show ¬i+2<2;omega)
 ·obtain⟨h1,h2⟩:=hC
  have h1':fs'.length=2:=h1
  match fs',h1' with
  |[x,y],_=>
   obtain⟨v,b,e⟩:=(h2 0 (by show 0<2;omega) (by show 0<2;omega)).1 (by show 0<2;omega)
   obtain⟨v',b',e'⟩:=(h2 1 (by show 1<2;omega) (by show 1<2;omega)).1 (by show 1<2;omega)
   have ex:x=f.kept v b (f.sb++f.lb.take (Cx [] 0 f.lb.length)):=e
   have ey:y=g.kept v' b' (g.sb++g.lb.take (Cx [] 1 g.lb.length)):=e'
   refine q s1 col' x y hA (by rw[ex];exact hf) (by rw[ey];exact hg) ?_ ?_ (by rw[ex];rfl) (by rw[ey];rfl)
   ·rw[ex,hfl]
    show f.sb++[].take _=_
    rw[List.take_nil,List.append_nil]
   ·rw[ey,hgl]
    show g.sb++[].take _=_
    rw[List.take_nil,List.append_nil]
end
theorem BK_:envS.orc.get 7=some (KD (.bool true)):=by kernel_rfl
theorem Dd_ {l:List Nat}{i p:Nat}(h:i<l.length):(l.set i (l.getD i 0^^^p)).set i ((l.set i (l.getD i 0^^^p)).getD i 0^^^p)=l:=by
 have e:(l.set i (l.getD i 0^^^p)).getD i 0=l.getD i 0^^^p:=by
  rw[List.getD_eq_getElem?_getD,List.getElem?_set_self h]
  rfl
 rw[e,Nat.xor_assoc,Nat.xor_self,Nat.xor_zero,List.set_set,List.getD_eq_getElem?_getD,List.getElem?_eq_getElem h]
 exact List.set_getElem_self h
theorem Gb_ {l:List Nat}{i x:Nat}(h:Byt l)(hx:x<256):Byt (l.set i x):=fun y hy=>by
 rcases List.mem_or_eq_of_mem_set hy with h1|h1
 ·exact h y h1
 ·rw[h1];exact hx
section
variable {n:Nat}{s:St}{av bv:Value}{a b:List Nat}{bit:Int}
theorem YK (hb:s.lim≤s.next)(ha:Bs s av a)(hbv:Bs s bv b)(hal: ∀x,BsF av x→x<s.next)(hbl: ∀x,BsF bv x→x<s.next)(hab:Byt a)(hbb:Byt b)(hn:5000≤n):W (Ap envS (runF envS n) 4 [av,bv, .int .i64 bit]) s fun u _=>u= .bool true:=by
 have hb0:(s.cxN cxN).lim≤(s.cxN cxN).next:=hb
 refine Mj_ fun tm t0 t1 t2=> ?_
 refine LE_.w rfl (by omega) ?_
 simp only[SC,Aa,W_mv,Ab]
 refine Ny_.w Ax_ (by omega) ?_
 simp only[Qc,Ad,W_on,Aa,W_mv,Ab,Ah,Al]
 refine W.orc BK_ (W.pure ?_)
 try simp only[Ad,W_oS,W_on,Aa,W_mv,Ab,AV,T.get_set,Aj,Ah,A1,AX,Ag,Al,reduceIte,Ax,AP,AZ,A0,AE,Au,Az,AW,Aw,Aq,Nat.reduceEqDiff,reduceCtorEq, ↓reduceIte]
 have done: ∀(n':Nat) (tm':T Value) (td':List Item) (s':St),n≤n'+20→skim 64 td'=HP→s'.cx=cxN→T.get tm' 7=some (.bool true)→W (runF envS n' ⟨4,JA_,Cd,tm',td', .run, .normal,none⟩) s' fun p s1=>p.1= .bool true:=by
  intro n' tm' td' s' hn' hT' hcx g7
  refine PB_.w hT' (by omega) ?_
  simp only[S6,Aa,W_mv,Ab,g7]
  exact W.end' (rs:=[6]) (vs:=[.bool true]) YO (.inl OV_) (by omega) Mx QB hcx (by simp[T.get_set]) rfl
 refine Lm_.w Gw_ (by omega) ?_
 by_cases h1:500<a.length
 ·have e1:decide ((500:Int)<((a.length:Nat):Int))=true:=decide_eq_true (by omega)
  simp only[HD,Ad,W_oS,W_on,Aa,W_mv,Ab,T.get_set,Aj,Ah,Ag,reduceIte,Ax,AZ,Au,AW,Aw,Nat.reduceEqDiff,reduceCtorEq, ↓reduceIte,D5,t0,t1,Bs.lenq ha BT,e1]
  refine W.cond (v:=true) IB Lj (by simp[T.get_set]) (by omega) (fun _=> ?_) fun h=>by cases h
  exact done _ _ _ _ (by omega) OL rfl (by simp[T.get_set])
 have e1:decide ((500:Int)<((a.length:Nat):Int))=false:=decide_eq_false (by omega)
 by_cases h2:500<b.length
 ·have e2:decide ((500:Int)<((b.length:Nat):Int))=true:=decide_eq_true (by omega)
  simp only[HD,Ad,W_oS,W_on,Aa,W_mv,Ab,T.get_set,Aj,Ah,Ag,reduceIte,Ax,AZ,AE,Au,Az,AW,Aw,Nat.reduceEqDiff,reduceCtorEq, ↓reduceIte,D5,t0,t1,Bs.lenq ha BT,Bs.lenq hbv BT,e1,e2]
  refine W.cond (v:=true) IB Lj (by simp[T.get_set]) (by omega) (fun _=> ?_) fun h=>by cases h
  exact done _ _ _ _ (by omega) OL rfl (by simp[T.get_set])
 have e2:decide ((500:Int)<((b.length:Nat):Int))=false:=decide_eq_false (by omega)
 by_cases h3:a.length=0
 ·have e3:decide (((a.length:Nat):Int)=0)=true:=decide_eq_true (by omega)
  simp only[HD,Ad,W_oS,W_on,Aa,W_mv,Ab,T.get_set,Aj,Ah,Ag,reduceIte,Ax,AE,Au,Az,Aw,Nat.reduceEqDiff,reduceCtorEq, ↓reduceIte,D5,Dq,t0,t1,Bs.lenq ha BT,Bs.lenq hbv BT,e1,e2,e3]
  refine W.cond (v:=true) IB Lj (by simp[T.get_set]) (by omega) (fun _=> ?_) fun h=>by cases h
  exact done _ _ _ _ (by omega) OL rfl (by simp[T.get_set])
 have e3:decide (((a.length:Nat):Int)=0)=false:=decide_eq_false (by omega)
 simp only[HD,Ad,W_oS,W_on,Aa,W_mv,Ab,T.get_set,Aj,Ah,Ag,reduceIte,Ax,AE,Au,Az,Aw,Nat.reduceEqDiff,reduceCtorEq, ↓reduceIte,D5,Dq,t0,t1,Bs.lenq ha BT,Bs.lenq hbv BT,e1,e2,e3]
 refine W.cond (v:=false) IB Lj (by simp[T.get_set]) (by omega) (fun h=>by cases h) fun _=> ?_
 refine Jk_.w Cs_ (by omega) ?_
 simp only[Wi,Ad,W_on,Aa,W_mv,Ab,Aj,Ah,Ag,Al]
 refine IN_ (room:=2000) hb0 (by decide) (by omega) fun s1 x1 hI1=> ?_
 have ea:(s.cxN cxN).next=s.next:=rfl
 rw[ea]at hI1 ⊢
 have hA1:Held s1 (newC s.next) av a:=Held.ext0 (s:=s.cxN cxN) ⟨ha.same rfl rfl,hal,fun x hx=>by unfold newC;rw[if_pos (hal x hx)];exact Nat.le_refl _⟩ x1
 have hB1:Held s1 (newC s.next) bv b:=Held.ext0 (s:=s.cxN cxN) ⟨hbv.same rfl rfl,hbl,fun x hx=>by unfold newC;rw[if_pos (hbl x hx)];exact Nat.le_refl _⟩ x1
 generalize newC s.next=col1 at *
 generalize hDe:s.next+1=D at *
 generalize s.next=M at *
 try simp only[Ad,W_oS,W_on,Aa,W_mv,Ab,AV,T.get_set,Aj,Ah,A1,AX,Ag,Al,reduceIte,Ax,AP,AZ,A0,AE,Au,Az,AW,Aw,Aq,Nat.reduceEqDiff,reduceCtorEq, ↓reduceIte]
 refine Dj_.w ZN (by omega) ?_
 simp only[S5,Ad,W_oS,W_on,Aa,W_mv,Ab,T.get_set,Aj,Ah,Ag,Al,reduceIte,Ax,AE,Au,Az,Aw,Nat.reduceEqDiff,reduceCtorEq, ↓reduceIte,t0,t1,Em RG]
 have b1:=x1.bnd hb0
 refine NQ_ b1 hI1 hA1 (by omega) (by omega) (by omega) fun s2 col2 f mx2 st2 hI2 hfn hfs hfl=> ?_
 have hA2:=hA1.after hI2
 have hB2:=hB1.after hI2
 have b2:=hI2.ext.bnd b1
 have hl0:f.sb.length=0:=by rw[hfs];rfl
 have hl1:f.lb.length=a.length:=by rw[hfl]
 simp only[W_oS,W_on,Aa,Al,reduceIte,Ax,AE,Au,Az,Aw,reduceCtorEq, ↓reduceIte,Cc,decide_true,Bool.not_true]
 refine Kt_ b2 hI2.inv hfn (by omega) hB2 (by omega) (by omega) (by omega) fun s3 col3 g mx3 st3 hI3 hgn hgs hgl=> ?_
 have hA3:=hA2.after hI3
 have hB3:=hB2.after hI3
 have b3:=hI3.ext.bnd b2
 have hl2:g.sb.length=0:=by rw[hgs];rfl
 have hl3:g.lb.length=b.length:=by rw[hgl]
 simp only[W_oS,W_on,Aa,Al,reduceIte,Ax,AE,Au,Az,Aw,reduceCtorEq, ↓reduceIte,Cc,decide_true,Bool.not_true]
 refine Br_ b3 hI3.inv hfn hgn (by omega) (by omega) fun s4 col4 f4 st4 hI4 hf4 hfs4 hfl4=> ?_
 have hA4:=hA3.after hI4
 have hB4:=hB3.after hI4
 have b4:=hI4.ext.bnd b3
 rw[hfs,hfl,List.nil_append]at hfs4
 have hl4:f4.sb.length=a.length:=by rw[hfs4]
 have hl5:f4.lb.length=0:=by rw[hfl4];rfl
 simp only[W_oS,W_on,Aa,Al,reduceIte,Ax,AE,Au,Az,Aw,reduceCtorEq, ↓reduceIte,Cc,decide_true,Bool.not_true]
 refine Ai_ b4 hI4.inv hf4 hgn (by omega) (by omega) fun s5 col5 g5 st5 hI5 hg5 hgs5 hgl5=> ?_
 have hA5:=hA4.after hI5
 have hB5:=hB4.after hI5
 have b5:=hI5.ext.bnd b4
 rw[hgs,hgl,List.nil_append]at hgs5
 have hl6:g5.sb.length=b.length:=by rw[hgs5]
 have hl7:g5.lb.length=0:=by rw[hgl5];rfl
 simp only[Cc,decide_true,Bool.not_true]
 refine W.cond (v:=false) GC_ Fr_ (by simp[T.get_set]) (by omega) (fun h=>by cases h) fun _=> ?_
 refine KE_.w DL_ (by omega) ?_
 simp only[Ry,Ad,W_oS,W_on,Aa,W_mv,Ab,T.get_set,Aj,Ah,Ag,Al,reduceIte,Nat.reduceEqDiff,reduceCtorEq, ↓reduceIte,t0,t2,Bs.lenq hA5.bs BT,Qb (n:=a.length) (by omega)]
 refine CI_ (m:=8*a.length) (by omega) (by omega) (by omega) ?_
 obtain⟨m,hm⟩: ∃m:Nat,bit%((8*a.length:Nat):Int)=(m:Nat):=⟨(bit%((8*a.length:Nat):Int)).toNat,by have:=Int.emod_nonneg bit (b:=((8*a.length:Nat):Int)) (by omega);omega⟩
 have hml:m<8*a.length:=by have:=Int.emod_lt_of_pos bit (b:=((8*a.length:Nat):Int)) (by omega);omega
 have hm8:m/8<a.length:=by omega
 rw[hm]
 try simp only[Ad,W_oS,W_on,Aa,W_mv,Ab,AV,T.get_set,Aj,Ah,A1,AX,Ag,Al,reduceIte,Ax,AP,AZ,A0,AE,Au,Az,AW,Aw,Aq,Nat.reduceEqDiff,reduceCtorEq, ↓reduceIte]
 refine NV_.w MV_ (by omega) ?_
 simp only[VE,Ad,W_on,Aa,W_mv,Ab,T.get_set,Aj,Ah,Ag,Al,reduceIte,reduceCtorEq, ↓reduceIte,t0]
 refine PE_ b5 hA5.bs (by omega) (by omega) fun s6 tv tb htb hT6 x6=> ?_
 try simp only[Ad,W_oS,W_on,Aa,W_mv,Ab,AV,T.get_set,Aj,Ah,A1,AX,Ag,Al,reduceIte,Ax,AP,AZ,A0,AE,Au,Az,AW,Aw,Aq,Nat.reduceEqDiff,reduceCtorEq, ↓reduceIte]
 have hag6: ∀x,x<s5.next→paint col5 s5.next 1000 x=col5 x:=fun x hx=>BB hx
 have hnw6: ∀x,s5.next≤x→paint col5 s5.next 1000 x=1000:=fun x hx=>DV hx
 have hI6:=(hI5.inv.col hag6).ext0 x6 (by simp)
 have hA6:=(hA5.col hag6).ext0 x6
 have hB6:=(hB5.col hag6).ext0 x6
 have b6:=x6.bnd b5
 generalize paint col5 s5.next 1000=col6 at *
 have mkT:MkS s6 1 a.length (u8l a) tv tb:=by
  rcases hT6 with h|h
  ·exact absurd h.2.1 h3
  ·exact .inr h
 have hTc: ∀x,MkF 1 a.length tb x→1000≤col6 x:=fun x hx=>by rw[hnw6 x (by have:=hx.2.1;omega)];exact Nat.le_refl _
 refine Pf_.w Iu_ (by omega) ?_
 obtain⟨c,ev,ob⟩:=mkT.get hm8
 have hbv8:a.getD (m/8) 0<256:=by
  rw[List.getD_eq_getElem?_getD,List.getElem?_eq_getElem hm8]
  exact hab _ (List.getElem_mem hm8)
 have hpw:2^(m%8)<2^8:=Nat.pow_lt_pow_right (by decide) (Nat.mod_lt _ (by decide))
 have hx8:a.getD (m/8) 0^^^2^(m%8)<256:=Nat.xor_lt_two_pow (n:=8) hbv8 hpw
 simp only[T7,T.get_set,Nat.reduceEqDiff,reduceIte,AY,BX,ev]
 rw[W_dq fun s Q=>Kz (s:=s) (m:=m) (by omega) Q]
 dsimp only
 try simp only[BX]
 rw[W_dq fun s Q=>Kz (s:=s) (m:=m) (by omega) Q]
 dsimp only
 try simp only[AY,BX]
 rw[W_dq fun s Q=>C2 (s:=s) BT hm8 Q]
 dsimp only
 try simp only[AY]
 refine W.dload Ih (((show Own s6 tb (0+m/8*1) _ by rw[Nat.mul_one,Nat.zero_add];exact ob).same (s':=dSt s6.mem s6.next) rfl rfl).at') fun rd7 hr7=> ?_
 try simp only[BX]
 rw[W_dq fun s Q=>Rw (s:=s) (m:=m) Q]
 dsimp only
 try simp only[AY]
 rw[W_dq fun s Q=>RJ (s:=s) (k:=m%8) (Nat.mod_lt _ (by decide)) Q]
 dsimp only
 try simp only[AY]
 rw[W_dq fun s Q=>V8 (s:=s) hx8 Q]
 dsimp only
 try simp only[AY]
 rw[W_dq fun s Q=>C2 (s:=s) BT hm8 Q,Aa]
 refine⟨Fo (by simp) (by simp), ?_⟩
 refine W.cast (Hr_ _ _ _ _ _ _ _ _ _ _ _ _ _ _ _ _ _ _) ?_
 simp only[Ad,W_oS,Aa]
 generalize hs':(⟨(dSt s6.mem s6.next).mem,(dSt s6.mem s6.next).next,s6.lim,_,_,s6.cx⟩:St)=s7
 have m7:s7.mem=s6.mem:=by rw[←hs'];rfl
 have n7:s7.next=s6.next:=by rw[←hs'];rfl
 have x7:Ext Any Non s6 s7:=by
  rw[←hs']
  exact Ext.draw (F:=Any) (Nat.le_refl _) (fun _ _=>rfl) (by simp) fun _ _ _ _ _=>trivial
 have b7:=x7.bnd b6
 have hI7:=hI6.ext0 x7 (by simp)
 have hA7:=hA6.ext0 x7
 have hB7:=hB6.ext0 x7
 have mkT7:=mkT.ext0 x7
 have ob7:Own s7 tb (0+m/8*1) (.int .u8 (a.getD (m/8) 0:Nat)):=by rw[Nat.mul_one,Nat.zero_add];exact ob.same m7 n7
 refine W.store1 Ih rfl ob7 fun s8 n8 x8 o8=> ?_
 rw[Nat.mul_one,Nat.zero_add]at x8 o8
 try simp only[Ad,W_oS,W_on,Aa,W_mv,Ab,AV,T.get_set,Aj,Ah,A1,AX,Ag,Al,reduceIte,Ax,AP,AZ,A0,AE,Au,Az,AW,Aw,Aq,Nat.reduceEqDiff,reduceCtorEq, ↓reduceIte]
 have hTin: ∀y,In tb (m/8) 1 y→MkF 1 a.length tb y:=fun y hy=>⟨by omega,by have:=hy.1;omega,by have:=hy.2;omega⟩
 have y8:Ext Any (fun y=>MkF 1 a.length tb y) s7 s8:=x8.weak b7 (fun _ _ _=>trivial) fun y _ hy=>hTin y hy
 have b8:=x8.bnd b7
 have hI8:=hI7.ext y8 (by simp) fun y hy g=>hTc y g
 have hA8:Held s8 col6 av a:=⟨hA7.bs.ext y8 fun x hx g=>by have h4:=hA5.lt x hx;have h5:=g.2.1;omega,fun x hx=>Nat.lt_of_lt_of_le (hA7.lt x hx) y8.nxt,hA7.co⟩
 have hB8:Held s8 col6 bv b:=⟨hB7.bs.ext y8 fun x hx g=>by have h4:=hB5.lt x hx;have h5:=g.2.1;omega,fun x hx=>Nat.lt_of_lt_of_le (hB7.lt x hx) y8.nxt,hB7.co⟩
 have mkT8:=mkT7.put hm8 n8 x8 o8
 obtain⟨tl,htl⟩: ∃tl,tl=a.set (m/8) (a.getD (m/8) 0^^^2^(m%8)):=⟨_,rfl⟩
 rw[←htl]at mkT8
 have hll:tl.length=a.length:=by rw[htl,List.length_set]
 have hbt:Byt tl:=by rw[htl];exact Gb_ hab hx8
 have hT8:Held s8 col6 tv tl:=⟨mkT8.bs (Nat.lt_of_le_of_lt (show _≤5000 by omega) (by decide)),fun x hx=>mkT8.lt x (mkT8.bsF x hx),fun x hx=>hTc x (by have h4:=mkT8.bsF x hx;rw[hll]at h4;exact h4)⟩
 rw[ev]at hT8
 refine LS_.w No_ (by omega) ?_
 simp only[XW,Ad,W_oS,W_on,Aa,W_mv,Ab,T.get_set,Aj,Ah,Ag,Al,reduceIte,Nat.reduceEqDiff, ↓reduceIte]
 refine XN b8 hI8 hf4 hg5 (by omega) (by rw[hfs4];exact hab) (by rw[hgs5];exact hbb) (by omega) (by omega) fun s9 hI9 x9=> ?_
 obtain⟨f9,hf9⟩: ∃f9:FileS,f9={f4 with sb:=f4.sb.set (m/8) (f4.sb.getD (m/8) 0^^^2^(m%8))}:=⟨_,rfl⟩
 rw[←hf9]at hI9
 have hfn9:f9.name=nmA:=by rw[hf9];exact hf4
 have hfs9:f9.sb=tl:=by rw[hf9,htl,←hfs4]
 have hfl9:f9.lb=[]:=by rw[hf9];exact hfl4
 have hA9:=hA8.gw x9
 have hB9:=hB8.gw x9
 have hT9:=hT8.gw x9
 have b9:=x9.bnd b8
 have hl8:f9.sb.length=a.length:=by rw[hfs9];exact hll
 have hl9:f9.lb.length=0:=by rw[hfl9];rfl
 simp only[W_oS,W_on,Aa,Al,reduceIte,Ax,AE,Au,Az,Aw,reduceCtorEq, ↓reduceIte,Cc,decide_true,Bool.not_true]
 refine OE_ b9 hI9 hfn9 hg5 (by omega) hfl9 hgl5 (by omega) fun s10 col10 f10 g10 hI10 hf10 hg10 hfs10 hgs10 hfl10 hgl10=> ?_
 have hA10:=hA9.after hI10
 have hB10:=hB9.after hI10
 have hT10:=hT9.after hI10
 have b10:=hI10.ext.bnd b9
 rw[hfs9]at hfs10
 rw[hgs5]at hgs10
 have hk1:f10.sb.length=a.length:=by rw[hfs10];exact hll
 have hk2:f10.lb.length=0:=by rw[hfl10];rfl
 have hk3:g10.sb.length=b.length:=by rw[hgs10]
 have hk4:g10.lb.length=0:=by rw[hgl10];rfl
 have hus: ∀f:FileS,f.sb.length=a.length→f.lb.length=0→f.sb.length+f.lb.length+(g10.sb.length+g10.lb.length+0)≤1000000:=fun f h4 h5=>by omega
 simp only[W_oS,W_on,Aa,Al,reduceIte,Ax,AE,Au,Az,Aw,reduceCtorEq, ↓reduceIte,Cc,decide_true,Bool.not_true]
 refine Nj (j:=0) b10 hI10.inv (by simp) (hus f10 hk1 hk2) (by omega) rfl (by simp) (Du hf10 hg10) (by show Bs s10 _ (f10.sb++f10.lb);rw[hfs10,hfl10,List.append_nil];exact hT10.bs) fun s11 x11=> ?_
 have hI11:=hI10.inv.ext0 x11 (by simp)
 have hA11:=hA10.ext0 x11
 have hB11:=hB10.ext0 x11
 have b11:=x11.bnd b10
 simp only[W_oS,W_on,Aa,Al,reduceIte,Ax,AE,Au,Az,Aw,reduceCtorEq, ↓reduceIte,FB,Bool.not_true,t1]
 refine Nj (j:=1) b11 hI11 (by simp) (hus f10 hk1 hk2) (by omega) rfl (by simp) (KK hf10 hg10) (by show Bs s11 _ (g10.sb++g10.lb);rw[hgs10,hgl10,List.append_nil];exact hB11.bs) fun s12 x12=> ?_
 have hI12:=hI11.ext0 x12 (by simp)
 have hA12:=hA11.ext0 x12
 have b12:=x12.bnd b11
 simp only[FB,Bool.not_true]
 refine W.cond (v:=false) Am_ Dh_ (by simp[T.get_set]) (by omega) (fun h=>by cases h) fun _=> ?_
 refine HK_.w BL_ (by omega) ?_
 simp only[VL,Ad,W_oS,W_on,Aa,W_mv,Ab,T.get_set,Aj,Ah,Ag,Al,reduceIte,Ax,AP,Au,Az,Aw,Nat.reduceEqDiff,reduceCtorEq, ↓reduceIte]
 refine XN b12 hI12 hf10 hg10 (by omega) (by rw[hfs10];exact hbt) (by rw[hgs10];exact hbb) (by omega) (by omega) fun s13 hI13 x13=> ?_
 obtain⟨f13,hf13⟩: ∃f13:FileS,f13={f10 with sb:=f10.sb.set (m/8) (f10.sb.getD (m/8) 0^^^2^(m%8))}:=⟨_,rfl⟩
 rw[←hf13]at hI13
 have hfn13:f13.name=nmA:=by rw[hf13];exact hf10
 have hfs13:f13.sb=a:=by
  rw[hf13]
  show f10.sb.set (m/8) (f10.sb.getD (m/8) 0^^^2^(m%8))=a
  rw[hfs10,htl]
  exact Dd_ hm8
 have hfl13:f13.lb=[]:=by rw[hf13];exact hfl10
 have hA13:=hA12.gw x13
 have b13:=x13.bnd b12
 have hk5:f13.sb.length=a.length:=by rw[hfs13]
 have hk6:f13.lb.length=0:=by rw[hfl13];rfl
 simp only[W_oS,W_on,Aa,Al,reduceIte,Ax,AP,Au,Az,Aw, ↓reduceIte,Dq,decide_true,t0]
 refine Nj (j:=0) b13 hI13 (by simp) (hus f13 hk5 hk6) (by omega) rfl (by simp) (Du hfn13 hg10) (by show Bs s13 _ (f13.sb++f13.lb);rw[hfs13,hfl13,List.append_nil];exact hA13.bs) fun s14 x14=> ?_
 have hI14:=hI13.ext0 x14 (by simp)
 have hA14:=hA13.ext0 x14
 have b14:=x14.bnd b13
 simp only[W_oS,W_on,Aa,Al,reduceIte,Ax,AP,Au,Az,Aw, ↓reduceIte,Bs.lenq hA14.bs BT,Qb (n:=a.length) (by omega)]
 refine Re b14 hI14 hfn13 hg10 (by omega) (by rw[hfs13];exact hab) (by rw[hgs10];exact hbb) (.inr (by rw[hk5])) hfl13 (by omega) fun s15 x15=> ?_
 have hI15:=hI14.ext0 x15 (by simp)
 have b15:=x15.bnd b14
 simp only[W_oS,W_on,Aa,Al,reduceIte,Ax,AP,Au,Az,Aw, ↓reduceIte,Dq,decide_true]
 refine Re b15 hI15 hfn13 hg10 (by omega) (by rw[hfs13];exact hab) (by rw[hgs10];exact hbb) (.inl (by decide)) hfl13 (by omega) fun s16 x16=> ?_
 have hI16:=hI15.ext0 x16 (by simp)
 have b16:=x16.bnd b15
 simp only[W_oS,W_on,Aa,Al,reduceIte,Ax,AP,Au,Az,Aw, ↓reduceIte,Dq,decide_true]
 refine Qo_ b16 hI16 hfn13 hg10 (by omega) (by rw[hfs13];exact hab) (by rw[hgs10];exact hbb) (by omega) fun s17 x17=> ?_
 simp only[Dq,decide_true]
 have hcx:s17.cx=(s.cxN cxN).cx:=(x17.cx.trans (x16.cx.trans (x15.cx.trans (x14.cx.trans (x13.cx.trans (x12.cx.trans (x11.cx.trans (hI10.ext.cx.trans (x9.cx.trans (y8.cx.trans (x7.cx.trans (x6.cx.trans (hI5.ext.cx.trans (hI4.ext.cx.trans (hI3.ext.cx.trans (hI2.ext.cx.trans x1.cx))))))))))))))))
 exact W.end' (rs:=[6]) (vs:=[.bool true]) Jl_ (.inl Oj_) (by omega) Mx QB hcx (by simp[T.get_set]) rfl
end
open Go.RowKit Go.ChangeShapes Go.WideShapes
theorem Hk_:envS.P=Try.prog:=by kernel_rfl
theorem VP:Try.prog.underlying 26=some (.slice 5):=by kernel_rfl
theorem T8:Try.prog.underlying 5=some (.int .u8):=by kernel_rfl
theorem Py_:Try.prog.underlying 3=some (.int .i64):=by kernel_rfl
theorem Th:Try.prog.cellsOf 5=1:=by kernel_rfl
theorem Bs.lt {s:St}{v:Value}{l:List Nat}(h:Bs s v l): ∀x,BsF v x→x<s.next:=by
 intro x hx
 rcases h with⟨rfl,_⟩|⟨b,o,c,rfl,_,_,h3⟩
 ·exact hx.elim
 ·have h1:b+o≤x:=hx.1
  have h2:x<b+o+l.length:=hx.2
  have hl:x-(b+o)<(u8l l).length:=by rw[Ca];omega
  have:=(h3 (x-(b+o)) _ (List.getElem?_eq_getElem hl)).1
  omega
theorem SK {P:Program}{N F:Nat}{s:St}{t e:TypeId}{us:List Value}(ht:P.underlying t=some (.slice e))(he:P.underlying e=some (.int .u8))(hc:P.cellsOf e=1)(h:A8 P N s (F+2) t us): ∃v l,us=[v]∧Bs s v l∧Byt l∧l.length≤N:=by
 obtain⟨v,es,rfl,hE,_,hN,ha⟩:=A8.slice ht (by rw[hc];decide) h
 have h1: ∀i,i<es.length→ ∃n:Nat,n<256∧es[i]?=some [.int .u8 (n:Nat)]:=fun i hi=>by
  obtain⟨_,hx⟩:=ha _ (List.getElem_mem hi)
  obtain⟨n,e1,e2⟩:=hx.int' he
  have h2:(0:Int)≤n∧n≤255:=by
   have e3:(decide ((0:Int)≤n)&&decide (n≤(255:Int)))=true:=e2
   rw[Bool.and_eq_true]at e3
   exact⟨of_decide_eq_true e3.1,of_decide_eq_true e3.2⟩
  exact⟨n.toNat,by omega,by rw[List.getElem?_eq_getElem hi,e1,Int.toNat_of_nonneg h2.1]⟩
 obtain⟨l,hl,hp⟩:=XJ h1
 refine⟨v,l,rfl, ?_,fun x hx=> ?_,by omega⟩
 ·rcases hE with⟨rfl,rfl⟩|⟨b,c,rfl,hc1,hc2,hr⟩
  ·exact .inl ⟨rfl,List.eq_nil_of_length_eq_zero hl⟩
  ·rw[hc]at hc2 hr
   refine .inr ⟨b,0,c,by rw[hl],by rw[hl];exact hc1,hc2,fun i x e=> ?_⟩
   obtain⟨n,e1,rfl⟩: ∃n,l[i]?=some n∧Value.int .u8 (n:Nat)=x:=by
    rw[List.getElem?_map]at e
    exact Option.map_eq_some_iff.1 e
   have:=hr i _ (hp i n e1).2 0 _ rfl
   rw[Nat.mul_one]at this
   rw[Nat.zero_add]
   exact this
 ·obtain⟨i,hi⟩:=List.getElem?_of_mem hx
  exact(hp i x hi).1
attribute [local irreducible] A8
theorem P8:Try.f4.params.toList=[26,26,3]:=by kernel_rfl
theorem DT_:envS.orc.get 4=none:=by kernel_rfl
theorem Ft_:envS.ext.get 4=none:=by kernel_rfl
theorem Oa_:[26,26,3].all (CO Try.prog 6)=true:=by kernel_rfl
theorem QQ:aggT Try.prog 26=false:=by kernel_rfl
theorem BY_:aggT Try.prog 3=false:=by kernel_rfl
set_option maxRecDepth 1000000 in
theorem walkFlips {H:Type}{enc:TypeId×Value→H}{w:World}{base:Nat}{args:Array Value}{ds:List (DataW H)}{ps:List MemPlace}(hA:DataW.TrodAll enc Try.prog w 0 (fun _=>true) true Try.f4.params.toList args.toList ds ps)
  (hv: ∀(j:Nat) t v,Try.f4.params[j]?=some t→args[j]?=some v→Value.okWide Try.prog w .any base t v):Calls Try.prog 4 args w fun e w'=>e= .returned (.bool true)∧Below w.heap.size w w':=by
 have hv': ∀(j:Nat) t v,[26,26,3][j]?=some t→args.toList[j]?=some v→Value.okWide Try.prog w .any base t v:=fun j t v e1 e2=>by
  rw[←P8]at e1
  rw[Array.getElem?_toList]at e1 e2
  exact hv j t v e1 e2
 rw[P8]at hA
 have hE:envS.P=Try.prog:=Hk_
 have h:=NB_ (E:=envS) (fuel:=9000000) (f:=4) (F:=6) (N:=maxLen) (v:= .bool true) (ts:=[26,26,3]) Yh DT_ Ft_ rfl (by rw[hE];exact hA) (by rw[hE];exact hv') (by rw[hE];exact Oa_) (.inl (Nat.le_refl _)) (fun m nx us hus hu=>by
  rw[hE]at hu
  match us,hus,hu with
  |[u0,u1,u2],_,hu=>
   have k0:=(hu 0 _ u0 rfl rfl).one QQ
   have k1:=(hu 1 _ u1 rfl rfl).one QQ
   have k2:=(hu 2 _ u2 rfl rfl).one BY_
   obtain⟨av,a,e0,ha,hab,_⟩:=SK (F:=4) VP T8 Th k0
   obtain⟨bv,b,e1,hb,hbb,_⟩:=SK (F:=4) VP T8 Th k1
   obtain⟨y,e2,_⟩:=k2.int' Py_
   cases e0
   cases e1
   cases e2
   exact YK (Nat.zero_le _) ha hb ha.lt hb.lt hab hbb (by omega))
 rw[hE]at h
 exact h
open Go.RowKit Go.ChangeShapes
noncomputable def zeroT (P:Program)(t:Nat):Value:=((P.info? t).bind (·.zero)).getD .nilFunc
section
variable {H:Type}{enc:TypeId×Value→H}{P:Program}{W W':World}
theorem below_all (hl:laidOutB P=true)(hb:Below W.heap.size W W'){sp:Nat→Bool}: ∀{ts:List TypeId} {vs:List Value} {ds:List (DataW H)} {ps:List MemPlace},(ts.all fun t=>P.readableRec t&&decide (t<P.types.size))=true→DataW.TrodAll enc P W 0 (fun _=>true) true ts vs ds ps→(∀x∈ps,x.block<W.heap.size)→(∀x∈ps,sp x.block=true)→
  DataW.TrodAll enc P W' 0 sp true ts vs ds ps
 |[],_,_,_,_,h,_,_=>by
  obtain⟨rfl,rfl,rfl⟩:=trodAll_nil h
  exact trodAll_mk0
 |t::ts,_,_,_,hr,h,hlt,hsp=>by
  obtain⟨v,vs,d,ds,p,q,rfl,rfl,rfl,h1,h2⟩:=trodAll_cons h
  rw[List.all_cons,Bool.and_eq_true,Bool.and_eq_true]at hr
  refine⟨p,q,WideElems.Trod_stays hl hr.1.1 (of_decide_eq_true hr.1.2) h1 (fun x hx=>hb.same (hlt x (List.mem_append_left _ hx))) (fun x hx=>hsp x (List.mem_append_left _ hx)), ?_,rfl⟩
  exact below_all hl hb hr.2 h2 (fun x hx=>hlt x (List.mem_append_right _ hx)) (fun x hx=>hsp x (List.mem_append_right _ hx))
end
end Go.Proofs.Ytjfhmacppabehaa.Am
