import Derived.Test.YtndednnianphoaaGreatDoorJt19
namespace Go.Proofs.YtndednnianphoaaGreatDoor.Am
open Go.RowKit
theorem JW_:elT envS 114=some (1,24,[.slice none 0 0]):=by kernel_rfl
theorem ON_:hasT envS 118=true:=by kernel_rfl
theorem Hx:intK envS 5=some .u8:=by kernel_rfl
def le4 (n:Nat):List Nat:=[n%256,n>>>8%256,n>>>16%256,n>>>24%256]
def gput (l:List Nat):List Nat:=l++le4 (Dd 0 l)
theorem Byt.le4 (n:Nat):Byt (le4 n):=fun x hx=>by
 simp -implicitDefEqProofs only[Am.le4,List.mem_cons,List.not_mem_nil,or_false]at hx
 omega
theorem Byt.gput {l:List Nat}(h:Byt l):Byt (gput l):=fun x hx=>by
 rcases List.mem_append.1 hx with hx|hx
 ·exact h x hx
 ·exact Byt.le4 _ x hx
theorem YZ {n:Nat}{s:St}{v:Value}{l:List Nat}{Q:Value→St→Prop}(hbd:s.lim≤s.next)(hn:120≤n)(h:Bn s v l)(hl:Byt l)(hz:l.length≤900000)
  (q: ∀s1 w nb,Ext (BsF v) Non s s1→MkG s1 w (gput l) nb→s.next≤nb→Q w s1):W (Ay envS (runF envS n) 53 [v]) s Q:=by
 refine Oh_ fun tm h0=> ?_
 have hc:Bn (s.cxN cxN) v l:=h.same rfl rfl
 refine Aec_.w rfl (by omega) ?_
 simp -implicitDefEqProofs only[V8,Aa,W_mv,Ab]
 refine Hw_.w Yo_ (by omega) ?_
 simp -implicitDefEqProofs only[ZU,Ac,W_on,Aa,W_mv,Ab,T.get_set,Ag,Af,Ae,Ah,reduceIte,reduceCtorEq, ↓reduceIte,h0]
 refine AaW_ (by omega) hc hl (by omega) fun s1 m1 n1 x1=> ?_
 refine AaL_.w AaY_ (by omega) ?_
 generalize hS:Dd 0 l=S
 simp -implicitDefEqProofs only[Z1,Ac,W_oS,W_on,Aa,W_mv,Ab,T.get_set,Ag,Af,As,Aq,Ae,Ah,reduceIte,reduceCtorEq, ↓reduceIte,h0]
 simp -implicitDefEqProofs only[EO ON_ Hx,wrap_u8,Zg (k:= .u32) (by decide),EG_ (k:= .u32) (by decide),Gn_ (k:= .u32) (by decide)]
 have hb1:s1.lim≤s1.next:=x1.bnd hbd
 refine W.buildS hb1 (r:=u8l (le4 S)) Pj (by decide) rfl (Cn (by decide)) fun s2 n2 x2 r2=> ?_
 have hb2:s2.lim≤s2.next:=x2.bnd hb1
 obtain⟨b,o,c,rfl,hv⟩:=hc
 refine W.buildS hb2 (r:=[.slice (some ⟨b,o,none⟩) l.length c, .slice (some ⟨s1.next,0,none⟩) 4 4]) JW_ (by decide) rfl (Cn (by decide)) fun s3 n3 x3 r3=> ?_
 have hb3:s3.lim≤s3.next:=x3.bnd hb2
 have hx1:Ext (BsF (.slice (some ⟨b,o,none⟩) l.length c)) Non (s.cxN cxN) s1:=x1
 have hx2:=hx1.step x2 hbd (fun _ _ h=>h.elim) fun _ h=>h.elim
 have hx3:=hx2.step x3 hbd (fun _ _ h=>h.elim) fun _ h=>h.elim
 have hBv:Bs s3 (.slice (some ⟨b,o,none⟩) l.length c) l:=(Bn.bs ⟨b,o,c,rfl,hv⟩).ext0 hx3
 have hB4:Bs s3 (.slice (some ⟨s1.next,0,none⟩) 4 4) (le4 S):=(Bb.bn r2 (Cn (by simp[le4]))).ext0 x3
 have hlt:tot [((.slice (some ⟨b,o,none⟩) l.length c:Value),l),(.slice (some ⟨s1.next,0,none⟩) 4 4,le4 S)]=l.length+4:=by simp[tot,le4]
 refine EE_ (parts:=[(.slice (some ⟨b,o,none⟩) l.length c,l),(.slice (some ⟨s1.next,0,none⟩) 4 4,le4 S)]) hb3 ⟨r3.row,fun p hp=> ?_⟩ (by rw[hlt];omega) (by rw[hlt];omega) (by simp) (by simp;omega) fun s4 w nb x4 hw hnb=> ?_
 ·rcases List.mem_cons.1 hp with rfl|hp
  ·exact hBv
  ·rcases List.mem_cons.1 hp with rfl|hp
   ·exact hB4
   ·cases hp
 have hx4:=hx3.step x4 hbd (fun x hx h=>by
  have hn1:s.next≤s1.next:=x1.nxt
  have hn2:s1.next≤s2.next:=x2.nxt
  have hxl:x<s.lim:=hx
  rcases h with h|⟨p,hp,h⟩
  ·have:=h.1;omega
  ·rcases List.mem_cons.1 hp with rfl|hp
   ·exact h
   ·rcases List.mem_cons.1 hp with rfl|hp
    ·have:s1.next+0≤x:=h.1
     omega
    ·cases hp) fun _ h=>h.elim
 refine W.end' (rs:=[2]) (vs:=[w]) Oe_ (.inl Qa_) (by omega) Vs Afe_ hx4.cx (by simp[T.get_set]) ?_
 refine q _ _ nb hx4.cx' ?_ (Nat.le_trans hx3.nxt hnb)
 have:=hw.same (s':=s4.cxN s.cx) rfl rfl
 show MkG (s4.cxN s.cx) w (gput l) nb
 unfold gput
 rw[hS]
 simpa [fl]using this
theorem Wg_ (l:List Nat):(gput l).length=l.length+4:=by simp[gput,le4]
theorem Td_ {n:Nat}{s:St}{v:Value}{l:List Nat}{Q:Value→St→Prop}(hbd:s.lim≤s.next)(hn:120≤n)(h:Bn s v l)(hl:Byt l)(hz:l.length≤900000)
  (q: ∀s1 w,Ext (BsF v) Non s s1→New s s1 w (gput l)→Q w s1):W (Ay envS (runF envS n) 53 [v]) s Q:=
 YZ hbd hn h hl hz fun s1 w nb x1 hw hb=>q s1 w x1 (hw.new (by rw[Wg_];omega) hb)
section
variable {va vb:Value}{la lb:List Nat}
theorem RL_ {F:Nat→Prop}(hFa: ∀x,BsF va x→F x)(hFb: ∀x,BsF vb x→F x){Q:Value×FrameMode→St→Prop}{s0:St}(hb0:s0.lim≤s0.next)(ha:Bs s0 va la)(hb:Bs s0 vb lb)(hlen:la.length=lb.length)(hz:la.length≤4611686018427387904)(hcx:s0.cx= .cx none (some []))(q: ∀s1,Ext F Non s0 s1→s1.mem=s0.mem→s1.next=s0.next→Q (.bool (decide (la=lb)), .run) s1):
  ∀(k i n:Nat) (tm:T Value) (s:St) (td:List Item),i+k=la.length→7*k+20≤n→skim 64 td=Gb→Ext F Non s0 s→s.mem=s0.mem→s.next=s0.next→la.take i=lb.take i→
  T.get tm 0=some va→T.get tm 1=some vb→T.get tm 12=some (.int .i64 (la.length:Nat))→T.get tm 13=some (.int .i64 (i:Nat))→
  W (runF envS n ⟨52,KP_,CG,tm,td, .run, .normal,none⟩) s Q:=by
 intro k
 induction k with
 |zero=>
  intro i n tm s td hi hn hT hx hm hnx heq h0 h1 h12 h13
  refine YU.w hT (by omega) ?_
  simp -implicitDefEqProofs only[S5,Ac,W_oS,Aa,Ab,Bp,h12,h13]
  refine W.cond (v:=false) Am_ CA_ (by simp[T.get_set];omega) (by omega) (fun h=>by cases h) fun _=> ?_
  refine Pp_.w Yu_ (by omega) ?_
  simp -implicitDefEqProofs only[VK,Aa,W_mv,Ab]
  have e:la=lb:=by
   rw[show i=la.length by omega,List.take_length,hlen,List.take_length]at heq
   exact heq
  refine W.end' (rs:=[4]) (vs:=[.bool true]) Je_ (.inl OB_) (by omega) JQ QF (hx.cx.trans hcx) (by simp[T.get_set]) ?_
  have:=q s hx hm hnx
  rw[decide_eq_true e]at this
  exact this
 |succ k ih=>
  intro i n tm s td hi hn hT hx hm hnx heq h0 h1 h12 h13
  have hia:i<la.length:=by omega
  have hib:i<lb.length:=by omega
  obtain⟨ba,oa,ca,rfl,ga,fa⟩:=ha.at hia
  obtain⟨bb,ob,cb,rfl,gb,fb⟩:=hb.at hib
  refine YU.w hT (by omega) ?_
  simp -implicitDefEqProofs only[S5,Ac,W_oS,Aa,Ab,Bp,h12,h13]
  refine W.cond (v:=true) Am_ CA_ (by simp[T.get_set];omega) (by omega) (fun _=> ?_) fun h=>by cases h
  refine SO_.w WG_ (by omega) ?_
  simp -implicitDefEqProofs only[Dh_,Aa,W_mv,Ab,T.get_set,reduceIte,Nat.reduceEqDiff, ↓reduceIte,h13]
  refine Uk_.w MV_ (by omega) ?_
  simp -implicitDefEqProofs only[DX_,T.get_set,Nat.reduceEqDiff, ↓reduceIte,h0,h1,AP,B0]
  rw[W_dq fun s Q=>C4 (s:=s) BU hia Q]
  refine W.dload XX (ga.same hm hnx) fun rd1 hr1=> ?_
  simp -implicitDefEqProofs only[B0]
  rw[W_dq fun s Q=>C4 (s:=s) BU hib Q]
  refine W.dload XX (gb.same hm hnx) fun rd2 hr2=> ?_
  rw[Aa]
  refine⟨DM (by simp) (by simp), ?_⟩
  refine W.cast (JY_ _ _ _ _ _ _ _ _ _ _ _ _ _) ?_
  simp -implicitDefEqProofs only[Ac,W_oS,Aa,Ap,Sd_]
  generalize hs':(⟨(dSt s.mem s.next).mem,(dSt s.mem s.next).next,s.lim,_,_,s.cx⟩:St)=s'
  have hx':Ext F Non s0 s':=by
   rw[←hs']
   refine hx.trans (Ext.draw (F:=F) (Nat.le_refl _) (fun _ _=>rfl) (by simp) (by
    simp -implicitDefEqProofs only[List.mem_cons,List.not_mem_nil,or_false]
    rintro m (rfl|rfl|rfl|rfl|rfl|rfl|rfl|rfl) x hx _<;>first|(exact hFa _ (fa _ (hr1 _ hx)))|(exact hFb _ (fb _ (hr2 _ hx)))|(cases hx))) hb0 (fun _ _ h=>h) fun _ _ h=>h
  have hm':s'.mem=s0.mem:=by rw[←hs'];exact hm
  have hn':s'.next=s0.next:=by rw[←hs'];exact hnx
  by_cases he:la[i]=lb[i]
  ·refine W.cond (v:=false) Ej_ Wn (by simp[T.get_set,he]) (by omega) (fun h=>by cases h) fun _=> ?_
   refine Xu_.w ZG_ (by omega) ?_
   have ei:wrap64 ((i:Nat)+1:Int)=((i+1:Nat):Int):=by
    rw[B6 (by omega) (by omega)];simp
   simp -implicitDefEqProofs only[V7,Ac,W_oS,Aa,W_mv,Ab,T.get_set,reduceIte,Nat.reduceEqDiff, ↓reduceIte,BC,h13,ei]
   refine ih (i+1) _ _ _ _ (by omega) (by omega) Mf_ hx' hm' hn' ?_ (by simp[T.get_set,h0]) (by simp[T.get_set,h1]) (by simp[T.get_set,h12]) (by simp[T.get_set])
   rw[List.take_add_one,List.take_add_one,heq,List.getElem?_eq_getElem hia,List.getElem?_eq_getElem hib,he]
  ·refine W.cond (v:=true) Ej_ Wn (by simp[T.get_set,he]) (by omega) (fun _=> ?_) fun h=>by cases h
   refine Lk_.w Aev_ (by omega) ?_
   simp -implicitDefEqProofs only[Gv_,Aa,W_mv,Ab]
   have e:la≠lb:=by
    intro e
    subst e
    exact he rfl
   refine W.end' (rs:=[4]) (vs:=[.bool false]) Li_ (.inl NN_) (by omega) JQ QF (hx'.cx.trans hcx) (by simp[T.get_set]) ?_
   have:=q s' hx' hm' hn'
   rw[decide_eq_false e]at this
   exact this
theorem Hc_ {n:Nat}{s:St}{Q:Value→St→Prop}(hbd:s.lim≤s.next)(ha:Bs s va la)(hb:Bs s vb lb)(hz:la.length≤4611686018427387904)(hn:7*la.length+40≤n)
  (q: ∀s1,Ext (fun x=>BsF va x∨BsF vb x) Non s s1→s1.mem=s.mem→s1.next=s.next→Q (.bool (decide (la=lb))) s1):W (Ay envS (runF envS n) 52 [va,vb]) s Q:=by
 refine Zk_ fun tm h0 h1=> ?_
 have ha':Bs (s.cxN cxN) va la:=ha.same rfl rfl
 have hb':Bs (s.cxN cxN) vb lb:=hb.same rfl rfl
 refine TY_.w rfl (by omega) ?_
 simp -implicitDefEqProofs only[FG_,Aa,W_mv,Ab]
 refine Ln_.w AeG_ (by omega) ?_
 simp -implicitDefEqProofs only[XO,Ac,W_oS,Aa,W_mv,Ab,T.get_set,Ag,Af,Ae,reduceIte,Nat.reduceEqDiff,reduceCtorEq, ↓reduceIte,By,h0,h1,ha'.len BU,hb'.len BU]
 by_cases hlen:la.length=lb.length
 ·refine W.cond (v:=false) WV X8 (by simp[T.get_set,hlen]) (by omega) (fun h=>by cases h) fun _=> ?_
  refine UR_.w YE_ (by omega) ?_
  simp -implicitDefEqProofs only[FC_,Ac,W_oS,Aa,W_mv,Ab,T.get_set,Ag,Af,Ae,reduceIte,reduceCtorEq, ↓reduceIte,h0,ha'.len BU]
  exact RL_ (s0:=s.cxN cxN) (F:=fun x=>BsF va x∨BsF vb x) (fun _ h=> .inl h) (fun _ h=> .inr h) hbd ha' hb' hlen hz rfl (fun s1 x1 m1 n1=>q _ x1.cx' m1 n1) la.length 0 _ _ _ _ (by omega) (by omega) Sf_ (Ext.refl _) rfl rfl (by simp) (by simp[T.get_set,h0]) (by simp[T.get_set,h1]) (by simp[T.get_set]) (by simp[T.get_set])
 ·refine W.cond (v:=true) WV X8 (by simp[T.get_set];omega) (by omega) (fun _=> ?_) fun h=>by cases h
  refine Pn_.w Ir_ (by omega) ?_
  simp -implicitDefEqProofs only[BB_,Aa,W_mv,Ab]
  have e:la≠lb:=fun e=>hlen (by rw[e])
  refine W.end' (rs:=[4]) (vs:=[.bool false]) YS_ (.inl Wr_) (by omega) JQ QF rfl (by simp[T.get_set]) ?_
  have:=q _ (Ext.refl s) rfl rfl
  rw[decide_eq_false e]at this
  exact this
end
theorem Fresh1.toNew {s s':St}{v:Value}{b:Nat}{l:List Nat}(h:Fresh1 s s' 1 l.length (u8l l) v b)(hl:l.length<capU):New s s' v l:=by
 obtain⟨rfl,hnew,hown,_,_,_⟩:=h
 refine⟨⟨b,0,_,rfl,by rw[Mc hl];exact Nat.le_refl _,Ib hl (by decide),hown.row⟩,fun x hx=> ?_⟩
 have:b+0≤x:=hx.1
 omega
theorem AdU_ {n:Nat}{s:St}{v:Value}{l:List Nat}{Q:Value→St→Prop}(hbd:s.lim≤s.next)(h:Bn s v l)(hz:l.length≤1000000)(hn:30≤n)
  (q: ∀s1 w,Ext (BsF v) Non s s1→New s s1 w l→(0<l.length→ ∃nb,MkG s1 w l nb∧s.next≤nb)→Q w s1):W (Ay envS (runF envS n) 54 [v]) s Q:=by
 refine Zw_ fun tm h0=> ?_
 have hc:Bn (s.cxN cxN) v l:=h.same rfl rfl
 refine AbK_.w rfl (by omega) ?_
 simp -implicitDefEqProofs only[Wv,Aa,W_mv,Ab]
 refine Ug_.w Ji_ (by omega) ?_
 obtain⟨b,o,c,rfl,hv⟩:=hc
 simp -implicitDefEqProofs only[Co_,Ac,W_oS,Aa,W_mv,Ab,T.get_set,reduceIte,reduceCtorEq, ↓reduceIte,h0,Aeo_ BU]
 refine W.cond (v:=false) PU_ Xl_ (by simp[T.get_set]) (by omega) (fun h=>by cases h) fun _=> ?_
 refine JI_.w Aaf_ (by omega) ?_
 simp -implicitDefEqProofs only[UU,Ac,W_oS,Aa,W_mv,Ab,T.get_set,Ag,Af,Aq,Ae,reduceIte,reduceCtorEq, ↓reduceIte,h0]
 refine W.buildS (s:=s.cxN cxN) hbd (r:=[]) Pj (by decide) rfl (Cn (by decide)) fun s1 n1 x1 r1=> ?_
 have hb1:s1.lim≤s1.next:=x1.bnd hbd
 have hx1:Ext (BsF (.slice (some ⟨b,o,none⟩) l.length c)) Non (s.cxN cxN) s1:=x1.weak hbd (fun _ _ h=>h.elim) fun _ _ h=>h
 have hv1:Bs s1 (.slice (some ⟨b,o,none⟩) l.length c) l:=(Bn.bs ⟨b,o,c,rfl,hv⟩).ext0 hx1
 rw[IJ]
 by_cases hl:0<l.length
 ·refine W.appEmpT hb1 Jp hv1.src.g hl (by decide) (by decide) (by omega) (by rw[Cq,Nat.mul_one]) (HW _) fun s2 w nb hf hT x2=> ?_
  have hx2:=hx1.step x2 hbd (fun _ _ h=>h) fun _ h=>h.elim
  refine W.end' (rs:=[2]) (vs:=[w]) Ym (.inl Fi_) (by omega) PF Zb hx2.cx (by simp[T.get_set]) ?_
  have hN:=hf.toNew (Cn (by omega))
  have h2:s.next≤s1.next:=hx1.nxt
  refine q _ _ hx2.cx' ⟨hN.bn.same rfl rfl,fun x hx=> ?_⟩ fun _=>⟨nb,⟨?_,fun i u e=>(hf.own i u e).same rfl rfl,by rw[Nat.mul_one]at hT;exact hT,by have:=hf.lt;rw[Nat.mul_one]at this;exact this⟩,Nat.le_trans h2 hf.new⟩
  ·have h1:=hN.new x hx
   omega
  ·have:=hf.val
   rw[Nat.mul_one]at this
   exact this
 ·have h0l:l=[]:=List.eq_nil_of_length_eq_zero (by omega)
  subst h0l
  refine W.appIn (s:=s1) (n:=0) (len:=0) (c:=0) (l:=[]) Jp hv1.src.g (by simp) rfl rfl (fun i hi=>absurd hi (by omega)) fun s2 n2 x2 r2=> ?_
  have hx2:=hx1.step x2 hbd (fun _ _ h=>by
   rcases h with h|h
   ·exact h
   ·have h3:=h.1;have h4:=h.2;omega) fun l h=>by have h3:=h.1;have h4:=h.2;omega
  refine W.end' (rs:=[2]) (vs:=[.slice (some ⟨s.next,0,none⟩) (0+0) 0]) Ym (.inl Fi_) (by omega) PF Zb hx2.cx (by simp[T.get_set];rfl) ?_
  refine q _ _ hx2.cx' ⟨⟨s.next,0,0,rfl,by simp,Rq (by unfold capU;decide),fun i v e=>by simp at e⟩,fun x hx=> ?_⟩ fun h=>absurd h hl
  have h3:s.next+0≤x:=hx.1
  have h4:x<s.next+0+(0+0):=hx.2
  omega
theorem W.cut {E:Env}{t:Nat}{s:St}{v:Value}{l:List Nat}{i j:Nat}{lo hi:Option Value}{Q:Value→St→Prop}(h:Bn s v l)(ht:slN E t=some 1)(hlo:bndV lo 0=some i)(hhi:bndV hi l.length=some j)(hij:i≤j)(hj:j≤l.length)
  (q: ∀v',Bn s v' ((l.take j).drop i)→(∀x,BsF v' x→BsF v x)→Q v' s):W (Cb E t v lo hi) s Q:=by
 obtain⟨b,o,c,rfl,h1,h2,h3⟩:=h
 rw[Ab_ ht hlo hhi hij (by omega) h2]
 obtain⟨o',e1,e2,e3,e4,e5⟩:=Bs.sub' hij hj h1 h2 h3
 rw[e1]
 refine q _ ⟨b,o',c-i,rfl,e2,e3,e4⟩ fun x hx=> ?_
 have hlen:((l.take j).drop i).length=j-i:=by rw[List.length_drop,List.length_take];omega
 have h6:b+o'≤x:=hx.1
 have h7:x<b+o'+((l.take j).drop i).length:=hx.2
 rw[hlen]at h7
 rcases e5 with rfl|e5
 ·exact⟨by omega,by omega⟩
 ·rw[hlen]at e5;omega
def GOk (l:List Nat):Prop:=4≤l.length∧gput (l.take (l.length-4))=l
instance (l:List Nat):Decidable (GOk l):=by unfold GOk;infer_instance
theorem K4 (l:List Nat):(gput l).length=l.length+4:=by simp[gput,le4]
theorem Afd_ {n:Nat}{s:St}{v:Value}{l:List Nat}{Q:Value→St→Prop}(hbd:s.lim≤s.next)(h:Bn s v l)(hb:Byt l)(hz:l.length≤900000)(hn:7*l.length+200≤n)
  (q1:GOk l→ ∀s1 w,Ext (BsF v) Non s s1→New s s1 w (l.take (l.length-4))→(4<l.length→ ∃nb,MkG s1 w (l.take (l.length-4)) nb∧s.next≤nb)→Q (.tuple #[w, .int .i64 0]) s1) (q2: ¬GOk l→ ∀s1,Ext (BsF v) Non s s1→Q (.tuple #[.slice none 0 0, .int .i64 4]) s1):W (Ay envS (runF envS n) 22 [v]) s Q:=by
 refine QI_ fun tm h0=> ?_
 have hc:Bn (s.cxN cxN) v l:=h.same rfl rfl
 refine Adv_.w rfl (by omega) ?_
 simp -implicitDefEqProofs only[DE_,Aa,W_mv,Ab]
 refine Uc_.w RY_ (by omega) ?_
 simp -implicitDefEqProofs only[Zz,Ac,W_oS,Aa,W_mv,Ab,T.get_set,Ag,Af,Ae,reduceIte,reduceCtorEq, ↓reduceIte,Cd,h0,hc.bs.len BU]
 refine Aeg_.w KB_ (by omega) ?_
 by_cases h4:4≤l.length
 ·have ek:wrap64 ((l.length:Nat)-4:Int)=((l.length-4:Nat):Int):=by
   rw[B6 (by omega) (by omega)];omega
  have ed:decide (((l.length-4:Nat):Int)<0)=false:=by simp
  simp -implicitDefEqProofs only[Ss,Ac,W_oS,W_on,Aa,W_mv,Ab,T.get_set,Ag,Af,Ae,Ah,reduceIte,Ak,Ar,Aj,An,Al,reduceCtorEq, ↓reduceIte,Bp,h0,ek,ed]
  have hcut:(l.take (l.length-4)).drop 0=l.take (l.length-4):=rfl
  refine W.cut hc BU (i:=0) (j:=l.length-4) rfl rfl (Nat.zero_le _) (by omega) fun v1 hv1 hF1=> ?_
  rw[hcut]at hv1
  have hB1:Byt (l.take (l.length-4)):=fun x hx=>hb x (List.mem_of_mem_take hx)
  have hl1:(l.take (l.length-4)).length=l.length-4:=by rw[List.length_take];omega
  refine Td_ (s:=s.cxN cxN) hbd (by omega) hv1 hB1 (by omega) fun s1 w1 x1 hw1=> ?_
  have hb1:s1.lim≤s1.next:=x1.bnd hbd
  have hx1:Ext (BsF v) Non (s.cxN cxN) s1:=x1.weak hbd (fun x _ hx=>hF1 x hx) fun _ _ h=>h
  refine Hc_ hb1 hw1.bn.bs (hc.ext0 hx1).bs (by rw[K4];omega) (by rw[K4];omega) fun s2 x2 m2 n2=> ?_
  have hx2:Ext (BsF v) Non (s.cxN cxN) s2:=hx1.step x2 hbd (fun x hx h=>by
   rcases h with h|h
   ·have h5:s.next≤x:=hw1.new x h
    have h6:x<s.lim:=hx
    omega
   ·exact h) fun _ h=>h.elim
  have hb2:s2.lim≤s2.next:=hx2.bnd hbd
  simp -implicitDefEqProofs only[DB]
  by_cases hg:gput (l.take (l.length-4))=l
  ·refine W.cond (v:=false) Pq SX (by simp[T.get_set,hg]) (by omega) (fun h=>by cases h) fun _=> ?_
   refine YY_.w RD_ (by omega) ?_
   simp -implicitDefEqProofs only[Eb_,Ac,W_on,Aa,W_mv,Ab,T.get_set,Ag,Af,Ae,Ah,reduceIte,Nat.reduceEqDiff,reduceCtorEq, ↓reduceIte,h0]
   refine W.cut (hc.ext0 hx2) BU (i:=0) (j:=l.length-4) rfl rfl (Nat.zero_le _) (by omega) fun v3 hv3 hF3=> ?_
   rw[hcut]at hv3
   refine AdU_ hb2 hv3 (by omega) (by omega) fun s3 w x3 hw3 hm3=> ?_
   have hx3:Ext (BsF v) Non (s.cxN cxN) s3:=hx2.step x3 hbd (fun x _ hx=>hF3 x hx) fun _ h=>h.elim
   refine W.end' (rs:=[2,3]) (vs:=[w, .int .i64 0]) VD_ (.inl OM_) (by omega) KF T2 hx3.cx (by simp[T.get_set]) ?_
   have h6:s.next≤s2.next:=hx2.nxt
   refine q1 ⟨h4,hg⟩ _ w hx3.cx' ⟨hw3.bn.same rfl rfl,fun x hx=> ?_⟩ fun h=> ?_
   ·have h5:=hw3.new x hx
    omega
   ·obtain⟨nb,g1,g2⟩:=hm3 (by rw[hl1];omega)
    exact⟨nb,g1.same rfl rfl,Nat.le_trans h6 g2⟩
  ·refine W.cond (v:=true) Pq SX (by simp[T.get_set,hg]) (by omega) (fun _=> ?_) fun h=>by cases h
   refine Ft_.w AI_ (by omega) ?_
   simp -implicitDefEqProofs only[TK,Aa,W_mv,Ab]
   refine W.end' (rs:=[2,3]) (vs:=[.slice none 0 0, .int .i64 4]) AQ_ (.inl Fo_) (by omega) KF T2 hx2.cx (by simp[T.get_set]) ?_
   exact q2 (fun h=>hg h.2) _ hx2.cx'
 ·have ed:decide (wrap64 ((l.length:Nat)-4:Int)<0)=true:=by
   rw[B6 (by omega) (by omega)];simp;omega
  simp -implicitDefEqProofs only[Ss,Ac,W_oS,W_on,Aa,W_mv,Ab,T.get_set,Ag,Af,Ae,reduceIte,Ak,Av,Aj,Au,Al,reduceCtorEq, ↓reduceIte,Bp,h0,ed]
  refine W.cond (v:=true) Pq SX (by simp[T.get_set]) (by omega) (fun _=> ?_) fun h=>by cases h
  refine Ft_.w AI_ (by omega) ?_
  simp -implicitDefEqProofs only[TK,Aa,W_mv,Ab]
  refine W.end' (rs:=[2,3]) (vs:=[.slice none 0 0, .int .i64 4]) AQ_ (.inl Fo_) (by omega) KF T2 rfl (by simp[T.get_set]) ?_
  exact q2 (fun h=>h4 h.1) _ (Ext.refl s)
def recJ (r:Nat×Nat):List Nat:=gput [r.1,0,0,0,r.2]
def Bd (l:List (Nat×Nat)):List Nat:=(l.map recJ).flatten
def DF (r:Nat×Nat):Prop:=1≤r.1∧r.1≤2∧r.2<256
theorem DA (r:Nat×Nat):(recJ r).length=9:=by unfold recJ;rw[K4];rfl
theorem L9: ∀l:List (Nat×Nat),(Bd l).length=9*l.length
 |[]=>rfl
 |r::l=>by
  show(recJ r++Bd l).length=9*(l.length+1)
  rw[List.length_append,DA,L9 l]
  omega
theorem JP_ (a b:List (Nat×Nat)):Bd (a++b)=Bd a++Bd b:=by simp[Bd]
theorem XM_ (r:Nat×Nat):Bd [r]=recJ r:=by simp[Bd]
theorem Me_ {r:Nat×Nat}(h:DF r):Byt (recJ r):=Byt.gput fun x hx=>by
 obtain⟨_,h2,h3⟩:=h
 simp only[List.mem_cons,List.not_mem_nil,or_false]at hx
 omega
theorem Bn_ (l:List Nat):(gput l).take ((gput l).length-4)=l:=by
 rw[K4,Nat.add_sub_cancel]
 exact List.take_left
theorem JJ_ (r:Nat×Nat):GOk (recJ r):=⟨by rw[DA];decide,by unfold recJ;rw[Bn_]⟩
theorem Ru_ (r:Nat×Nat):(recJ r).take ((recJ r).length-4)=[r.1,0,0,0,r.2]:=Bn_ _
theorem TP_ {r:Nat×Nat}{l:List (Nat×Nat)}{t:List Nat}:(Bd (r::l)++t).take 9=recJ r:=by
 show((recJ r++Bd l)++t).take 9=_
 rw[List.append_assoc]
 exact List.take_left' (DA r)
theorem RF_ {r:Nat×Nat}{l:List (Nat×Nat)}{t:List Nat}:(Bd (r::l)++t).drop 9=Bd l++t:=by
 show((recJ r++Bd l)++t).drop 9=_
 rw[List.append_assoc]
 exact List.drop_left' (DA r)
def maxJ (k:Nat)(m:Nat):List (Nat×Nat)→Nat
 |[]=>m
 |r::l=>maxJ k (if r.1=k then max m r.2 else m) l
theorem JT {k:Nat}: ∀{l:List (Nat×Nat)} {m:Nat},(∀r∈l,DF r)→m<256→maxJ k m l<256
 |[],_,_,h=>h
 |r::l,m,h,hm=>JT (l:=l) (fun r' hr=>h r' (by simp[hr])) (by
  have h1:=(h r (by simp)).2.2
  split<;>omega)
def BM:List Bool→Nat→Nat→List (Nat×Nat)
 |[],_,_=>[]
 |true::l,s,c=>(1,s+1)::BM l (s+1) c
 |false::l,s,c=>(2,c+1)::BM l s (c+1)
def nSes (l:List Bool):Nat:=(l.filter fun b=>b).length
def nCom (l:List Bool):Nat:=(l.filter fun b=> !b).length
theorem nSum (l:List Bool):nSes l+nCom l=l.length:=by
 induction l with
 |nil=>rfl
 |cons b l ih=>cases b<;>simp[nSes,nCom]at ih ⊢ <;>omega
theorem PD: ∀(l:List Bool) (s c:Nat),maxJ 1 s (BM l s c)=s+nSes l
 |[],s,c=>rfl
 |true::l,s,c=>by
  show maxJ 1 (max s (s+1)) (BM l (s+1) c)=s+nSes (true::l)
  rw[Nat.max_eq_right (by omega),PD l (s+1) c]
  simp[nSes]
  omega
 |false::l,s,c=>by
  show maxJ 1 s (BM l s (c+1))=s+nSes (false::l)
  rw[PD l s (c+1)]
  simp[nSes]
theorem Sj: ∀(l:List Bool) (s c:Nat),maxJ 2 c (BM l s c)=c+nCom l
 |[],s,c=>rfl
 |false::l,s,c=>by
  show maxJ 2 (max c (c+1)) (BM l s (c+1))=c+nCom (false::l)
  rw[Nat.max_eq_right (by omega),Sj l s (c+1)]
  simp[nCom]
  omega
 |true::l,s,c=>by
  show maxJ 2 c (BM l (s+1) c)=c+nCom (true::l)
  rw[Sj l (s+1) c]
  simp[nCom]
theorem Ty: ∀{l:List Bool} {s c:Nat},s+l.length<256→c+l.length<256→ ∀r∈BM l s c,DF r
 |[],_,_,_,_=>fun r hr=>by cases hr
 |true::l,s,c,h1,h2=>fun r hr=>by
  rw[List.length_cons]at h1 h2
  rcases List.mem_cons.1 (show r∈(1,s+1)::BM l (s+1) c from hr)with rfl|hr
  ·exact⟨by simp,by simp,by show s+1<256;omega⟩
  ·exact Ty (by omega) (by omega) r hr
 |false::l,s,c,h1,h2=>fun r hr=>by
  rw[List.length_cons]at h1 h2
  rcases List.mem_cons.1 (show r∈(2,c+1)::BM l s (c+1)from hr)with rfl|hr
  ·exact⟨by simp,by simp,by show c+1<256;omega⟩
  ·exact Ty (by omega) (by omega) r hr
theorem Rb: ∀(l:List Bool) (s c:Nat),(BM l s c).length=l.length
 |[],_,_=>rfl
 |true::l,s,c=>by show(BM l (s+1) c).length+1=_;rw[Rb];rfl
 |false::l,s,c=>by show(BM l s (c+1)).length+1=_;rw[Rb];rfl
def B1 (s c:Nat)(l:List Bool):List (Nat×Nat):=(1,s)::(2,c)::BM l s c
theorem UB (s c:Nat)(l:List Bool):(B1 s c l).length=l.length+2:=by show(BM l s c).length+2=_;rw[Rb]
theorem AaJ_ {s c:Nat}{l:List Bool}(h1:s+l.length<256)(h2:c+l.length<256): ∀r∈B1 s c l,DF r:=fun r hr=>by
 rcases List.mem_cons.1 (show r∈(1,s)::(2,c)::BM l s c from hr)with rfl|hr
 ·exact⟨by simp,by simp,by show s<256;omega⟩
 ·rcases List.mem_cons.1 hr with rfl|hr
  ·exact⟨by simp,by simp,by show c<256;omega⟩
  ·exact Ty h1 h2 r hr
theorem AcE_ (s c:Nat)(l:List Bool):maxJ 1 0 (B1 s c l)=s+nSes l:=by
 show maxJ 1 (max 0 s) (BM l s c)=_
 rw[Nat.max_eq_right (Nat.zero_le _)]
 exact PD l s c
theorem Sp_ (s c:Nat)(l:List Bool):maxJ 2 0 (B1 s c l)=c+nCom l:=by
 show maxJ 2 (max 0 c) (BM l s c)=_
 rw[Nat.max_eq_right (Nat.zero_le _)]
 exact Sj l s c
end Go.Proofs.YtndednnianphoaaGreatDoor.Am
