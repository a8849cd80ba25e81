import Derived.Test.YtndednnianphoaaGreatDoorJf19
namespace Go.Proofs.YtndednnianphoaaGreatDoor.Am
open Go.RowKit
theorem KK_:elT envS 114=some (1,24,[.slice none 0 0]):=by kernel_rfl
theorem PJ_:hasT envS 118=true:=by kernel_rfl
theorem HJ:intK envS 5=some .u8:=by kernel_rfl
def le4 (n:Nat):List Nat:=[n%256,n>>>8%256,n>>>16%256,n>>>24%256]
def gput (l:List Nat):List Nat:=l++le4 (Dg 0 l)
theorem Byt.le4 (n:Nat):Byt (le4 n):=fun x hx=>by
 simp -implicitDefEqProofs only[Am.le4,List.mem_cons,List.not_mem_nil,or_false]at hx
 omega
theorem Byt.gput {l:List Nat}(h:Byt l):Byt (gput l):=fun x hx=>by
 rcases List.mem_append.1 hx with hx|hx
 ·exact h x hx
 ·exact Byt.le4 _ x hx
theorem Zw {n:Nat}{s:St}{v:Value}{l:List Nat}{Q:Value→St→Prop}(hbd:s.lim≤s.next)(hn:120≤n)(h:Bn s v l)(hl:Byt l)(hz:l.length≤900000)
  (q: ∀s1 w nb,Ext (BsF v) Non s s1→MkG s1 w (gput l) nb→s.next≤nb→Q w s1):W (Ay envS (runF envS n) 53 [v]) s Q:=by
 refine Pc_ fun tm h0=> ?_
 have hc:Bn (s.cxN cxN) v l:=h.same rfl rfl
 refine Afy_.w rfl (by omega) ?_
 simp -implicitDefEqProofs only[WD,Aa,W_mv,Ab]
 refine Ig_.w ZG_ (by omega) ?_
 simp -implicitDefEqProofs only[As_,Ac,W_on,Aa,W_mv,Ab,T.get_set,Ag,Af,Ae,Ah,reduceIte,reduceCtorEq, ↓reduceIte,h0]
 refine Acv_ (by omega) hc hl (by omega) fun s1 m1 n1 x1=> ?_
 refine Ack_.w Acy_ (by omega) ?_
 generalize hS:Dg 0 l=S
 simp -implicitDefEqProofs only[AA_,Ac,W_oS,W_on,Aa,W_mv,Ab,T.get_set,Ag,Af,Ar,Aq,Ae,Ah,reduceIte,reduceCtorEq, ↓reduceIte,h0]
 simp -implicitDefEqProofs only[EP PJ_ HJ,wrap_u8,ZO (k:= .u32) (by decide),Fq_ (k:= .u32) (by decide),GY_ (k:= .u32) (by decide)]
 have hb1:s1.lim≤s1.next:=x1.bnd hbd
 refine W.buildS hb1 (r:=u8l (le4 S)) Px (by decide) rfl (Cp (by decide)) fun s2 n2 x2 r2=> ?_
 have hb2:s2.lim≤s2.next:=x2.bnd hb1
 obtain⟨b,o,c,rfl,hv⟩:=hc
 refine W.buildS hb2 (r:=[.slice (some ⟨b,o,none⟩) l.length c, .slice (some ⟨s1.next,0,none⟩) 4 4]) KK_ (by decide) rfl (Cp (by decide)) fun s3 n3 x3 r3=> ?_
 have hb3:s3.lim≤s3.next:=x3.bnd hb2
 have hx1:Ext (BsF (.slice (some ⟨b,o,none⟩) l.length c)) Non (s.cxN cxN) s1:=x1
 have hx2:=hx1.step x2 hbd (fun _ _ h=>h.elim) fun _ h=>h.elim
 have hx3:=hx2.step x3 hbd (fun _ _ h=>h.elim) fun _ h=>h.elim
 have hBv:Bs s3 (.slice (some ⟨b,o,none⟩) l.length c) l:=(Bn.bs ⟨b,o,c,rfl,hv⟩).ext0 hx3
 have hB4:Bs s3 (.slice (some ⟨s1.next,0,none⟩) 4 4) (le4 S):=(Bc.bn r2 (Cp (by simp[le4]))).ext0 x3
 have hlt:tot [((.slice (some ⟨b,o,none⟩) l.length c:Value),l),(.slice (some ⟨s1.next,0,none⟩) 4 4,le4 S)]=l.length+4:=by simp[tot,le4]
 refine Fo_ (parts:=[(.slice (some ⟨b,o,none⟩) l.length c,l),(.slice (some ⟨s1.next,0,none⟩) 4 4,le4 S)]) hb3 ⟨r3.row,fun p hp=> ?_⟩ (by rw[hlt];omega) (by rw[hlt];omega) (by simp) (by simp;omega) fun s4 w nb x4 hw hnb=> ?_
 ·rcases List.mem_cons.1 hp with rfl|hp
  ·exact hBv
  ·rcases List.mem_cons.1 hp with rfl|hp
   ·exact hB4
   ·cases hp
 have hx4:=hx3.step x4 hbd (fun x hx h=>by
  have hn1:s.next≤s1.next:=x1.nxt
  have hn2:s1.next≤s2.next:=x2.nxt
  have hxl:x<s.lim:=hx
  rcases h with h|⟨p,hp,h⟩
  ·have:=h.1;omega
  ·rcases List.mem_cons.1 hp with rfl|hp
   ·exact h
   ·rcases List.mem_cons.1 hp with rfl|hp
    ·have:s1.next+0≤x:=h.1
     omega
    ·cases hp) fun _ h=>h.elim
 refine W.end' (rs:=[2]) (vs:=[w]) OZ_ (.inl QY_) (by omega) VT AgC_ hx4.cx (by simp[T.get_set]) ?_
 refine q _ _ nb hx4.cx' ?_ (Nat.le_trans hx3.nxt hnb)
 have:=hw.same (s':=s4.cxN s.cx) rfl rfl
 show MkG (s4.cxN s.cx) w (gput l) nb
 unfold gput
 rw[hS]
 simpa [fl]using this
theorem Xp_ (l:List Nat):(gput l).length=l.length+4:=by simp[gput,le4]
theorem Um_ {n:Nat}{s:St}{v:Value}{l:List Nat}{Q:Value→St→Prop}(hbd:s.lim≤s.next)(hn:120≤n)(h:Bn s v l)(hl:Byt l)(hz:l.length≤900000)
  (q: ∀s1 w,Ext (BsF v) Non s s1→New s s1 w (gput l)→Q w s1):W (Ay envS (runF envS n) 53 [v]) s Q:=
 Zw hbd hn h hl hz fun s1 w nb x1 hw hb=>q s1 w x1 (hw.new (by rw[Xp_];omega) hb)
section
variable {va vb:Value}{la lb:List Nat}
theorem SP_ {F:Nat→Prop}(hFa: ∀x,BsF va x→F x)(hFb: ∀x,BsF vb x→F x){Q:Value×FrameMode→St→Prop}{s0:St}(hb0:s0.lim≤s0.next)(ha:Bs s0 va la)(hb:Bs s0 vb lb)(hlen:la.length=lb.length)(hz:la.length≤4611686018427387904)(hcx:s0.cx= .cx none (some []))(q: ∀s1,Ext F Non s0 s1→s1.mem=s0.mem→s1.next=s0.next→Q (.bool (decide (la=lb)), .run) s1):
  ∀(k i n:Nat) (tm:T Value) (s:St) (td:List Item),i+k=la.length→7*k+20≤n→skim 64 td=Gf→Ext F Non s0 s→s.mem=s0.mem→s.next=s0.next→la.take i=lb.take i→
  T.get tm 0=some va→T.get tm 1=some vb→T.get tm 12=some (.int .i64 (la.length:Nat))→T.get tm 13=some (.int .i64 (i:Nat))→
  W (runF envS n ⟨52,LG_,CI,tm,td, .run, .normal,none⟩) s Q:=by
 intro k
 induction k with
 |zero=>
  intro i n tm s td hi hn hT hx hm hnx heq h0 h1 h12 h13
  refine Zs.w hT (by omega) ?_
  simp -implicitDefEqProofs only[Tn,Ac,W_oS,Aa,Ab,Bk,h12,h13]
  refine W.cond (v:=false) AX_ Dm_ (by simp[T.get_set];omega) (by omega) (fun h=>by cases h) fun _=> ?_
  refine Ql_.w ZM_ (by omega) ?_
  simp -implicitDefEqProofs only[Wc,Aa,W_mv,Ab]
  have e:la=lb:=by
   rw[show i=la.length by omega,List.take_length,hlen,List.take_length]at heq
   exact heq
  refine W.end' (rs:=[4]) (vs:=[.bool true]) JS_ (.inl Pw_) (by omega) JW QS (hx.cx.trans hcx) (by simp[T.get_set]) ?_
  have:=q s hx hm hnx
  rw[decide_eq_true e]at this
  exact this
 |succ k ih=>
  intro i n tm s td hi hn hT hx hm hnx heq h0 h1 h12 h13
  have hia:i<la.length:=by omega
  have hib:i<lb.length:=by omega
  obtain⟨ba,oa,ca,rfl,ga,fa⟩:=ha.at hia
  obtain⟨bb,ob,cb,rfl,gb,fb⟩:=hb.at hib
  refine Zs.w hT (by omega) ?_
  simp -implicitDefEqProofs only[Tn,Ac,W_oS,Aa,Ab,Bk,h12,h13]
  refine W.cond (v:=true) AX_ Dm_ (by simp[T.get_set];omega) (by omega) (fun _=> ?_) fun h=>by cases h
  refine TV_.w XT_ (by omega) ?_
  simp -implicitDefEqProofs only[DU_,Aa,W_mv,Ab,T.get_set,reduceIte,Nat.reduceEqDiff, ↓reduceIte,h13]
  refine Vs_.w NR_ (by omega) ?_
  simp -implicitDefEqProofs only[EJ_,T.get_set,Nat.reduceEqDiff, ↓reduceIte,h0,h1,AY,B9]
  rw[W_dq fun s Q=>C7 (s:=s) BQ hia Q]
  refine W.dload Yx (ga.same hm hnx) fun rd1 hr1=> ?_
  simp -implicitDefEqProofs only[B9]
  rw[W_dq fun s Q=>C7 (s:=s) BQ hib Q]
  refine W.dload Yx (gb.same hm hnx) fun rd2 hr2=> ?_
  rw[Aa]
  refine⟨Ed (by simp) (by simp), ?_⟩
  refine W.cast (KM_ _ _ _ _ _ _ _ _ _ _ _ _ _) ?_
  simp -implicitDefEqProofs only[Ac,W_oS,Aa,Ap,Rc]
  generalize hs':(⟨(dSt s.mem s.next).mem,(dSt s.mem s.next).next,s.lim,_,_,s.cx⟩:St)=s'
  have hx':Ext F Non s0 s':=by
   rw[←hs']
   refine hx.trans (Ext.draw (F:=F) (Nat.le_refl _) (fun _ _=>rfl) (by simp) (by
    simp -implicitDefEqProofs only[List.mem_cons,List.not_mem_nil,or_false]
    rintro m (rfl|rfl|rfl|rfl|rfl|rfl|rfl|rfl) x hx _<;>first|(exact hFa _ (fa _ (hr1 _ hx)))|(exact hFb _ (fb _ (hr2 _ hx)))|(cases hx))) hb0 (fun _ _ h=>h) fun _ _ h=>h
  have hm':s'.mem=s0.mem:=by rw[←hs'];exact hm
  have hn':s'.next=s0.next:=by rw[←hs'];exact hnx
  by_cases he:la[i]=lb[i]
  ·refine W.cond (v:=false) EU_ WV (by simp[T.get_set,he]) (by omega) (fun h=>by cases h) fun _=> ?_
   refine YK_.w Abb_ (by omega) ?_
   have ei:wrap64 ((i:Nat)+1:Int)=((i+1:Nat):Int):=by
    rw[BZ (by omega) (by omega)];simp
   simp -implicitDefEqProofs only[WC,Ac,W_oS,Aa,W_mv,Ab,T.get_set,reduceIte,Nat.reduceEqDiff, ↓reduceIte,BB,h13,ei]
   refine ih (i+1) _ _ _ _ (by omega) (by omega) Nc_ hx' hm' hn' ?_ (by simp[T.get_set,h0]) (by simp[T.get_set,h1]) (by simp[T.get_set,h12]) (by simp[T.get_set])
   rw[List.take_add_one,List.take_add_one,heq,List.getElem?_eq_getElem hia,List.getElem?_eq_getElem hib,he]
  ·refine W.cond (v:=true) EU_ WV (by simp[T.get_set,he]) (by omega) (fun _=> ?_) fun h=>by cases h
   refine Mb_.w AfR_ (by omega) ?_
   simp -implicitDefEqProofs only[Hg_,Aa,W_mv,Ab]
   have e:la≠lb:=by
    intro e
    subst e
    exact he rfl
   refine W.end' (rs:=[4]) (vs:=[.bool false]) LZ_ (.inl OF_) (by omega) JW QS (hx'.cx.trans hcx) (by simp[T.get_set]) ?_
   have:=q s' hx' hm' hn'
   rw[decide_eq_false e]at this
   exact this
theorem HM_ {n:Nat}{s:St}{Q:Value→St→Prop}(hbd:s.lim≤s.next)(ha:Bs s va la)(hb:Bs s vb lb)(hz:la.length≤4611686018427387904)(hn:7*la.length+40≤n)
  (q: ∀s1,Ext (fun x=>BsF va x∨BsF vb x) Non s s1→s1.mem=s.mem→s1.next=s.next→Q (.bool (decide (la=lb))) s1):W (Ay envS (runF envS n) 52 [va,vb]) s Q:=by
 refine AaF_ fun tm h0 h1=> ?_
 have ha':Bs (s.cxN cxN) va la:=ha.same rfl rfl
 have hb':Bs (s.cxN cxN) vb lb:=hb.same rfl rfl
 refine Vg_.w rfl (by omega) ?_
 simp -implicitDefEqProofs only[Gs_,Aa,W_mv,Ab]
 refine Me_.w Agd_ (by omega) ?_
 simp -implicitDefEqProofs only[Yo,Ac,W_oS,Aa,W_mv,Ab,T.get_set,Ag,Af,Ae,reduceIte,Nat.reduceEqDiff,reduceCtorEq, ↓reduceIte,Bt,h0,h1,ha'.len BQ,hb'.len BQ]
 by_cases hlen:la.length=lb.length
 ·refine W.cond (v:=false) Xr YH (by simp[T.get_set,hlen]) (by omega) (fun h=>by cases h) fun _=> ?_
  refine VZ_.w ZZ_ (by omega) ?_
  simp -implicitDefEqProofs only[Go_,Ac,W_oS,Aa,W_mv,Ab,T.get_set,Ag,Af,Ae,reduceIte,reduceCtorEq, ↓reduceIte,h0,ha'.len BQ]
  exact SP_ (s0:=s.cxN cxN) (F:=fun x=>BsF va x∨BsF vb x) (fun _ h=> .inl h) (fun _ h=> .inr h) hbd ha' hb' hlen hz rfl (fun s1 x1 m1 n1=>q _ x1.cx' m1 n1) la.length 0 _ _ _ _ (by omega) (by omega) Tj_ (Ext.refl _) rfl rfl (by simp) (by simp[T.get_set,h0]) (by simp[T.get_set,h1]) (by simp[T.get_set]) (by simp[T.get_set])
 ·refine W.cond (v:=true) Xr YH (by simp[T.get_set];omega) (by omega) (fun _=> ?_) fun h=>by cases h
  refine Qj_.w Ja_ (by omega) ?_
  simp -implicitDefEqProofs only[Cm_,Aa,W_mv,Ab]
  have e:la≠lb:=fun e=>hlen (by rw[e])
  refine W.end' (rs:=[4]) (vs:=[.bool false]) Aal_ (.inl XC_) (by omega) JW QS rfl (by simp[T.get_set]) ?_
  have:=q _ (Ext.refl s) rfl rfl
  rw[decide_eq_false e]at this
  exact this
end
theorem Fresh1.toNew {s s':St}{v:Value}{b:Nat}{l:List Nat}(h:Fresh1 s s' 1 l.length (u8l l) v b)(hl:l.length<capU):New s s' v l:=by
 obtain⟨rfl,hnew,hown,_,_,_⟩:=h
 refine⟨⟨b,0,_,rfl,by rw[Mo hl];exact Nat.le_refl _,If hl (by decide),hown.row⟩,fun x hx=> ?_⟩
 have:b+0≤x:=hx.1
 omega
theorem Afq_ {n:Nat}{s:St}{v:Value}{l:List Nat}{Q:Value→St→Prop}(hbd:s.lim≤s.next)(h:Bn s v l)(hz:l.length≤1000000)(hn:30≤n)
  (q: ∀s1 w,Ext (BsF v) Non s s1→New s s1 w l→(0<l.length→ ∃nb,MkG s1 w l nb∧s.next≤nb)→Q w s1):W (Ay envS (runF envS n) 54 [v]) s Q:=by
 refine AaP_ fun tm h0=> ?_
 have hc:Bn (s.cxN cxN) v l:=h.same rfl rfl
 refine Adl_.w rfl (by omega) ?_
 simp -implicitDefEqProofs only[W3,Aa,W_mv,Ab]
 refine Vo_.w JW_ (by omega) ?_
 obtain⟨b,o,c,rfl,hv⟩:=hc
 simp -implicitDefEqProofs only[CY_,Ac,W_oS,Aa,W_mv,Ab,T.get_set,reduceIte,reduceCtorEq, ↓reduceIte,h0,AfL_ BQ]
 refine W.cond (v:=false) QS_ Yy_ (by simp[T.get_set]) (by omega) (fun h=>by cases h) fun _=> ?_
 refine Kx_.w AbA_ (by omega) ?_
 simp -implicitDefEqProofs only[Vi,Ac,W_oS,Aa,W_mv,Ab,T.get_set,Ag,Af,Aq,Ae,reduceIte,reduceCtorEq, ↓reduceIte,h0]
 refine W.buildS (s:=s.cxN cxN) hbd (r:=[]) Px (by decide) rfl (Cp (by decide)) fun s1 n1 x1 r1=> ?_
 have hb1:s1.lim≤s1.next:=x1.bnd hbd
 have hx1:Ext (BsF (.slice (some ⟨b,o,none⟩) l.length c)) Non (s.cxN cxN) s1:=x1.weak hbd (fun _ _ h=>h.elim) fun _ _ h=>h
 have hv1:Bs s1 (.slice (some ⟨b,o,none⟩) l.length c) l:=(Bn.bs ⟨b,o,c,rfl,hv⟩).ext0 hx1
 rw[IM]
 by_cases hl:0<l.length
 ·refine W.appEmpT hb1 Js hv1.src.g hl (by decide) (by decide) (by omega) (by rw[Cn,Nat.mul_one]) (H2 _) fun s2 w nb hf hT x2=> ?_
  have hx2:=hx1.step x2 hbd (fun _ _ h=>h) fun _ h=>h.elim
  refine W.end' (rs:=[2]) (vs:=[w]) YT (.inl FT_) (by omega) PS ZI hx2.cx (by simp[T.get_set]) ?_
  have hN:=hf.toNew (Cp (by omega))
  have h2:s.next≤s1.next:=hx1.nxt
  refine q _ _ hx2.cx' ⟨hN.bn.same rfl rfl,fun x hx=> ?_⟩ fun _=>⟨nb,⟨?_,fun i u e=>(hf.own i u e).same rfl rfl,by rw[Nat.mul_one]at hT;exact hT,by have:=hf.lt;rw[Nat.mul_one]at this;exact this⟩,Nat.le_trans h2 hf.new⟩
  ·have h1:=hN.new x hx
   omega
  ·have:=hf.val
   rw[Nat.mul_one]at this
   exact this
 ·have h0l:l=[]:=List.eq_nil_of_length_eq_zero (by omega)
  subst h0l
  refine W.appIn (s:=s1) (n:=0) (len:=0) (c:=0) (l:=[]) Js hv1.src.g (by simp) rfl rfl (fun i hi=>absurd hi (by omega)) fun s2 n2 x2 r2=> ?_
  have hx2:=hx1.step x2 hbd (fun _ _ h=>by
   rcases h with h|h
   ·exact h
   ·have h3:=h.1;have h4:=h.2;omega) fun l h=>by have h3:=h.1;have h4:=h.2;omega
  refine W.end' (rs:=[2]) (vs:=[.slice (some ⟨s.next,0,none⟩) (0+0) 0]) YT (.inl FT_) (by omega) PS ZI hx2.cx (by simp[T.get_set];rfl) ?_
  refine q _ _ hx2.cx' ⟨⟨s.next,0,0,rfl,by simp,RE (by unfold capU;decide),fun i v e=>by simp at e⟩,fun x hx=> ?_⟩ fun h=>absurd h hl
  have h3:s.next+0≤x:=hx.1
  have h4:x<s.next+0+(0+0):=hx.2
  omega
theorem W.cut {E:Env}{t:Nat}{s:St}{v:Value}{l:List Nat}{i j:Nat}{lo hi:Option Value}{Q:Value→St→Prop}(h:Bn s v l)(ht:slN E t=some 1)(hlo:bndV lo 0=some i)(hhi:bndV hi l.length=some j)(hij:i≤j)(hj:j≤l.length)
  (q: ∀v',Bn s v' ((l.take j).drop i)→(∀x,BsF v' x→BsF v x)→Q v' s):W (B5 E t v lo hi) s Q:=by
 obtain⟨b,o,c,rfl,h1,h2,h3⟩:=h
 rw[AN_ ht hlo hhi hij (by omega) h2]
 obtain⟨o',e1,e2,e3,e4,e5⟩:=Bs.sub' hij hj h1 h2 h3
 rw[e1]
 refine q _ ⟨b,o',c-i,rfl,e2,e3,e4⟩ fun x hx=> ?_
 have hlen:((l.take j).drop i).length=j-i:=by rw[List.length_drop,List.length_take];omega
 have h6:b+o'≤x:=hx.1
 have h7:x<b+o'+((l.take j).drop i).length:=hx.2
 rw[hlen]at h7
 rcases e5 with rfl|e5
 ·exact⟨by omega,by omega⟩
 ·rw[hlen]at e5;omega
def GOk (l:List Nat):Prop:=4≤l.length∧gput (l.take (l.length-4))=l
instance (l:List Nat):Decidable (GOk l):=by unfold GOk;infer_instance
theorem Lc (l:List Nat):(gput l).length=l.length+4:=by simp[gput,le4]
theorem Us {n:Nat}{s:St}{v:Value}{l:List Nat}{Q:Value→St→Prop}(hbd:s.lim≤s.next)(h:Bn s v l)(hb:Byt l)(hz:l.length≤900000)(hn:7*l.length+200≤n)
  (q1:GOk l→ ∀s1 w,Ext (BsF v) Non s s1→New s s1 w (l.take (l.length-4))→(4<l.length→ ∃nb,MkG s1 w (l.take (l.length-4)) nb∧s.next≤nb)→Q (.tuple #[w, .int .i64 0]) s1) (q2: ¬GOk l→ ∀s1,Ext (BsF v) Non s s1→Q (.tuple #[.slice none 0 0, .int .i64 4]) s1):W (Ay envS (runF envS n) 22 [v]) s Q:=by
 refine RK_ fun tm h0=> ?_
 have hc:Bn (s.cxN cxN) v l:=h.same rfl rfl
 refine AeV_.w rfl (by omega) ?_
 simp -implicitDefEqProofs only[Es_,Aa,W_mv,Ab]
 refine Vk_.w Td_ (by omega) ?_
 simp -implicitDefEqProofs only[Z6,Ac,W_oS,Aa,W_mv,Ab,T.get_set,Ag,Af,Ae,reduceIte,reduceCtorEq, ↓reduceIte,Cc,h0,hc.bs.len BQ]
 refine AfD_.w Lq_ (by omega) ?_
 by_cases h4:4≤l.length
 ·have ek:wrap64 ((l.length:Nat)-4:Int)=((l.length-4:Nat):Int):=by
   rw[BZ (by omega) (by omega)];omega
  have ed:decide (((l.length-4:Nat):Int)<0)=false:=by simp
  simp -implicitDefEqProofs only[SI,Ac,W_oS,W_on,Aa,W_mv,Ab,T.get_set,Ag,Af,Ae,Ah,reduceIte,Ak,Ao,Aj,An,Al,reduceCtorEq, ↓reduceIte,Bk,h0,ek,ed]
  have hcut:(l.take (l.length-4)).drop 0=l.take (l.length-4):=rfl
  refine W.cut hc BQ (i:=0) (j:=l.length-4) rfl rfl (Nat.zero_le _) (by omega) fun v1 hv1 hF1=> ?_
  rw[hcut]at hv1
  have hB1:Byt (l.take (l.length-4)):=fun x hx=>hb x (List.mem_of_mem_take hx)
  have hl1:(l.take (l.length-4)).length=l.length-4:=by rw[List.length_take];omega
  refine Um_ (s:=s.cxN cxN) hbd (by omega) hv1 hB1 (by omega) fun s1 w1 x1 hw1=> ?_
  have hb1:s1.lim≤s1.next:=x1.bnd hbd
  have hx1:Ext (BsF v) Non (s.cxN cxN) s1:=x1.weak hbd (fun x _ hx=>hF1 x hx) fun _ _ h=>h
  refine HM_ hb1 hw1.bn.bs (hc.ext0 hx1).bs (by rw[Lc];omega) (by rw[Lc];omega) fun s2 x2 m2 n2=> ?_
  have hx2:Ext (BsF v) Non (s.cxN cxN) s2:=hx1.step x2 hbd (fun x hx h=>by
   rcases h with h|h
   ·have h5:s.next≤x:=hw1.new x h
    have h6:x<s.lim:=hx
    omega
   ·exact h) fun _ h=>h.elim
  have hb2:s2.lim≤s2.next:=hx2.bnd hbd
  simp -implicitDefEqProofs only[CM]
  by_cases hg:gput (l.take (l.length-4))=l
  ·refine W.cond (v:=false) PE Te (by simp[T.get_set,hg]) (by omega) (fun h=>by cases h) fun _=> ?_
   refine Aar_.w SG_ (by omega) ?_
   simp -implicitDefEqProofs only[EN_,Ac,W_on,Aa,W_mv,Ab,T.get_set,Ag,Af,Ae,Ah,reduceIte,Nat.reduceEqDiff,reduceCtorEq, ↓reduceIte,h0]
   refine W.cut (hc.ext0 hx2) BQ (i:=0) (j:=l.length-4) rfl rfl (Nat.zero_le _) (by omega) fun v3 hv3 hF3=> ?_
   rw[hcut]at hv3
   refine Afq_ hb2 hv3 (by omega) (by omega) fun s3 w x3 hw3 hm3=> ?_
   have hx3:Ext (BsF v) Non (s.cxN cxN) s3:=hx2.step x3 hbd (fun x _ hx=>hF3 x hx) fun _ h=>h.elim
   refine W.end' (rs:=[2,3]) (vs:=[w, .int .i64 0]) WO_ (.inl PI_) (by omega) KK Um hx3.cx (by simp[T.get_set]) ?_
   have h6:s.next≤s2.next:=hx2.nxt
   refine q1 ⟨h4,hg⟩ _ w hx3.cx' ⟨hw3.bn.same rfl rfl,fun x hx=> ?_⟩ fun h=> ?_
   ·have h5:=hw3.new x hx
    omega
   ·obtain⟨nb,g1,g2⟩:=hm3 (by rw[hl1];omega)
    exact⟨nb,g1.same rfl rfl,Nat.le_trans h6 g2⟩
  ·refine W.cond (v:=true) PE Te (by simp[T.get_set,hg]) (by omega) (fun _=> ?_) fun h=>by cases h
   refine Ge_.w Bs_ (by omega) ?_
   simp -implicitDefEqProofs only[T2,Aa,W_mv,Ab]
   refine W.end' (rs:=[2,3]) (vs:=[.slice none 0 0, .int .i64 4]) Bz_ (.inl Ga_) (by omega) KK Um hx2.cx (by simp[T.get_set]) ?_
   exact q2 (fun h=>hg h.2) _ hx2.cx'
 ·have ed:decide (wrap64 ((l.length:Nat)-4:Int)<0)=true:=by
   rw[BZ (by omega) (by omega)];simp;omega
  simp -implicitDefEqProofs only[SI,Ac,W_oS,W_on,Aa,W_mv,Ab,T.get_set,Ag,Af,Ae,reduceIte,Ak,Av,Aj,Au,Al,reduceCtorEq, ↓reduceIte,Bk,h0,ed]
  refine W.cond (v:=true) PE Te (by simp[T.get_set]) (by omega) (fun _=> ?_) fun h=>by cases h
  refine Ge_.w Bs_ (by omega) ?_
  simp -implicitDefEqProofs only[T2,Aa,W_mv,Ab]
  refine W.end' (rs:=[2,3]) (vs:=[.slice none 0 0, .int .i64 4]) Bz_ (.inl Ga_) (by omega) KK Um rfl (by simp[T.get_set]) ?_
  exact q2 (fun h=>h4 h.1) _ (Ext.refl s)
def recJ (r:Nat×Nat):List Nat:=gput [r.1,0,0,0,r.2]
def A7 (l:List (Nat×Nat)):List Nat:=(l.map recJ).flatten
def CO (r:Nat×Nat):Prop:=1≤r.1∧r.1≤2∧r.2<256
theorem Cx (r:Nat×Nat):(recJ r).length=9:=by unfold recJ;rw[Lc];rfl
theorem IE: ∀l:List (Nat×Nat),(A7 l).length=9*l.length
 |[]=>rfl
 |r::l=>by
  show(recJ r++A7 l).length=9*(l.length+1)
  rw[List.length_append,Cx,IE l]
  omega
theorem KD_ (a b:List (Nat×Nat)):A7 (a++b)=A7 a++A7 b:=by simp[A7]
theorem CG_ (r:Nat×Nat):A7 [r]=recJ r:=by simp[A7]
theorem P0 {r:Nat×Nat}(h:CO r):Byt (recJ r):=Byt.gput fun x hx=>by
 obtain⟨_,h2,h3⟩:=h
 simp only[List.mem_cons,List.not_mem_nil,or_false]at hx
 omega
theorem BX_ (l:List Nat):(gput l).take ((gput l).length-4)=l:=by
 rw[Lc,Nat.add_sub_cancel]
 exact List.take_left
theorem Pv (r:Nat×Nat):GOk (recJ r):=⟨by rw[Cx];decide,by unfold recJ;rw[BX_]⟩
theorem Q3 (r:Nat×Nat):(recJ r).take ((recJ r).length-4)=[r.1,0,0,0,r.2]:=BX_ _
theorem Az_ {r:Nat×Nat}{l:List (Nat×Nat)}{t:List Nat}:(A7 (r::l)++t).take 9=recJ r:=by
 show((recJ r++A7 l)++t).take 9=_
 rw[List.append_assoc]
 exact List.take_left' (Cx r)
theorem Zx {r:Nat×Nat}{l:List (Nat×Nat)}{t:List Nat}:(A7 (r::l)++t).drop 9=A7 l++t:=by
 show((recJ r++A7 l)++t).drop 9=_
 rw[List.append_assoc]
 exact List.drop_left' (Cx r)
def maxJ (k:Nat)(m:Nat):List (Nat×Nat)→Nat
 |[]=>m
 |r::l=>maxJ k (if r.1=k then max m r.2 else m) l
theorem JZ {k:Nat}: ∀{l:List (Nat×Nat)} {m:Nat},(∀r∈l,CO r)→m<256→maxJ k m l<256
 |[],_,_,h=>h
 |r::l,m,h,hm=>JZ (l:=l) (fun r' hr=>h r' (by simp[hr])) (by
  have h1:=(h r (by simp)).2.2
  split<;>omega)
def BO:List Bool→Nat→Nat→List (Nat×Nat)
 |[],_,_=>[]
 |true::l,s,c=>(1,s+1)::BO l (s+1) c
 |false::l,s,c=>(2,c+1)::BO l s (c+1)
def nSes (l:List Bool):Nat:=(l.filter fun b=>b).length
def nCom (l:List Bool):Nat:=(l.filter fun b=> !b).length
theorem nSum (l:List Bool):nSes l+nCom l=l.length:=by
 induction l with
 |nil=>rfl
 |cons b l ih=>cases b<;>simp[nSes,nCom]at ih ⊢ <;>omega
theorem PQ: ∀(l:List Bool) (s c:Nat),maxJ 1 s (BO l s c)=s+nSes l
 |[],s,c=>rfl
 |true::l,s,c=>by
  show maxJ 1 (max s (s+1)) (BO l (s+1) c)=s+nSes (true::l)
  rw[Nat.max_eq_right (by omega),PQ l (s+1) c]
  simp[nSes]
  omega
 |false::l,s,c=>by
  show maxJ 1 s (BO l s (c+1))=s+nSes (false::l)
  rw[PQ l s (c+1)]
  simp[nSes]
theorem Sz: ∀(l:List Bool) (s c:Nat),maxJ 2 c (BO l s c)=c+nCom l
 |[],s,c=>rfl
 |false::l,s,c=>by
  show maxJ 2 (max c (c+1)) (BO l s (c+1))=c+nCom (false::l)
  rw[Nat.max_eq_right (by omega),Sz l s (c+1)]
  simp[nCom]
  omega
 |true::l,s,c=>by
  show maxJ 2 c (BO l (s+1) c)=c+nCom (true::l)
  rw[Sz l (s+1) c]
  simp[nCom]
theorem TR: ∀{l:List Bool} {s c:Nat},s+l.length<256→c+l.length<256→ ∀r∈BO l s c,CO r
 |[],_,_,_,_=>fun r hr=>by cases hr
 |true::l,s,c,h1,h2=>fun r hr=>by
  rw[List.length_cons]at h1 h2
  rcases List.mem_cons.1 (show r∈(1,s+1)::BO l (s+1) c from hr)with rfl|hr
  ·exact⟨by simp,by simp,by show s+1<256;omega⟩
  ·exact TR (by omega) (by omega) r hr
 |false::l,s,c,h1,h2=>fun r hr=>by
  rw[List.length_cons]at h1 h2
  rcases List.mem_cons.1 (show r∈(2,c+1)::BO l s (c+1)from hr)with rfl|hr
  ·exact⟨by simp,by simp,by show c+1<256;omega⟩
  ·exact TR (by omega) (by omega) r hr
theorem Rs: ∀(l:List Bool) (s c:Nat),(BO l s c).length=l.length
 |[],_,_=>rfl
 |true::l,s,c=>by show(BO l (s+1) c).length+1=_;rw[Rs];rfl
 |false::l,s,c=>by show(BO l s (c+1)).length+1=_;rw[Rs];rfl
def CD (s c:Nat)(l:List Bool):List (Nat×Nat):=(1,s)::(2,c)::BO l s c
theorem UZ (s c:Nat)(l:List Bool):(CD s c l).length=l.length+2:=by show(BO l s c).length+2=_;rw[Rs]
theorem Aci_ {s c:Nat}{l:List Bool}(h1:s+l.length<256)(h2:c+l.length<256): ∀r∈CD s c l,CO r:=fun r hr=>by
 rcases List.mem_cons.1 (show r∈(1,s)::(2,c)::BO l s c from hr)with rfl|hr
 ·exact⟨by simp,by simp,by show s<256;omega⟩
 ·rcases List.mem_cons.1 hr with rfl|hr
  ·exact⟨by simp,by simp,by show c<256;omega⟩
  ·exact TR h1 h2 r hr
theorem Aeg_ (s c:Nat)(l:List Bool):maxJ 1 0 (CD s c l)=s+nSes l:=by
 show maxJ 1 (max 0 s) (BO l s c)=_
 rw[Nat.max_eq_right (Nat.zero_le _)]
 exact PQ l s c
theorem Tt_ (s c:Nat)(l:List Bool):maxJ 2 0 (CD s c l)=c+nCom l:=by
 show maxJ 2 (max 0 c) (BO l s c)=_
 rw[Nat.max_eq_right (Nat.zero_le _)]
 exact Sz l s c
end Go.Proofs.YtndednnianphoaaGreatDoor.Am
