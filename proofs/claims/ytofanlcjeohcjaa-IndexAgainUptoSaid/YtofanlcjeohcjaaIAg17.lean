import Derived.Test.YtofanlcjeohcjaaIAg16
import Derived.Test.YtofanlcjeohcjaaIAg07
namespace Go.Proofs.Ytofanlcjeohcjaa.Am
open Go.RowKit
def BM (a:Int):Int:=if a<1∨1024<a then 0 else a+26
theorem FH {n:Nat}{s:St}{Q:Value→St→Prop}(a:Int)(hn:20≤n)(q:Q (.int .i64 (BM a)) s):W (AJ envS (runF envS n) 20 [.int .i64 a]) s Q:=by
 refine RF_ fun tm h0=> ?_
 refine Qs_.w rfl (by omega) ?_
 simp -implicitDefEqProofs only[DA_,Aa,W_mv,Ab]
 refine Lc_.w Ij_ (by omega) ?_
 simp -implicitDefEqProofs only[W0,Ac,W_oS,W_on,Aa,W_mv,Ab,T.get_set,reduceIte,Ah,Aq,Aj,reduceCtorEq, ↓reduceIte,AC,h0]
 by_cases h1:a<1
 ·rw[decide_eq_true h1]
  simp -implicitDefEqProofs only[Aa,reduceIte,As,Aw, ↓reduceIte]
  refine W.cond (v:=true) Ry RN (by simp[T.get_set]) (by omega) (fun _=> ?_) fun h=>by cases h
  refine Yr.w Xo (by omega) ?_
  simp -implicitDefEqProofs only[SL,Aa,W_mv,Ab]
  refine W.end' (rs:=[2]) (vs:=[.int .i64 0]) BR_ (.inl U8) (by omega) Lu RX rfl (by simp[T.get_set]) ?_
  have e:BM a=0:=if_pos (.inl h1)
  rw[e]at q
  exact q
 ·rw[decide_eq_false h1]
  simp -implicitDefEqProofs only[W_oS,Aa,reduceIte,Ak,Ar,reduceCtorEq, ↓reduceIte,AK]
  by_cases h2:1024<a
  ·refine W.cond (v:=true) Ry RN (by simp[T.get_set,h2]) (by omega) (fun _=> ?_) fun h=>by cases h
   refine Yr.w Xo (by omega) ?_
   simp -implicitDefEqProofs only[SL,Aa,W_mv,Ab]
   refine W.end' (rs:=[2]) (vs:=[.int .i64 0]) BR_ (.inl U8) (by omega) Lu RX rfl (by simp[T.get_set]) ?_
   have e:BM a=0:=if_pos (.inr h2)
   rw[e]at q
   exact q
  ·refine W.cond (v:=false) Ry RN (by simp[T.get_set,h2]) (by omega) (fun h=>by cases h) fun _=> ?_
   refine Ua_.w Adn_ (by omega) ?_
   have ea:wrap64 (a+26)=a+26:=Bq (by omega) (by omega)
   simp -implicitDefEqProofs only[Wp,Ac,W_oS,Aa,W_mv,Ab,T.get_set,reduceIte,reduceCtorEq, ↓reduceIte,AD,h0,ea]
   refine W.end' (rs:=[2]) (vs:=[.int .i64 (a+26)]) Vw_ (.inl AcA_) (by omega) Lu RX rfl (by simp[T.get_set]) ?_
   have e:BM a=a+26:=if_neg fun h=>h.elim h1 h2
   rw[e]at q
   exact q
theorem Act_ (m:Nat)(hm:m≤255):Nat.xor 255 m=255-m:=by
 have h: ∀m:Fin 256,Nat.xor 255 m.val=255-m.val:=by decide+kernel
 exact h ⟨m,by omega⟩
theorem MG_ (P:Program)(m:Nat)(hm:m≤255)(s:St):kUn P .xor (.int .u8 (m:Nat)) s= .some (.int .u8 (255-m:Nat)) s:=by
 show Option.rec (motive:=fun _=>M Value) (CX P .xor (.int .u8 (.ofNat m))) (fun x=>M.pure x) (notK .u8 m) s=_
 have:notK .u8 m=some (.int .u8 (255-m:Nat)):=by
  unfold notK
  show sOpt true (fitI .u8 (Nat.xor 255 m))=_
  rw[Act_ m hm]
  unfold fitI
  rw[Nat.ble_eq_true_of_le (show 255-m≤mxOf .u8 from Nat.sub_le _ _)]
  show mkI .u8 (255-m)=_
  unfold mkI
  rw[Bc]
  rfl
 rw[this]
 rfl
theorem Og {P:Program}{m:Nat}{s:St}(hm:m≤255)(Q:Value→St→Prop):W (kUn P .xor (.int .u8 (m:Nat))) s Q=Q (.int .u8 (255-m:Nat)) s:=BB (MG_ P m hm s)
theorem YY_:arrN envS 89=some (6,1):=by kernel_rfl
theorem Rb:tyS envS 89=some (6,true):=by kernel_rfl
theorem Hr_:Dd envS 89=some (List.replicate 6 (.int .u8 0)):=by kernel_rfl
theorem PS_ (a b c d e f:Nat):Do envS 89 [(0, .int .u8 (a:Nat)),(1, .int .u8 (b:Nat)),(2, .int .u8 (c:Nat)),(3, .int .u8 (d:Nat)),(4, .int .u8 (e:Nat)),(5, .int .u8 (f:Nat))]=some (u8l [a,b,c,d,e,f]):=by kernel_rfl
def DP (n:Nat):List Nat:=[n>>>8%256,n%256,255-n>>>8%256,255-n%256]
def G2 (n:Nat):List Nat:=[n>>>8%256,n%256,255-n>>>8%256,255-n%256,CW 0 (DP n)%256,CW 0 (DP n)>>>8%256]
theorem AeK_ (n:Nat):Byt (DP n):=fun x hx=>by
 simp -implicitDefEqProofs only[DP,List.mem_cons,List.not_mem_nil,or_false]at hx
 omega
theorem Mo_ {k n:Nat}{s:St}{Q:Value→St→Prop}(hbd:s.lim≤s.next)(hn:40≤n)(q: ∀s1,Ext Non Non s s1→Q (.agg (u8l (G2 k)).toArray) s1):W (AJ envS (runF envS n) 62 [.int .i64 (k:Nat)]) s Q:=by
 refine Aen_ fun tm h0=> ?_
 refine AbE_.w rfl (by omega) ?_
 simp -implicitDefEqProofs only[BG_,Ac,Aa,Ab]
 refine W.alloc Hr_ fun sa na xa oa=> ?_
 have na':sa.next=s.next+7:=na
 have hxa:Ext Non Non (s.cxN cxN) sa:=xa
 refine Tu_.w XV_ (by omega) ?_
 simp -implicitDefEqProofs only[XI,Ac,W_oS,Aa,W_mv,Ab,T.get_set,reduceIte,reduceCtorEq, ↓reduceIte,h0,Kl (k:= .i64) (by decide),Fx DC_ JJ,wrap_u8]
 refine PC_.w Lf_ (by omega) ?_
 have m1:k>>>8%256≤255:=by omega
 have m2:k%256≤255:=by omega
 simp -implicitDefEqProofs only[Xp,Ac,W_oS,W_on,Aa,W_mv,Ab,T.get_set,Af,Ae,Ao,Al,Ad,Ai,reduceIte,Nat.reduceEqDiff, ↓reduceIte,Og m1,Og m2]
 refine W.buildS (xa.bnd hbd) (r:=u8l (DP k)) EN (by decide) rfl (BY (by decide)) fun sb nb xb ob=> ?_
 have hxb:Ext Non Non (s.cxN cxN) sb:=hxa.step xb hbd (fun _ _ h=>h.elim) fun _ h=>h.elim
 have hB:Bs sb (.slice (some ⟨sa.next,0,none⟩) 4 4) (DP k):=Ay.bn ob (BY (by simp[DP]))
 refine Cg_ (by omega) (hB.bn' (by simp[DP])) (AeK_ k) (by simp[DP]) fun sc mc nc xc=> ?_
 have hxc:Ext Non Non (s.cxN cxN) sc:=hxb.step xc hbd (fun x hx h=>by
  have h2:x<s.lim:=hx
  have h3:sa.next+0≤x:=h.1
  omega) fun _ h=>h.elim
 have hoc:Bk sc s.next 0 6:=((Ay.owned oa).ext1 xb fun _ _ h=>h).ext1 xc fun _ _ h=>h
 refine Og_.w MY_ (by omega) ?_
 generalize hS:CW 0 (DP k)=S
 simp -implicitDefEqProofs only[Bh_,Ac,W_oS,Aa,W_mv,T.get_set,Ao,Al,Ad,reduceIte,Nat.reduceEqDiff, ↓reduceIte,Og m1,Og m2,Fx TZ JJ,wrap_u8,Kl (k:= .u32) (by decide),EQ (PS_ _ _ _ _ _ _)]
 refine W.store Rb rfl (CE _) hoc fun sd nd xd od=> ?_
 have hG: ∀x,In s.next 0 6 x→s.next≤x:=fun x h=>by have:=h.1;omega
 have hxd:Ext Non Non (s.cxN cxN) sd:=hxc.step xd hbd (fun x hx h=>by
  have h2:x<s.lim:=hx
  have:=hG x h
  omega) hG
 refine W.endC (r:=2) Nq_ (.inl ME_) (by omega) ZV IZ_ hxd.cx (by simp[T.get_set];rfl) ?_
 refine W.loadA Rb od.row rfl fun se me ne xe=> ?_
 have hxe:Ext Non Non (s.cxN cxN) se:=hxd.step xe hbd (fun x hx h=>by
  have h2:x<s.lim:=hx
  have:=hG x h
  omega) fun _ h=>h.elim
 have:=q _ hxe.cx'
 unfold G2 at this
 rw[hS]at this
 exact this
theorem Fl_:hasT envS 5=true:=by kernel_rfl
theorem Cu_:intK envS 3=some .i64:=by kernel_rfl
theorem wrap_i64 (n:Nat)(h:n<9223372036854775808):IntKind.i64.wrap ((n:Nat):Int)=((n:Nat):Int):=by
 rw[←MD]
 exact Bq (by omega) (by omega)
def len2 (a b:Nat):Nat:=a<<<8|||b
theorem RX_ {a b:Nat}(ha:a<256)(hb:b<256):a<<<8<65536∧len2 a b<65536:=by
 have h:a<<<8<2^16:=by rw[Nat.shiftLeft_eq];omega
 exact⟨h,Nat.or_lt_two_pow h (by omega)⟩
theorem Yg_ {n k:Nat}{s:St}{v:Value}{l:List Nat}{Q:Value→St→Prop}(hbd:s.lim≤s.next)(hbs:Bs s v l)(hby:Byt l)(hk:k+6≤l.length)(hz:l.length≤1000000)(hn:60≤n)
  (q: ∀n' tm' s1 td',n≤n'+10→skim 64 td'=HJ→Ext (BsF v) Non (s.cxN cxN) s1→s1.mem=s.mem→s1.next=s.next→T.get tm' 0=some v→T.get tm' 1=some (.int .i64 (k:Nat))→T.get tm' 6=some (.int .i64 (len2 (l.getD k 0) (l.getD (k+1) 0):Nat))→W (runF envS n' ⟨71,AaW_,Ey,tm',td', .run, .normal,none⟩) s1 fun p s2=>Q p.1 (s2.cxN s.cx)):W (AJ envS (runF envS n) 71 [v, .int .i64 (k:Nat)]) s Q:=by
 refine VS fun tm h0 h1=> ?_
 have hb0:Bs (s.cxN cxN) v l:=hbs.same rfl rfl
 have hka:k<l.length:=by omega
 have hkb:k+1<l.length:=by omega
 refine Uy.w rfl (by omega) ?_
 simp -implicitDefEqProofs only[QF,Aa,W_mv,Ab]
 refine Cm_.w WJ (by omega) ?_
 have e6:wrap64 (((l.length:Nat):Int)-6)=((l.length-6:Nat):Int):=by
  rw[Bq (by omega) (by omega)];omega
 simp -implicitDefEqProofs only[Sw,Ac,W_oS,W_on,Aa,W_mv,Ab,T.get_set,Af,Ae,Ad,reduceIte,Ah,Aq,Aj,Nat.reduceEqDiff,reduceCtorEq, ↓reduceIte,AC,h0,h1]
 rw[decide_eq_false (show ¬((k:Nat):Int)<0 by omega)]
 simp -implicitDefEqProofs only[W_oS,Aa,reduceIte,Ak,Ar,reduceCtorEq, ↓reduceIte,AL,AK,hb0.len BD,e6]
 refine W.cond (v:=false) ZB U6 (by simp[T.get_set];omega) (by omega) (fun h=>by cases h) fun _=> ?_
 obtain⟨ba,oa,ca,rfl,ga,fa⟩:=hb0.at hka
 obtain⟨bb,ob,cb,e,gb,fb⟩:=hb0.at hkb
 cases e
 refine YP_.w IQ_ (by omega) ?_
 have hA:l[k]<256:=hby _ (List.getElem_mem hka)
 have hB:l[k+1]<256:=hby _ (List.getElem_mem hkb)
 obtain⟨hs1,hs2⟩:=RX_ hA hB
 have ei:wrap64 ((k:Nat)+1:Int)=((k+1:Nat):Int):=by
  rw[Bq (by omega) (by omega)];simp
 simp -implicitDefEqProofs only[EG_,T.get_set,Nat.reduceEqDiff, ↓reduceIte,h0,h1,CF,Bm]
 rw[W_dq fun s Q=>BC (s:=s) BD hka Q]
 refine W.dload I6 (ga.same rfl rfl) fun rd1 hr1=> ?_
 rw[W_dq fun s Q=>Fx (s:=s) Fl_ Cu_ Q,wrap_i64 _ (by omega),W_dq fun s Q=>KT_ (s:=s) (by omega) Q]
 simp -implicitDefEqProofs only[Bm]
 rw[W_dq fun s Q=>AD (s:=s) ((k:Nat):Int) 1,ei,W_dq fun s Q=>BC (s:=s) BD hkb Q]
 refine W.dload I6 (gb.same rfl rfl) fun rd2 hr2=> ?_
 rw[W_dq fun s Q=>Fx (s:=s) Fl_ Cu_ Q,wrap_i64 _ (by omega),W_dq fun s Q=>W_or (s:=s) (show l[k]<<<8|||l[k+1]≤9223372036854775807 from by unfold len2 at hs2;omega) Q]
 rw[Aa]
 refine⟨Dj (by simp) (by simp), ?_⟩
 refine W.cast (Ado_ _ _ _ _ _ _ _ _ _ _ _ _ _ _ _ _ _ _) ?_
 simp -implicitDefEqProofs only[Ac,W_oS,Aa,Ap]
 generalize hs':(⟨(dSt (s.cxN cxN).mem (s.cxN cxN).next).mem,(dSt (s.cxN cxN).mem (s.cxN cxN).next).next,(s.cxN cxN).lim,_,_,(s.cxN cxN).cx⟩:St)=s'
 have hx':Ext (BsF (.slice (some ⟨ba,oa,none⟩) l.length ca)) Non (s.cxN cxN) s':=by
  rw[←hs']
  refine Ext.draw (F:=BsF (.slice (some ⟨ba,oa,none⟩) l.length ca)) (Nat.le_refl _) (fun _ _=>rfl) (by simp) (by
   simp -implicitDefEqProofs only[List.mem_cons,List.not_mem_nil,or_false]
   rintro m (rfl|rfl|rfl|rfl|rfl|rfl|rfl|rfl|rfl|rfl|rfl|rfl|rfl) x hx _<;>first|(exact fa _ (hr1 _ hx))|(exact fb _ (hr2 _ hx))|(cases hx))
 have hm':s'.mem=s.mem:=by rw[←hs'];rfl
 have hn':s'.next=s.next:=by rw[←hs'];rfl
 refine q _ _ s' _ (by omega) Il_ hx' hm' hn' (by simp[T.get_set,h0]) (by simp[T.get_set,h1]) ?_
 rw[List.getD_eq_getElem?_getD,List.getD_eq_getElem?_getD,List.getElem?_eq_getElem hka,List.getElem?_eq_getElem hkb]
 simp[T.get_set,len2]
theorem AbS_ {n k:Nat}{s:St}{v:Value}{l:List Nat}{Q:Value→St→Prop}(hbs:Bs s v l)(hk:l.length<k+6)(hz:l.length≤1000000)(hn:60≤n)(q:Q (.tuple #[.int .i64 0, .bool false]) s):W (AJ envS (runF envS n) 71 [v, .int .i64 (k:Nat)]) s Q:=by
 refine VS fun tm h0 h1=> ?_
 have hb0:Bs (s.cxN cxN) v l:=hbs.same rfl rfl
 refine Uy.w rfl (by omega) ?_
 simp -implicitDefEqProofs only[QF,Aa,W_mv,Ab]
 refine Cm_.w WJ (by omega) ?_
 have e6:wrap64 (((l.length:Nat):Int)-6)=((l.length:Nat):Int)-6:=Bq (by omega) (by omega)
 simp -implicitDefEqProofs only[Sw,Ac,W_oS,W_on,Aa,W_mv,Ab,T.get_set,Af,Ae,Ad,reduceIte,Ah,Aq,Aj,Nat.reduceEqDiff,reduceCtorEq, ↓reduceIte,AC,h0,h1]
 rw[decide_eq_false (show ¬((k:Nat):Int)<0 by omega)]
 simp -implicitDefEqProofs only[W_oS,Aa,reduceIte,Ak,Ar,reduceCtorEq, ↓reduceIte,AL,AK,hb0.len BD,e6]
 refine W.cond (v:=true) ZB U6 (by simp[T.get_set];omega) (by omega) (fun _=> ?_) fun h=>by cases h
 refine AbY_.w OD_ (by omega) ?_
 simp -implicitDefEqProofs only[WI,Aa,W_mv,Ab]
 exact W.end' (rs:=[4,5]) (vs:=[.int .i64 0, .bool false]) Vi_ (.inl Aav_) (by omega) Oi RS rfl (by simp[T.get_set]) q
section
variable {α:Type}
theorem Cx (m:M α):M.chk true m=m:=rfl
theorem if_t (x y:M α):M.if true x y=x:=rfl
theorem if_f (x y:M α):M.if false x y=y:=rfl
theorem EE (call round:Ag)(f:Nat)(l:List Value):Bh call round (.func (.func f) #[] #[]) l=call f l:=by
 show call f ([]++(l++[]))=_
 rw[List.append_nil,List.nil_append]
end
theorem LI {n0:Nat}{l:List OpLog}{bef:List Nat}(hl:l.length≤bef.length)(h: ∀m∈l,m.wr=[]∧ ∀x∈m.rd,x<n0):CD n0 l bef=true:=
 EY_ hl (fun k m b e1 _=>⟨(h m (List.mem_of_getElem? e1)).1,fun i a _ _=> .inr fun x hx hn=>absurd ((h m (List.mem_of_getElem? e1)).2 x hx) (Nat.not_lt_of_le hn)⟩) fun m hm=>(h m hm).1
theorem QP_:arrB envS.P 89=some 6:=by kernel_rfl
def BA (l:List Nat)(k:Nat):Nat:=len2 (l.getD k 0) (l.getD (k+1) 0)
def Dm (l:List Nat)(k:Nat):Bool:=decide (1≤BA l k∧BA l k≤1024)&&decide ((l.take (k+6)).drop k=G2 (BA l k))
theorem Aek_ (n:Nat):(G2 n).length=6:=rfl
theorem Abd_ (n:Nat):decide (0<BM ((n:Nat):Int))=decide (1≤n∧n≤1024):=by
 unfold BM
 by_cases h:((n:Nat):Int)<1∨1024<((n:Nat):Int)
 ·rw[if_pos h,decide_eq_decide];omega
 ·rw[if_neg h,decide_eq_decide];omega
theorem YN_ {n k:Nat}{s:St}{v:Value}{l:List Nat}{Q:Value→St→Prop}(hbd:s.lim≤s.next)(hbs:Bs s v l)(hby:Byt l)(hk:k+6≤l.length)(hz:l.length≤1000000)(hn:200≤n)
  (q: ∀s1,Ext (BsF v) Non s s1→Q (.tuple #[.int .i64 (BA l k:Nat), .bool (Dm l k)]) s1):W (AJ envS (runF envS n) 71 [v, .int .i64 (k:Nat)]) s Q:=by
 refine Yg_ hbd hbs hby hk hz (by omega) fun n' tm' s1 td' hn' hT hx1 hm1 hn1 h0 h1 h6=> ?_
 have hne:l≠[]:=fun h=>by rw[h]at hk;simp at hk
 have hB1:Bn s1 v l:=(hbs.bn' hne).same hm1 hn1
 have hb1:s1.lim≤s1.next:=hx1.bnd hbd
 have hNN:len2 (l.getD k 0) (l.getD (k+1) 0)=BA l k:=rfl
 rw[hNN]at h6
 unfold Dm at q
 generalize BA l k=N at h6 q
 rw[←Abd_]at q
 refine WF_.w hT (by omega) ?_
 simp -implicitDefEqProofs only[Dv_,h0,h1,h6,CF,Dz,Af,Ae,Ad,EE,Bm]
 refine W.dop0 (FH _ (by omega) ⟨rfl, ?_⟩)
 rw[W_dq fun s Q=>AK (s:=s) _ _]
 simp -implicitDefEqProofs only[Bm,Ah,Cx]
 cases hp:decide (0<BM ((N:Nat):Int))with
 |false=>
  rw[hp]at q
  simp -implicitDefEqProofs only[Au,if_f,Bm]
  rw[W_dq fun s Q=>Aj (s:=s) _ _ _ _]
  simp -implicitDefEqProofs only[Bool.false_eq_true,reduceIte,Bm,Ap,Aa]
  refine⟨Dj (by simp) (by simp), ?_⟩
  refine W.cast (X1 _ _ _ _ _ _ _ _ _ _ _ _ _ _ _ _ _ _ _ _ _ _) ?_
  simp -implicitDefEqProofs only[Ac,W_oS,Aa,Ap]
  refine W.end' (rs:=[4,5]) (vs:=[.int .i64 (N:Nat), .bool false]) Cp_ (.inl Ux) (by omega) Oi RS hx1.cx (by simp[T.get_set]) (q _ ?_)
  refine(hx1.step (Ext.drawG (F:=BsF v) (G:=Non) (Nat.le_refl _) (fun _ _ _=>rfl) (by simp) (by simp)) hbd (fun _ _ h=>h) fun _ h=>h.elim).cx'
 |true=>
  rw[hp]at q
  simp -implicitDefEqProofs only[Av,if_t,Bm]
  have e6:wrap64 (((k:Nat):Int)+6)=((k+6:Nat):Int):=by
   rw[Bq (by omega) (by omega)];omega
  rw[W_dq fun s Q=>AD (s:=s) _ _,e6]
  have hBo:Bn (oSt s1.mem s1.next) v l:=hB1.same rfl rfl
  refine W.dop0 (W.cut hBo BD (i:=k) (j:=k+6) rfl rfl (by omega) hk fun v' hv' hF'=>⟨rfl, ?_⟩)
  obtain⟨b,o,c,rfl,g1,g2,g3⟩:=hv'
  have hlen:((l.take (k+6)).drop k).length=6:=by rw[List.length_drop,List.length_take];omega
  generalize (l.take (k+6)).drop k=seg at *
  have hrow:Row (dSt s1.mem s1.next) b o (u8l seg):=fun i u e=>(g3 i u e).same rfl rfl
  rw[W_dq fun s Q=>QA (s:=s) YY_ (show 6≤seg.length by omega) (by omega) Q]
  refine W.dloadA Rb hrow (by rw[By];exact hlen) fun mem1 rd1 hm hr=> ?_
  subst hm
  simp -implicitDefEqProofs only[Bm]
  refine W.dop (Mo_ (Nat.le_refl _) (by omega) fun s2 x2=>⟨Non,x2,fun rd2 hr2=> ?_⟩)
  rw[W_dq fun s Q=>YJ (s:=s) QP_ hlen (Aek_ N) Q]
  rw[W_dq fun s Q=>Aj (s:=s) _ _ _ _]
  simp -implicitDefEqProofs only[reduceIte,Bm,Ap,Aa]
  have hold: ∀x,In b o 6 x→x<s1.next:=fun x hx=>by
   have h5:=(g3 (x-(b+o)) _ (List.getElem?_eq_getElem (show x-(b+o)<(u8l seg).length by rw[By,hlen];have:=hx.1;have:=hx.2;omega))).1
   have h6:b+(o+(x-(b+o)))<s1.next:=h5
   have:=hx.1
   omega
  have hrd2: ∀x∈rd2,False:=fun x hx=>(hr2 x hx).2
  refine⟨LI (by simp) (by
   simp -implicitDefEqProofs only[List.reverse_cons,List.reverse_nil,List.nil_append,List.cons_append,List.mem_cons,List.not_mem_nil,or_false]
   rintro m (rfl|rfl|rfl|rfl|rfl|rfl|rfl|rfl|rfl|rfl|rfl|rfl|rfl|rfl|rfl|rfl|rfl)<;>refine⟨rfl,fun x hx=> ?_⟩<;>first|(exact hold _ (hr _ hx))|(exact(hrd2 _ hx).elim)|(cases hx)), ?_⟩
  refine W.cast (X1 _ _ _ _ _ _ _ _ _ _ _ _ _ _ _ _ _ _ _ _ _ _) ?_
  simp -implicitDefEqProofs only[Ac,W_oS,Aa,Ap]
  have hx9:Ext (BsF v) Non (s.cxN cxN) s1:=hx1
  refine W.end' (rs:=[4,5]) (vs:=[.int .i64 (N:Nat), .bool (decide (seg=G2 N))]) Cp_ (.inl Ux) (by omega) Oi RS hx1.cx (by simp[T.get_set]) ?_
  rw[Bool.true_and]at q
  refine q _ (hx9.step (Ext.drawG (F:=BsF v) (G:=Non) x2.nxt (fun x hx _=>x2.mem x hx id) (by
    simp -implicitDefEqProofs only[List.mem_cons,List.not_mem_nil,or_false]
    rintro m (rfl|rfl|rfl|rfl|rfl|rfl|rfl|rfl|rfl|rfl|rfl|rfl|rfl|rfl|rfl|rfl|rfl) x hx<;>cases hx) (by
    simp -implicitDefEqProofs only[List.mem_cons,List.not_mem_nil,or_false]
    rintro m (rfl|rfl|rfl|rfl|rfl|rfl|rfl|rfl|rfl|rfl|rfl|rfl|rfl|rfl|rfl|rfl|rfl) x hx _<;>first|(exact hF' _ ⟨(hr _ hx).1,by rw[hlen];exact(hr _ hx).2⟩)|(exact(hrd2 _ hx).elim)|(cases hx))) hbd (fun _ _ h=>h) fun _ h=>h.elim).cx'
def Hr (l:List Nat)(k:Nat):Nat×Bool:=if k+6≤l.length then(BA l k,Dm l k)else(0,false)
theorem BK_ {n k:Nat}{s:St}{v:Value}{l:List Nat}{Q:Value→St→Prop}(hbd:s.lim≤s.next)(hbs:Bs s v l)(hby:Byt l)(hz:l.length≤1000000)(hn:200≤n)
  (q: ∀s1,Ext (BsF v) Non s s1→Q (.tuple #[.int .i64 ((Hr l k).1:Nat), .bool (Hr l k).2]) s1):W (AJ envS (runF envS n) 71 [v, .int .i64 (k:Nat)]) s Q:=by
 unfold Hr at q
 by_cases hk:k+6≤l.length
 ·rw[if_pos hk]at q
  exact YN_ hbd hbs hby hk hz hn q
 ·rw[if_neg hk]at q
  exact AbS_ hbs (by omega) hz (by omega) (q s (Ext.refl s))
theorem Bn.lt {s:St}{v:Value}{l:List Nat}(h:Bn s v l): ∀x,BsF v x→x<s.next:=fun x hx=>by
 obtain⟨b,o,c,rfl,_,_,h3⟩:=h
 obtain⟨h1,h2⟩:=hx
 have hi:x-(b+o)<(u8l l).length:=by rw[By];omega
 have h5:=(h3 (x-(b+o)) _ (List.getElem?_eq_getElem hi)).1
 have h6:b+(o+(x-(b+o)))<s.next:=h5
 omega
theorem Nc_:arrB envS.P 26=some 16:=by kernel_rfl
theorem Tm_:Do envS 26 []=some (u8l (List.replicate 16 0)):=by kernel_rfl
def DK (l:List Nat)(k n:Nat):List Nat:=(l.take (k+26+n)).drop (k+6)
theorem DH_ {l:List Nat}{k n:Nat}(h:k+26+n≤l.length):(DK l k n).length=n+20:=by
 unfold DK
 rw[List.length_drop,List.length_take]
 omega
def CR (l:List Nat)(k n:Nat):List Nat:=(DK l k n).take (n+16)
theorem NG {l:List Nat}{k n:Nat}(h:k+26+n≤l.length):(CR l k n).length=n+16:=by
 unfold CR
 rw[List.length_take,DH_ h]
 omega
def Cn (l:List Nat)(k n:Nat):List Nat:=(CR l k n).take 16
def C1 (l:List Nat)(k n:Nat):List Nat:=(CR l k n).drop 16
theorem MR {l:List Nat}{k n:Nat}(h:k+26+n≤l.length):(Cn l k n).length=16:=by
 unfold Cn
 rw[List.length_take,NG h]
 omega
theorem Xw_ {l:List Nat}{k n:Nat}(h:k+26+n≤l.length):(C1 l k n).length=n:=by
 unfold C1
 rw[List.length_drop,NG h]
 omega
theorem So {l m:List Nat}(h:Byt l)(hs: ∀x∈m,x∈l):Byt m:=fun x hx=>h x (hs x hx)
theorem FW_ {l:List Nat}(h:Byt l)(k n:Nat):Byt (DK l k n):=So h fun x hx=>List.mem_of_mem_take (List.mem_of_mem_drop hx)
theorem RD_ {l:List Nat}(h:Byt l)(k n:Nat):Byt (CR l k n):=So (FW_ h k n) fun x hx=>List.mem_of_mem_take hx
theorem UJ_ {C6 C11 n k m:Nat}{w:Value}{l:List Nat}{tm:T Value}{td:List Item}{s s0:St}{Q:Value→St→Prop}(hb:s.lim≤s.next)(hlen:k+26+m≤l.length)(hby:Byt l)(hm0:m≤1024)(hm1:1≤m)(hn:25000≤n)(hcx:s.cx=cxN)(hs0:s0.next≤C6)(h611:C6+16≤C11)(h11:C11+16≤s.next)
  (hw:Bn s w (CR l k m)) (hwn: ∀x,BsF w x→s0.next≤x∧ ¬In C6 0 16 x) (ho6:Bk s C6 0 16) (ho11:Ay s C11 0 (u8l (Cn l k m))) (hT:skim 64 td=H5) (h6:T.get tm 6=some (.pointer (some ⟨C6,0,none⟩))) (h9:T.get tm 9=some w) (h11t:T.get tm 11=some (.pointer (some ⟨C11,0,none⟩)))
  (q: ∀s1 w1,Ext (fun x=>s0.next≤x) (fun x=>s0.next≤x) s s1→Bn s1 w1 (C1 l k m)→(∀x,BsF w1 x→s0.next≤x)→Q (.tuple #[.agg (u8l (Cn l k m)).toArray,w1, .bool (decide (idB (C1 l k m)=Cn l k m))]) (s1.cxN s0.cx)):
  W (runF envS n ⟨72,YV,D2,tm,td, .run, .normal,none⟩) s fun p s1=>Q p.1 (s1.cxN s0.cx):=by
 have hI:=MR hlen
 have hC:=Xw_ hlen
 have hX:=NG hlen
 have hIl:(u8l (Cn l k m)).length=16:=by rw[By];exact hI
 refine TJ_.w hT (by omega) ?_
 simp -implicitDefEqProofs only[Zb,h6,h9,h11t,CF,Dz,Af,Ae,Ad,EE]
 have ho11':Ay (dSt s.mem s.next) C11 0 (u8l (Cn l k m)):=fun i v e=>(ho11 i v e).same rfl rfl
 refine W.dloadA CY ho11'.row hIl fun mem1 rd1 hm1' hr1=> ?_
 subst hm1'
 simp -implicitDefEqProofs only[Bm]
 have hwo:Bn (oSt s.mem s.next) w (CR l k m):=hw.same rfl rfl
 have htk:((CR l k m).take (n:=(CR l k m).length)).drop 16=C1 l k m:=by rw[List.take_length];rfl
 refine W.dop0 (W.cut hwo BD (i:=16) (j:=(CR l k m).length) rfl rfl (by omega) (Nat.le_refl _) fun w1 hw1 hF1=>⟨rfl, ?_⟩)
 simp -implicitDefEqProofs only[Bm]
 refine W.dop0 (W.cut hwo BD (i:=16) (j:=(CR l k m).length) rfl rfl (by omega) (Nat.le_refl _) fun w2 hw2 hF2=>⟨rfl, ?_⟩)
 rw[htk]at hw1 hw2
 refine W.dop (Iq_ (Nat.le_refl _) hw2.bs (fun x hx=>hw2.lt x hx) (So (RD_ hby k m) fun x hx=>List.mem_of_mem_drop hx) (by omega) (by omega) fun s2 x2=>⟨BsF w2,x2,fun rd2 hr2=> ?_⟩)
 have hn2:s.next≤s2.next:=x2.nxt
 have ho11s:Ay s2 C11 0 (u8l (Cn l k m)):=fun i v e=>((ho11 i v e).same (s':=oSt s.mem s.next) rfl rfl).ext0 x2
 refine W.dloadA CY (fun i v e=>((ho11s i v e).same (s':=dSt s2.mem s2.next) rfl rfl).at') hIl fun mem3 rd3 hm3 hr3=> ?_
 subst hm3
 rw[W_dq fun s Q=>YJ (s:=s) Nc_ (Y1 _) hI Q]
 have ho6s:Bk (oSt s2.mem s2.next) C6 0 16:=fun j hj=>by
  obtain⟨u,hu⟩:=ho6 j hj
  exact⟨u,((hu.same (s':=oSt s.mem s.next) rfl rfl).ext0 x2).same rfl rfl⟩
 refine W.dopG (W.store CY hIl (CE _) ho6s fun s3 n3 x3 o3=>⟨In C6 0 16,In C6 0 16,x3,fun rd4 wr4 hr4 hw4=> ?_⟩)
 simp -implicitDefEqProofs only[Bm,Ap,Aa]
 have n3':s3.next=s2.next:=n3
 have lt6: ∀x,In C6 0 16 x→x<s.next:=fun x h=>by have:=h.2;omega
 have lt11: ∀x,In C11 0 16 x→x<s.next:=fun x h=>by have:=h.2;omega
 refine⟨PV ?_, ?_⟩
 ·simp -implicitDefEqProofs only[List.reverse_cons,List.reverse_nil,List.nil_append,List.cons_append,allP,Fk,List.take,KQ]
  have f1: ∀x,x∈rd1→ ¬s.next≤x:=fun x hx=>Nat.not_le_of_lt (lt11 x (hr1 x hx))
  have f2: ∀x,x∈rd2→ ¬s.next≤x:=fun x hx=>Nat.not_le_of_lt (hr2 x hx).1
  have f3: ∀x,x∈rd3→ ¬s.next≤x:=fun x hx=>Nat.not_le_of_lt (lt11 x (hr3 x hx))
  have f4: ∀x,x∈rd4→ ¬s.next≤x:=fun x hx=>Nat.not_le_of_lt (lt6 x (hr4 x hx).2)
  have g4: ∀x,x∈wr4→ ¬s.next≤x:=fun x hx=>Nat.not_le_of_lt (lt6 x (hw4 x hx).2)
  have d43: ∀x,x∈wr4→ ¬x∈rd3:=fun x hx hy=>by
   have h1:=(hw4 x hx).2.2
   have h2:=(hr3 x hy).1
   omega
  have d41: ∀x,x∈wr4→ ¬x∈rd1:=fun x hx hy=>by
   have h1:=(hw4 x hx).2.2
   have h2:=(hr1 x hy).1
   omega
  simp+contextual [f1,f2,f3,f4,g4,d43,d41]
  exact .inl rfl
 ·refine W.cast (AaA_ _ _ _ _ _ _ _ _ _ _ _ _ _ _) ?_
  simp -implicitDefEqProofs only[Ac,W_oS,Aa,Ap]
  have hb3:s.next≤s3.next:=by omega
  have fin: ∀(s':St) (n':Nat) (tm':T Value) (td':List Item),s'.mem=s3.mem→s'.next=s3.next→2≤n'→Ext (fun x=>s0.next≤x) (fun x=>s0.next≤x) s s'→skim 64 td'=Ko→T.get tm' 6=some (.pointer (some ⟨C6,0,none⟩))→T.get tm' 7=some w1→T.get tm' 8=some (.bool (decide (idB (C1 l k m)=Cn l k m)))→
    W (runF envS n' ⟨72,YV,D2,tm',td', .run, .normal,none⟩) s' fun p s1=>Q p.1 (s1.cxN s0.cx):=fun s' n' tm' td' e1 e2 hn' hx' hT' h6' h7' h8'=>by
   refine W.endG hT' (.inl Ks_) hn' Pl ZF (hx'.cx.trans hcx) (W.resCell h6' ?_)
   have o3':Ay s' C6 0 (u8l (Cn l k m)):=fun i v e=>(o3 i v e).same e1 e2
   refine W.loadA CY o3'.row hIl fun s5 m5 n5 x5=> ?_
   refine W.resTmp h7' (W.resTmp h8' (W.resNil ?_))
   have hx5:Ext (fun x=>s0.next≤x) (fun x=>s0.next≤x) s s5:=hx'.trans x5 hb (fun x _ h=>by have:=h.1;omega) fun _ _ h=>h.elim
   refine q s5 w1 hx5 ?_ fun x hx=>(hwn x (hF1 x hx)).1
   have hw1':Bn s3 w1 (C1 l k m):=(((hw1.same (s':=oSt s.mem s.next) rfl rfl).ext0 x2).same (s':=oSt s2.mem s2.next) rfl rfl).ext x3 fun x hx=>(hwn x (hF1 x hx)).2
   exact hw1'.same (m5.trans e1) (n5.trans e2)
  refine fin _ _ _ _ rfl rfl (by omega) (Ext.drawG (by rw[n3'];exact hn2) (fun x hx hg=>(x3.mem x (by show x<s2.next;omega) fun h=>hg (by have:=h.1;omega)).trans (x2.mem x hx id)) ?_ ?_) Pq_ (by simp[T.get_set,h6]) (by simp[T.get_set]) (by simp[T.get_set])
  ·simp -implicitDefEqProofs only[List.mem_cons,List.not_mem_nil,or_false]
   rintro m (rfl|rfl|rfl|rfl|rfl|rfl|rfl|rfl|rfl|rfl) x hx _<;>first|(cases hx;done)|(have:=(hw4 x hx).2.1;omega)
  ·simp -implicitDefEqProofs only[List.mem_cons,List.not_mem_nil,or_false]
   rintro m (rfl|rfl|rfl|rfl|rfl|rfl|rfl|rfl|rfl|rfl) x hx _<;>first|(cases hx;done)|(have:=(hr1 x hx).1;omega)|(have:=(hr3 x hx).1;omega)|(have:=(hr4 x hx).2.1;omega)|(exact(hwn x (hF2 x (hr2 x hx).2)).1)
theorem Td {n:Nat}(h1:1≤n)(h2:n≤1024):BM ((n:Nat):Int)=((n+26:Nat):Int):=by
 unfold BM
 rw[if_neg (by omega)]
 omega
theorem Hg_ {n k m:Nat}{v:Value}{l:List Nat}{s:St}{Q:Value→St→Prop}(hbd:s.lim≤s.next)(hbs:Bs s v l)(hby:Byt l)(hz:l.length≤900000)(hm1:1≤m)(hm2:m≤1024)(hlen:k+26+m≤l.length)(hn:40000≤n)
  (q1:GOk (DK l k m)→ ∀s1 w1,Ext (BsF v) Non s s1→Bn s1 w1 (C1 l k m)→(∀x,BsF w1 x→s.next≤x)→Q (.tuple #[.agg (u8l (Cn l k m)).toArray,w1, .bool (decide (idB (C1 l k m)=Cn l k m))]) s1)
  (q2: ¬GOk (DK l k m)→ ∀s1,Ext (BsF v) Non s s1→Q (.tuple #[.agg (u8l (List.replicate 16 0)).toArray, .slice none 0 0, .bool false]) s1):
  W (AJ envS (runF envS n) 72 [v, .int .i64 (k:Nat), .int .i64 (m:Nat)]) s Q:=by
 refine Adw_ fun tm h0 h1 h2=> ?_
 have hne:l≠[]:=fun h=>by rw[h]at hlen;simp at hlen
 have hB0:Bn (s.cxN cxN) v l:=(hbs.bn' hne).same rfl rfl
 refine Kg_.w rfl (by omega) ?_
 simp -implicitDefEqProofs only[UL,Ac,Aa,W_mv,Ab]
 refine W.alloc Oh fun sa na xa oa=> ?_
 have na':sa.next=s.next+17:=na
 have hxa:Ext (BsF v) Non (s.cxN cxN) sa:=(Ext.refl _).step xa hbd (fun _ _ h=>h.elim) fun _ h=>h.elim
 refine Ll_.w KL_ (by omega) ?_
 have e6:wrap64 (((k:Nat):Int)+6)=((k+6:Nat):Int):=by
  rw[Bq (by omega) (by omega)];omega
 have e26:wrap64 (((k:Nat):Int)+((m+26:Nat):Int))=((k+26+m:Nat):Int):=by
  rw[Bq (by omega) (by omega)];omega
 simp -implicitDefEqProofs only[Bz_,Ac,W_oS,W_on,Aa,W_mv,Ab,T.get_set,Af,Ae,Ad,Ai,reduceIte,Nat.reduceEqDiff,reduceCtorEq, ↓reduceIte,AD,h0,h1,h2,e6]
 refine FH _ (by omega) ?_
 rw[Td hm1 hm2]
 simp -implicitDefEqProofs only[AD,e26]
 refine W.cut (hB0.ext0 hxa) BD (i:=k+6) (j:=k+26+m) rfl rfl (by omega) hlen fun v1 hv1 hF1=> ?_
 have hch:(l.take (k+26+m)).drop (k+6)=DK l k m:=rfl
 rw[hch]at hv1
 have hcl:=DH_ hlen
 refine QF_ (hxa.bnd hbd) hv1 (FW_ hby k m) (by omega) (by omega) (fun hg sb w xb hw=> ?_) fun hg sb xb=> ?_
 ·have hxb:Ext (BsF v) Non (s.cxN cxN) sb:=hxa.step xb hbd (fun x _ h=>hF1 x h) fun _ h=>h.elim
  rw[B2 (k:=0) rfl,B2 (k:=1) rfl]
  refine VB.w CS_ (by omega) ?_
  simp -implicitDefEqProofs only[Py,Ac,W_oS,Aa,W_mv,Ab,T.get_set,reduceIte, ↓reduceIte,AM]
  refine W.cond (v:=false) UK Fp_ (by simp[T.get_set]) (by omega) (fun h=>by cases h) fun _=> ?_
  refine Yi_.w Qv_ (by omega) ?_
  have hX:(DK l k m).take ((DK l k m).length-4)=CR l k m:=by
   rw[hcl];rfl
  rw[hX]at hw
  have hXl:=NG hlen
  simp -implicitDefEqProofs only[DJ_,Ac,W_oS,W_on,Aa,W_mv,Ab,T.get_set,Ad,reduceIte,Nat.reduceEqDiff, ↓reduceIte]
  have h16:((CR l k m).take 16).drop 0=Cn l k m:=rfl
  refine W.cut hw.bn BD (i:=0) (j:=16) rfl rfl (Nat.zero_le _) (by omega) fun v2 hv2 hF2=> ?_
  rw[h16]at hv2
  obtain⟨b,o,c,rfl,g1,g2,g3⟩:=hv2
  have hI:=MR hlen
  have hIl:(u8l (Cn l k m)).length=16:=by rw[By];exact hI
  rw[QA VK (show 16≤(Cn l k m).length by omega) (by omega)]
  refine W.loadA CY g3 hIl fun sc mc nc xc=> ?_
  have hinv: ∀x,In b o 16 x→sa.next≤x:=fun x h=>hw.new x (hF2 x ⟨h.1,by rw[hI];exact h.2⟩)
  have hxc:Ext (BsF v) Non (s.cxN cxN) sc:=hxb.step xc hbd (fun x hx h=>by
   have h2:x<s.lim:=hx
   have:=hinv x h
   omega) fun _ h=>h.elim
  refine W.alloc Oh fun sd nd xd od=> ?_
  have nd':sd.next=sc.next+17:=nd
  have nbc:sb.next≤sc.next:=xc.nxt
  have nab:sa.next≤sb.next:=xb.nxt
  have hxd:Ext (BsF v) Non (s.cxN cxN) sd:=hxc.step xd hbd (fun _ _ h=>h.elim) fun _ h=>h.elim
  refine W.store CY hIl (CE _) (Ay.owned od) fun se ne xe oe=> ?_
  have ne':se.next=sd.next:=ne
  have hG: ∀x,In sc.next 0 16 x→sc.next≤x:=fun x h=>by have:=h.1;omega
  have hxe:Ext (BsF v) Non (s.cxN cxN) se:=hxd.step xe hbd (fun x hx h=>by
   have h2:x<s.lim:=hx
   have:=hG x h
   have h3:s.next≤sc.next:=hxc.nxt
   omega) fun x h=>Nat.le_trans hxc.nxt (hG x h)
  have hwlt: ∀x,BsF w x→x<sb.next:=fun x hx=>hw.bn.lt x hx
  have hwe:Bn se w (CR l k m):=(((hw.bn.ext0 xc).ext0 xd).ext xe fun x hx h=>by
   have h1:=hwlt x hx
   have h2:=hG x h
   omega)
  have ho6:Bk se s.next 0 16:=((((Ay.owned oa).ext1 xb fun _ _ h=>h).ext1 xc fun _ _ h=>h).ext1 xd fun _ _ h=>h).ext1 xe fun x h h'=>by
   have h1:x<s.next+0+16:=h.2
   have h2:=hG x h'
   omega
  refine UJ_ (C6:=s.next) (C11:=sc.next) (k:=k) (m:=m) (w:=w) (l:=l) (s0:=s) (hxe.bnd hbd) hlen hby hm2 hm1 (by omega) hxe.cx (Nat.le_refl _) (by omega) (by omega) hwe (fun x hx=> ?_) ho6 oe JC_ (by simp[T.get_set]) (by simp[T.get_set]) (by simp[T.get_set]) fun sf w1 xf hw1 hn1=> ?_
  ·have h1:=hw.new x hx
   refine⟨by omega,fun h=> ?_⟩
   have h2:x<s.next+0+16:=h.2
   omega
  ·have hxf:Ext (BsF v) Non (s.cxN cxN) sf:=hxe.step xf hbd (fun x hx h=>by
    have h2:x<s.lim:=hx
    have h3:s.next≤x:=h
    omega) fun _ h=>h
   exact q1 hg _ w1 hxf.cx' (hw1.same rfl rfl) hn1
 ·have hxb:Ext (BsF v) Non (s.cxN cxN) sb:=hxa.step xb hbd (fun x _ h=>hF1 x h) fun _ h=>h.elim
  rw[B2 (k:=0) rfl,B2 (k:=1) rfl]
  refine VB.w CS_ (by omega) ?_
  simp -implicitDefEqProofs only[Py,Ac,W_oS,Aa,W_mv,Ab,T.get_set,reduceIte, ↓reduceIte,AM]
  refine W.cond (v:=true) UK Fp_ (by simp[T.get_set]) (by omega) (fun _=> ?_) fun h=>by cases h
  refine ZP_.w Nl_ (by omega) ?_
  simp -implicitDefEqProofs only[Do_,Ac,W_oS,Aa,W_mv,Ab,T.get_set,Al,reduceIte,Nat.reduceEqDiff, ↓reduceIte,EQ Tm_]
  have ho6:Bk sb s.next 0 16:=(Ay.owned oa).ext1 xb fun _ _ h=>h
  refine W.store CY rfl (CE _) ho6 fun sc nc xc oc=> ?_
  have hG: ∀x,In s.next 0 16 x→s.next≤x:=fun x h=>by have:=h.1;omega
  have hxc:Ext (BsF v) Non (s.cxN cxN) sc:=hxb.step xc hbd (fun x hx h=>by
   have h2:x<s.lim:=hx
   have:=hG x h
   omega) hG
  refine W.endG MD_ (.inl Aba_) (by omega) Pl ZF hxc.cx (W.resCell (a:=⟨s.next,0,none⟩) (by simp[T.get_set];rfl) ?_)
  refine W.loadA CY oc.row rfl fun sd md nd xd=> ?_
  have hxd:Ext (BsF v) Non (s.cxN cxN) sd:=hxc.step xd hbd (fun x hx h=>by
   have h2:x<s.lim:=hx
   have:=hG x h
   omega) fun _ h=>h.elim
  refine W.resTmp (v:= .slice none 0 0) (by simp[T.get_set]) (W.resTmp (v:= .bool false) (by simp[T.get_set]) (W.resNil ?_))
  exact q2 hg _ hxd.cx'
theorem MW_:Dd envS 97=some (List.replicate 16 (.int .u8 0)++[.int .i64 0, .int .i64 0, .bool false, .int .i64 0]):=by kernel_rfl
theorem Acc_:tyS envS 97=some (20,true):=by kernel_rfl
theorem Aeq_:fldN envS 97 0=some (0,18,true):=by kernel_rfl
theorem QJ_:fldN envS 97 1=some (18,1,false):=by kernel_rfl
theorem Zc:fldN envS 97 2=some (19,1,false):=by kernel_rfl
theorem H3:tyS envS 35=some (18,true):=by kernel_rfl
theorem Bl:tyS envS 3=some (1,false):=by kernel_rfl
theorem AaG_:tyS envS 4=some (1,false):=by kernel_rfl
theorem Da:tyS envS 36=some (1,false):=by kernel_rfl
theorem XZ:elT envS 36=some (18,32,List.replicate 16 (.int .u8 0)++[.int .i64 0, .int .i64 0]):=by kernel_rfl
theorem QV:appT envS 36 36=some (18,32,false,List.replicate 16 (.int .u8 0)++[.int .i64 0, .int .i64 0]):=by kernel_rfl
theorem On_:Dd envS 36=some [.slice none 0 0]:=by kernel_rfl
theorem QR:Dd envS 3=some [.int .i64 0]:=by kernel_rfl
abbrev Hd:Type:=List Nat×Nat×Nat
def BS (h:Hd):List Value:=u8l h.1++[.int .i64 (h.2.1:Nat), .int .i64 (h.2.2:Nat)]
theorem Fv {h:Hd}(h16:h.1.length=16):(BS h).length=18:=by
 unfold BS
 rw[List.length_append,By,h16]
 rfl
theorem Qw (h:Hd):(BS h).all oneCell=true:=by
 unfold BS
 rw[List.all_append,CE]
 rfl
def B0:List Hd→List Value
 |[]=>[]
 |h::l=>BS h++B0 l
theorem XE: ∀{l:List Hd},(∀h∈l,h.1.length=16)→(B0 l).length=l.length*18
 |[],_=>rfl
 |h::l,hl=>by
  unfold B0
  rw[List.length_append,Fv (hl h (by simp)),XE fun x hx=>hl x (by simp[hx]),List.length_cons]
  omega
theorem AG_ (h:Hd): ∀l:List Hd,B0 (l++[h])=B0 l++BS h
 |[]=>by show BS h++[]=_;rw[List.append_nil];rfl
 |x::l=>by
  show BS x++B0 (l++[h])=(BS x++B0 l)++BS h
  rw[AG_ h l,List.append_assoc]
def recC (h:Hd)(good:Bool)(rest:Int):List Value:=BS h++[.bool good, .int .i64 rest]
theorem Dd_ {h:Hd}(h16:h.1.length=16)(g:Bool)(r:Int):(recC h g r).length=20:=by
 unfold recC
 rw[List.length_append,Fv h16]
 rfl
theorem RM_ (h:Hd)(g:Bool)(r:Int):(recC h g r).all oneCell=true:=by
 unfold recC
 rw[List.all_append,Qw]
 rfl
theorem QN {h:Hd}(h16:h.1.length=16)(g:Bool)(r:Int):(recC h g r)[18]?=some (.bool g)∧(recC h g r)[19]?=some (.int .i64 r):=by
 unfold recC
 have:=Fv h16
 constructor
 ·rw[List.getElem?_append_right (by omega),this];rfl
 ·rw[List.getElem?_append_right (by omega),this];rfl
def CS (s:St)(D:Nat)(v:Value)(hs:List Hd):Prop:=(v= .slice none 0 0∧hs=[])∨ ∃b,D+2≤b∧Marked s 18 hs.length (B0 hs) v b∧hs≠[]
noncomputable abbrev scanL (tm:T Value)(st:LoopState)(D:Nat):AObj:= .loop st none 24 En BZ tm [10,11] Ny Mn D
structure ScI (A D:Nat)(tm:T Value)(st:LoopState)(s:St)(hs:List Hd)(bad size rest:Nat):Prop where
 lo:Obj s (D+1) (scanL tm st D)
 de:Obj s D (.deferred (some []))
 c2: ∃v,Own s A 0 v∧CS s D v hs
 c3:Own s (A+2) 0 (.int .i64 (size:Nat))
 c4:Own s (A+4) 0 (.int .i64 (bad:Nat))
 c5:Own s (A+6) 0 (.int .i64 (rest:Nat))
 all16: ∀h∈hs,h.1.length=16
 sep:A+8≤D
abbrev ScZ (A D:Nat):Nat→Prop:=fun x=>A≤x∧(x<A+8∨D+1≤x)
theorem CS.ext {F G:Nat→Prop}{s s':St}{D:Nat}{v:Value}{hs:List Hd}(h:CS s D v hs)(e:Ext F G s s')(hG: ∀x,D+2≤x→x<s.next→ ¬G x):CS s' D v hs:=by
 rcases h with h|⟨b,h1,h2,h3⟩
 ·exact .inl h
 ·refine .inr ⟨b,h1,h2.ext e fun x hx=>hG x (by have:=hx.1;omega) ?_,h3⟩
  have h4:=h2.lt
  have h5:x<b+0+(hs.length*18+1):=hx.2
  omega
theorem ScI.ext0 {F:Nat→Prop}{A D:Nat}{tm:T Value}{st:LoopState}{s s':St}{hs:List Hd}{bad size rest:Nat}(h:ScI A D tm st s hs bad size rest)(e:Ext F Non s s'):ScI A D tm st s' hs bad size rest:=
 ⟨h.lo.ext e id,h.de.ext e id,let ⟨v,h1,h2⟩:=h.c2;⟨v,h1.ext0 e,h2.ext e fun _ _ _=>id⟩,h.c3.ext0 e,h.c4.ext0 e,h.c5.ext0 e,h.all16,h.sep⟩
theorem CS.same {s s':St}{D:Nat}{v:Value}{hs:List Hd}(h:CS s D v hs)(hm:s'.mem=s.mem)(hn:s'.next=s.next):CS s' D v hs:=by
 rcases h with h|⟨b,h1,h2,h3⟩
 ·exact .inl h
 ·exact .inr ⟨b,h1,h2.same hm hn,h3⟩
theorem ScI.same {A D:Nat}{tm:T Value}{st:LoopState}{s s':St}{hs:List Hd}{bad size rest:Nat}(h:ScI A D tm st s hs bad size rest)(hm:s'.mem=s.mem)(hn:s'.next=s.next):ScI A D tm st s' hs bad size rest:=
 ⟨h.lo.same hm hn,h.de.same hm hn,let ⟨v,h1,h2⟩:=h.c2;⟨v,h1.same hm hn,h2.same hm hn⟩,h.c3.same hm hn,h.c4.same hm hn,h.c5.same hm hn,h.all16,h.sep⟩
theorem ScI.turn {A D:Nat}{tm:T Value}{st st':LoopState}{s:St}{hs:List Hd}{bad size rest:Nat}(h:ScI A D tm st s hs bad size rest):ScI A D tm st' ((s.rdN (D+1)).wrN (D+1) (.O (scanL tm st' D))) hs bad size rest:=by
 have e:Ext (fun x=>x=D+1) (fun x=>x=D+1) s ((s.rdN (D+1)).wrN (D+1) (.O (scanL tm st' D))):=by
  obtain⟨d1,p1,p2⟩:=(Ext.rdN (F:=fun x=>x=D+1) (G:=fun x=>x=D+1) s (D+1) fun _=>rfl).rd
  obtain⟨d2,p3,p4⟩:=(Ext.wrN (F:=fun x=>x=D+1) (G:=fun x=>x=D+1) (s.rdN (D+1)) (D+1) (.O (scanL tm st' D)) rfl).wr
  refine⟨Nat.le_refl _,rfl,rfl,fun x _ hx=> ?_,⟨d1,p1,p2⟩,⟨d2,p3,p4⟩⟩
  show T.get (T.set s.mem (D+1) _) x=_
  rw[T.get_set,if_neg]
  exact hx
 have hD:=h.de.1
 have sep:=h.sep
 refine⟨⟨h.lo.1, ?_⟩,h.de.ext e (by omega), ?_,h.c3.ext e (by omega),h.c4.ext e (by omega),h.c5.ext e (by omega),h.all16,h.sep⟩
 ·show T.get (T.set s.mem (D+1) _) (D+1)=_
  rw[T.get_set,if_pos rfl]
 ·obtain⟨v,h1,h2⟩:=h.c2
  exact⟨v,h1.ext e (by omega),h2.ext e fun x hx _ hq=>by omega⟩
theorem QC {A D:Nat}{s:St}(c:Cell)(h:A+8≤D):Ext (ScZ A D) (ScZ A D) s ((s.rdN (D+1)).wrN (D+1) c):=by
 obtain⟨d1,p1,p2⟩:=(Ext.rdN (F:=ScZ A D) (G:=ScZ A D) s (D+1) fun _=>⟨by omega, .inr (by omega)⟩).rd
 obtain⟨d2,p3,p4⟩:=(Ext.wrN (F:=ScZ A D) (G:=ScZ A D) (s.rdN (D+1)) (D+1) c ⟨by omega, .inr (by omega)⟩).wr
 refine⟨Nat.le_refl _,rfl,rfl,fun x _ hx=> ?_,⟨d1,p1,p2⟩,⟨d2,p3,p4⟩⟩
 show T.get (T.set s.mem (D+1) _) x=_
 rw[T.get_set,if_neg]
 intro h2
 exact hx ⟨by omega, .inr (by omega)⟩
theorem WW_:Nat.testBit BZ 10=true:=by kernel_rfl
theorem Ym_:Nat.testBit BZ 11=true:=by kernel_rfl
theorem VZ_ (a b:Value)(tm:T Value):HG BZ [10,11] [a,b] tm=T.set (T.set tm 10 a) 11 b:=by
 show putG BZ 11 b (putG BZ 10 a tm)=_
 unfold putG
 rw[WW_,Ym_]
theorem NC_:FW=[]:=by kernel_rfl
theorem Oj_:skim 64 [.code Ny, .beginRound, .code Mn]=I8:=by rw[←QU_];exact Uu_
theorem Pb {A D n:Nat}{tm tm':T Value}{td:List Item}{s:St}{hs:List Hd}{bad size rest:Nat}{Q:Value×FrameMode→St→Prop}(h:ScI A D tm .busy s hs bad size rest)(hT:skim 64 td=FW)(hn:1≤n)
  (q: ∀s1,ScI A D tm .ready s1 hs bad size rest→Ext (ScZ A D) (ScZ A D) s s1→s1.next=s.next→Q (.bool true, .run) s1):W (runF envS n ⟨24,En,BZ,tm',td, .run, .normal,some (D+1)⟩) s Q:=by
 rw[NC_]at hT
 exact W.endR hT h.lo (by omega) (q _ h.turn (QC _ h.sep) rfl)
structure ScF (A R:Nat)(at':Nat)(tm:T Value):Prop where
 t2:T.get tm 2=some (.pointer (some ⟨A,0,none⟩))
 t3:T.get tm 3=some (.pointer (some ⟨A+2,0,none⟩))
 t4:T.get tm 4=some (.pointer (some ⟨A+4,0,none⟩))
 t5:T.get tm 5=some (.pointer (some ⟨A+6,0,none⟩))
 t6:T.get tm 6=some (.int .i64 (at':Nat))
 t7:T.get tm 7=some (.pointer (some ⟨R,0,none⟩))
theorem In1 {b x:Nat}:In b 0 1 x↔x=b:=⟨fun h=>by have:=h.1;have:=h.2;omega,fun h=>⟨by omega,by omega⟩⟩
theorem Wb_ {A D R n at' r:Nat}{h:Hd}{g:Bool}{tm tm':T Value}{td:List Item}{s:St}{hs:List Hd}{bad size rest:Nat}{Q:Value×FrameMode→St→Prop}(hb:s.lim≤s.next)(hI:ScI A D tm .busy s hs bad size rest)(hF:ScF A R at' tm')(h16:h.1.length=16)(hR:Ay s R 0 (recC h g (r:Nat)))(hRD:D+2≤R)(hT:skim 64 td=Im)(hn:10≤n)
  (q: ∀s1,ScI A D tm .ready s1 hs bad at' r→Ext (ScZ A D) (ScZ A D) s s1→Q (.bool true, .run) s1):W (runF envS n ⟨24,En,BZ,tm',td, .run, .normal,some (D+1)⟩) s Q:=by
 have sep:=hI.sep
 refine LS_.w hT (by omega) ?_
 simp -implicitDefEqProofs only[V0,hF.t3,hF.t6,hF.t7,CF,Bm]
 rw[W_dq fun s Q=>Be (s:=s) Zc (by decide) Q]
 have hr19:Own (dSt s.mem s.next) R (0+19) (.int .i64 (r:Nat)):=(hR 19 _ (QN h16 g _).2).same rfl rfl
 refine W.dload Bl hr19.at' fun rd1 hr1=> ?_
 have h3:Own (oSt s.mem s.next) (A+2) 0 (.int .i64 (size:Nat)):=hI.c3.same rfl rfl
 refine W.dopG (W.store1 Bl rfl h3 fun s2 n2 x2 o2=>⟨In (A+2) 0 1,In (A+2) 0 1,x2,fun rd2 wr2 hr2 hw2=> ?_⟩)
 rw[Aa]
 have n2':s2.next=s.next:=n2
 have lt:=hI.lo.1
 have hRn:R+19<s.next:=by have:=hr19.1;have h0:(dSt s.mem s.next).next=s.next:=rfl;omega
 refine⟨PV ?_, ?_⟩
 ·simp -implicitDefEqProofs only[List.reverse_cons,List.reverse_nil,List.nil_append,List.cons_append,allP,Fk,List.take,KQ]
  have f1: ∀x,x∈rd1→ ¬s.next≤x:=fun x hx=>by have:=hr1 x hx;omega
  have f2: ∀x,x∈rd2→ ¬s.next≤x:=fun x hx=>Nat.not_le_of_lt (hr2 x hx).1
  have g2: ∀x,x∈wr2→ ¬s.next≤x:=fun x hx=>Nat.not_le_of_lt (hw2 x hx).1
  have d21: ∀x,x∈wr2→ ¬x∈rd1:=fun x hx hy=>by
   have h1:=In1.1 (hw2 x hx).2
   have h2:=hr1 x hy
   omega
  simp+contextual [f1,f2,g2,d21]
 ·refine W.cast (WP_ _ _ _ _ _ _ _ _) ?_
  simp -implicitDefEqProofs only[hF.t5,CF]
  have hx2: ∀s',s'.mem=s2.mem→s'.next=s2.next→Ext (ScZ A D) (ScZ A D) s s'→ScI A D tm .busy s' hs bad at' rest:=fun s' e1 e2 hx=>by
   have own: ∀(b o:Nat) (v:Value),b+o≠A+2→Own s b o v→Own s' b o v:=fun b o v hne hv=>((hv.same (s':=oSt s.mem s.next) rfl rfl).ext x2 fun h=>hne (In1.1 h)).same e1 e2
   refine⟨?_, ?_, ?_,o2.same e1 e2,own _ _ _ (by omega) hI.c4,own _ _ _ (by omega) hI.c5,hI.all16,sep⟩
   ·exact((hI.lo.same (s':=oSt s.mem s.next) rfl rfl).ext x2 fun h=>by have:=In1.1 h;omega).same e1 e2
   ·exact((hI.de.same (s':=oSt s.mem s.next) rfl rfl).ext x2 fun h=>by have:=In1.1 h;omega).same e1 e2
   ·obtain⟨v,c1,c2⟩:=hI.c2
    refine⟨v,own _ _ _ (by omega) c1, ?_⟩
    exact((c2.same (s':=oSt s.mem s.next) rfl rfl).ext x2 fun x hx _ h=>by have:=In1.1 h;omega).same e1 e2
  generalize hs':(⟨(dSt s2.mem s2.next).mem,(dSt s2.mem s2.next).next,s.lim,_,_,s.cx⟩:St)=s'
  have hx':Ext (ScZ A D) (ScZ A D) s s':=by
   rw[←hs']
   refine Ext.drawG (by rw[n2'];exact Nat.le_refl _) (fun x hx hg=>x2.mem x hx fun h=>hg ⟨by have:=In1.1 h;omega, .inl (by have:=In1.1 h;omega)⟩) ?_ ?_
   ·simp -implicitDefEqProofs only[List.mem_cons,List.not_mem_nil,or_false]
    rintro m (rfl|rfl|rfl|rfl) x hx _<;>first|(cases hx;done)|(have:=In1.1 (hw2 x hx).2;exact⟨by omega, .inl (by omega)⟩)
   ·simp -implicitDefEqProofs only[List.mem_cons,List.not_mem_nil,or_false]
    rintro m (rfl|rfl|rfl|rfl) x hx _<;>first|(cases hx;done)|(have:=hr1 x hx;exact⟨by omega, .inr (by omega)⟩)|(have:=In1.1 (hr2 x hx).2;exact⟨by omega, .inl (by omega)⟩)
  have hI':=hx2 s' (by rw[←hs'];rfl) (by rw[←hs'];rfl) hx'
  refine W.bind (W.store1 Bl rfl hI'.c5 fun s3 n3 x3 o3=>W.pure ?_)
  have own: ∀(b o:Nat) (v:Value),b+o≠A+6→Own s' b o v→Own s3 b o v:=fun b o v hne hv=>hv.ext x3 fun h=>hne (In1.1 h)
  have hI3:ScI A D tm .busy s3 hs bad at' r:=by
   refine⟨hI'.lo.ext x3 fun h=>by have:=In1.1 h;omega,hI'.de.ext x3 fun h=>by have:=In1.1 h;omega, ?_,own _ _ _ (by omega) hI'.c3,own _ _ _ (by omega) hI'.c4,o3,hI.all16,sep⟩
   obtain⟨v,c1,c2⟩:=hI'.c2
   exact⟨v,own _ _ _ (by omega) c1,c2.ext x3 fun x hx _ h=>by have:=In1.1 h;omega⟩
  have hx3:Ext (ScZ A D) (ScZ A D) s s3:=hx'.trans x3 hb (fun x _ h=>⟨by have:=In1.1 h;omega, .inl (by have:=In1.1 h;omega)⟩) fun x _ h=>⟨by have:=In1.1 h;omega, .inl (by have:=In1.1 h;omega)⟩
  refine Pb hI3 HE_ (by omega) fun s4 hI4 x4 _=> ?_
  exact q s4 hI4 (hx3.trans x4 hb (fun _ _ h=>h) fun _ _ h=>h)
theorem Afe_ {A D R n at':Nat}{tm tm':T Value}{td:List Item}{s:St}{hs:List Hd}{bad size rest:Nat}{Q:Value×FrameMode→St→Prop}(hb:s.lim≤s.next)(hI:ScI A D tm .busy s hs bad size rest)(hF:ScF A R at' tm')(hbad:bad≤1000000)(hT:skim 64 td=N4)(hn:10≤n)
  (q: ∀s1,ScI A D tm .ready s1 hs (bad+1) size rest→Ext (ScZ A D) (ScZ A D) s s1→Q (.bool true, .run) s1):W (runF envS n ⟨24,En,BZ,tm',td, .run, .normal,some (D+1)⟩) s Q:=by
 have sep:=hI.sep
 refine VL_.w hT (by omega) ?_
 have e1:wrap64 (((bad:Nat):Int)+1)=((bad+1:Nat):Int):=by
  rw[Bq (by omega) (by omega)];omega
 simp -implicitDefEqProofs only[Es_,Ac,W_oS,Aa,hF.t4]
 refine W.load1 Bl hI.c4.at' ?_
 simp -implicitDefEqProofs only[AD,e1]
 have hx1:Ext (ScZ A D) (ScZ A D) s (s.rdN (A+4+0)):=Ext.rdN s _ fun _=>⟨by omega, .inl (by omega)⟩
 have hI1:ScI A D tm .busy (s.rdN (A+4+0)) hs bad size rest:=hI.same rfl rfl
 generalize s.rdN (A+4+0)=s' at hx1 hI1
 refine W.store1 Bl rfl hI1.c4 fun s3 n3 x3 o3=> ?_
 have own: ∀(b o:Nat) (v:Value),b+o≠A+4→Own s' b o v→Own s3 b o v:=fun b o v hne hv=>hv.ext x3 fun h=>hne (In1.1 h)
 have hI3:ScI A D tm .busy s3 hs (bad+1) size rest:=by
  refine⟨hI1.lo.ext x3 fun h=>by have:=In1.1 h;omega,hI1.de.ext x3 fun h=>by have:=In1.1 h;omega, ?_,own _ _ _ (by omega) hI1.c3,o3,own _ _ _ (by omega) hI1.c5,hI.all16,sep⟩
  obtain⟨v,c1,c2⟩:=hI1.c2
  exact⟨v,own _ _ _ (by omega) c1,c2.ext x3 fun x hx _ h=>by have:=In1.1 h;omega⟩
 have hx3:Ext (ScZ A D) (ScZ A D) s s3:=hx1.trans x3 hb (fun x _ h=>⟨by have:=In1.1 h;omega, .inl (by have:=In1.1 h;omega)⟩) fun x _ h=>⟨by have:=In1.1 h;omega, .inl (by have:=In1.1 h;omega)⟩
 refine Pb hI3 Acn_ (by omega) fun s4 hI4 x4 _=> ?_
 exact q s4 hI4 (hx3.trans x4 hb (fun _ _ h=>h) fun _ _ h=>h)
theorem Wl_ {id:List Nat}(h:id.length=16)(a b:Nat):Dg (fun k=>some (k*18,18)) [(0, .agg (BS (id,a,b)).toArray)] (rep 1 (List.replicate 16 (.int .u8 0)++[.int .i64 0, .int .i64 0]))=some (BS (id,a,b)):=by
 match id,h with
 |[x0,x1,x2,x3,x4,x5,x6,x7,x8,x9,x10,x11,x12,x13,x14,x15],_=>rfl
theorem TI_ {A D R n at':Nat}{h:Hd}{g:Bool}{r:Int}{tm tm':T Value}{td:List Item}{s:St}{hs:List Hd}{bad size rest:Nat}{Q:Value×FrameMode→St→Prop}(hb:s.lim≤s.next)(hI:ScI A D tm .busy s hs bad size rest)(hF:ScF A R at' tm')(h16:h.1.length=16)(hR:Ay s R 0 (recC h g r))(hRD:D+2≤R)(hmany:hs.length≤10000)(hT:skim 64 td=Lj)(hn:10≤n)
  (q: ∀s1,ScI A D tm .ready s1 (hs++[h]) bad size rest→Ext (ScZ A D) (ScZ A D) s s1→Q (.bool true, .run) s1):W (runF envS n ⟨24,En,BZ,tm',td, .run, .normal,some (D+1)⟩) s Q:=by
 have sep:=hI.sep
 have hRl:(recC h g r).length=20:=Dd_ h16 g r
 have hRn:R+19<s.next:=by
  have:=(hR 19 _ (List.getElem?_eq_getElem (show 19<(recC h g r).length by omega))).1
  omega
 refine Lg_.w hT (by omega) ?_
 obtain⟨v,c1,c2⟩:=hI.c2
 simp -implicitDefEqProofs only[VL,Ac,W_oS,Aa,Af,Ae,Ao,Al,Ad,hF.t2,hF.t7]
 refine W.load1 Da c1.at' ?_
 have hx1:Ext (ScZ A D) (ScZ A D) s (s.rdN (A+0)):=Ext.rdN s _ fun _=>⟨by omega, .inl (by omega)⟩
 have hI1:ScI A D tm .busy (s.rdN (A+0)) hs bad size rest:=hI.same rfl rfl
 have c11:Own (s.rdN (A+0)) A 0 v:=c1.same rfl rfl
 have c21:CS (s.rdN (A+0)) D v hs:=c2.same rfl rfl
 have hR1:Ay (s.rdN (A+0)) R 0 (recC h g r):=fun i v e=>(hR i v e).same rfl rfl
 have hs1:(s.rdN (A+0)).next=s.next:=rfl
 generalize s.rdN (A+0)=s1 at hx1 hI1 c11 c21 hR1 hs1
 rw[Be Aeq_ (by decide)]
 have hl18:(BS h).length=18:=Fv h16
 have hRh:Ay s1 R (0+0) (BS h):=by
  have:=hR1.take (n:=18)
  have e:(recC h g r).take 18=BS h:=by
   unfold recC
   rw[←hl18,List.take_left]
  rw[e]at this
  exact this
 refine W.loadA H3 hRh.row hl18 fun s2 m2 n2 x2=> ?_
 have hx2:Ext (ScZ A D) (ScZ A D) s s2:=hx1.trans x2 hb (fun x _ h=>⟨by have:=h.1;omega, .inr (by have:=h.1;omega)⟩) fun _ _ h=>h.elim
 have hI2:ScI A D tm .busy s2 hs bad size rest:=hI1.same m2 n2
 have c12:Own s2 A 0 v:=c11.same m2 n2
 have c22:CS s2 D v hs:=c21.same m2 n2
 have hb2:s2.lim≤s2.next:=hx2.bnd hb
 have n2':s2.next=s.next:=n2.trans hs1
 obtain⟨id,ha,hz⟩:=h
 try simp -implicitDefEqProofs only[Ac,W_oS,W_on,Aa,W_mv,Ab,Ap,T.get_set,Af,Ae,Ao,Al,Ad,Ai,reduceIte,Ah,Av,As,Au,Ak,Aq,Ar,Aw,Aj,An,Nat.reduceEqDiff,reduceCtorEq, ↓reduceIte]
 refine W.buildS hb2 (r:=BS (id,ha,hz)) XZ (by decide) (Wl_ h16 ha hz) (BY (by decide)) fun s3 n3 x3 o3=> ?_
 have n3':s3.next=s.next+19:=by rw[n3,hl18,n2']
 have hx3:Ext (ScZ A D) (ScZ A D) s s3:=hx2.trans x3 hb (fun _ _ h=>h.elim) fun _ _ h=>h.elim
 have hI3:ScI A D tm .busy s3 hs bad size rest:=hI2.ext0 x3
 have c13:Own s3 A 0 v:=c12.ext0 x3
 have c23:CS s3 D v hs:=c22.ext x3 fun _ _ _ h=>h
 have hb3:s3.lim≤s3.next:=hx3.bnd hb
 simp -implicitDefEqProofs only[Em]
 have hsrc:SrcG s3 18 32 false (List.replicate 16 (.int .u8 0)++[.int .i64 0, .int .i64 0]) (.slice (some ⟨s2.next,0,none⟩) 1 1) 1 (BS (id,ha,hz)) (In s2.next 0 (1*18)):=(Gr o3.row (by rw[hl18])).g
 have hDs:D+2≤s.next:=by have:=hI.lo.1;omega
 have fin: ∀(s4:St) (v2:Value) (b2:Nat) (n':Nat) (td':List Item) (tm9:T Value),Fresh1 s3 s4 18 (hs.length+1) (B0 hs++BS (id,ha,hz)) v2 b2→Ext (ScZ A D) (ScZ A D) s s4→(∀b o u,b+o<D+2→Own s3 b o u→Own s4 b o u)→(∀l o,l<D+2→Obj s3 l o→Obj s4 l o)→2≤n'→skim 64 td'=FW→
   W (Bt envS 36 (.pointer (some ⟨A,0,none⟩)) v2) s4 fun _ s5=>W (runF envS n' ⟨24,En,BZ,tm9,td', .run, .normal,some (D+1)⟩) s5 Q:=fun s4 v2 b2 n' td' tm9 hf x4 own obj hn' hT'=>by
  have hb4:s4.lim≤s4.next:=x4.bnd hb
  have hv2:oneCell v2=true:=by rw[hf.val];rfl
  refine W.store1 Da hv2 (own _ _ _ (by omega) c13) fun s5 n5 x5 o5=> ?_
  have own5: ∀b o u,b+o<D+2→b+o≠A→Own s3 b o u→Own s5 b o u:=fun b o u h1 h2 hu=>(own b o u h1 hu).ext x5 fun h=>h2 (In1.1 h)
  have hI5:ScI A D tm .busy s5 (hs++[(id,ha,hz)]) bad size rest:=by
   refine⟨(obj _ _ (by omega) hI3.lo).ext x5 fun h=>by have:=In1.1 h;omega,(obj _ _ (by omega) hI3.de).ext x5 fun h=>by have:=In1.1 h;omega, ?_,own5 _ _ _ (by omega) (by omega) hI3.c3,own5 _ _ _ (by omega) (by omega) hI3.c4,own5 _ _ _ (by omega) (by omega) hI3.c5, ?_,sep⟩
   ·refine⟨v2,o5, .inr ⟨b2,by have:=hf.new;omega, ?_,by simp⟩⟩
    rw[List.length_append,AG_]
    exact hf.marked.ext x5 fun x hx h=>by
     have h1:=In1.1 h
     have h2:=hx.1
     have h3:=hf.new
     omega
   ·intro y hy
    rcases List.mem_append.1 hy with hy|hy
    ·exact hI.all16 y hy
    ·rw[List.mem_singleton.1 hy];exact h16
  have hx5:Ext (ScZ A D) (ScZ A D) s s5:=x4.trans x5 hb (fun x _ h=>⟨by have:=In1.1 h;omega, .inl (by have:=In1.1 h;omega)⟩) fun x _ h=>⟨by have:=In1.1 h;omega, .inl (by have:=In1.1 h;omega)⟩
  refine Pb hI5 hT' (by omega) fun s6 hI6 x6 _=> ?_
  exact q s6 hI6 (hx5.trans x6 hb (fun _ _ h=>h) fun _ _ h=>h)
 rcases c23 with⟨rfl,rfl⟩|⟨b,g1,g2,g3⟩
 ·refine W.appNil hb3 QV hsrc (by decide) (by decide) (by decide) (by decide) (by rw[hl18]) (Qw _) fun s4 v2 b2 hf x4=> ?_
  refine fin s4 v2 b2 _ _ _ hf ?_ ?_ ?_ (by omega) UF
  ·exact hx3.trans x4 hb (fun x _ h=>⟨by have:=h.1;omega, .inr (by have:=h.1;omega)⟩) fun _ _ h=>h.elim
  ·exact fun b o u _ hu=>hu.ext0 x4
  ·exact fun l o _ ho=>ho.ext x4 fun h=>h
 ·have hpos:0<hs.length:=by
   cases hs with
   |nil=>exact absurd rfl g3
   |cons _ _=>simp
  refine W.appMark hb3 QV g2 hsrc (by decide) hpos (by decide) (by decide) (by omega) (by rw[hl18]) (Qw _) fun s4 v2 b2 hf x4=> ?_
  have hG: ∀x,In b 0 (hs.length*18+1) x→D+2≤x:=fun x h=>by have:=h.1;omega
  refine fin s4 v2 b2 _ _ _ hf ?_ ?_ ?_ (by omega) UF
  ·refine hx3.trans x4 hb (fun x _ h=> ?_) fun x _ h=> ?_
   ·rcases h with h|h
    ·exact⟨by have:=h.1;omega, .inr (by have:=h.1;omega)⟩
    ·have:=hG x h
     exact⟨by omega, .inr (by omega)⟩
   ·have:=hG x h
    exact⟨by omega, .inr (by omega)⟩
  ·exact fun b o u h1 hu=>hu.ext x4 fun h=>by have:=hG _ h;omega
  ·exact fun l o h1 ho=>ho.ext x4 fun h=>by have:=hG _ h;omega
def Ei (hs:List Hd)(bad size rest:Nat)(at':Nat)(h:Hd)(g:Bool)(r:Int):List Hd×Nat×Nat×Nat:=
 if 0≤r then(hs,bad,at',r.toNat)else if g then(hs++[h],bad,size,rest)else(hs,bad+1,size,rest)
theorem Fc_ {A D n at':Nat}{h:Hd}{g:Bool}{r:Int}{tm:T Value}{s:St}{hs:List Hd}{bad size rest:Nat}{Q:Value→St→Prop}(hb:s.lim≤s.next)(hI:ScI A D tm .ready s hs bad size rest)(h2:T.get tm 2=some (.pointer (some ⟨A,0,none⟩)))(h3:T.get tm 3=some (.pointer (some ⟨A+2,0,none⟩)))(h4:T.get tm 4=some (.pointer (some ⟨A+4,0,none⟩)))(h5:T.get tm 5=some (.pointer (some ⟨A+6,0,none⟩)))
  (h16:h.1.length=16) (hmany:hs.length≤10000) (hbad:bad≤1000000) (hr1: -10≤r) (hr2:r≤10) (hn:60≤n)
  (q: ∀s1,ScI A D tm .ready s1 (Ei hs bad size rest at' h g r).1 (Ei hs bad size rest at' h g r).2.1 (Ei hs bad size rest at' h g r).2.2.1 (Ei hs bad size rest at' h g r).2.2.2→Ext (ScZ A D) (ScZ A D) s s1→Q (.bool true) s1):
  W (Cg (runF envS n) (D+1) [.int .i64 (at':Nat), .agg (recC h g r).toArray]) s Q:=by
 have sep:=hI.sep
 refine W.round hI.lo rfl (by rfl) ?_
 rw[VZ_]
 have hx0:Ext (ScZ A D) (ScZ A D) s (s.rdN (D+1)):=Ext.rdN s _ fun _=>⟨by omega, .inr (by omega)⟩
 refine HV_.w Oj_ (by omega) ?_
 simp -implicitDefEqProofs only[Vm,Aa,W_mv,Ab,T.get_set,reduceIte,Nat.reduceEqDiff, ↓reduceIte]
 refine AbX_.w QT_ (by omega) ?_
 simp -implicitDefEqProofs only[X5,Ac,W_oS,Aa,Ab,T.get_set,reduceIte,Nat.reduceEqDiff, ↓reduceIte]
 refine W.alloc MW_ fun s2 n2 x2 o2=> ?_
 have hI0:ScI A D tm .ready ((s.rdN (D+1)).cxN cxR) hs bad size rest:=hI.same rfl rfl
 have hn0:((s.rdN (D+1)).cxN cxR).next=s.next:=rfl
 have hx0':Ext (ScZ A D) (ScZ A D) (s.cxN cxR) ((s.rdN (D+1)).cxN cxR):=Ext.rdN (s.cxN cxR) _ fun _=>⟨by omega, .inr (by omega)⟩
 generalize (s.rdN (D+1)).cxN cxR=s1 at *
 have hb0:(s.cxN cxR).lim≤(s.cxN cxR).next:=hb
 have hx2:Ext (ScZ A D) (ScZ A D) (s.cxN cxR) s2:=hx0'.trans x2 hb0 (fun _ _ h=>h.elim) fun _ _ h=>h.elim
 have hb2:s2.lim≤s2.next:=hx2.bnd hb0
 have hI2:=hI0.ext0 x2
 have hD:D+2≤s.next:=by have:=hI.lo.1;omega
 rw[hn0]at o2 n2
 rw[hn0]
 refine W.store Acc_ (Dd_ h16 g r) (RM_ h g r) (fun i hi=>(Ay.owned o2) i (by simpa using hi)) fun s3 n3 x3 o3=> ?_
 have hG: ∀x,In s.next 0 20 x→s.next≤x:=fun x h=>by have:=h.1;omega
 have hx3:Ext (ScZ A D) (ScZ A D) (s.cxN cxR) s3:=hx2.trans x3 hb0 (fun x _ h=>⟨by have:=hG x h;omega, .inr (by have:=hG x h;omega)⟩) fun x _ h=>⟨by have:=hG x h;omega, .inr (by have:=hG x h;omega)⟩
 have hlt: ∀(b o:Nat) (u:Value),b+o<s.next→Own s2 b o u→Own s3 b o u:=fun b o u h1 hu=>hu.ext x3 fun h=>by have:=hG _ h;omega
 have hI3:ScI A D tm .ready s3 hs bad size rest:=by
  obtain⟨v,c1,c2⟩:=hI0.c2
  refine⟨hI2.lo.ext x3 fun h=>by have:=hG _ h;omega,hI2.de.ext x3 fun h=>by have:=hG _ h;omega,⟨v,hlt _ _ _ (by omega) (c1.ext0 x2), ?_⟩,hlt _ _ _ (by omega) hI2.c3,hlt _ _ _ (by omega) hI2.c4,hlt _ _ _ (by omega) hI2.c5,hI.all16,sep⟩
  rcases c2 with c2|⟨b,g1,g2,g3⟩
  ·exact .inl c2
  ·refine .inr ⟨b,g1,(g2.ext x2 fun _ _ h=>h).ext x3 fun x hx h=> ?_,g3⟩
   have e1:=hG x h
   have e2:=g2.lt
   have e3:x<b+0+(hs.length*18+1):=hx.2
   omega
 refine W.begR (k:=Ie.tail) (Aga_.trans Abt_) hI3.lo (by omega) ?_
 have hI4:ScI A D tm .busy _ hs bad size rest:=hI3.turn (st':= .busy)
 have x4:=QC (A:=A) (D:=D) (s:=s3) (.O (scanL tm .busy D)) sep
 have o4:Ay ((s3.rdN (D+1)).wrN (D+1) (.O (scanL tm .busy D))) s.next 0 (recC h g r):=fun i v e=>by
  have:=o3 i v e
  refine⟨this.1, ?_⟩
  show T.get (T.set s3.mem (D+1) _) _=_
  rw[T.get_set,if_neg (by omega)]
  exact this.2
 have hx4:Ext (ScZ A D) (ScZ A D) (s.cxN cxR) ((s3.rdN (D+1)).wrN (D+1) (.O (scanL tm .busy D))):=hx3.trans x4 hb0 (fun _ _ h=>h) fun _ _ h=>h
 show W (runF envS _ _) ((s3.rdN (D+1)).wrN (D+1) (.O (scanL tm .busy D))) _
 generalize (s3.rdN (D+1)).wrN (D+1) (.O (scanL tm .busy D))=s4 at *
 refine IW_.w Rc_ (by omega) ?_
 simp -implicitDefEqProofs only[Yc,Ac,W_oS,Aa,W_mv,Ab,T.get_set,reduceIte, ↓reduceIte,Be Zc (by decide:0<1)]
 have hr19:Own s4 s.next (0+19) (.int .i64 r):=o4 19 _ (QN h16 g r).2
 refine W.load1 Bl hr19.at' ?_
 simp -implicitDefEqProofs only[AP]
 have hR5:s.next+20≤s4.next:=by have:=hr19.1;omega
 have hx5:Ext (ScZ A D) (ScZ A D) (s.cxN cxR) (s4.rdN (s.next+(0+19))):=hx4.trans (Ext.rdN (F:=ScZ A D) (G:=ScZ A D) s4 _ fun _=>⟨by omega, .inr (by omega)⟩) hb0 (fun _ _ h=>h) fun _ _ h=>h
 have hI5:ScI A D tm .busy (s4.rdN (s.next+(0+19))) hs bad size rest:=hI4.same rfl rfl
 have o5:Ay (s4.rdN (s.next+(0+19))) s.next 0 (recC h g r):=fun i v e=>(o4 i v e).same rfl rfl
 generalize s4.rdN (s.next+(0+19))=s5 at *
 have hb5:s5.lim≤s5.next:=hx5.bnd hb0
 have ends: ∀s6,Ext (ScZ A D) (ScZ A D) s5 s6→Ext (ScZ A D) (ScZ A D) s (s6.cxN s.cx):=fun s6 x6=>(hx5.trans x6 hb0 (fun _ _ h=>h) fun _ _ h=>h).cx'
 unfold Ei at q
 by_cases hr:0≤r
 ·rw[if_pos hr]at q
  refine W.cond (v:=true) Dc_ AP_ (by simp[T.get_set,hr]) (by omega) (fun _=> ?_) fun h=>by cases h
  obtain⟨m,rfl⟩: ∃m:Nat,r=(m:Int):=⟨r.toNat,by omega⟩
  refine Wb_ (R:=s.next) (at':=at') (h:=h) (g:=g) (r:=m) hb5 hI5 ⟨by simp[T.get_set,h2],by simp[T.get_set,h3],by simp[T.get_set,h4],by simp[T.get_set,h5],by simp[T.get_set],by simp[T.get_set]⟩ h16 o5 hD KS_ (by omega) fun s6 hI6 x6=> ?_
  exact q _ (hI6.same rfl rfl) (ends s6 x6)
 ·rw[if_neg hr]at q
  refine W.cond (v:=false) Dc_ AP_ (by simp[T.get_set];omega) (by omega) (fun h=>by cases h) fun _=> ?_
  refine Ug_.w XI_ (by omega) ?_
  simp -implicitDefEqProofs only[Xl,Ac,W_oS,Aa,W_mv,Ab,T.get_set,reduceIte,Nat.reduceEqDiff, ↓reduceIte,Be QJ_ (by decide:0<1)]
  have hr18:Own s5 s.next (0+18) (.bool g):=o5 18 _ (QN h16 g r).1
  refine W.load1 AaG_ hr18.at' ?_
  have hx6:Ext (ScZ A D) (ScZ A D) s5 (s5.rdN (s.next+(0+18))):=Ext.rdN (F:=ScZ A D) (G:=ScZ A D) s5 _ fun _=>⟨by omega, .inr (by omega)⟩
  have hI6:ScI A D tm .busy (s5.rdN (s.next+(0+18))) hs bad size rest:=hI5.same rfl rfl
  have o6:Ay (s5.rdN (s.next+(0+18))) s.next 0 (recC h g r):=fun i v e=>(o5 i v e).same rfl rfl
  have hb6:(s5.rdN (s.next+(0+18))).lim≤(s5.rdN (s.next+(0+18))).next:=hb5
  generalize s5.rdN (s.next+(0+18))=s6 at *
  cases g with
  |true=>
   rw[if_pos rfl]at q
   refine W.cond (v:=true) ZN BE_ (by simp[T.get_set]) (by omega) (fun _=> ?_) fun h=>by cases h
   refine TI_ (R:=s.next) (at':=at') (h:=h) (g:=true) (r:=r) hb6 hI6 ⟨by simp[T.get_set,h2],by simp[T.get_set,h3],by simp[T.get_set,h4],by simp[T.get_set,h5],by simp[T.get_set],by simp[T.get_set]⟩ h16 o6 hD hmany AcP_ (by omega) fun s7 hI7 x7=> ?_
   exact q _ (hI7.same rfl rfl) (ends s7 (hx6.trans x7 hb5 (fun _ _ h=>h) fun _ _ h=>h))
  |false=>
   rw[if_neg (by decide)]at q
   refine W.cond (v:=false) ZN BE_ (by simp[T.get_set]) (by omega) (fun h=>by cases h) fun _=> ?_
   refine Afe_ (R:=s.next) (at':=at') hb6 hI6 ⟨by simp[T.get_set,h2],by simp[T.get_set,h3],by simp[T.get_set,h4],by simp[T.get_set,h5],by simp[T.get_set],by simp[T.get_set]⟩ hbad AaV_ (by omega) fun s7 hI7 x7=> ?_
   exact q _ (hI7.same rfl rfl) (ends s7 (hx6.trans x7 hb5 (fun _ _ h=>h) fun _ _ h=>h))
theorem Gy_:WE=[]:=by kernel_rfl
theorem Oh_ (r:Nat):Do envS 97 [(2, .int .i64 (r:Nat))]=some [.int .u8 0, .int .u8 0, .int .u8 0, .int .u8 0, .int .u8 0, .int .u8 0, .int .u8 0, .int .u8 0, .int .u8 0, .int .u8 0, .int .u8 0, .int .u8 0, .int .u8 0, .int .u8 0, .int .u8 0, .int .u8 0, .int .i64 0, .int .i64 0, .bool false, .int .i64 (r:Nat)]:=by kernel_rfl
abbrev KO:List Nat:=List.replicate 16 0
theorem My_ (r:Nat):recC (KO,0,0) false (r:Nat)=[.int .u8 0, .int .u8 0, .int .u8 0, .int .u8 0, .int .u8 0, .int .u8 0, .int .u8 0, .int .u8 0, .int .u8 0, .int .u8 0, .int .u8 0, .int .u8 0, .int .u8 0, .int .u8 0, .int .u8 0, .int .u8 0, .int .i64 0, .int .i64 0, .bool false, .int .i64 (r:Nat)]:=rfl
theorem Jc_ (x0 x1 x2 x3 x4 x5 x6 x7 x8 x9 x10 x11 x12 x13 x14 x15 a b:Nat):Do envS 35 [(0, .agg #[u8 x0,u8 x1,u8 x2,u8 x3,u8 x4,u8 x5,u8 x6,u8 x7,u8 x8,u8 x9,u8 x10,u8 x11,u8 x12,u8 x13,u8 x14,u8 x15]),(1, .int .i64 (a:Nat)),(2, .int .i64 (b:Nat))]=some [u8 x0,u8 x1,u8 x2,u8 x3,u8 x4,u8 x5,u8 x6,u8 x7,u8 x8,u8 x9,u8 x10,u8 x11,u8 x12,u8 x13,u8 x14,u8 x15, .int .i64 (a:Nat), .int .i64 (b:Nat)]:=by kernel_rfl
theorem Afh_ (x0 x1 x2 x3 x4 x5 x6 x7 x8 x9 x10 x11 x12 x13 x14 x15 a b:Nat)(g:Bool):Do envS 97 [(0, .agg #[u8 x0,u8 x1,u8 x2,u8 x3,u8 x4,u8 x5,u8 x6,u8 x7,u8 x8,u8 x9,u8 x10,u8 x11,u8 x12,u8 x13,u8 x14,u8 x15, .int .i64 (a:Nat), .int .i64 (b:Nat)]),(1, .bool g),(2, .int .i64 (-1))]=some [u8 x0,u8 x1,u8 x2,u8 x3,u8 x4,u8 x5,u8 x6,u8 x7,u8 x8,u8 x9,u8 x10,u8 x11,u8 x12,u8 x13,u8 x14,u8 x15, .int .i64 (a:Nat), .int .i64 (b:Nat), .bool g, .int .i64 (-1)]:=by kernel_rfl
theorem PF_ {id:List Nat}(h:id.length=16)(a b:Nat):Do envS 35 [(0, .agg (u8l id).toArray),(1, .int .i64 (a:Nat)),(2, .int .i64 (b:Nat))]=some (BS (id,a,b)):=by
 match id,h with
 |[x0,x1,x2,x3,x4,x5,x6,x7,x8,x9,x10,x11,x12,x13,x14,x15],_=>exact Jc_ x0 x1 x2 x3 x4 x5 x6 x7 x8 x9 x10 x11 x12 x13 x14 x15 a b
theorem Pp_ {id:List Nat}(h:id.length=16)(a b:Nat)(g:Bool):Do envS 97 [(0, .agg (BS (id,a,b)).toArray),(1, .bool g),(2, .int .i64 (-1))]=some (recC (id,a,b) g (-1)):=by
 match id,h with
 |[x0,x1,x2,x3,x4,x5,x6,x7,x8,x9,x10,x11,x12,x13,x14,x15],_=>exact Afh_ x0 x1 x2 x3 x4 x5 x6 x7 x8 x9 x10 x11 x12 x13 x14 x15 a b g
abbrev LF (A:Nat)(v:Value):Nat→Prop:=fun x=>BsF v x∨A≤x
structure ScT (A:Nat)(tm:T Value):Prop where
 t2:T.get tm 2=some (.pointer (some ⟨A,0,none⟩))
 t3:T.get tm 3=some (.pointer (some ⟨A+2,0,none⟩))
 t4:T.get tm 4=some (.pointer (some ⟨A+4,0,none⟩))
 t5:T.get tm 5=some (.pointer (some ⟨A+6,0,none⟩))
theorem MM {A D n k r:Nat}{v:Value}{tm tmS:T Value}{td:List Item}{s s0:St}{hs:List Hd}{bad:Nat}{Q:Value→St→Prop}(hb:s.lim≤s.next)(hcx:s.cx=cxN)(hI:ScI A D tmS .ready s hs bad 0 0)(hS:ScT A tmS)(h0:T.get tm 0=some (.func (.yield (D+1)) #[] #[]))(h3:T.get tm 3=some (.int .i64 (k:Nat)))(h6:T.get tm 6=some (.int .i64 (r:Nat)))(hr:r≤2)
  (hmany:hs.length≤10000) (hbad:bad≤1000000) (hT:skim 64 td=FU) (hn:100≤n)
  (q: ∀s1,ScI A D tmS .ready s1 hs bad k r→Ext (LF A v) (ScZ A D) s s1→Q (.tuple #[]) (s1.cxN s0.cx)):W (runF envS n ⟨109,DZ,B1,tm,td, .run, .normal,none⟩) s fun p s1=>Q p.1 (s1.cxN s0.cx):=by
 refine AdN_.w hT (by omega) ?_
 simp -implicitDefEqProofs only[Eh_,Ac,W_oS,W_on,Aa,W_mv,Af,Ae,Ao,Al,Ad,h0,h3,h6,EQ (Oh_ r)]
 rw[←My_ r]
 refine W.yield (Fc_ hb hI hS.t2 hS.t3 hS.t4 hS.t5 rfl hmany hbad (by omega) (by omega) (by omega) fun s1 hI1 x1=> ?_)
 try simp -implicitDefEqProofs only[Ac,W_oS,W_on,Aa,W_mv,Ab,Ap,T.get_set,Af,Ae,Ao,Al,Ad,Ai,reduceIte,Ah,Av,As,Au,Ak,Aq,Ar,Aw,Aj,An,Nat.reduceEqDiff,reduceCtorEq, ↓reduceIte]
 have hsn:Ei hs bad 0 0 k (KO,0,0) false (r:Nat)=(hs,bad,k,r):=by
  unfold Ei
  rw[if_pos (by omega)]
  rfl
 rw[hsn]at hI1
 refine W.end' (rs:=[]) (vs:=[]) ZC_ (.inr Gy_) (by omega) Gj_ MQ_ (x1.cx.trans hcx) rfl ?_
 exact q s1 hI1 (x1.weak hb (fun x _ h=> .inr h.1) fun _ _ h=>h)
theorem Agh_ {A D C7 n k m:Nat}{v:Value}{g:Bool}{id:List Nat}{tm tmS:T Value}{td:List Item}{s:St}{hs:List Hd}{bad:Nat}{Q:Value×FrameMode→St→Prop}(hb:s.lim≤s.next)(hI:ScI A D tmS .ready s hs bad 0 0)(hS:ScT A tmS)(h0:T.get tm 0=some (.func (.yield (D+1)) #[] #[]))(h1:T.get tm 1=some v)(h3:T.get tm 3=some (.int .i64 (k:Nat)))(h4:T.get tm 4=some (.int .i64 (m:Nat)))(h7:T.get tm 7=some (.pointer (some ⟨C7,0,none⟩)))(h9:T.get tm 9=some (.bool g))
  (h16:id.length=16) (ho7:Ay s C7 0 (u8l id)) (hC7:A≤C7) (hm1:1≤m) (hm2:m≤1024) (hk:k≤1000000) (hmany:hs.length≤10000) (hbad:bad≤1000000) (hT:skim 64 td=IF) (hn:200≤n)
  (q: ∀n' s1 tm' td',n≤n'+10→skim 64 td'=E2→ScI A D tmS .ready s1 (if g then hs++[(id,k,m)]else hs) (if g then bad else bad+1) 0 0→Ext (fun x=>A≤x) (ScZ A D) s s1→T.get tm' 0=some (.func (.yield (D+1)) #[] #[])→T.get tm' 1=some v→T.get tm' 3=some (.int .i64 (k+26+m:Nat))→W (runF envS n' ⟨109,DZ,B1,tm',td', .run, .normal,none⟩) s1 Q):
  W (runF envS n ⟨109,DZ,B1,tm,td, .run, .normal,none⟩) s Q:=by
 refine YR_.w hT (by omega) ?_
 have hIl:(u8l id).length=16:=by rw[By];exact h16
 simp -implicitDefEqProofs only[WK,Ac,W_oS,W_on,Aa,W_mv,Ab,Af,Ae,Ao,Al,Ad,h0,h3,h4,h7,h9]
 refine W.loadA CY ho7.row hIl fun s1 m1 n1 x1=> ?_
 have hb1:s1.lim≤s1.next:=x1.bnd hb
 have hI1:ScI A D tmS .ready s1 hs bad 0 0:=hI.same m1 n1
 have hx1:Ext (fun x=>A≤x) (ScZ A D) s s1:=x1.weak hb (fun x _ h=>by have:=h.1;omega) fun _ _ h=>h.elim
 try simp -implicitDefEqProofs only[Ac,W_oS,W_on,Aa,W_mv,Ab,Ap,T.get_set,Af,Ae,Ao,Al,Ad,Ai,reduceIte,Ah,Av,As,Au,Ak,Aq,Ar,Aw,Aj,An,Nat.reduceEqDiff,reduceCtorEq, ↓reduceIte]
 rw[EQ (PF_ h16 k m)]
 try simp -implicitDefEqProofs only[Ac,W_oS,W_on,Aa,W_mv,Ab,Ap,T.get_set,Af,Ae,Ao,Al,Ad,Ai,reduceIte,Ah,Av,As,Au,Ak,Aq,Ar,Aw,Aj,An,Nat.reduceEqDiff,reduceCtorEq, ↓reduceIte]
 rw[EQ (Pp_ h16 k m g)]
 try simp -implicitDefEqProofs only[Ac,W_oS,W_on,Aa,W_mv,Ab,Ap,T.get_set,Af,Ae,Ao,Al,Ad,Ai,reduceIte,Ah,Av,As,Au,Ak,Aq,Ar,Aw,Aj,An,Nat.reduceEqDiff,reduceCtorEq, ↓reduceIte]
 refine W.yield (Fc_ hb1 hI1 hS.t2 hS.t3 hS.t4 hS.t5 h16 hmany hbad (by omega) (by omega) (by omega) fun s2 hI2 x2=> ?_)
 have hsn:Ei hs bad 0 0 k (id,k,m) g (-1)=(if g then hs++[(id,k,m)]else hs,if g then bad else bad+1,0,0):=by
  unfold Ei
  rw[if_neg (by omega)]
  cases g<;>rfl
 rw[hsn]at hI2
 have hx2:Ext (fun x=>A≤x) (ScZ A D) s s2:=hx1.trans x2 hb (fun x _ h=>h.1) fun _ _ h=>h
 simp -implicitDefEqProofs only[DO,Bool.not_true]
 refine W.cond (v:=false) MO_ VV_ (by simp[T.get_set]) (by omega) (fun h=>by cases h) fun _=> ?_
 refine GN_.w Ra_ (by omega) ?_
 simp -implicitDefEqProofs only[WV,Ac,W_oS,W_on,Aa,W_mv,Ab,T.get_set,Af,Ae,Ad,Ai,reduceIte,Nat.reduceEqDiff, ↓reduceIte,h3,h4]
 refine FH _ (by omega) ?_
 rw[Td hm1 hm2]
 have e1:wrap64 (((k:Nat):Int)+((m+26:Nat):Int))=((k+26+m:Nat):Int):=by
  rw[Bq (by omega) (by omega)];omega
 simp -implicitDefEqProofs only[AD,e1]
 exact q _ s2 _ _ (by omega) Sg_ hI2 hx2 (by simp[T.get_set,h0]) (by simp[T.get_set,h1]) (by simp[T.get_set])
theorem Ro_ {B n k N:Nat}{is:Bool}{v:Value}{l:List Nat}{tm:T Value}{td:List Item}{s:St}{Q:Value×FrameMode→St→Prop}(hB:Own s B 0 v)(hbs:Bs s v l)(hz:l.length≤900000)(hk:k≤l.length)(hN:is=true→1≤N∧N≤1024)(h1:T.get tm 1=some (.pointer (some ⟨B,0,none⟩)))(h3:T.get tm 3=some (.int .i64 (k:Nat)))(h4:T.get tm 4=some (.int .i64 (N:Nat)))(h5:T.get tm 5=some (.bool is))(hT:skim 64 td=Iz)(hn:60≤n)
  (q: ∀n' s1 tm' td',n≤n'+2→skim 64 td'=EU→s1.mem=s.mem→s1.next=s.next→Ext (fun x=>x=B) Non s s1→(∀j,j≠21→T.get tm' j=T.get tm j)→T.get tm' 21=some (.bool (is&&decide (l.length<k+26+N)))→W (runF envS n' ⟨109,DZ,B1,tm',td', .run, .normal,none⟩) s1 Q):
  W (runF envS n ⟨109,DZ,B1,tm,td, .run, .normal,none⟩) s Q:=by
 refine ZZ_.w hT (by omega) ?_
 cases is with
 |false=>
  simp -implicitDefEqProofs only[PI,h1,h3,h4,h5,CF,Dz,Af,Ae,Ad,EE,Bm,Ah,Cx,Au,if_f]
  rw[W_dq fun s Q=>Aj (s:=s) _ _ _ _]
  simp -implicitDefEqProofs only[Bool.false_eq_true,reduceIte,Aa]
  refine⟨Dj (by simp) (by simp), ?_⟩
  refine W.cast (XJ _ _ _ _ _ _ _ _ _ _ _ _ _ _ _) ?_
  simp -implicitDefEqProofs only[Ac,W_oS,Aa,Ap]
  refine q _ _ _ _ (by omega) VU rfl rfl (Ext.drawG (Nat.le_refl _) (fun _ _ _=>rfl) (by simp) (by simp)) (fun j hj=>by rw[T.get_set,if_neg hj]) (by rw[T.get_set,if_pos rfl];rfl)
 |true=>
  obtain⟨g1,g2⟩:=hN rfl
  simp -implicitDefEqProofs only[PI,h1,h3,h4,h5,CF,Dz,Af,Ae,Ad,EE,Bm,Ah,Cx,Av,if_t]
  have hB':Own (dSt s.mem s.next) B 0 v:=hB.same rfl rfl
  have hb': ∀s',s'.mem=s.mem→s'.next=s.next→Bs s' v l:=fun s' e1 e2=>hbs.same e1 e2
  refine W.dload CL hB'.at' fun rd1 hr1=> ?_
  obtain⟨p,c,rfl⟩:=hbs.sl
  rw[W_dq fun s Q=>Cc (s:=s) BD Q]
  have e1:wrap64 (((l.length:Nat):Int)-((k:Nat):Int))=((l.length-k:Nat):Int):=by
   rw[Bq (by omega) (by omega)];omega
  simp -implicitDefEqProofs only[Bm]
  rw[W_dq fun s Q=>AL (s:=s) _ _,e1]
  simp -implicitDefEqProofs only[Bm]
  refine W.dop0 (FH _ (by omega) ⟨rfl, ?_⟩)
  rw[Td g1 g2,W_dq fun s Q=>AC (s:=s) _ _]
  have e2:decide (((l.length-k:Nat):Int)<((N+26:Nat):Int))=decide (l.length<k+26+N):=by
   rw[decide_eq_decide];omega
  rw[e2,W_dq fun s Q=>Aj (s:=s) _ _ _ _]
  simp -implicitDefEqProofs only[reduceIte,Aa]
  have hBn:B+0<s.next:=hB.1
  refine⟨LI (by simp) (by
   simp -implicitDefEqProofs only[List.reverse_cons,List.reverse_nil,List.nil_append,List.cons_append,List.mem_cons,List.not_mem_nil,or_false]
   rintro m (rfl|rfl|rfl|rfl|rfl|rfl|rfl|rfl|rfl|rfl)<;>refine⟨rfl,fun x hx=> ?_⟩<;>first|(cases hx;done)|(have:=hr1 _ hx;omega)), ?_⟩
  refine W.cast (XJ _ _ _ _ _ _ _ _ _ _ _ _ _ _ _) ?_
  simp -implicitDefEqProofs only[Ac,W_oS,Aa,Ap]
  refine q _ _ _ _ (by omega) VU rfl rfl (Ext.drawG (Nat.le_refl _) (fun _ _ _=>rfl) ?_ ?_) (fun j hj=>by rw[T.get_set,if_neg hj]) (by rw[T.get_set,if_pos rfl];rfl)
  ·simp -implicitDefEqProofs only[List.mem_cons,List.not_mem_nil,or_false]
   rintro m (rfl|rfl|rfl|rfl|rfl|rfl|rfl|rfl|rfl|rfl) x hx _<;>cases hx
  ·simp -implicitDefEqProofs only[List.mem_cons,List.not_mem_nil,or_false]
   rintro m (rfl|rfl|rfl|rfl|rfl|rfl|rfl|rfl|rfl|rfl) x hx _<;>first|(cases hx;done)|(have:=hr1 _ hx;omega)
def CU (l:List Nat)(k n:Nat):List Nat:=if GOk (DK l k n)then Cn l k n else KO
def Cz (l:List Nat)(k n:Nat):Bool:=decide (GOk (DK l k n))&&decide (idB (C1 l k n)=Cn l k n)
theorem IC_ {l:List Nat}{k n:Nat}(h:k+26+n≤l.length):(CU l k n).length=16:=by
 unfold CU
 split
 ·exact MR h
 ·rfl
theorem Oy_ {A B D n k N:Nat}{v:Value}{l:List Nat}{tm tmS:T Value}{td:List Item}{s:St}{hs:List Hd}{bad:Nat}{Q:Value×FrameMode→St→Prop}(hb:s.lim≤s.next)(hI:ScI A D tmS .ready s hs bad 0 0)(hS:ScT A tmS)(hB:Own s B 0 v)(hAB:A+8≤B)(hbs:Bs s v l)(hby:Byt l)(hz:l.length≤900000)(hg1:1≤N)(hg2:N≤1024)(hlen:k+26+N≤l.length)
  (h0:T.get tm 0=some (.func (.yield (D+1)) #[] #[])) (h1:T.get tm 1=some (.pointer (some ⟨B,0,none⟩))) (h3:T.get tm 3=some (.int .i64 (k:Nat))) (h4:T.get tm 4=some (.int .i64 (N:Nat))) (hmany:hs.length≤10000) (hbad:bad≤1000000) (hT:skim 64 td=GF) (hn:50000≤n)
  (q: ∀n' s1 tm' td',n≤n'+20→skim 64 td'=E2→ScI A D tmS .ready s1 (if Cz l k N then hs++[(CU l k N,k,N)]else hs) (if Cz l k N then bad else bad+1) 0 0→Ext (LF A v) (ScZ A D) s s1→T.get tm' 0=some (.func (.yield (D+1)) #[] #[])→T.get tm' 1=some (.pointer (some ⟨B,0,none⟩))→T.get tm' 3=some (.int .i64 (k+26+N:Nat))→W (runF envS n' ⟨109,DZ,B1,tm',td', .run, .normal,none⟩) s1 Q):
  W (runF envS n ⟨109,DZ,B1,tm,td, .run, .normal,none⟩) s Q:=by
 refine Wp_.w hT (by omega) ?_
 simp -implicitDefEqProofs only[FA_,Ac,W_oS,W_on,Aa,W_mv,Ab,Af,Ae,Ad,Ai,h1,h3,h4]
 refine W.load1 CL hB.at' ?_
 have hx1:Ext (LF A v) (ScZ A D) s (s.rdN (B+0)):=Ext.rdN s _ fun _=> .inr (by omega)
 have hI1:ScI A D tmS .ready (s.rdN (B+0)) hs bad 0 0:=hI.same rfl rfl
 have hbs1:Bs (s.rdN (B+0)) v l:=hbs.same rfl rfl
 have hb1:(s.rdN (B+0)).lim≤(s.rdN (B+0)).next:=hb
 have hsn:(s.rdN (B+0)).next=s.next:=rfl
 generalize s.rdN (B+0)=s1 at *
 have hAs:A≤s.next:=by have h5:=hI.lo.1;have h6:=hI.sep;omega
 have rest: ∀(s2:St) (w:Value) (id:List Nat) (g:Bool),Ext (BsF v) Non s1 s2→id.length=16→id=CU l k N→g=Cz l k N→
   W (kExt 0 (.tuple #[.agg (u8l id).toArray,w, .bool g])) s2 fun v44 s3=>W (kExt 1 (.tuple #[.agg (u8l id).toArray,w, .bool g])) s3 fun v45 s4=>W (kExt 2 (.tuple #[.agg (u8l id).toArray,w, .bool g])) s4 fun v46 s5=>W (BN envS 26) s5 fun v7 s6=>W (Bt envS 26 v7 v44) s6 fun _ s7=>W (runF envS (n-1) ⟨109,DZ,B1,T.set (T.set tm 7 v7) 9 v46,GF.tail, .run, .normal,none⟩) s7 Q:=fun s2 w id g x2 h16 hid hg=>by
  rw[B2 (k:=0) rfl,B2 (k:=1) rfl,B2 (k:=2) rfl]
  have hx2:Ext (LF A v) (ScZ A D) s s2:=hx1.trans x2 hb (fun _ _ h=> .inl h) fun _ _ h=>h.elim
  have hIl:(u8l id).length=16:=by rw[By];exact h16
  refine W.alloc Oh fun s3 n3 x3 o3=> ?_
  have n12:s1.next≤s2.next:=x2.nxt
  have hx3:Ext (LF A v) (ScZ A D) s s3:=hx2.trans x3 hb (fun _ _ h=>h.elim) fun _ _ h=>h.elim
  refine W.store CY hIl (CE _) (fun i hi=>(Ay.owned o3) i (by simpa using hi)) fun s4 n4 x4 o4=> ?_
  have hG: ∀x,In s2.next 0 16 x→s2.next≤x:=fun x h=>by have:=h.1;omega
  have hI3:ScI A D tmS .ready s3 hs bad 0 0:=(hI1.ext0 x2).ext0 x3
  have hI2:ScI A D tmS .ready s2 hs bad 0 0:=hI1.ext0 x2
  have keep: ∀b o u,Own s2 b o u→Own s4 b o u:=fun b o u hu=>(hu.ext0 x3).ext x4 fun h=>by have:=hG _ h;have:=hu.1;omega
  have keepO: ∀l o,Obj s2 l o→Obj s4 l o:=fun l o hu=>(hu.ext x3 fun h=>h).ext x4 fun h=>by have:=hG _ h;have:=hu.1;omega
  have hI4:ScI A D tmS .ready s4 hs bad 0 0:=by
   obtain⟨u,c1,c2⟩:=hI2.c2
   refine⟨keepO _ _ hI2.lo,keepO _ _ hI2.de,⟨u,keep _ _ _ c1, ?_⟩,keep _ _ _ hI2.c3,keep _ _ _ hI2.c4,keep _ _ _ hI2.c5,hI.all16,hI.sep⟩
   rcases c2 with c2|⟨b,p1,p2,p3⟩
   ·exact .inl c2
   ·refine .inr ⟨b,p1,(p2.ext x3 fun _ _ h=>h).ext x4 fun x hx h=> ?_,p3⟩
    have e1:=hG x h
    have e2:=p2.lt
    have e3:x<b+0+(hs.length*18+1):=hx.2
    omega
  have hx4:Ext (LF A v) (ScZ A D) s s4:=hx3.trans x4 hb (fun x _ h=> .inr (by have:=hG x h;omega)) fun x hx h=>by have:=hG x h;omega
  have hb4:s4.lim≤s4.next:=hx4.bnd hb
  subst hid hg
  refine Agh_ (C7:=s2.next) (k:=k) (m:=N) hb4 hI4 hS (by simp[T.get_set,h0]) (by simp[T.get_set,h1];rfl) (by simp[T.get_set,h3]) (by simp[T.get_set,h4]) (by simp[T.get_set]) (by simp[T.get_set];rfl) h16 o4 (by omega) hg1 hg2 (by omega) hmany hbad YQ_ (by omega) fun n' s5 tm' td' hn' hT' hI5 x5 h0' h1' h3'=> ?_
  exact q n' s5 tm' td' (by omega) hT' hI5 (hx4.trans x5 hb (fun _ _ h=> .inr h) fun _ _ h=>h) h0' h1' h3'
 refine Hg_ hb1 hbs1 hby hz hg1 hg2 hlen (by omega) (fun hg s2 w1 x2 _ _=> ?_) fun hg s2 x2=> ?_
 ·have e1:CU l k N=Cn l k N:=if_pos hg
  have e2:Cz l k N=decide (idB (C1 l k N)=Cn l k N):=by unfold Cz;rw[decide_eq_true hg,Bool.true_and]
  exact rest s2 w1 _ _ x2 (MR hlen) e1.symm e2.symm
 ·have e1:CU l k N=KO:=if_neg hg
  have e2:Cz l k N=false:=by unfold Cz;rw[decide_eq_false hg,Bool.false_and]
  exact rest s2 _ _ _ x2 rfl e1.symm e2.symm
def CT (l:List Nat)(k:Nat):Bool:=decide (k+6≤l.length)&&Dm l k&&decide (k+26+BA l k≤l.length)
def CZ (l:List Nat)(k:Nat):Nat:=if k=l.length then 0 else if l.length<k+6 then 1 else if Dm l k then 1 else 2
theorem Yk (l:List Nat)(k:Nat):CZ l k≤2:=by
 unfold CZ
 split
 ·omega
 ·split
  ·omega
  ·split<;>omega
def Cd (l:List Nat):Nat→Nat→List Hd→Nat→List Hd×Nat×Nat×Nat
 |0,k,hs,bad=>(hs,bad,k,CZ l k)
 |f+1,k,hs,bad=>if CT l k then Cd l f (k+26+BA l k) (if Cz l k (BA l k)then hs++[(CU l k (BA l k),k,BA l k)]else hs) (if Cz l k (BA l k)then bad else bad+1)else(hs,bad,k,CZ l k)
theorem ZL {l:List Nat}{k:Nat}(h:Dm l k=true):1≤BA l k∧BA l k≤1024:=by
 unfold Dm at h
 rw[Bool.and_eq_true]at h
 exact of_decide_eq_true h.1
theorem AbP_ {A B D:Nat}{v:Value}{l:List Nat}{tmS:T Value}{s0:St}{Q:Value→St→Prop}(hAB:A+8≤B)(hBD:B<D)(hvA: ∀x,BsF v x→x<A)(hby:Byt l)(hz:l.length≤200000)(hS:ScT A tmS): ∀(f k n:Nat) (hs:List Hd) (bad:Nat) (tm:T Value) (td:List Item) (s:St),k≤l.length→l.length≤k+f→27*(hs.length+bad)≤k→60000+60*f≤n→skim 64 td=E2→
  s.lim≤s.next→s.cx=cxN→ScI A D tmS .ready s hs bad 0 0→Own s B 0 v→Bs s v l→T.get tm 0=some (.func (.yield (D+1)) #[] #[])→T.get tm 1=some (.pointer (some ⟨B,0,none⟩))→T.get tm 3=some (.int .i64 (k:Nat))→
  (∀s1,ScI A D tmS .ready s1 (Cd l f k hs bad).1 (Cd l f k hs bad).2.1 (Cd l f k hs bad).2.2.1 (Cd l f k hs bad).2.2.2→Ext (LF A v) (ScZ A D) s s1→Q (.tuple #[]) (s1.cxN s0.cx))→
  W (runF envS n ⟨109,DZ,B1,tm,td, .run, .normal,none⟩) s fun p s1=>Q p.1 (s1.cxN s0.cx):=by
 intro f
 induction f with
 |zero=>
  intro k n hs bad tm td s hk hf hcnt hn hT hb hcx hI hB hbs h0 h1 h3 q
  have hkl:k=l.length:=by omega
  refine Ck_.w hT (by omega) ?_
  simp -implicitDefEqProofs only[SF,Ac,W_oS,W_on,Aa,W_mv,Ab,Af,Ae,Ad,Ai,h1,h3]
  refine W.load1 CL hB.at' ?_
  have hx1:Ext (LF A v) (ScZ A D) s (s.rdN (B+0)):=Ext.rdN s _ fun _=> .inr (by omega)
  have hI1:ScI A D tmS .ready (s.rdN (B+0)) hs bad 0 0:=hI.same rfl rfl
  have hB1:Own (s.rdN (B+0)) B 0 v:=hB.same rfl rfl
  have hbs1:Bs (s.rdN (B+0)) v l:=hbs.same rfl rfl
  have hb1:(s.rdN (B+0)).lim≤(s.rdN (B+0)).next:=hb
  try simp -implicitDefEqProofs only[Ac,W_oS,W_on,Aa,W_mv,Ab,Ap,T.get_set,Af,Ae,Ao,Al,Ad,Ai,reduceIte,Ah,Av,As,Au,Ak,Aq,Ar,Aw,Aj,An,Nat.reduceEqDiff,reduceCtorEq, ↓reduceIte]
  generalize s.rdN (B+0)=s1 at *
  refine BK_ hb1 hbs1 hby (by omega) (by omega) fun s2 x2=> ?_
  rw[B2 (k:=0) rfl,B2 (k:=1) rfl]
  have hx2:Ext (LF A v) (ScZ A D) s s2:=hx1.trans x2 hb (fun _ _ h=> .inl h) fun _ _ h=>h.elim
  have hI2:=hI1.ext0 x2
  have hB2:=hB1.ext0 x2
  have hbs2:=hbs1.ext0 x2
  refine Vz.w Y7 (by omega) ?_
  simp -implicitDefEqProofs only[Rw,Aa,W_mv,Ab]
  refine Ac_.w EQ_ (by omega) ?_
  simp -implicitDefEqProofs only[Ph,Ac,W_oS,Aa,W_mv,Ab,T.get_set,Af,Ae,Ad,reduceIte,Nat.reduceEqDiff, ↓reduceIte,h1,h3]
  refine W.load1 CL hB2.at' ?_
  have hx3:Ext (LF A v) (ScZ A D) s (s2.rdN (B+0)):=hx2.trans (Ext.rdN (F:=LF A v) (G:=ScZ A D) s2 _ fun _=> .inr (by omega)) hb (fun _ _ h=>h) fun _ _ h=>h
  have hI3:ScI A D tmS .ready (s2.rdN (B+0)) hs bad 0 0:=hI2.same rfl rfl
  have hbs3:Bs (s2.rdN (B+0)) v l:=hbs2.same rfl rfl
  generalize s2.rdN (B+0)=s3 at *
  simp -implicitDefEqProofs only[AQ,hbs3.len BD]
  refine W.cond (v:=true) SH SS (by simp[T.get_set,hkl]) (by omega) (fun _=> ?_) fun h=>by cases h
  refine FB_.w Et_ (by omega) ?_
  simp -implicitDefEqProofs only[Qk,Aa,W_mv,Ab]
  refine MM (k:=k) (r:=0) (v:=v) (hx3.bnd hb) (hx3.cx.trans hcx) hI3 hS (by simp[T.get_set,h0]) (by simp[T.get_set,h3]) (by simp[T.get_set]) (by omega) (by omega) (by omega) Yj (by omega) fun s4 hI4 x4=> ?_
  have e:Cd l 0 k hs bad=(hs,bad,k,0):=by
   unfold Cd CZ
   rw[if_pos hkl]
  rw[e]at q
  exact q s4 hI4 (hx3.trans x4 hb (fun _ _ h=>h) fun _ _ h=>h)
 |succ f ih=>
  intro k n hs bad tm td s hk hf hcnt hn hT hb hcx hI hB hbs h0 h1 h3 q
  refine Ck_.w hT (by omega) ?_
  simp -implicitDefEqProofs only[SF,Ac,W_oS,W_on,Aa,W_mv,Ab,Af,Ae,Ad,Ai,h1,h3]
  refine W.load1 CL hB.at' ?_
  have hx1:Ext (LF A v) (ScZ A D) s (s.rdN (B+0)):=Ext.rdN s _ fun _=> .inr (by omega)
  have hI1:ScI A D tmS .ready (s.rdN (B+0)) hs bad 0 0:=hI.same rfl rfl
  have hB1:Own (s.rdN (B+0)) B 0 v:=hB.same rfl rfl
  have hbs1:Bs (s.rdN (B+0)) v l:=hbs.same rfl rfl
  have hb1:(s.rdN (B+0)).lim≤(s.rdN (B+0)).next:=hb
  try simp -implicitDefEqProofs only[Ac,W_oS,W_on,Aa,W_mv,Ab,Ap,T.get_set,Af,Ae,Ao,Al,Ad,Ai,reduceIte,Ah,Av,As,Au,Ak,Aq,Ar,Aw,Aj,An,Nat.reduceEqDiff,reduceCtorEq, ↓reduceIte]
  generalize s.rdN (B+0)=s1 at *
  refine BK_ hb1 hbs1 hby (by omega) (by omega) fun s2 x2=> ?_
  rw[B2 (k:=0) rfl,B2 (k:=1) rfl]
  have hx2:Ext (LF A v) (ScZ A D) s s2:=hx1.trans x2 hb (fun _ _ h=> .inl h) fun _ _ h=>h.elim
  have hI2:=hI1.ext0 x2
  have hB2:=hB1.ext0 x2
  have hbs2:=hbs1.ext0 x2
  refine Vz.w Y7 (by omega) ?_
  simp -implicitDefEqProofs only[Rw,Aa,W_mv,Ab]
  refine Ac_.w EQ_ (by omega) ?_
  simp -implicitDefEqProofs only[Ph,Ac,W_oS,Aa,W_mv,Ab,T.get_set,Af,Ae,Ad,reduceIte,Nat.reduceEqDiff, ↓reduceIte,h1,h3]
  refine W.load1 CL hB2.at' ?_
  have hx3:Ext (LF A v) (ScZ A D) s (s2.rdN (B+0)):=hx2.trans (Ext.rdN (F:=LF A v) (G:=ScZ A D) s2 _ fun _=> .inr (by omega)) hb (fun _ _ h=>h) fun _ _ h=>h
  have hI3:ScI A D tmS .ready (s2.rdN (B+0)) hs bad 0 0:=hI2.same rfl rfl
  have hbs3:Bs (s2.rdN (B+0)) v l:=hbs2.same rfl rfl
  have hB3:Own (s2.rdN (B+0)) B 0 v:=hB2.same rfl rfl
  generalize s2.rdN (B+0)=s3 at *
  simp -implicitDefEqProofs only[AQ,hbs3.len BD]
  have over:CT l k=false→ ∀r,CZ l k=r→ ∀s4,ScI A D tmS .ready s4 hs bad k r→Ext (LF A v) (ScZ A D) s s4→Q (.tuple #[]) (s4.cxN s0.cx):=fun hno r hr s4 hI4 x4=>by
   have e:Cd l (f+1) k hs bad=(hs,bad,k,r):=by
    unfold Cd
    rw[hno,hr]
    rfl
   rw[e]at q
   exact q s4 hI4 x4
  by_cases hkl:k=l.length
  ·refine W.cond (v:=true) SH SS (by simp[T.get_set,hkl]) (by omega) (fun _=> ?_) fun h=>by cases h
   refine FB_.w Et_ (by omega) ?_
   simp -implicitDefEqProofs only[Qk,Aa,W_mv,Ab]
   refine MM (k:=k) (r:=0) (v:=v) (hx3.bnd hb) (hx3.cx.trans hcx) hI3 hS (by simp[T.get_set,h0]) (by simp[T.get_set,h3]) (by simp[T.get_set]) (by omega) (by omega) (by omega) Yj (by omega) fun s4 hI4 x4=> ?_
   refine over ?_ 0 (by unfold CZ;rw[if_pos hkl]) s4 hI4 (hx3.trans x4 hb (fun _ _ h=>h) fun _ _ h=>h)
   unfold CT
   rw[decide_eq_false (by omega)]
   rfl
  ·refine W.cond (v:=false) SH SS (by simp[T.get_set];omega) (by omega) (fun h=>by cases h) fun _=> ?_
   refine SR_.w Ib_ (by omega) ?_
   simp -implicitDefEqProofs only[Ay_,Ac,W_oS,Aa,W_mv,Ab,T.get_set,Af,Ae,Ad,reduceIte,Nat.reduceEqDiff, ↓reduceIte,h1,h3]
   refine W.load1 CL hB3.at' ?_
   have hx4:Ext (LF A v) (ScZ A D) s (s3.rdN (B+0)):=hx3.trans (Ext.rdN (F:=LF A v) (G:=ScZ A D) s3 _ fun _=> .inr (by omega)) hb (fun _ _ h=>h) fun _ _ h=>h
   have hI4:ScI A D tmS .ready (s3.rdN (B+0)) hs bad 0 0:=hI3.same rfl rfl
   have hbs4:Bs (s3.rdN (B+0)) v l:=hbs3.same rfl rfl
   have hB4:Own (s3.rdN (B+0)) B 0 v:=hB3.same rfl rfl
   generalize s3.rdN (B+0)=s4 at *
   have e1:wrap64 (((l.length:Nat):Int)-((k:Nat):Int))=((l.length-k:Nat):Int):=by
    rw[Bq (by omega) (by omega)];omega
   simp -implicitDefEqProofs only[AL,AC,hbs4.len BD,e1]
   have torn: ∀(n':Nat) (s5:St) (tm':T Value) (td':List Item),1000≤n'→Ext (LF A v) (ScZ A D) s s5→ScI A D tmS .ready s5 hs bad 0 0→skim 64 td'=Mh→T.get tm' 0=some (.func (.yield (D+1)) #[] #[])→T.get tm' 3=some (.int .i64 (k:Nat))→CT l k=false→CZ l k=1→
     W (runF envS n' ⟨109,DZ,B1,tm',td', .run, .normal,none⟩) s5 fun p s1=>Q p.1 (s1.cxN s0.cx):=fun n' s5 tm' td' hn' x5 hI5 hT' h0' h3' hno hr=>by
    refine Wf_.w hT' (by omega) ?_
    simp -implicitDefEqProofs only[Xw,Aa,W_mv,Ab]
    refine MM (k:=k) (r:=1) (v:=v) (x5.bnd hb) (x5.cx.trans hcx) hI5 hS (by simp[T.get_set,h0']) (by simp[T.get_set,h3']) (by simp[T.get_set]) (by omega) (by omega) (by omega) UN_ (by omega) fun s6 hI6 x6=> ?_
    exact over hno 1 hr s6 hI6 (x5.trans x6 hb (fun _ _ h=>h) fun _ _ h=>h)
   by_cases h6:l.length<k+6
   ·refine W.cond (v:=true) CU_ EV_ (by simp[T.get_set];omega) (by omega) (fun _=> ?_) fun h=>by cases h
    refine W.cond (v:=true) AeH_ J8 (by simp[T.get_set];omega) (by omega) (fun _=> ?_) fun h=>by cases h
    refine torn _ s4 _ _ (by omega) hx4 hI4 Al_ (by simp[T.get_set,h0]) (by simp[T.get_set,h3]) ?_ ?_
    ·unfold CT
     rw[decide_eq_false (by omega)]
     rfl
    ·unfold CZ
     rw[if_neg hkl,if_pos h6]
   ·refine W.cond (v:=false) CU_ EV_ (by simp[T.get_set];omega) (by omega) (fun h=>by cases h) fun _=> ?_
    have hsb:Hr l k=(BA l k,Dm l k):=if_pos (by omega)
    rw[hsb]
    have hin:=fun h=>ZL (l:=l) (k:=k) h
    refine Ro_ (B:=B) (k:=k) (N:=BA l k) (is:=Dm l k) hB4 hbs4 (by omega) hk hin (by simp[T.get_set,h1]) (by simp[T.get_set,h3]) (by simp[T.get_set]) (by simp[T.get_set]) AbW_ (by omega) fun n' s5 tm' td' hn' hT' m5 n5 x5 hkeep h21=> ?_
    have hx5:Ext (LF A v) (ScZ A D) s s5:=hx4.trans x5 hb (fun x _ h=> .inr (by omega)) fun _ _ h=>h.elim
    have hI5:ScI A D tmS .ready s5 hs bad 0 0:=hI4.same m5 n5
    have hbs5:Bs s5 v l:=hbs4.same m5 n5
    have hB5:Own s5 B 0 v:=hB4.same m5 n5
    have k0:T.get tm' 0=some (.func (.yield (D+1)) #[] #[]):=by rw[hkeep 0 (by decide)];simp[T.get_set,h0]
    have k1:T.get tm' 1=some (.pointer (some ⟨B,0,none⟩)):=by rw[hkeep 1 (by decide)];simp[T.get_set,h1]
    have k3:T.get tm' 3=some (.int .i64 (k:Nat)):=by rw[hkeep 3 (by decide)];simp[T.get_set,h3]
    have k4:T.get tm' 4=some (.int .i64 (BA l k:Nat)):=by rw[hkeep 4 (by decide)];simp[T.get_set]
    have k5:T.get tm' 5=some (.bool (Dm l k)):=by rw[hkeep 5 (by decide)];simp[T.get_set]
    have k6:T.get tm' 6=some (.int .i64 2):=by rw[hkeep 6 (by decide)];simp[T.get_set]
    cases hok:Dm l k with
    |false=>
     rw[hok]at h21 k5
     refine W.cond (v:=false) hT' J8 (by rw[h21];rfl) (by omega) (fun h=>by cases h) fun _=> ?_
     refine Zy.w WS (by omega) ?_
     simp -implicitDefEqProofs only[PO,Aa,W_mv,Ab,k5]
     refine W.cond (v:=false) Aj_ U7 (by simp[T.get_set]) (by omega) (fun h=>by cases h) fun _=> ?_
     refine MM (k:=k) (r:=2) (v:=v) (hx5.bnd hb) (hx5.cx.trans hcx) hI5 hS (by simp[T.get_set,k0]) (by simp[T.get_set,k3]) (by simp[T.get_set,k6]) (by omega) (by omega) (by omega) Qe_ (by omega) fun s6 hI6 x6=> ?_
     refine over ?_ 2 ?_ s6 hI6 (hx5.trans x6 hb (fun _ _ h=>h) fun _ _ h=>h)
     ·unfold CT
      rw[hok,Bool.and_false]
      rfl
     ·unfold CZ
      rw[if_neg hkl,if_neg h6,hok]
      rfl
    |true=>
     obtain⟨g1,g2⟩:=hin hok
     rw[hok,Bool.true_and]at h21
     rw[hok]at k5
     by_cases hlen:l.length<k+26+BA l k
     ·refine W.cond (v:=true) hT' J8 (by rw[h21,decide_eq_true hlen]) (by omega) (fun _=> ?_) fun h=>by cases h
      refine torn _ s5 _ _ (by omega) hx5 hI5 Al_ k0 k3 ?_ ?_
      ·unfold CT
       rw[decide_eq_false (show ¬k+26+BA l k≤l.length by omega),Bool.and_false]
      ·unfold CZ
       rw[if_neg hkl,if_neg h6,hok]
       rfl
     ·refine W.cond (v:=false) hT' J8 (by rw[h21,decide_eq_false hlen]) (by omega) (fun h=>by cases h) fun _=> ?_
      refine Zy.w WS (by omega) ?_
      simp -implicitDefEqProofs only[PO,Aa,W_mv,Ab,k5]
      refine W.cond (v:=true) Aj_ U7 (by simp[T.get_set]) (by omega) (fun _=> ?_) fun h=>by cases h
      have hyes:CT l k=true:=by
       unfold CT
       rw[hok,decide_eq_true (show k+6≤l.length by omega),decide_eq_true (show k+26+BA l k≤l.length by omega)]
       rfl
      refine Oy_ (B:=B) (l:=l) (k:=k) (N:=BA l k) (hx5.bnd hb) hI5 hS hB5 hAB hbs5 hby (by omega) g1 g2 (by omega) (by simp[T.get_set,k0]) (by simp[T.get_set,k1]) (by simp[T.get_set,k3]) (by simp[T.get_set,k4]) (by omega) (by omega) ZX_ (by omega) fun n6 s6 tm6 td6 hn6 hT6 hI6 x6 p0 p1 p3=> ?_
      have hx6:Ext (LF A v) (ScZ A D) s s6:=hx5.trans x6 hb (fun _ _ h=>h) fun _ _ h=>h
      have e:Cd l (f+1) k hs bad=Cd l f (k+26+BA l k) (if Cz l k (BA l k)then hs++[(CU l k (BA l k),k,BA l k)]else hs) (if Cz l k (BA l k)then bad else bad+1):=by
       rw[Cd,hyes]
       rfl
      rw[e]at q
      refine ih (k+26+BA l k) n6 _ _ tm6 td6 s6 (by omega) (by omega) ?_ (by omega) hT6 (hx6.bnd hb) (hx6.cx.trans hcx) hI6 (hB5.ext x6 (by omega)) (hbs5.ext x6 fun x hx h=>by have:=hvA x hx;have:=h.1;omega) p0 p1 p3 fun s7 hI7 x7=> ?_
      ·cases Cz l k (BA l k)with
       |true=>simp -implicitDefEqProofs only[reduceIte,List.length_append,List.length_singleton];omega
       |false=>simp -implicitDefEqProofs only[Bool.false_eq_true,reduceIte];omega
      ·exact q s7 hI7 (hx6.trans x7 hb (fun _ _ h=>h) fun _ _ h=>h)
theorem Aaa_ {n:Nat}{v:Value}{s:St}{Q:Value→St→Prop}(hv:oneCell v=true)(hn:20≤n)(q: ∀s1,Ext Non Non s s1→s1.next=s.next+2→Own s1 s.next 0 v→Q (.func (.func 109) #[] #[.pointer (some ⟨s.next,0,none⟩)]) s1):W (AJ envS (runF envS n) 68 [v]) s Q:=by
 refine Hf_ fun tm h0=> ?_
 refine AeI_.w rfl (by omega) ?_
 simp -implicitDefEqProofs only[Ws,Ac,W_oS,Aa,W_mv,Ab,h0]
 refine W.box fun sa na xa oa=> ?_
 rw[MC hv]at na oa
 try simp -implicitDefEqProofs only[Ac,W_oS,W_on,Aa,W_mv,Ab,Ap,T.get_set,Af,Ae,Ao,Al,Ad,Ai,reduceIte,Ah,Av,As,Au,Ak,Aq,Ar,Aw,Aj,An,Nat.reduceEqDiff,reduceCtorEq, ↓reduceIte]
 refine UU_.w Mc_ (by omega) ?_
 simp -implicitDefEqProofs only[Er_,Ac,W_oS,Aa,W_mv,Ab,T.get_set,Af,Ae,Ad,reduceIte,Nat.reduceEqDiff, ↓reduceIte]
 refine W.end' (rs:=[2]) (vs:=[.func (.func 109) #[] #[.pointer (some ⟨s.next,0,none⟩)]]) Aah_ (.inl Vs_) (by omega) Uh Rq_ xa.cx (by simp[T.get_set];rfl) ?_
 exact q _ xa.cx' na ((oa 0 v rfl).same rfl rfl)
def Jo (s s':St)(v:Value)(hs:List Hd):Prop:=(v= .slice none 0 0∧hs=[])∨ ∃b,s.next≤b∧Marked s' 18 hs.length (B0 hs) v b∧hs≠[]
theorem VQ_ {A D n:Nat}{tm tmS:T Value}{td:List Item}{s s0:St}{st:LoopState}{hs:List Hd}{bad size rest:Nat}{Q:Value→St→Prop}(hb:s.lim≤s.next)(hcx:s.cx= .cx none (some [CH D]))(hI:ScI A D tmS st s hs bad size rest)(hS:ScT A tm)(hT:skim 64 td=Gs)(hn:10≤n)
  (q: ∀s1 v,Ext (fun x=>A≤x) (fun x=>A≤x) (s.cxN cxN) s1→CS s1 D v hs→Q (.tuple #[v, .int .i64 (size:Nat), .int .i64 (bad:Nat), .int .i64 (rest:Nat)]) (s1.cxN s0.cx)):W (runF envS n ⟨24,En,BZ,tm,td, .run, .normal,none⟩) s fun p s1=>Q p.1 (s1.cxN s0.cx):=by
 have sep:=hI.sep
 have hD:=hI.lo.1
 obtain⟨v,c2,hh⟩:=hI.c2
 have hv1:oneCell v=true:=by
  rcases hh with⟨rfl,_⟩|⟨b,_,hm,_⟩
  ·rfl
  ·rw[hm.val];rfl
 refine RT_.w hT (by omega) ?_
 simp -implicitDefEqProofs only[Ah_,hS.t2,hS.t3,hS.t4,hS.t5,CF]
 have o2:Own (dSt s.mem s.next) A 0 v:=c2.same rfl rfl
 have o3:Own (dSt s.mem s.next) (A+2) 0 (.int .i64 (size:Nat)):=hI.c3.same rfl rfl
 have o4:Own (dSt s.mem s.next) (A+4) 0 (.int .i64 (bad:Nat)):=hI.c4.same rfl rfl
 have o5:Own (dSt s.mem s.next) (A+6) 0 (.int .i64 (rest:Nat)):=hI.c5.same rfl rfl
 refine W.dload Da o2.at' fun rd0 hr0=> ?_
 refine W.dload Bl o3.at' fun rd1 hr1=> ?_
 refine W.dload Bl o4.at' fun rd2 hr2=> ?_
 refine W.dload Bl o5.at' fun rd3 hr3=> ?_
 refine W.dopG (W.store1 Da hv1 (o2.same rfl rfl) fun s4 n4 x4 w4=>⟨In A 0 1,In A 0 1,x4,fun rd4 wr4 hr4 hw4=> ?_⟩)
 have n4':s4.next=s.next:=n4
 have p3:Own s4 (A+2) 0 (.int .i64 (size:Nat)):=(o3.same (s':=oSt s.mem s.next) rfl rfl).ext x4 fun h=>by have:=In1.1 h;omega
 refine W.dopG (W.store1 (s:=oSt s4.mem s4.next) Bl rfl (p3.same rfl rfl) fun s5 n5 x5 w5=>⟨In (A+2) 0 1,In (A+2) 0 1,x5,fun rd5 wr5 hr5 hw5=> ?_⟩)
 have n5':s5.next=s4.next:=n5
 have p4:Own s5 (A+4) 0 (.int .i64 (bad:Nat)):=(((o4.same (s':=oSt s.mem s.next) rfl rfl).ext x4 fun h=>by have:=In1.1 h;omega).same (s':=oSt s4.mem s4.next) rfl rfl).ext x5 fun h=>by have:=In1.1 h;omega
 refine W.dopG (W.store1 (s:=oSt s5.mem s5.next) Bl rfl (p4.same rfl rfl) fun s6 n6 x6 w6=>⟨In (A+4) 0 1,In (A+4) 0 1,x6,fun rd6 wr6 hr6 hw6=> ?_⟩)
 have n6':s6.next=s5.next:=n6
 rw[Aa]
 refine⟨PV ?_, ?_⟩
 ·simp -implicitDefEqProofs only[List.reverse_cons,List.reverse_nil,List.nil_append,List.cons_append,allP,Fk,List.take,KQ,n4',n5',n6']
  have e0: ∀x,x∈rd0→x=A:=fun x h=>by have:=hr0 x h;omega
  have e1: ∀x,x∈rd1→x=A+2:=fun x h=>by have:=hr1 x h;omega
  have e2: ∀x,x∈rd2→x=A+4:=fun x h=>by have:=hr2 x h;omega
  have e3: ∀x,x∈rd3→x=A+6:=fun x h=>by have:=hr3 x h;omega
  have e4: ∀x,x∈rd4→x=A:=fun x h=>In1.1 (hr4 x h).2
  have g4: ∀x,x∈wr4→x=A:=fun x h=>In1.1 (hw4 x h).2
  have e5: ∀x,x∈rd5→x=A+2:=fun x h=>In1.1 (hr5 x h).2
  have g5: ∀x,x∈wr5→x=A+2:=fun x h=>In1.1 (hw5 x h).2
  have e6: ∀x,x∈rd6→x=A+4:=fun x h=>In1.1 (hr6 x h).2
  have g6: ∀x,x∈wr6→x=A+4:=fun x h=>In1.1 (hw6 x h).2
  have nn: ∀x,s.next≤x→ ¬x<s.next:=fun x h=>by omega
  have ne: ∀(l m:List Nat) (a b:Nat),a≠b→(∀x,x∈l→x=a)→(∀x,x∈m→x=b)→ ∀x,x∈l→ ¬x∈m:=fun l m a b hab hl hm x hx hy=>hab ((hl x hx).symm.trans (hm x hy))
  have no: ∀(l:List Nat),∀x,x∈l→s.next≤x→s.next≤x→ ¬x<s.next:=fun _ x _ h _=>nn x h
  have d1:=ne wr4 rd1 _ _ (by omega) g4 e1
  have d2:=ne wr4 rd2 _ _ (by omega) g4 e2
  have d3:=ne wr4 rd3 _ _ (by omega) g4 e3
  have d4:=ne wr5 rd2 _ _ (by omega) g5 e2
  have d5:=ne wr5 rd3 _ _ (by omega) g5 e3
  have d6:=ne wr6 rd3 _ _ (by omega) g6 e3
  have d7:=ne wr5 rd0 _ _ (by omega) g5 e0
  have d8:=ne wr6 rd0 _ _ (by omega) g6 e0
  have d9:=ne wr6 rd1 _ _ (by omega) g6 e1
  simp+contextual [nn,d1,d2,d3,d4,d5,d6,d7,d8,d9]
  exact⟨⟨.inl rfl, .inl rfl⟩, .inl rfl, .inl rfl, .inl rfl⟩
 ·refine W.cast (Hz_ _ _ _ _ _ _ _ _ _) ?_
  simp -implicitDefEqProofs only[hS.t5,CF]
  generalize hs':(⟨(dSt s6.mem s6.next).mem,(dSt s6.mem s6.next).next,s.lim,_,_,s.cx⟩:St)=s7
  have hZ: ∀(b x:Nat),A≤b→In b 0 1 x→A≤x:=fun b x h h2=>by have:=In1.1 h2;omega
  have hx7:Ext (fun x=>A≤x) (fun x=>A≤x) s s7:=by
   rw[←hs']
   refine Ext.drawG (by show s.next≤s6.next;omega) (fun x hx hg=> ?_) ?_ ?_
   ·exact(x6.mem x (by show x<s5.next;omega) fun h=>hg (hZ _ x (by omega) h)).trans ((x5.mem x (by show x<s4.next;omega) fun h=>hg (hZ _ x (by omega) h)).trans (x4.mem x hx fun h=>hg (hZ _ x (by omega) h)))
   ·simp -implicitDefEqProofs only[List.mem_cons,List.not_mem_nil,or_false]
    rintro m (rfl|rfl|rfl|rfl|rfl|rfl|rfl) x hx _<;>first|(cases hx;done)|(exact hZ _ x (by omega) (hw4 x hx).2)|(exact hZ _ x (by omega) (hw5 x hx).2)|(exact hZ _ x (by omega) (hw6 x hx).2)
   ·simp -implicitDefEqProofs only[List.mem_cons,List.not_mem_nil,or_false]
    rintro m (rfl|rfl|rfl|rfl|rfl|rfl|rfl) x hx _<;>first|(cases hx;done)|(exact hZ _ x (by omega) (hr4 x hx).2)|(exact hZ _ x (by omega) (hr5 x hx).2)|(exact hZ _ x (by omega) (hr6 x hx).2)|(have:=hr0 x hx;show A≤x;omega)|(have:=hr1 x hx;show A≤x;omega)|(have:=hr2 x hx;show A≤x;omega)|(have:=hr3 x hx;show A≤x;omega)
  have m7:s7.mem=s6.mem:=by rw[←hs'];rfl
  have n7:s7.next=s6.next:=by rw[←hs'];rfl
  have keep: ∀b o u,b+o≠A→b+o≠A+2→b+o≠A+4→Own s b o u→Own s7 b o u:=fun b o u h1 h2 h3 hu=>(((((hu.same (s':=oSt s.mem s.next) rfl rfl).ext x4 fun h=>h1 (In1.1 h)).same (s':=oSt s4.mem s4.next) rfl rfl).ext x5 fun h=>h2 (In1.1 h)).same (s':=oSt s5.mem s5.next) rfl rfl).ext x6 (fun h=>h3 (In1.1 h)) |>.same m7 n7
  have keepO: ∀l o,l≠A→l≠A+2→l≠A+4→Obj s l o→Obj s7 l o:=fun l o h1 h2 h3 hu=>(((((hu.same (s':=oSt s.mem s.next) rfl rfl).ext x4 fun h=>h1 (In1.1 h)).same (s':=oSt s4.mem s4.next) rfl rfl).ext x5 fun h=>h2 (In1.1 h)).same (s':=oSt s5.mem s5.next) rfl rfl).ext x6 (fun h=>h3 (In1.1 h)) |>.same m7 n7
  have k2:Own s7 A 0 v:=((((w4.same (s':=oSt s4.mem s4.next) rfl rfl).ext x5 fun h=>by have:=In1.1 h;omega).same (s':=oSt s5.mem s5.next) rfl rfl).ext x6 fun h=>by have:=In1.1 h;omega).same m7 n7
  have k3:Own s7 (A+2) 0 (.int .i64 (size:Nat)):=((w5.same (s':=oSt s5.mem s5.next) rfl rfl).ext x6 fun h=>by have:=In1.1 h;omega).same m7 n7
  have k4:Own s7 (A+4) 0 (.int .i64 (bad:Nat)):=w6.same m7 n7
  have k5:Own s7 (A+6) 0 (.int .i64 (rest:Nat)):=keep _ _ _ (by omega) (by omega) (by omega) hI.c5
  have kd:Obj s7 D (.deferred (some [])):=keepO _ _ (by omega) (by omega) (by omega) hI.de
  have kh:CS s7 D v hs:=(((((hh.same (s':=oSt s.mem s.next) rfl rfl).ext x4 fun x hx _ h=>by have:=In1.1 h;omega).same (s':=oSt s4.mem s4.next) rfl rfl).ext x5 fun x hx _ h=>by have:=In1.1 h;omega).same (s':=oSt s5.mem s5.next) rfl rfl).ext x6 (fun x hx _ h=>by have:=In1.1 h;omega) |>.same m7 n7
  have hb7:s7.lim≤s7.next:=hx7.bnd hb
  refine W.bind (W.store1 Bl rfl k5 fun s8 n8 x8 w8=>W.pure ?_)
  have hx8:Ext (fun x=>A≤x) (fun x=>A≤x) s s8:=hx7.trans x8 hb (fun x _ h=>hZ _ x (by omega) h) fun x _ h=>hZ _ x (by omega) h
  have q2:Own s8 A 0 v:=k2.ext x8 fun h=>by have:=In1.1 h;omega
  have q3:Own s8 (A+2) 0 (.int .i64 (size:Nat)):=k3.ext x8 fun h=>by have:=In1.1 h;omega
  have q4:Own s8 (A+4) 0 (.int .i64 (bad:Nat)):=k4.ext x8 fun h=>by have:=In1.1 h;omega
  have qd:Obj s8 D (.deferred (some [])):=kd.ext x8 fun h=>by have:=In1.1 h;omega
  have qh:CS s8 D v hs:=kh.ext x8 fun x hx _ h=>by have:=In1.1 h;omega
  refine W.endK Tx_ (.inl XW_) (by omega) Cj_ Un_ (hx8.cx.trans hcx) qd ?_
  have x9:Ext (fun x=>A≤x) (fun x=>A≤x) (s.cxN cxN) (((s8.cxN cxN).rdN D).wrN D (.O (.deferred none))):=by
   have y1:Ext (fun x=>A≤x) (fun x=>A≤x) (s.cxN cxN) (s8.cxN cxN):=⟨hx8.nxt,hx8.lim,rfl,hx8.mem,hx8.rd,hx8.wr⟩
   have y2:=y1.trans (Ext.rdN (F:=fun x=>A≤x) (G:=fun x=>A≤x) (s8.cxN cxN) D fun _=>by omega) hb (fun _ _ h=>h) fun _ _ h=>h
   exact y2.trans (Ext.wrN (F:=fun x=>A≤x) (G:=fun x=>A≤x) ((s8.cxN cxN).rdN D) D _ (by omega)) hb (fun _ _ h=>h) fun _ _ h=>h
  have own9: ∀b o u,b+o<D→Own s8 b o u→Own (((s8.cxN cxN).rdN D).wrN D (.O (.deferred none))) b o u:=fun b o u h hu=>by
   refine⟨hu.1, ?_⟩
   show T.get (T.set s8.mem D _) _=_
   rw[T.get_set,if_neg (by omega)]
   exact hu.2
  have h9:CS (((s8.cxN cxN).rdN D).wrN D (.O (.deferred none))) D v hs:=by
   have e:Ext (fun _=>True) (fun x=>x=D) (s8.cxN cxN) (((s8.cxN cxN).rdN D).wrN D (.O (.deferred none))):=by
    have y2:=Ext.rdN (F:=fun _=>True) (G:=fun x=>x=D) (s8.cxN cxN) D fun _=>trivial
    exact y2.trans (Ext.wrN (F:=fun _=>True) (G:=fun x=>x=D) ((s8.cxN cxN).rdN D) D _ rfl) (hx8.bnd hb) (fun _ _ h=>h) fun _ _ h=>h
   exact(qh.same (s':=s8.cxN cxN) rfl rfl).ext e fun x hx _ h=>by omega
  show W (resL envS tm _) (((s8.cxN cxN).rdN D).wrN D (.O (.deferred none))) _
  generalize ((s8.cxN cxN).rdN D).wrN D (.O (.deferred none))=s9 at *
  have step: ∀(b:Nat) (u:Value) (sa:St),A≤b→Ext (fun x=>A≤x) (fun x=>A≤x) (s.cxN cxN) sa→Ext (fun x=>A≤x) (fun x=>A≤x) (s.cxN cxN) (sa.rdN (b+0)):=fun b u sa hA x=>x.trans (Ext.rdN (F:=fun x=>A≤x) (G:=fun x=>A≤x) sa _ fun _=>by omega) hb (fun _ _ h=>h) fun _ _ h=>h
  refine W.resCell hS.t2 (W.load1 Da (own9 _ _ _ (by omega) q2).at' ?_)
  refine W.resCell hS.t3 (W.load1 Bl ((own9 _ _ _ (by omega) q3).same rfl rfl).at' ?_)
  refine W.resCell hS.t4 (W.load1 Bl ((own9 _ _ _ (by omega) q4).same rfl rfl).at' ?_)
  refine W.resCell hS.t5 (W.load1 Bl ((own9 _ _ _ (by omega) w8).same rfl rfl).at' ?_)
  refine W.resNil ?_
  exact q _ v (step _ v _ (by omega) (step _ v _ (by omega) (step _ v _ (by omega) (step _ v _ (by omega) x9)))) (h9.same rfl rfl)
theorem Aft_:envS.ext.get 109=none:=by kernel_rfl
theorem Bs.one {s:St}{v:Value}{l:List Nat}(h:Bs s v l):oneCell v=true:=by
 obtain⟨p,c,rfl⟩:=h.sl
 cases p<;>rfl
def BV (l:List Nat):List Hd×Nat×Nat×Nat:=Cd l l.length 0 [] 0
theorem Ec_ {n:Nat}{v:Value}{l:List Nat}{s:St}{Q:Value→St→Prop}(hbd:s.lim≤s.next)(hbs:Bs s v l)(hvA: ∀x,BsF v x→x<s.next)(hby:Byt l)(hz:l.length≤200000)(hn:70000+60*l.length≤n)
  (q: ∀s1 w,Ext (BsF v) Non s s1→Jo s s1 w (BV l).1→Q (.tuple #[w, .int .i64 ((BV l).2.2.1:Nat), .int .i64 ((BV l).2.1:Nat), .int .i64 ((BV l).2.2.2:Nat)]) s1):W (AJ envS (runF envS n) 24 [v]) s Q:=by
 refine Hh_ fun tm h0=> ?_
 have hbs0:Bs (s.cxN cxN) v l:=hbs.same rfl rfl
 refine OM_.w rfl (by omega) ?_
 simp -implicitDefEqProofs only[Zm,Ac,Aa,Ab]
 refine W.alloc On_ fun sa na xa oa=> ?_
 have na':sa.next=s.next+2:=na
 try simp -implicitDefEqProofs only[Ac,W_oS,W_on,Aa,W_mv,Ab,Ap,T.get_set,Af,Ae,Ao,Al,Ad,Ai,reduceIte,Ah,Av,As,Au,Ak,Aq,Ar,Aw,Aj,An,Nat.reduceEqDiff,reduceCtorEq, ↓reduceIte]
 refine W.alloc QR fun sb nb xb ob=> ?_
 have nb':sb.next=s.next+4:=by rw[nb,na'];rfl
 try simp -implicitDefEqProofs only[Ac,W_oS,W_on,Aa,W_mv,Ab,Ap,T.get_set,Af,Ae,Ao,Al,Ad,Ai,reduceIte,Ah,Av,As,Au,Ak,Aq,Ar,Aw,Aj,An,Nat.reduceEqDiff,reduceCtorEq, ↓reduceIte]
 refine W.alloc QR fun sc nc xc oc=> ?_
 have nc':sc.next=s.next+6:=by rw[nc,nb'];rfl
 try simp -implicitDefEqProofs only[Ac,W_oS,W_on,Aa,W_mv,Ab,Ap,T.get_set,Af,Ae,Ao,Al,Ad,Ai,reduceIte,Ah,Av,As,Au,Ak,Aq,Ar,Aw,Aj,An,Nat.reduceEqDiff,reduceCtorEq, ↓reduceIte]
 refine W.alloc QR fun sd nd xd od=> ?_
 have nd':sd.next=s.next+8:=by rw[nd,nc'];rfl
 rw[na']at ob ⊢
 rw[nb']at oc ⊢
 rw[nc']at od ⊢
 try simp -implicitDefEqProofs only[Ac,W_oS,W_on,Aa,W_mv,Ab,Ap,T.get_set,Af,Ae,Ao,Al,Ad,Ai,reduceIte,Ah,Av,As,Au,Ak,Aq,Ar,Aw,Aj,An,Nat.reduceEqDiff,reduceCtorEq, ↓reduceIte]
 have hxd:Ext (BsF v) Non (s.cxN cxN) sd:=((((Ext.refl _).step xa hbd (fun _ _ h=>h.elim) fun _ h=>h.elim).step xb hbd (fun _ _ h=>h.elim) fun _ h=>h.elim).step xc hbd (fun _ _ h=>h.elim) fun _ h=>h.elim).step xd hbd (fun _ _ h=>h.elim) fun _ h=>h.elim
 refine UT_.w Mv_ (by omega) ?_
 simp -implicitDefEqProofs only[Za,Ac,W_on,Aa,W_mv,Ab,T.get_set,Af,Ae,Ad,Ai,reduceIte,reduceCtorEq, ↓reduceIte,h0]
 refine Aaa_ hbs.one (by omega) fun se xe ne oe=> ?_
 rw[nd']at ne oe ⊢
 have hxe:Ext (BsF v) Non (s.cxN cxN) se:=hxd.step xe hbd (fun _ _ h=>h.elim) fun _ h=>h.elim
 have hbe:se.lim≤se.next:=hxe.bnd hbd
 have hbse:Bs se v l:=hbs0.ext0 hxe
 have c2:Own se s.next 0 (.slice none 0 0):=((((oa 0 _ rfl).ext0 xb).ext0 xc).ext0 xd).ext0 xe
 have c3:Own se (s.next+2) 0 (.int .i64 0):=(((ob 0 _ rfl).ext0 xc).ext0 xd).ext0 xe
 have c4:Own se (s.next+4) 0 (.int .i64 0):=((oc 0 _ rfl).ext0 xd).ext0 xe
 have c5:Own se (s.next+6) 0 (.int .i64 0):=(od 0 _ rfl).ext0 xe
 have H: ∀(n':Nat) (tmS:T Value) (td:List Item),65000+60*l.length≤n'→skim 64 td=DG→ScT s.next tmS→T.get tmS 9=some (.func (.func 109) #[] #[.pointer (some ⟨s.next+8,0,none⟩)])→W (runF envS n' ⟨24,En,BZ,tmS,td, .run, .normal,none⟩) se fun p s1=>Q p.1 (s1.cxN s.cx):=fun n' tmS td hn' hT hS h9=>by
  refine W.rangeFunc hT AdE_ h9 Aft_ hxe.cx (by omega) ?_
  rw[ne]
  intro s1 n1 x1 d1 l1
  have hx1:Ext (BsF v) Non (s.cxN cxN) s1:=hxe.step x1 hbd (fun _ _ h=>h.elim) fun _ h=>h.elim
  have hb1:s1.lim≤s1.next:=hx1.bnd hbd
  refine Xi_ fun tm2 g0 g1=> ?_
  refine OO_.w rfl (by omega) ?_
  simp -implicitDefEqProofs only[CB_,Aa,W_mv,Ab]
  have hbs1:Bs ((s1.cxN (.cx none (some (CH (s.next+8+2)::[])))).cxN cxN) v l:=(hbse.ext0 x1).same rfl rfl
  have I1:ScI s.next (s.next+8+2) _ .ready ((s1.cxN (.cx none (some (CH (s.next+8+2)::[])))).cxN cxN) [] 0 0 0:=
   ⟨l1.same rfl rfl,d1.same rfl rfl,⟨_,(c2.ext0 x1).same rfl rfl, .inl ⟨rfl,rfl⟩⟩,(c3.ext0 x1).same rfl rfl,(c4.ext0 x1).same rfl rfl,(c5.ext0 x1).same rfl rfl,fun h hh=>by simp at hh,by omega⟩
  have oB:Own ((s1.cxN (.cx none (some (CH (s.next+8+2)::[])))).cxN cxN) (s.next+8) 0 v:=(oe.ext0 x1).same rfl rfl
  refine AbP_ (Q:=fun _ s2=>Obj s2 (s.next+8+2+1) (scanL tmS .ready (s.next+8+2))∧W (runF envS (n'-1) ⟨24,En,BZ,tmS,DG.tail, .run, .normal,none⟩) ((s2.rdN (s.next+8+2+1)).wrN (s.next+8+2+1) (.O (scanL tmS .exhausted (s.next+8+2)))) fun p s1=>Q p.1 (s1.cxN s.cx)) (s0:=s1.cxN (.cx none (some (CH (s.next+8+2)::[])))) (A:=s.next) (B:=s.next+8) (D:=s.next+8+2) (v:=v) (l:=l) (by omega) (by omega) hvA hby hz hS l.length 0 _ [] 0 _ _ ((s1.cxN (.cx none (some (CH (s.next+8+2)::[])))).cxN cxN) (Nat.zero_le _) (by omega) (by simp) (by omega) YJ_ hb1 rfl I1 oB hbs1 (by simp[T.get_set,g0]) (by simp[T.get_set,g1]) (by simp[T.get_set]) fun s2 I2 x2=> ?_
  refine⟨(I2.lo).same rfl rfl, ?_⟩
  have I3:=(ScI.turn (st':= .exhausted) (I2.same (s':=s2.cxN (.cx none (some [CH (s.next+8+2)]))) rfl rfl))
  have x3:=QC (A:=s.next) (D:=s.next+8+2) (s:=s2.cxN (.cx none (some [CH (s.next+8+2)]))) (.O (scanL tmS .exhausted (s.next+8+2))) I2.sep
  have hb2:s2.lim≤s2.next:=x2.bnd hb1
  refine VQ_ (A:=s.next) (D:=s.next+8+2) (s0:=s) (x3.bnd hb2) rfl I3 hS Aex_ (by omega) fun s4 w x4 hw=> ?_
  have y1:Ext (BsF v) Non (s.cxN cxN) (s1.cxN cxN):=⟨hx1.nxt,hx1.lim,rfl,hx1.mem,hx1.rd,hx1.wr⟩
  have y2:Ext (BsF v) Non (s.cxN cxN) (s2.cxN cxN):=by
   have x2':Ext (LF s.next v) (ScZ s.next (s.next+8+2)) (s1.cxN cxN) (s2.cxN cxN):=⟨x2.nxt,x2.lim,rfl,x2.mem,x2.rd,x2.wr⟩
   refine y1.step x2' hbd (fun x hx h=> ?_) fun x h=>h.1
   rcases h with h|h
   ·exact h
   ·have h2:x<s.lim:=hx
    omega
  have y3:Ext (BsF v) Non (s.cxN cxN) ((((s2.cxN (.cx none (some [CH (s.next+8+2)]))).rdN (s.next+8+2+1)).wrN (s.next+8+2+1) (.O (scanL tmS .exhausted (s.next+8+2)))).cxN cxN):=by
   have x3':=x3
   refine y2.step (F':=ScZ s.next (s.next+8+2)) (G':=ScZ s.next (s.next+8+2)) ⟨x3.nxt,x3.lim,rfl,x3.mem,x3.rd,x3.wr⟩ hbd (fun x hx h=> ?_) fun x h=>h.1
   have h2:x<s.lim:=hx
   have:=h.1
   omega
  have y4:Ext (BsF v) Non (s.cxN cxN) s4:=y3.step x4 hbd (fun x hx h=>by
   have h2:x<s.lim:=hx
   have h3:s.next≤x:=h
   omega) fun x h=>h
  refine q _ w y4.cx' ?_
  rcases hw with hw|⟨b,g1,g2,g3⟩
  ·exact .inl hw
  ·exact .inr ⟨b,by omega,g2.same rfl rfl,g3⟩
 exact H _ _ _ (by omega) QD_ ⟨by simp[T.get_set];rfl,by simp[T.get_set],by simp[T.get_set],by simp[T.get_set]⟩ (by simp[T.get_set])
theorem KF:fldN envS 35 1=some (16,1,false):=by kernel_rfl
theorem Pr:fldN envS 35 2=some (17,1,false):=by kernel_rfl
def FS_ (l:List Nat)(h:Hd):Bool:= !((Hr l h.2.1).2&&decide (BA l h.2.1=h.2.2)&&decide (h.2.1+26+h.2.2≤l.length))
end Go.Proofs.Ytofanlcjeohcjaa.Am
