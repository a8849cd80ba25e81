import Derived.Test.YtofanlcjeohcjaaPPt17
import Derived.Test.YtofanlcjeohcjaaPPt08
namespace Go.Proofs.Ytofanlcjeohcjaa.Am
open Go.RowKit
def EQ (a:Int):Int:=if a<1∨1024<a then 0 else a+26
theorem UN_ {n:Nat}{s:St}{Q:Value→St→Prop}(a:Int)(hn:20≤n)(q:Q (.int .i64 (EQ a)) s):W (AJ envS (runF envS n) 20 [.int .i64 a]) s Q:=by
 refine PL_ fun tm h0=> ?_
 refine UC_.w rfl (by omega) ?_
 simp -implicitDefEqProofs only[Xw,Ab,W_mv,Ad]
 refine Rt_.w Nj_ (by omega) ?_
 simp -implicitDefEqProofs only[SQ,Ac,W_oS,W_on,Ab,W_mv,Ad,T.get_set,reduceIte,An,Aw,Au,reduceCtorEq, ↓reduceIte,A8,h0]
 by_cases h1:a<1
 ·rw[decide_eq_true h1]
  simp -implicitDefEqProofs only[Ab,reduceIte,Ay,Az, ↓reduceIte]
  refine W.cond (v:=true) QP OG (by simp[T.get_set]) (by omega) (fun _=> ?_) fun h=>by cases h
  refine Vm.w Yp (by omega) ?_
  simp -implicitDefEqProofs only[Rw,Ab,W_mv,Ad]
  refine W.end' (rs:=[2]) (vs:=[.int .i64 0]) VD (.inl Z7) (by omega) Le NP rfl (by simp[T.get_set]) ?_
  have e:EQ a=0:=if_pos (.inl h1)
  rw[e]at q
  exact q
 ·rw[decide_eq_false h1]
  simp -implicitDefEqProofs only[W_oS,Ab,reduceIte,Av,Ax,reduceCtorEq, ↓reduceIte,Bc]
  by_cases h2:1024<a
  ·refine W.cond (v:=true) QP OG (by simp[T.get_set,h2]) (by omega) (fun _=> ?_) fun h=>by cases h
   refine Vm.w Yp (by omega) ?_
   simp -implicitDefEqProofs only[Rw,Ab,W_mv,Ad]
   refine W.end' (rs:=[2]) (vs:=[.int .i64 0]) VD (.inl Z7) (by omega) Le NP rfl (by simp[T.get_set]) ?_
   have e:EQ a=0:=if_pos (.inr h2)
   rw[e]at q
   exact q
  ·refine W.cond (v:=false) QP OG (by simp[T.get_set,h2]) (by omega) (fun h=>by cases h) fun _=> ?_
   refine Li_.w QY_ (by omega) ?_
   have ea:wrap64 (a+26)=a+26:=BB (by omega) (by omega)
   simp -implicitDefEqProofs only[ZO,Ac,W_oS,Ab,W_mv,Ad,T.get_set,reduceIte,reduceCtorEq, ↓reduceIte,A7,h0,ea]
   refine W.end' (rs:=[2]) (vs:=[.int .i64 (a+26)]) Uc_ (.inl Vq_) (by omega) Le NP rfl (by simp[T.get_set]) ?_
   have e:EQ a=a+26:=if_neg fun h=>h.elim h1 h2
   rw[e]at q
   exact q
theorem FN_ (m:Nat)(hm:m≤255):Nat.xor 255 m=255-m:=by
 have h: ∀m:Fin 256,Nat.xor 255 m.val=255-m.val:=by decide+kernel
 exact h ⟨m,by omega⟩
theorem Ou_ (P:Program)(m:Nat)(hm:m≤255)(s:St):kUn P .xor (.int .u8 (m:Nat)) s= .some (.int .u8 (255-m:Nat)) s:=by
 show Option.rec (motive:=fun _=>M Value) (CP P .xor (.int .u8 (.ofNat m))) (fun x=>M.pure x) (notK .u8 m) s=_
 have:notK .u8 m=some (.int .u8 (255-m:Nat)):=by
  unfold notK
  show sOpt true (fitI .u8 (Nat.xor 255 m))=_
  rw[FN_ m hm]
  unfold fitI
  rw[Nat.ble_eq_true_of_le (show 255-m≤mxOf .u8 from Nat.sub_le _ _)]
  show mkI .u8 (255-m)=_
  unfold mkI
  rw[AY]
  rfl
 rw[this]
 rfl
theorem LW {P:Program}{m:Nat}{s:St}(hm:m≤255)(Q:Value→St→Prop):W (kUn P .xor (.int .u8 (m:Nat))) s Q=Q (.int .u8 (255-m:Nat)) s:=By (Ou_ P m hm s)
theorem Lc_:arrN envS 89=some (6,1):=by kernel_rfl
theorem Pf:tyS envS 89=some (6,true):=by kernel_rfl
theorem Zz:D9 envS 89=some (List.replicate 6 (.int .u8 0)):=by kernel_rfl
theorem KJ_ (a b c d e f:Nat):EC envS 89 [(0, .int .u8 (a:Nat)),(1, .int .u8 (b:Nat)),(2, .int .u8 (c:Nat)),(3, .int .u8 (d:Nat)),(4, .int .u8 (e:Nat)),(5, .int .u8 (f:Nat))]=some (u8l [a,b,c,d,e,f]):=by kernel_rfl
def B8 (n:Nat):List Nat:=[n>>>8%256,n%256,255-n>>>8%256,255-n%256]
def Cq (n:Nat):List Nat:=[n>>>8%256,n%256,255-n>>>8%256,255-n%256,Co 0 (B8 n)%256,Co 0 (B8 n)>>>8%256]
theorem XA (n:Nat):Byt (B8 n):=fun x hx=>by
 simp -implicitDefEqProofs only[B8,List.mem_cons,List.not_mem_nil,or_false]at hx
 omega
theorem LC_ {k n:Nat}{s:St}{Q:Value→St→Prop}(hbd:s.lim≤s.next)(hn:40≤n)(q: ∀s1,Ext Non Non s s1→Q (.agg (u8l (Cq k)).toArray) s1):W (AJ envS (runF envS n) 62 [.int .i64 (k:Nat)]) s Q:=by
 refine Fk_ fun tm h0=> ?_
 refine LP_.w rfl (by omega) ?_
 simp -implicitDefEqProofs only[YB,Ac,Ab,Ad]
 refine W.alloc Zz fun sa na xa oa=> ?_
 have na':sa.next=s.next+7:=na
 have hxa:Ext Non Non (s.cxN cxN) sa:=xa
 refine Wu_.w Eb_ (by omega) ?_
 simp -implicitDefEqProofs only[TY,Ac,W_oS,Ab,W_mv,Ad,T.get_set,reduceIte,reduceCtorEq, ↓reduceIte,h0,Hm (k:= .i64) (by decide),Da KG Dp,wrap_u8]
 refine IT_.w El_ (by omega) ?_
 have m1:k>>>8%256≤255:=by omega
 have m2:k%256≤255:=by omega
 simp -implicitDefEqProofs only[U3,Ac,W_oS,W_on,Ab,W_mv,Ad,T.get_set,Ag,Af,Aq,Ap,Ae,Ak,reduceIte,Nat.reduceEqDiff, ↓reduceIte,LW m1,LW m2]
 refine W.buildS (xa.bnd hbd) (r:=u8l (B8 k)) CK (by decide) rfl (Bt (by decide)) fun sb nb xb ob=> ?_
 have hxb:Ext Non Non (s.cxN cxN) sb:=hxa.step xb hbd (fun _ _ h=>h.elim) fun _ h=>h.elim
 have hB:Bs sb (.slice (some ⟨sa.next,0,none⟩) 4 4) (B8 k):=Ah.bn ob (Bt (by simp[B8]))
 refine VO (by omega) (hB.bn' (by simp[B8])) (XA k) (by simp[B8]) fun sc mc nc xc=> ?_
 have hxc:Ext Non Non (s.cxN cxN) sc:=hxb.step xc hbd (fun x hx h=>by
  have h2:x<s.lim:=hx
  have h3:sa.next+0≤x:=h.1
  omega) fun _ h=>h.elim
 have hoc:Bb sc s.next 0 6:=((Ah.owned oa).ext1 xb fun _ _ h=>h).ext1 xc fun _ _ h=>h
 refine JE_.w Eu_ (by omega) ?_
 generalize hS:Co 0 (B8 k)=S
 simp -implicitDefEqProofs only[Yz,Ac,W_oS,Ab,W_mv,T.get_set,Aq,Ap,Ae,reduceIte,Nat.reduceEqDiff, ↓reduceIte,LW m1,LW m2,Da G6 Dp,wrap_u8,Hm (k:= .u32) (by decide),Ej (KJ_ _ _ _ _ _ _)]
 refine W.store Pf rfl (BY _) hoc fun sd nd xd od=> ?_
 have hG: ∀x,In s.next 0 6 x→s.next≤x:=fun x h=>by have:=h.1;omega
 have hxd:Ext Non Non (s.cxN cxN) sd:=hxc.step xd hbd (fun x hx h=>by
  have h2:x<s.lim:=hx
  have:=hG x h
  omega) hG
 refine W.endC (r:=2) Tq_ (.inl EI_) (by omega) Ai_ BY_ hxd.cx (by simp[T.get_set];rfl) ?_
 refine W.loadA Pf od.row rfl fun se me ne xe=> ?_
 have hxe:Ext Non Non (s.cxN cxN) se:=hxd.step xe hbd (fun x hx h=>by
  have h2:x<s.lim:=hx
  have:=hG x h
  omega) fun _ h=>h.elim
 have:=q _ hxe.cx'
 unfold Cq at this
 rw[hS]at this
 exact this
theorem wrap_i64 (n:Nat)(h:n<9223372036854775808):IntKind.i64.wrap ((n:Nat):Int)=((n:Nat):Int):=by
 rw[←Lz]
 exact BB (by omega) (by omega)
def len2 (a b:Nat):Nat:=a<<<8|||b
section
variable {α:Type}
theorem Nn_ (m:M α):M.chk true m=m:=rfl
theorem if_t (x y:M α):M.if true x y=x:=rfl
theorem XS (call round:Aa)(f:Nat)(l:List Value):Bi call round (.func (.func f) #[] #[]) l=call f l:=by
 show call f ([]++(l++[]))=_
 rw[List.append_nil,List.nil_append]
end
def FJ (l:List Nat)(k:Nat):Nat:=len2 (l.getD k 0) (l.getD (k+1) 0)
def S1 (l:List Nat)(k:Nat):Bool:=decide (1≤FJ l k∧FJ l k≤1024)&&decide ((l.take (k+6)).drop k=Cq (FJ l k))
theorem Gd (n:Nat):(Cq n).length=6:=rfl
theorem Bn.lt {s:St}{v:Value}{l:List Nat}(h:Bn s v l): ∀x,BsF v x→x<s.next:=fun x hx=>by
 obtain⟨b,o,c,rfl,_,_,h3⟩:=h
 obtain⟨h1,h2⟩:=hx
 have hi:x-(b+o)<(u8l l).length:=by rw[Be];omega
 have h5:=(h3 (x-(b+o)) _ (List.getElem?_eq_getElem hi)).1
 have h6:b+(o+(x-(b+o)))<s.next:=h5
 omega
theorem KL:EC envS 26 []=some (u8l (List.replicate 16 0)):=by kernel_rfl
def Ny (l:List Nat)(k n:Nat):List Nat:=(l.take (k+26+n)).drop (k+6)
def Uw (l:List Nat)(k n:Nat):List Nat:=(Ny l k n).take (n+16)
def Wv (l:List Nat)(k n:Nat):List Nat:=(Uw l k n).take 16
def YX (l:List Nat)(k n:Nat):List Nat:=(Uw l k n).drop 16
abbrev Hd:Type:=List Nat×Nat×Nat
def DP (h:Hd):List Value:=u8l h.1++[.int .i64 (h.2.1:Nat), .int .i64 (h.2.2:Nat)]
theorem Nh {h:Hd}(h16:h.1.length=16):(DP h).length=18:=by
 unfold DP
 rw[List.length_append,Be,h16]
 rfl
def Ct:List Hd→List Value
 |[]=>[]
 |h::l=>DP h++Ct l
theorem Wj: ∀{l:List Hd},(∀h∈l,h.1.length=16)→(Ct l).length=l.length*18
 |[],_=>rfl
 |h::l,hl=>by
  unfold Ct
  rw[List.length_append,Nh (hl h (by simp)),Wj fun x hx=>hl x (by simp[hx]),List.length_cons]
  omega
def Fj (s:St)(D:Nat)(v:Value)(hs:List Hd):Prop:=(v= .slice none 0 0∧hs=[])∨ ∃b,D+2≤b∧Marked s 18 hs.length (Ct hs) v b∧hs≠[]
noncomputable abbrev scanL (tm:T Value)(st:LoopState)(D:Nat):AObj:= .loop st none 24 IN_ Ic_ tm [10,11] Kh_ Gp_ D
structure ScI (A D:Nat)(tm:T Value)(st:LoopState)(s:St)(hs:List Hd)(bad size rest:Nat):Prop where
 lo:Obj s (D+1) (scanL tm st D)
 de:Obj s D (.deferred (some []))
 c2: ∃v,Own s A 0 v∧Fj s D v hs
 c3:Own s (A+2) 0 (.int .i64 (size:Nat))
 c4:Own s (A+4) 0 (.int .i64 (bad:Nat))
 c5:Own s (A+6) 0 (.int .i64 (rest:Nat))
 all16: ∀h∈hs,h.1.length=16
 sep:A+8≤D
theorem Fj.ext {F G:Nat→Prop}{s s':St}{D:Nat}{v:Value}{hs:List Hd}(h:Fj s D v hs)(e:Ext F G s s')(hG: ∀x,D+2≤x→x<s.next→ ¬G x):Fj s' D v hs:=by
 rcases h with h|⟨b,h1,h2,h3⟩
 ·exact .inl h
 ·refine .inr ⟨b,h1,h2.ext e fun x hx=>hG x (by have:=hx.1;omega) ?_,h3⟩
  have h4:=h2.lt
  have h5:x<b+0+(hs.length*18+1):=hx.2
  omega
theorem ScI.ext0 {F:Nat→Prop}{A D:Nat}{tm:T Value}{st:LoopState}{s s':St}{hs:List Hd}{bad size rest:Nat}(h:ScI A D tm st s hs bad size rest)(e:Ext F Non s s'):ScI A D tm st s' hs bad size rest:=
 ⟨h.lo.ext e id,h.de.ext e id,let ⟨v,h1,h2⟩:=h.c2;⟨v,h1.ext0 e,h2.ext e fun _ _ _=>id⟩,h.c3.ext0 e,h.c4.ext0 e,h.c5.ext0 e,h.all16,h.sep⟩
theorem Fj.same {s s':St}{D:Nat}{v:Value}{hs:List Hd}(h:Fj s D v hs)(hm:s'.mem=s.mem)(hn:s'.next=s.next):Fj s' D v hs:=by
 rcases h with h|⟨b,h1,h2,h3⟩
 ·exact .inl h
 ·exact .inr ⟨b,h1,h2.same hm hn,h3⟩
theorem ScI.same {A D:Nat}{tm:T Value}{st:LoopState}{s s':St}{hs:List Hd}{bad size rest:Nat}(h:ScI A D tm st s hs bad size rest)(hm:s'.mem=s.mem)(hn:s'.next=s.next):ScI A D tm st s' hs bad size rest:=
 ⟨h.lo.same hm hn,h.de.same hm hn,let ⟨v,h1,h2⟩:=h.c2;⟨v,h1.same hm hn,h2.same hm hn⟩,h.c3.same hm hn,h.c4.same hm hn,h.c5.same hm hn,h.all16,h.sep⟩
structure ScF (A R:Nat)(at':Nat)(tm:T Value):Prop where
 t2:T.get tm 2=some (.pointer (some ⟨A,0,none⟩))
 t3:T.get tm 3=some (.pointer (some ⟨A+2,0,none⟩))
 t4:T.get tm 4=some (.pointer (some ⟨A+4,0,none⟩))
 t5:T.get tm 5=some (.pointer (some ⟨A+6,0,none⟩))
 t6:T.get tm 6=some (.int .i64 (at':Nat))
 t7:T.get tm 7=some (.pointer (some ⟨R,0,none⟩))
theorem In1 {b x:Nat}:In b 0 1 x↔x=b:=⟨fun h=>by have:=h.1;have:=h.2;omega,fun h=>⟨by omega,by omega⟩⟩
abbrev TH_:List Nat:=List.replicate 16 0
structure ScT (A:Nat)(tm:T Value):Prop where
 t2:T.get tm 2=some (.pointer (some ⟨A,0,none⟩))
 t3:T.get tm 3=some (.pointer (some ⟨A+2,0,none⟩))
 t4:T.get tm 4=some (.pointer (some ⟨A+4,0,none⟩))
 t5:T.get tm 5=some (.pointer (some ⟨A+6,0,none⟩))
def Ux (l:List Nat)(k n:Nat):List Nat:=if GOk (Ny l k n)then Wv l k n else TH_
def Yk (l:List Nat)(k n:Nat):Bool:=decide (GOk (Ny l k n))&&decide (idB (YX l k n)=Wv l k n)
def ZQ (l:List Nat)(k:Nat):Bool:=decide (k+6≤l.length)&&S1 l k&&decide (k+26+FJ l k≤l.length)
def Wp (s s':St)(v:Value)(hs:List Hd):Prop:=(v= .slice none 0 0∧hs=[])∨ ∃b,s.next≤b∧Marked s' 18 hs.length (Ct hs) v b∧hs≠[]
theorem Bs.one {s:St}{v:Value}{l:List Nat}(h:Bs s v l):oneCell v=true:=by
 obtain⟨p,c,rfl⟩:=h.sl
 cases p<;>rfl
end Go.Proofs.Ytofanlcjeohcjaa.Am
