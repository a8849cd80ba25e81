import Derived.Test.YtjfhmacppabehaaIDk20
import Derived.Test.YtjfhmacppabehaaIDk07
import Derived.Test.YtjfhmacppabehaaRows
import Derived.Test.YtjfhmacppabehaaIDk06
import GoSem.ClaimWide
import Derived.Carry
import Derived.ChangeSame
namespace Go.Proofs.Ytjfhmacppabehaa.Am
open Go.RowKit
theorem W7:elT envS 49=some (1,8,[.int .i64 0]):=by kernel_rfl
theorem Rp (n:Int):CG (fun k=>some (k*1,1)) [(0, .int .i64 n)] (rep 1 [.int .i64 0])=some [.int .i64 n]:=rfl
section
variable {N0 D M:Nat}{v:Value}{ps:List PcI}{fuse keep:Int}
theorem QE_ {n mx ab:Nat}{tm:T Value}{s:St}{td:List Item}{col:Nat→Nat}{f:FileS}{st le:Int}{fu ou:Bool}{av sv:Value}(htot:sumP ps≤3000)(hn:3000≤n)(hT:skim 64 td=Gx)(hK:KpS N0 D M v ps fuse keep ps.length s tm col f mx st fu le ou av ab sv):
  W (runF envS n ⟨6,Da,Bg,tm,td, .run, .normal,none⟩) s fun p _=>p.1= .bool true:=by
 have hsz:f.sb.length+f.lb.length≤3000:=by
  have h1:=hK.lq
  rw[List.take_length]at h1
  omega
 have hal:(f.sb++f.lb).length=f.sb.length+f.lb.length:=List.length_append
 refine Lq_.w hT (by omega) ?_
 simp only[YU,Ad,W_on,W_mv,Ah,Af,AH,AG,Ag,Al,hK.t10]
 refine Td (j:=0) hK.bd hK.inv (by simp) (Dq hK.nm) (by omega) fun s1 x1=> ?_
 show W _ s1 _
 have hI1:=hK.inv.ext0 x1 (by simp)
 have b1:=x1.bnd hK.bd
 have mk1:=hK.ms.ext0 x1
 have e1:wrap64 ((((f.sb++f.lb).length:Nat):Int)-((f.sb.length:Nat):Int))=((f.lb.length:Nat):Int):=by
  rw[hal,BO (by omega) (by omega)];omega
 have eL:([f]:List FileS)[0].lb.length=f.lb.length:=rfl
 simp only[eL,Ad,W_oS,W_on,Aa,W_mv,Ab,Al,reduceIte,Aq,AB,Ao,Ar,Ap,reduceCtorEq, ↓reduceIte,E2,B0,hK.t2,hK.t11,hK.t12,MkS.lenq mk1 Ea,hK.sl,e1,decide_true,Bool.not_true]
 refine W.buildS b1 (r:=[.int .i64 keep]) W7 (by decide) (Rp keep) (D8 (by decide)) fun s2 n2 x2 o2=> ?_
 have hag: ∀x,x<s1.next→paint col s1.next 1000 x=col x:=fun x hx=>BD hx
 have hnw: ∀x,s1.next≤x→paint col s1.next 1000 x=1000:=fun x hx=>Dc hx
 have hI2:=(hI1.col hag).ext0 x2 (by simp)
 have mk2:=mk1.ext0 x2
 have mc2: ∀x,MkF 1 (f.sb++f.lb).length ab x→1000≤paint col s1.next 1000 x:=fun x hx=>by rw[hag x (mk1.lt x hx)];exact(hK.mc x hx).2
 have b2:=x2.bnd b1
 generalize paint col s1.next 1000=col2 at *
 try simp only[Ad,W_oS,W_on,Aa,W_mv,Ab,AJ,T.get_set,Ah,Af,AH,AG,Ag,Al,reduceIte,Aq,Ay,AM,AD,AB,Ao,Ar,AC,Ap,An,Nat.reduceEqDiff,reduceCtorEq, ↓reduceIte,hK.t10]
 refine Qw (kb:=s1.next) (x:=keep) b2 hI2 hK.nm hsz (o2 0 _ rfl) (by rw[hnw _ (Nat.le_refl _)];exact Nat.le_refl _) (by omega) fun s3 col3 f3 A3 nm3 sb3 lb3=> ?_
 have mk3:=mk2.ext A3.ext fun x hx g=>by have:=mc2 x hx;omega
 have b3:=A3.ext.bnd b2
 obtain⟨t,ht⟩: ∃t:Nat,t=(keep%((f.lb.length+1:Nat):Int)).toNat:=⟨_,rfl⟩
 have hk1:=Int.emod_nonneg keep (b:=((f.lb.length+1:Nat):Int)) (by omega)
 have hk2:=Int.emod_lt_of_pos keep (b:=((f.lb.length+1:Nat):Int)) (by omega)
 have ht2:keep%((f.lb.length+1:Nat):Int)=(t:Nat):=by omega
 have htl:t≤f.lb.length:=by omega
 rw[←ht]at sb3
 have l3:f3.sb.length=f.sb.length+t:=by rw[sb3,List.length_append,List.length_take];omega
 have l4:f3.lb.length=0:=by rw[lb3];rfl
 simp only[B0,decide_true,Bool.not_true]
 refine W.cond (v:=false) Kr_ LO_ (by simp[T.get_set]) (by omega) (fun h=>by cases h) fun _=> ?_
 refine EY_.w RQ_ (by omega) ?_
 have e2:wrap64 (((f.lb.length:Nat):Int)+1)=((f.lb.length+1:Nat):Int):=by
  rw[BO (by omega) (by omega)];simp
 simp only[Y2,Ad,W_oS,W_on,Aa,W_mv,Ab,T.get_set,Ah,Af,Ag,Al,reduceIte,Nat.reduceEqDiff, ↓reduceIte,BU,E2,hK.t2,hK.t11,hK.t12,MkS.lenq mk3 Ea,hK.sl,e1,e2]
 refine Rh_ (m:=f.lb.length+1) (by omega) (by omega) (by omega) ?_
 rw[ht2]
 have e3:wrap64 (((f.sb.length:Nat):Int)+((t:Nat):Int))=((f.sb.length+t:Nat):Int):=by
  rw[BO (by omega) (by omega)];omega
 obtain⟨v3,hsl3,hb3,hf3⟩:=mk3.pre (kk:=f.sb.length+t) (by omega) (Nat.lt_of_le_of_lt (show _≤5000 by omega) (by decide))
 have et:(f.sb++f.lb).take (f.sb.length+t)=f3.sb:=by
  rw[sb3,List.take_append,Nat.add_sub_cancel_left,List.take_of_length_le (by omega)]
 rw[et]at hb3
 simp only[BU,e3,hsl3]
 refine IK_.w Ak_ (by omega) ?_
 simp only[Xj,Ad,W_oS,W_on,Aa,W_mv,Ab,T.get_set,Ah,Af,AH,AG,Ag,Al,reduceIte,Nat.reduceEqDiff, ↓reduceIte,hK.t10]
 have hu: ∀(g:FileS) (a b c:Int) (d e:Bool),g.sb.length+g.lb.length≤3000→DkS.used ⟨[g],mx,a,b,d,c,e⟩≤1000000:=fun g a b c d e h=>by
  show g.sb.length+g.lb.length+0≤_
  omega
 refine Vk (j:=0) b3 A3.inv (by simp) (hu f3 _ _ _ _ _ (by omega)) (by omega) rfl (by simp) (Dq nm3) (by show Bs s3 _ (f3.sb++f3.lb);rw[lb3,List.append_nil];exact hb3) fun s4 x4=> ?_
 have hI4:=A3.inv.ext0 x4 (by simp)
 have b4:=x4.bnd b3
 have hb4:=hb3.ext0 x4
 have mc3: ∀x,BsF v3 x→1000≤col3 x∧x<s3.next:=fun x hx=>by
  have h1:=hf3 x hx
  rw[A3.agree x (mk2.lt x h1)]
  exact⟨mc2 x h1,mk3.lt x h1⟩
 simp only[W_oS,W_on,Aa,Al,reduceIte,Aq,AB,Ao,Ar,Ap,reduceCtorEq, ↓reduceIte,CI,Bool.not_true]
 refine N1 b4 hI4 (by omega) fun s5 x5=> ?_
 have hI5:=hI4.ext0 x5 (by simp)
 have b5:=x5.bnd b4
 have hb5:=hb4.ext0 x5
 have n35:s3.next≤s5.next:=Nat.le_trans x4.nxt x5.nxt
 simp only[W_oS,W_on,Aa,Al,reduceIte,Aq,AB,Ao,Ar,Ap,reduceCtorEq, ↓reduceIte,BU,CI,Bool.not_false,Bool.not_true,hK.t2]
 refine W.buildS b5 (r:=[.int .i64 (wrap64 (keep+1))]) W7 (by decide) (Rp _) (D8 (by decide)) fun s6 n6 x6 o6=> ?_
 have hag6: ∀x,x<s5.next→paint col3 s5.next 1000 x=col3 x:=fun x hx=>BD hx
 have hnw6: ∀x,s5.next≤x→paint col3 s5.next 1000 x=1000:=fun x hx=>Dc hx
 have hI6:=(hI5.col hag6).ext0 x6 (by simp)
 have hb6:=hb5.ext0 x6
 have b6:=x6.bnd b5
 have mc6: ∀x,BsF v3 x→1000≤paint col3 s5.next 1000 x:=fun x hx=>by rw[hag6 x (by have:=(mc3 x hx).2;omega)];exact(mc3 x hx).1
 generalize paint col3 s5.next 1000=col6 at *
 try simp only[Ad,W_oS,W_on,Aa,W_mv,Ab,AJ,T.get_set,Ah,Af,AH,AG,Ag,Al,reduceIte,Aq,Ay,AM,AD,AB,Ao,Ar,AC,Ap,An,Nat.reduceEqDiff,reduceCtorEq, ↓reduceIte,hK.t10]
 refine Qw (kb:=s5.next) (x:=wrap64 (keep+1)) b6 hI6 nm3 (by omega) (o6 0 _ rfl) (by rw[hnw6 _ (Nat.le_refl _)];exact Nat.le_refl _) (by omega) fun s7 col7 f7 A7 nm7 sb7 lb7=> ?_
 rw[lb3,List.take_nil,List.append_nil]at sb7
 have hb7:=hb6.ext A7.ext fun x hx g=>by have:=mc6 x hx;omega
 have b7:=A7.ext.bnd b6
 have l7:f7.sb.length=f3.sb.length:=by rw[sb7]
 have l8:f7.lb.length=0:=by rw[lb7];rfl
 simp only[B0,decide_true,Bool.not_true]
 refine W.cond (v:=false) IS_ Dc_ (by simp[T.get_set]) (by omega) (fun h=>by cases h) fun _=> ?_
 refine Km_.w Hk_ (by omega) ?_
 simp only[Tp,Ad,W_oS,W_on,Aa,W_mv,Ab,T.get_set,Ah,Af,Ag,Al,reduceIte,Aq,Ay,Ao,Ar,Ap,Nat.reduceEqDiff, ↓reduceIte,hK.t7,hK.t10]
 refine Vk (j:=0) b7 A7.inv (by simp) (hu f7 _ _ _ _ _ (by omega)) (by omega) rfl (by simp) (Dq nm7) (by show Bs s7 _ (f7.sb++f7.lb);rw[lb7,List.append_nil,sb7];exact hb7) fun s8 x8=> ?_
 have hI8:=A7.inv.ext0 x8 (by simp)
 have b8:=x8.bnd b7
 simp only[W_oS,W_on,Aa,Al,reduceIte,Aq,Ay,Ao,Ar,Ap, ↓reduceIte]
 refine Td (j:=0) b8 hI8 (by simp) (Dq nm7) (by omega) fun s9 x9=> ?_
 have eL7:((([f7]:List FileS)[0].lb.length:Nat):Int)=0:=by
  show((f7.lb.length:Nat):Int)=0
  rw[l8];rfl
 show W _ s9 _
 simp only[eL7,Cj,decide_true]
 have hcx:s9.cx=cxN:=x9.cx.trans (x8.cx.trans (A7.ext.cx.trans (x6.cx.trans (x5.cx.trans (x4.cx.trans (A3.ext.cx.trans (x2.cx.trans (x1.cx.trans hK.cx))))))))
 exact W.end' (rs:=[6]) (vs:=[.bool true]) Pb_ (.inl CS_) (by omega) Ob Sk hcx (by simp[T.get_set]) rfl
end
theorem Y8:envS.orc.get 32=some (JI (.bool true)):=by kernel_rfl
section
variable {n:Nat}{s:St}{v:Value}{ps:List PcI}{fuse keep:Int}
theorem Zp (hb:s.lim≤s.next)(hP:PcS s.next s (fun _=>1000) v ps)(hN: ∀p∈ps,p.l.length≤1048576)(hfz:fuse≤9223372036854775807)(hn:12000≤n):W (Av envS (runF envS n) 6 [v, .int .i64 fuse, .int .i64 keep]) s fun u _=>u= .bool true:=by
 have hb0:(s.cxN cxN).lim≤(s.cxN cxN).next:=hb
 have hP0:PcS s.next (s.cxN cxN) (fun _=>1000) v ps:=hP.same rfl rfl
 refine IG_ fun tm t0 t1 t2=> ?_
 refine NW_.w rfl (by omega) ?_
 simp only[VI,Aa,W_mv,Ab]
 refine Ca_.w Jd_ (by omega) ?_
 simp only[WT,Ad,W_on,Aa,W_mv,Ab,Af,Al]
 refine W.orc Y8 (W.pure ?_)
 try simp only[Ad,W_oS,W_on,Aa,W_mv,Ab,AJ,T.get_set,Ah,Af,AH,AG,Ag,Al,reduceIte,Aq,Ay,AM,AD,AB,Ao,Ar,AC,Ap,An,Nat.reduceEqDiff,reduceCtorEq, ↓reduceIte]
 refine Oz_.w RX_ (by omega) ?_
 simp only[Ux,Aa,W_mv,Ab]
 refine Zc.w OZ_ (by omega) ?_
 simp only[Yz,Aa,W_mv,Ab]
 refine Lb_ (v:=v) (ps:=ps) (z1:= .int .i64 fuse) (z2:= .int .i64 keep) (s0:=s.cxN cxN) hb0 hP0 hN (fun n1 tm1 s1 td1 hn1 hT1 x1 g0 g1 g2 g7 g8=> ?_) (min ps.length 61) 0 _ _ _ _ (by omega) (by simp[sumP]) (by omega) Nx_ (Ext.refl _) rfl rfl (by simp[T.get_set,t0]) (by simp[T.get_set,t1]) (by simp[T.get_set,t2]) (by simp[T.get_set]) (by simp[T.get_set,sumP]) (by simp[T.get_set])
 have b1:=x1.bnd hb0
 refine OW_.w hT1 (by omega) ?_
 simp only[Wz,Ad,W_on,Aa,W_mv,Ab,Ah,Af,Ag,Al]
 refine Eu_ (room:=3000) b1 (by decide) (by omega) fun s2 x2 hI2=> ?_
 have b2:=x2.bnd b1
 have y2:=x1.on x2 hb0 fun _ _ h=>h
 have hn1s:s.next≤s1.next:=x1.nxt
 have hP2:PcS s.next s2 (newC s1.next) v ps:=((hP0.ext0 x1).mvG (col':=newC s1.next) (x2.weak b1 (fun _ _ h=>h) fun _ _ h=>h) (fun x hx=>by unfold newC;rw[if_pos hx]) fun _ _ _ h=>h)
 generalize newC s1.next=col2 at *
 generalize s1.next+1=D at *
 try simp only[Ad,W_oS,W_on,Aa,W_mv,Ab,AJ,T.get_set,Ah,Af,AH,AG,Ag,Al,reduceIte,Aq,Ay,AM,AD,AB,Ao,Ar,AC,Ap,An,Nat.reduceEqDiff,reduceCtorEq, ↓reduceIte]
 refine Mn_.w DV_ (by omega) ?_
 have early: ∀(n':Nat) (tm':T Value) (td':List Item) (s':St),100≤n'→skim 64 td'=GI→s'.cx=cxN→T.get tm' 7=some (.bool true)→T.get tm' 10=some (.pointer (some ⟨D,0,none⟩))→W (runF envS n' ⟨6,Da,Bg,tm',td', .run, .normal,none⟩) s' fun p s1=>p.1= .bool true:=by
  intro n' tm' td' s' hn' hT' hcx g7 g10
  refine MU_.w hT' (by omega) ?_
  simp only[Tu,Ad,W_oS,W_on,Aa,W_mv,Ab,reduceIte,Aq,Ay,Ao,Ar,Ap, ↓reduceIte,g7,g10,Ik_ Na]
  exact W.end' (rs:=[6]) (vs:=[.bool true]) HW_ (.inl ZG) (by omega) Ob Sk hcx (by simp[T.get_set]) rfl
 by_cases h60:60<ps.length
 ·have e1:decide ((60:Int)<((ps.length:Nat):Int))=true:=decide_eq_true (by omega)
  simp only[IA,Ad,W_oS,W_on,Aa,W_mv,Ab,T.get_set,Ah,Af,Ag,reduceIte,Aq,AM,Ao,AC,Ap,Nat.reduceEqDiff,reduceCtorEq, ↓reduceIte,Ds,g0,g8,PcS.len hP2,e1]
  refine W.cond (v:=true) Ol Pw (by simp[T.get_set]) (by omega) (fun _=> ?_) fun h=>by cases h
  exact early _ _ _ _ (by omega) Vb y2.cx (by simp[T.get_set,g7]) (by simp[T.get_set])
 have e1:decide ((60:Int)<((ps.length:Nat):Int))=false:=decide_eq_false (by omega)
 have et:ps.take 61=ps:=List.take_of_length_le (by omega)
 rw[et]at g8
 by_cases hs:3000<sumP ps
 ·have e2:decide ((3000:Int)<((sumP ps:Nat):Int))=true:=decide_eq_true (by omega)
  simp only[IA,Ad,W_oS,W_on,Aa,W_mv,Ab,T.get_set,Ah,Af,Ag,reduceIte,Aq,AM,AB,Ao,Ar,AC,Ap,Nat.reduceEqDiff,reduceCtorEq, ↓reduceIte,Ds,g0,g8,PcS.len hP2,e1,e2]
  refine W.cond (v:=true) Ol Pw (by simp[T.get_set]) (by omega) (fun _=> ?_) fun h=>by cases h
  exact early _ _ _ _ (by omega) Vb y2.cx (by simp[T.get_set,g7]) (by simp[T.get_set])
 have e2:decide ((3000:Int)<((sumP ps:Nat):Int))=false:=decide_eq_false (by omega)
 simp only[IA,Ad,W_oS,W_on,Aa,W_mv,Ab,T.get_set,Ah,Af,Ag,reduceIte,Aq,AB,Ao,Ar,Ap,Nat.reduceEqDiff,reduceCtorEq, ↓reduceIte,Ds,g0,g8,PcS.len hP2,e1,e2,EZ Na]
 refine W.cond (v:=false) Ol Pw (by simp[T.get_set]) (by omega) (fun h=>by cases h) fun _=> ?_
 refine Hi_.w IR_ (by omega) ?_
 simp only[Wc,Ad,W_oS,W_on,Aa,W_mv,Ab,T.get_set,Ah,Af,Ag,Al,reduceIte,Nat.reduceEqDiff, ↓reduceIte,g1]
 refine FV_ b2 hI2 (by decide) (by omega) fun s3 col3 f mx st A3 nm sb lb=> ?_
 have b3:=A3.ext.bnd b2
 have hP3:=hP2.mv A3.ext A3.agree
 have hcx3:s3.cx=cxN:=A3.ext.cx.trans y2.cx
 have l1:f.sb.length=0:=by rw[sb];rfl
 have l2:f.lb.length=0:=by rw[lb];rfl
 have l3:f.sb++f.lb=[]:=by rw[sb,lb];rfl
 have main: ∀(n':Nat) (tm':T Value) (td':List Item) (s':St) (fu:Bool) (le:Int),7000≤n'→skim 64 td'=H4→s'.cx=cxN→s'.lim≤s'.next→DkI s' col3 D s1.next ⟨[f],mx,3000,st,fu,le,false⟩→PcS s.next s' col3 v ps→FuR fuse 0 fu le false→T.get tm' 65=some (.bool false)→(∀t,t≤10→T.get tm' t=T.get (T.set (T.set tm1 10 (.pointer (some ⟨D,0,none⟩))) 47 (.bool false)) t)→W (runF envS n' ⟨6,Da,Bg,tm',td', .run, .normal,none⟩) s' fun p s1=>p.1= .bool true:=by
  intro n' tm' td' s' fu le hn' hT' hcx hb' hI' hP' hF' g65 gt
  refine W.cond (v:=false) hT' FC_ (by simp[g65]) (by omega) (fun h=>by cases h) fun _=> ?_
  refine NN_.w Ov_ (by omega) ?_
  simp only[Th,Aa,W_mv,Ab]
  refine BG_.w Y7 (by omega) ?_
  simp only[S5,Aa,W_mv,Ab]
  refine RI_ (N0:=s.next) (D:=D) (M:=s1.next) (v:=v) (ps:=ps) (fuse:=fuse) (keep:=keep) (by omega) hfz (by omega) (fun n2 tm2 s2' td2 col' f' mx' st' fu' le' ou' av ab sv hn2 hT2 hK=> ?_) ps.length 0 _ _ _ _ col3 f mx st fu le false (.slice none 0 0) 0 (.slice none 0 0) (by omega) (by omega) Cy_ ⟨hcx,hb',hI',nm,by omega,by rw[l3];exact .inl ⟨rfl,rfl,rfl⟩,fun x hx=>by rw[l3]at hx;exact absurd hx.1 (Nat.lt_irrefl 0),fun s' Q=>by rw[l1];exact B7 (n:=0) Ea Q,hP',hF',by simp[T.get_set,gt,g0],by simp[T.get_set,gt,g1],by simp[T.get_set,gt,g2],by simp[T.get_set,gt,g7],by simp[T.get_set,gt],by simp[T.get_set],by simp[T.get_set],by simp[T.get_set]⟩
  exact QE_ (by omega) hn2 hT2 hK
 by_cases hf0:0≤fuse
 ·obtain⟨F,rfl⟩: ∃F:Nat,fuse=(F:Nat):=⟨fuse.toNat,by omega⟩
  have e3:decide ((0:Int)≤((F:Nat):Int))=true:=decide_eq_true hf0
  simp only[W_oS,W_on,Aa,Al,reduceIte,Aq,Ay,AB,Ao,Ar,Ap,reduceCtorEq, ↓reduceIte,C7,B0,decide_true,Bool.not_true,e3]
  refine Fy_ (m:=F) b3 A3.inv (by omega) fun s4 hI4 x4 n4=> ?_
  have hP4:=hP3.mv x4 fun _ _=>rfl
  simp only[B0,decide_true,Bool.not_true]
  exact main _ _ _ s4 true (F:Nat) (by omega) Ro (x4.cx.trans hcx3) (x4.bnd b3) hI4 hP4 (.inr ⟨F,rfl, .inl ⟨by omega,rfl,by omega,rfl⟩⟩) (by simp[T.get_set]) (fun t ht=>by rw[T.get_set,if_neg (by omega)])
 ·have e3:decide ((0:Int)≤fuse)=false:=decide_eq_false hf0
  simp only[W_oS,W_on,Aa,reduceIte,Aq,AD,AB,Ao,Ar,AC,Ap,reduceCtorEq, ↓reduceIte,C7,B0,decide_true,Bool.not_true,e3]
  exact main _ _ _ s3 false 0 (by omega) Ro hcx3 b3 A3.inv hP3 (.inl ⟨by omega,rfl,rfl⟩) (by simp[T.get_set]) (fun t ht=>by rw[T.get_set,if_neg (by omega)])
end
section
variable {n:Nat}{s:St}{av bv:Value}{a b:List Nat}{bit:Int}
end
open Go.RowKit Go.ChangeShapes Go.WideShapes
theorem Zu:envS.P=Try.prog:=by kernel_rfl
theorem KR_:Try.prog.underlying 26=some (.slice 5):=by kernel_rfl
theorem QF_:Try.prog.underlying 5=some (.int .u8):=by kernel_rfl
theorem YF:Try.prog.underlying 3=some (.int .i64):=by kernel_rfl
theorem HK_:Try.prog.cellsOf 5=1:=by kernel_rfl
theorem Bs.lt {s:St}{v:Value}{l:List Nat}(h:Bs s v l): ∀x,BsF v x→x<s.next:=by
 intro x hx
 rcases h with⟨rfl,_⟩|⟨b,o,c,rfl,_,_,h3⟩
 ·exact hx.elim
 ·have h1:b+o≤x:=hx.1
  have h2:x<b+o+l.length:=hx.2
  have hl:x-(b+o)<(u8l l).length:=by rw[Cb];omega
  have:=(h3 (x-(b+o)) _ (List.getElem?_eq_getElem hl)).1
  omega
theorem Lo_ {P:Program}{N F:Nat}{s:St}{t e:TypeId}{us:List Value}(ht:P.underlying t=some (.slice e))(he:P.underlying e=some (.int .u8))(hc:P.cellsOf e=1)(h:A9 P N s (F+2) t us): ∃v l,us=[v]∧Bs s v l∧Byt l∧l.length≤N:=by
 obtain⟨v,es,rfl,hE,_,hN,ha⟩:=A9.slice ht (by rw[hc];decide) h
 have h1: ∀i,i<es.length→ ∃n:Nat,n<256∧es[i]?=some [.int .u8 (n:Nat)]:=fun i hi=>by
  obtain⟨_,hx⟩:=ha _ (List.getElem_mem hi)
  obtain⟨n,e1,e2⟩:=hx.int' he
  have h2:(0:Int)≤n∧n≤255:=by
   have e3:(decide ((0:Int)≤n)&&decide (n≤(255:Int)))=true:=e2
   rw[Bool.and_eq_true]at e3
   exact⟨of_decide_eq_true e3.1,of_decide_eq_true e3.2⟩
  exact⟨n.toNat,by omega,by rw[List.getElem?_eq_getElem hi,e1,Int.toNat_of_nonneg h2.1]⟩
 obtain⟨l,hl,hp⟩:=OM h1
 refine⟨v,l,rfl, ?_,fun x hx=> ?_,by omega⟩
 ·rcases hE with⟨rfl,rfl⟩|⟨b,c,rfl,hc1,hc2,hr⟩
  ·exact .inl ⟨rfl,List.eq_nil_of_length_eq_zero hl⟩
  ·rw[hc]at hc2 hr
   refine .inr ⟨b,0,c,by rw[hl],by rw[hl];exact hc1,hc2,fun i x e=> ?_⟩
   obtain⟨n,e1,rfl⟩: ∃n,l[i]?=some n∧Value.int .u8 (n:Nat)=x:=by
    rw[List.getElem?_map]at e
    exact Option.map_eq_some_iff.1 e
   have:=hr i _ (hp i n e1).2 0 _ rfl
   rw[Nat.mul_one]at this
   rw[Nat.zero_add]
   exact this
 ·obtain⟨i,hi⟩:=List.getElem?_of_mem hx
  exact(hp i x hi).1
attribute [local irreducible] A9
theorem Vn:aggT Try.prog 3=false:=by kernel_rfl
theorem Qx_ {H:Type}(d:DataW H):1≤Rows.uptoBulk d:=by
 unfold Rows.uptoBulk
 split<;>omega
theorem Yy {H:Type}: ∀l:List (DataW H),l.length≤Rows.uptoBulkAll l
 |[]=>Nat.zero_le _
 |d::l=>by
  unfold Rows.uptoBulkAll
  have:=Qx_ d
  have:=Yy l
  rw[List.length_cons]
  omega
mutual
theorem Cq_ {H:Type}{N:Nat}: ∀d:DataW H,Rows.uptoBulk d≤N→lensOk N d
 | .lit (.string l),h=>by
  unfold Rows.uptoBulk at h
  unfold lensOk
  omega
 | .lit (.bool _),_=>by unfold lensOk;trivial
 | .lit (.int _ _),_=>by unfold lensOk;trivial
 | .lit (.float _ _),_=>by unfold lensOk;trivial
 | .lit .nil,_=>by unfold lensOk;trivial
 | .nil,_=>by unfold lensOk;trivial
 | .ptr _,_=>by unfold lensOk;trivial
 | .slice es sp,h=>by
  unfold Rows.uptoBulk at h
  have:=Yy es
  unfold lensOk
  exact⟨by omega,Lp es (by omega)⟩
 | .agg ps,h=>by
  unfold Rows.uptoBulk at h
  unfold lensOk
  exact Lp ps (by omega)
 | .iface _ _,_=>by unfold lensOk;trivial
 | .map _,_=>by unfold lensOk;trivial
 | .held _,_=>by unfold lensOk;trivial
theorem Lp {H:Type}{N:Nat}: ∀l:List (DataW H),Rows.uptoBulkAll l≤N→EY N l
 |[],_=>by unfold EY;trivial
 |d::l,h=>by
  unfold Rows.uptoBulkAll at h
  unfold EY
  exact⟨Cq_ d (by omega),Lp l (by omega)⟩
end
theorem lens_small {H:Type}{ds:List (DataW H)}(h:Rows.uptoSmall H ds=true): ∀d∈ds,lensOk 1048576 d:=
 H0 (Lp ds (of_decide_eq_true h))
theorem QQ_:Try.prog.underlying 60=some (.slice 62):=by kernel_rfl
theorem AV_:NP Try.prog 62 [(26,0),(4,1)]=true:=by kernel_rfl
theorem OI:Try.prog.cellsOf 62=2:=by kernel_rfl
theorem Mr_:Try.prog.cellsOf 62<1024:=by rw[OI];decide
theorem CE_:Try.prog.cellsOf 26=1:=by kernel_rfl
theorem PX_:Try.prog.cellsOf 4=1:=by kernel_rfl
theorem Qf_:Try.prog.underlying 4=some .bool:=by kernel_rfl
theorem A9.bool' {P:Program}{N F:Nat}{s:St}{t:TypeId}{us:List Value}(hu:P.underlying t=some .bool)(h:A9 P N s (F+1) t us): ∃b,us=[.bool b]:=by
 unfold A9 at h
 rw[hu]at h
 exact h
theorem QA_ {N F:Nat}{s:St}{us:List Value}(h:A9 Try.prog N s (F+4) 60 us): ∃v ps,us=[v]∧PcS s.next s (fun _=>1000) v ps∧ ∀p∈ps,p.l.length≤N:=by
 obtain⟨v,es,rfl,hE,_,hN,ha⟩:=A9.slice (P:=Try.prog) (F:=F+3) (t:=60) (e:=62) QQ_ Mr_ h
 rw[OI]at hE
 have h1: ∀i,i<es.length→ ∃p:PcI,es[i]?=some [p.v, .bool p.y]∧Bs s p.v p.l∧p.l.length≤N:=fun i hi=>by
  obtain⟨hx2,hx⟩:=ha _ (List.getElem_mem hi)
  rw[OI]at hx2
  obtain⟨_,hx⟩:=hx.struct AV_
  have k1:=hx (26,0) (by simp)
  have k2:=hx (4,1) (by simp)
  simp only[CE_,PX_]at k1 k2
  obtain⟨w,l,e1,k3,_,k5⟩:=Lo_ (F:=F) KR_ QF_ HK_ k1
  obtain⟨y,e2⟩:=k2.bool' Qf_
  refine⟨⟨w,l,y⟩, ?_,k3,k5⟩
  rw[List.getElem?_eq_getElem hi]
  generalize es[i]=x at e1 e2 hx2
  match x,hx2,e1,e2 with
  |[a,b],_,e1,e2=>
   cases e1
   cases e2
   rfl
 obtain⟨ps,hl,hp⟩:=OM h1
 have hm: ∀p∈ps,Bs s p.v p.l∧p.l.length≤N:=fun p hq=>by
  obtain⟨i,hi⟩:=List.getElem?_of_mem hq
  exact(hp i p hi).2
 refine⟨v,ps,rfl,⟨Nat.le_refl _, ?_,fun p hq=>⟨⟨(hm p hq).1,(hm p hq).1.lt,fun _ _=>Nat.le_refl _⟩,(hm p hq).1.lt⟩⟩,fun p hq=>(hm p hq).2⟩
 rcases hE with⟨rfl,rfl⟩|⟨b,c,rfl,_,_,hr⟩
 ·exact .inl ⟨rfl,List.eq_nil_of_length_eq_zero hl⟩
 ·have hrow: ∀(i:Nat) (p:PcI),ps[i]?=some p→Row s b (0+i*2) [p.v, .bool p.y]:=fun i p e=>by
   rw[Nat.zero_add]
   exact hr i _ (hp i p e).1
  refine .inr ⟨b,0,c,by rw[hl],hrow,fun x hx=>⟨?_,Nat.le_refl _⟩⟩
  have h2:b+0≤x:=hx.1
  have h3:x<b+0+ps.length*2:=hx.2
  have hi:(x-b)/2<ps.length:=by omega
  have h4:=hrow _ _ (List.getElem?_eq_getElem hi)
  rcases Nat.mod_two_eq_zero_or_one (x-b)with q|q
  ·have:=(h4 0 _ rfl).1
   omega
  ·have:=(h4 1 _ rfl).1
   omega
theorem Qy:Try.f6.params.toList=[60,3,3]:=by kernel_rfl
theorem JW_:envS.orc.get 6=none:=by kernel_rfl
theorem Re_:envS.ext.get 6=none:=by kernel_rfl
theorem Kh_:[60,3,3].all (CW Try.prog 6)=true:=by kernel_rfl
theorem Ho_:aggT Try.prog 60=false:=by kernel_rfl
set_option maxRecDepth 1000000 in
theorem walkKeeps {H:Type}{enc:TypeId×Value→H}{w:World}{base:Nat}{args:Array Value}{ds:List (DataW H)}{ps:List MemPlace}(hN: ∀d∈ds,lensOk 1048576 d)(hA:DataW.TrodAll enc Try.prog w 0 (fun _=>true) true Try.f6.params.toList args.toList ds ps)
  (hv: ∀(j:Nat) t v,Try.f6.params[j]?=some t→args[j]?=some v→Value.okWide Try.prog w .any base t v):Calls Try.prog 6 args w fun e w'=>e= .returned (.bool true)∧Below w.heap.size w w':=by
 have hv': ∀(j:Nat) t v,[60,3,3][j]?=some t→args.toList[j]?=some v→Value.okWide Try.prog w .any base t v:=fun j t v e1 e2=>by
  rw[←Qy]at e1
  rw[Array.getElem?_toList]at e1 e2
  exact hv j t v e1 e2
 rw[Qy]at hA
 have hE:envS.P=Try.prog:=Zu
 have h:=NL_ (E:=envS) (fuel:=9000000) (f:=6) (F:=6) (N:=1048576) (v:= .bool true) (ts:=[60,3,3]) An_ JW_ Re_ rfl (by rw[hE];exact hA) (by rw[hE];exact hv') (by rw[hE];exact Kh_) (.inr hN) (fun m nx us hus hu=>by
  rw[hE]at hu
  match us,hus,hu with
  |[u0,u1,u2],_,hu=>
   have k0:=(hu 0 _ u0 rfl rfl).one Ho_
   have k1:=(hu 1 _ u1 rfl rfl).one Vn
   have k2:=(hu 2 _ u2 rfl rfl).one Vn
   obtain⟨v,qs,e0,hP,hpz⟩:=QA_ (F:=2) k0
   obtain⟨y,e1,hy⟩:=k1.int' YF
   obtain⟨z,e2,_⟩:=k2.int' YF
   cases e0
   cases e1
   cases e2
   have hy2:y≤9223372036854775807:=by
    have e3:(decide ((-9223372036854775808:Int)≤y)&&decide (y≤(9223372036854775807:Int)))=true:=hy
    rw[Bool.and_eq_true]at e3
    exact of_decide_eq_true e3.2
   exact Zp (Nat.zero_le _) hP hpz hy2 (by omega))
 rw[hE]at h
 exact h
open Go.RowKit Go.ChangeShapes
noncomputable def zeroT (P:Program)(t:Nat):Value:=((P.info? t).bind (·.zero)).getD .nilFunc
section
variable {H:Type}{enc:TypeId×Value→H}{P:Program}{W W':World}
theorem below_all (hl:laidOutB P=true)(hb:Below W.heap.size W W'){sp:Nat→Bool}: ∀{ts:List TypeId} {vs:List Value} {ds:List (DataW H)} {ps:List MemPlace},(ts.all fun t=>P.readableRec t&&decide (t<P.types.size))=true→DataW.TrodAll enc P W 0 (fun _=>true) true ts vs ds ps→(∀x∈ps,x.block<W.heap.size)→(∀x∈ps,sp x.block=true)→
  DataW.TrodAll enc P W' 0 sp true ts vs ds ps
 |[],_,_,_,_,h,_,_=>by
  obtain⟨rfl,rfl,rfl⟩:=trodAll_nil h
  exact trodAll_mk0
 |t::ts,_,_,_,hr,h,hlt,hsp=>by
  obtain⟨v,vs,d,ds,p,q,rfl,rfl,rfl,h1,h2⟩:=trodAll_cons h
  rw[List.all_cons,Bool.and_eq_true,Bool.and_eq_true]at hr
  refine⟨p,q,WideElems.Trod_stays hl hr.1.1 (of_decide_eq_true hr.1.2) h1 (fun x hx=>hb.same (hlt x (List.mem_append_left _ hx))) (fun x hx=>hsp x (List.mem_append_left _ hx)), ?_,rfl⟩
  exact below_all hl hb hr.2 h2 (fun x hx=>hlt x (List.mem_append_right _ hx)) (fun x hx=>hsp x (List.mem_append_right _ hx))
end
end Go.Proofs.Ytjfhmacppabehaa.Am
