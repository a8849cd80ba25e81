import Derived.Test.YtofanlcjeohcjaaPPt21
import Derived.Test.YtofanlcjeohcjaaPPt09
import Derived.Test.YtofanlcjeohcjaaPPt18
import Derived.Test.YtofanlcjeohcjaaPPt22
import Derived.Test.YtofanlcjeohcjaaPPt19
namespace Go.Proofs.Ytofanlcjeohcjaa.Am
open Go.RowKit
theorem JW_ {n:Nat}{s:St}{Q:Value→St→Prop}(a:Int)(hn:20≤n)(q:Q (.int .i64 (EQ a)) s):W (AJ envS (runF envS n) 21 [.int .i64 a]) s Q:=by
 refine TJ_ fun tm h0=> ?_
 refine UI_.w rfl (by omega) ?_
 simp only[S4,Ac,W_oS,W_on,Ab,W_mv,Ad,As,T.get_set,Ag,Af,Aq,Ap,Ae,Ak,reduceIte,An,Ar,Ay,AA,Av,Aw,Ax,Az,Au,Ao,Nat.reduceEqDiff,reduceCtorEq, ↓reduceIte]
 refine CU_.w IL_ (by omega) ?_
 simp only[Tj,Ac,W_oS,W_on,Ab,W_mv,Ad,As,T.get_set,Ag,Af,Aq,Ap,Ae,Ak,reduceIte,An,Ar,Ay,AA,Av,Aw,Ax,Az,Au,Ao,Nat.reduceEqDiff,reduceCtorEq, ↓reduceIte,A7,Bd,A8,Bc,Bm,Bj,Bg,Bk,h0]
 by_cases h1:a<1
 ·rw[decide_eq_true h1]
  simp only[Ac,W_oS,W_on,Ab,W_mv,Ad,As,T.get_set,Ag,Af,Aq,Ap,Ae,Ak,reduceIte,An,Ar,Ay,AA,Av,Aw,Ax,Az,Au,Ao,Nat.reduceEqDiff,reduceCtorEq, ↓reduceIte,A7,Bd,A8,Bc,Bm,Bj,Bg,Bk]
  refine W.cond (v:=true) N4 NC (by simp[T.get_set]) (by omega) (fun _=> ?_) fun h=>by cases h
  refine Uu.w Sa (by omega) ?_
  simp only[Pw,Ac,W_oS,W_on,Ab,W_mv,Ad,As,T.get_set,Ag,Af,Aq,Ap,Ae,Ak,reduceIte,An,Ar,Ay,AA,Av,Aw,Ax,Az,Au,Ao,Nat.reduceEqDiff,reduceCtorEq, ↓reduceIte]
  refine W.end' (rs:=[2]) (vs:=[.int .i64 0]) Yv (.inl Sm) (by omega) M8 PP rfl (by simp[T.get_set]) ?_
  have e:EQ a=0:=if_pos (.inl h1)
  rw[e]at q
  exact q
 ·rw[decide_eq_false h1]
  simp only[Ac,W_oS,W_on,Ab,W_mv,Ad,As,T.get_set,Ag,Af,Aq,Ap,Ae,Ak,reduceIte,An,Ar,Ay,AA,Av,Aw,Ax,Az,Au,Ao,Nat.reduceEqDiff,reduceCtorEq, ↓reduceIte,A7,Bd,A8,Bc,Bm,Bj,Bg,Bk]
  by_cases h2:1024<a
  ·refine W.cond (v:=true) N4 NC (by simp[T.get_set,h2]) (by omega) (fun _=> ?_) fun h=>by cases h
   refine Uu.w Sa (by omega) ?_
   simp only[Pw,Ac,W_oS,W_on,Ab,W_mv,Ad,As,T.get_set,Ag,Af,Aq,Ap,Ae,Ak,reduceIte,An,Ar,Ay,AA,Av,Aw,Ax,Az,Au,Ao,Nat.reduceEqDiff,reduceCtorEq, ↓reduceIte]
   refine W.end' (rs:=[2]) (vs:=[.int .i64 0]) Yv (.inl Sm) (by omega) M8 PP rfl (by simp[T.get_set]) ?_
   have e:EQ a=0:=if_pos (.inr h2)
   rw[e]at q
   exact q
  ·refine W.cond (v:=false) N4 NC (by simp[T.get_set,h2]) (by omega) (fun h=>by cases h) fun _=> ?_
   refine Wl_.w PA_ (by omega) ?_
   have ea:wrap64 (a+26)=a+26:=BB (by omega) (by omega)
   simp only[X8,Ac,W_oS,W_on,Ab,W_mv,Ad,As,T.get_set,Ag,Af,Aq,Ap,Ae,Ak,reduceIte,An,Ar,Ay,AA,Av,Aw,Ax,Az,Au,Ao,Nat.reduceEqDiff,reduceCtorEq, ↓reduceIte,A7,Bd,A8,Bc,Bm,Bj,Bg,Bk,h0,ea]
   refine W.end' (rs:=[2]) (vs:=[.int .i64 (a+26)]) Mf_ (.inl Bq_) (by omega) M8 PP rfl (by simp[T.get_set]) ?_
   have e:EQ a=a+26:=if_neg fun h=>h.elim h1 h2
   rw[e]at q
   exact q
section
variable {s:St}{E:Env}{t:Nat}{xo yo:Operand}
theorem LH_ (m n:Nat)(hn:1≤n)(hm:m≤9223372036854775807):Cl.get (aBin E .quo t xo yo) (.int .i64 (m:Nat)) (.int .i64 (n:Nat)) s= .some (.int .i64 (m/n:Nat)) s:=by
 show int3 quoK (Bx E .quo t xo yo) (.int .i64 (.ofNat m)) (.int .i64 (.ofNat n)) s=_
 show Option.rec (motive:=fun _=>R Value) _ (fun v=> .some v s) (quoK .i64 .i64 m n)=_
 have:quoK .i64 .i64 m n=some (.int .i64 (m/n:Nat)):=by
  unfold quoK Cb
  rw[Nat.beq_refl,Nat.ble_eq_true_of_le hn]
  exact UJ_ (Nat.le_trans (Nat.div_le_self m n) hm)
 rw[this]
theorem SB {m n:Nat}(hn:1≤n)(hm:m≤9223372036854775807)(Q:Value→St→Prop):W (Cl.get (aBin E .quo t xo yo) (.int .i64 (m:Nat)) (.int .i64 (n:Nat))) s Q=Q (.int .i64 (m/n:Nat)) s:=By (LH_ m n hn hm)
theorem Ir_ {m:Nat}(hm:m≤9223372036854775807)(Q:Value→St→Prop):W (Cl.get (aBin E .quo t xo yo) (.int .i64 (m:Nat)) (.int .i64 256)) s Q=Q (.int .i64 (m/256:Nat)) s:=SB (n:=256) (by decide) hm Q
theorem OM_ {m:Nat}(Q:Value→St→Prop):W (Cl.get (aBin E .rem t xo yo) (.int .i64 (m:Nat)) (.int .i64 256)) s Q=Q (.int .i64 (m%256:Nat)) s:=KF (n:=256) (by decide) Q
end
theorem Mn_ {k:Nat}(hk:k≤65535):[k/256%256,k%256%256,(255-k/256)%256,(255-k%256)%256]=B8 k:=by
 have e:k>>>8=k/256:=Nat.shiftRight_eq_div_pow k 8
 unfold B8
 rw[e,show k/256%256=k/256 by omega,show k%256%256=k%256 by omega,show(255-k/256)%256=255-k/256 by omega,show(255-k%256)%256=255-k%256 by omega]
theorem Mk_ {k n:Nat}{s:St}{Q:Value→St→Prop}(hk:k≤65535)(hbd:s.lim≤s.next)(hn:800≤n)(q: ∀s1 w b,s.next≤b→Ext Non Non s s1→EmB s1 (Cq k) w b→Q w s1):W (AJ envS (runF envS n) 66 [.int .i64 (k:Nat)]) s Q:=by
 refine Uh_ fun tm h0=> ?_
 refine ON_.w rfl (by omega) ?_
 simp only[Vt,Ac,W_oS,W_on,Ab,W_mv,Ad,As,T.get_set,Ag,Af,Aq,Ap,Ae,Ak,reduceIte,An,Ar,Ay,AA,Av,Aw,Ax,Az,Au,Ao,Nat.reduceEqDiff,reduceCtorEq, ↓reduceIte]
 refine MZ_.w MI_ (by omega) ?_
 have e1:wrap64 ((255:Int)-(k/256:Nat))=((255-k/256:Nat):Int):=by
  rw[BB (by omega) (by omega)];omega
 have e2:wrap64 ((255:Int)-(k%256:Nat))=((255-k%256:Nat):Int):=by
  rw[BB (by omega) (by omega)];omega
 simp only[TG,Ac,W_oS,W_on,Ab,W_mv,Ad,As,T.get_set,Ag,Af,Aq,Ap,Ae,Ak,reduceIte,An,Ar,Ay,AA,Av,Aw,Ax,Az,Au,Ao,Nat.reduceEqDiff,reduceCtorEq, ↓reduceIte,A7,Bd,A8,Bc,Bm,Bj,Bg,Bk,h0,Ir_ (show k≤9223372036854775807 by omega),OM_,e1,e2,Da KG Dp,wrap_u8]
 refine W.buildS (s:=s.cxN cxN) hbd (r:=u8l [k/256%256,k%256%256,(255-k/256)%256,(255-k%256)%256]) CK (by decide) rfl (Bt (by decide)) fun s1 n1 x1 r1=> ?_
 rw[Mn_ hk]at r1
 have hb1:s1.lim≤s1.next:=x1.bnd hbd
 have hB:Bn s1 (.slice (some ⟨s.next,0,none⟩) 4 4) (B8 k):=(Ah.bn (l:=B8 k) r1 (Bt (by simp[B8]))).bn' (by simp[B8])
 refine Bj_.w Sk_ (by omega) ?_
 simp only[WE,Ac,W_oS,W_on,Ab,W_mv,Ad,As,T.get_set,Ag,Af,Aq,Ap,Ae,Ak,reduceIte,An,Ar,Ay,AA,Av,Aw,Ax,Az,Au,Ao,Nat.reduceEqDiff,reduceCtorEq, ↓reduceIte]
 refine Ut (l:=B8 k) hb1 (by simp[B8];omega) hB (XA k) (by simp[B8]) fun s2 m2 n2 x2=> ?_
 have hb2:s2.lim≤s2.next:=x2.bnd hb1
 have hx2:Ext Non Non (s.cxN cxN) s2:=x1.step x2 hbd (fun y hy h=>by
  have h6:y<s.lim:=hy
  have h7:s.next+0≤y:=h.1
  omega) fun _ h=>h.elim
 refine Bw_.w Os_ (by omega) ?_
 generalize hS:Co 0 (B8 k)=S
 simp only[UO,Ac,W_oS,W_on,Ab,W_mv,Ad,As,T.get_set,Ag,Af,Aq,Ap,Ae,Ak,reduceIte,An,Ar,Ay,AA,Av,Aw,Ax,Az,Au,Ao,Nat.reduceEqDiff,reduceCtorEq, ↓reduceIte,Da G6 Dp,wrap_u8,Hm (k:= .u32) (by decide)]
 refine W.buildS hb2 (r:=u8l [S%256,S>>>8%256]) CK (by decide) rfl (Bt (by decide)) fun s3 n3 x3 r3=> ?_
 have hb3:s3.lim≤s3.next:=x3.bnd hb2
 have hx3:=hx2.step x3 hbd (fun _ _ h=>h.elim) fun _ h=>h.elim
 have hB2:Bs s3 (.slice (some ⟨s2.next,0,none⟩) 2 2) [S%256,S>>>8%256]:=Ah.bn r3 (Bt (by simp))
 have hr1:Row s3 s.next 0 (u8l (B8 k)):=fun i v e=>((r1.row i v e).same m2 n2).ext x3 id
 rw[Jp]
 refine W.appLit hb3 Lr (len:=4) hr1 rfl hB2.src.g (Nat.succ_pos _) (by decide) (by decide) (by decide) (Nat.le_of_ble_eq_true rfl) (by rfl) (BY _) fun s4 w b hf x4=> ?_
 have hx4:Ext Non Non (s.cxN cxN) s4:=hx3.step x4 hbd (fun y hy h=>by
  have h6:y<s.lim:=hy
  have h8:s.next≤s2.next:=hx2.nxt
  rcases h with h|h
  ·have h7:s2.next+0≤y:=h.1
   omega
  ·have h7:s.next+0≤y:=h.1
   omega) fun _ h=>h.elim
 refine W.end' (rs:=[2]) (vs:=[w]) PO_ (.inl TU_) (by omega) WN Tz_ hx4.cx (by simp[T.get_set]) ?_
 refine q _ _ b ?_ hx4.cx' ?_
 ·have h8:s.next≤s3.next:=hx3.nxt
  have:=hf.new
  omega
 ·have hm:EmB s4 (Cq k) w b:=by
   refine .inr ⟨?_,Nat.succ_pos _⟩
   have e:u8l (Cq k)=u8l (B8 k)++u8l [S%256,S>>>8%256]:=by
    rw[←hS]
    rfl
   rw[e]
   exact hf.marked
  exact hm.same rfl rfl
def Cj (n:Nat)(g:Nat→Nat)(i:Nat):List Nat:=(List.range n).map fun j=>if j<i then g j else 0
theorem Rk (n:Nat)(g:Nat→Nat)(i:Nat):(Cj n g i).length=n:=by unfold Cj;rw[List.length_map,List.length_range]
theorem VB (n:Nat)(g:Nat→Nat):Cj n g 0=List.replicate n 0:=by
 unfold Cj
 apply List.ext_getElem?
 intro j
 rw[List.getElem?_map,List.getElem?_replicate]
 by_cases hj:j<n
 ·rw[List.getElem?_range hj,if_pos hj]
  rfl
 ·rw[List.getElem?_eq_none (by simp;omega),if_neg hj]
  rfl
theorem XF (n:Nat)(g:Nat→Nat):Cj n g n=(List.range n).map g:=by
 unfold Cj
 apply List.map_congr_left
 intro j hj
 rw[if_pos (List.mem_range.1 hj)]
theorem RS (n:Nat)(g:Nat→Nat){i:Nat}(hi:i<n):(Cj n g i).set i (g i)=Cj n g (i+1):=by
 apply List.ext_getElem?
 intro j
 rw[List.getElem?_set,Rk]
 unfold Cj
 rw[List.getElem?_map,List.getElem?_map]
 by_cases hij:i=j
 ·subst hij
  rw[if_pos rfl,if_pos hi,List.getElem?_range hi]
  show _=some (if i<i+1 then g i else 0)
  rw[if_pos (by omega)]
 ·rw[if_neg hij]
  by_cases hj:j<n
  ·rw[List.getElem?_range hj]
   show some (if j<i then g j else 0)=some (if j<i+1 then g j else 0)
   by_cases h:j<i
   ·rw[if_pos h,if_pos (by omega)]
   ·rw[if_neg h,if_neg (by omega)]
  ·rw[List.getElem?_eq_none (by simp;omega)]
   rfl
theorem T0 (l:List Nat)(i x:Nat):(u8l l).set i (.int .u8 (x:Nat))=u8l (l.set i x):=by
 unfold u8l
 rw[List.map_set]
theorem NN {l:List Nat}{i:Nat}(h:i<l.length):(u8l l)[i]?=some (.int .u8 (l.getD i 0:Nat)):=by
 unfold u8l
 rw[List.getElem?_map,List.getElem?_eq_getElem h,List.getD_eq_getElem?_getD,List.getElem?_eq_getElem h]
 rfl
theorem Cd (l:List Nat):cellsOf (.agg (u8l l).toArray)=u8l l:=by
 show(u8l l).toArray.toList=_
 exact List.toList_toArray ..
def outG (r:Sha.St8)(j:Nat):Nat:=(st8L r).getD (j/4) 0>>>(24-8*(j%4))%256
theorem JY_ (r:Sha.St8):(List.range 32).map (outG r)=outs (st8L r):=rfl
section
variable {E:Env}{t:Nat}{xo yo:Operand}{s:St}
theorem Jw_ {m:Nat}(hm:m≤9223372036854775807)(Q:Value→St→Prop):W (Cl.get (aBin E .quo t xo yo) (.int .i64 (m:Nat)) (.int .i64 4)) s Q=Q (.int .i64 (m/4:Nat)) s:=SB (n:=4) (by decide) hm Q
theorem Rm_ {m:Nat}(Q:Value→St→Prop):W (Cl.get (aBin E .rem t xo yo) (.int .i64 (m:Nat)) (.int .i64 4)) s Q=Q (.int .i64 (m%4:Nat)) s:=KF (n:=4) (by decide) Q
end
section
variable {S R O:Nat}{r:Sha.St8}{Q:Value×FrameMode→St→Prop}{s0:St}
theorem CC_ (hb0:s0.lim≤s0.next)(hSl:s0.lim≤S)(hOl:s0.lim≤O)(hSO:S+8≤O)(hs:Ah s0 S 0 (w32 (st8L r))): ∀(k i n:Nat) (tm:T Value) (s:St) (td:List Item),i+k=32→6*k+30≤n→skim 64 td=HD→Ext Non (In O 0 32) s0 s→Ah s O 0 (u8l (Cj 32 (outG r) i))→
  T.get tm 2=some (.pointer (some ⟨R,0,none⟩))→T.get tm 3=some (.pointer (some ⟨S,0,none⟩))→T.get tm 6=some (.pointer (some ⟨O,0,none⟩))→T.get tm 7=some (.int .i64 (i:Nat))→
  (∀n' tm' s1 td',n≤n'+6*k+10→skim 64 td'=IT→Ext Non (In O 0 32) s0 s1→Ah s1 O 0 (u8l (outs (st8L r)))→T.get tm' 2=some (.pointer (some ⟨R,0,none⟩))→T.get tm' 6=some (.pointer (some ⟨O,0,none⟩))→W (runF envS n' ⟨107,Mx,Cx,tm',td', .run, .normal,none⟩) s1 Q)→
  W (runF envS n ⟨107,Mx,Cx,tm,td, .run, .normal,none⟩) s Q:=by
 intro k
 induction k with
 |zero=>
  intro i n tm s td hi hn hT hx ho h2 h3 h6 h7 q
  refine X3.w hT (by omega) ?_
  simp only[PV,Ac,W_oS,W_on,Ab,W_mv,Ad,As,T.get_set,Ag,Af,Aq,Ap,Ae,Ak,reduceIte,An,Ar,Ay,AA,Av,Aw,Ax,Az,Au,Ao,Nat.reduceEqDiff,reduceCtorEq, ↓reduceIte,A7,Bd,A8,Bc,Bm,Bj,Bg,Bk,h7]
  refine W.cond (v:=false) Yn ZX (by simp[T.get_set];omega) (by omega) (fun h=>by cases h) fun _=> ?_
  obtain rfl:i=32:=by omega
  rw[XF,JY_]at ho
  exact q _ _ _ _ (by omega) Ki_ hx ho (by simp[T.get_set,h2]) (by simp[T.get_set,h6])
 |succ k ih=>
  intro i n tm s td hi hn hT hx ho h2 h3 h6 h7 q
  have hi32:i<32:=by omega
  have hb:s.lim≤s.next:=hx.bnd hb0
  refine X3.w hT (by omega) ?_
  simp only[PV,Ac,W_oS,W_on,Ab,W_mv,Ad,As,T.get_set,Ag,Af,Aq,Ap,Ae,Ak,reduceIte,An,Ar,Ay,AA,Av,Aw,Ax,Az,Au,Ao,Nat.reduceEqDiff,reduceCtorEq, ↓reduceIte,A7,Bd,A8,Bc,Bm,Bj,Bg,Bk,h7]
  refine W.cond (v:=true) Yn ZX (by simp[T.get_set];omega) (by omega) (fun _=> ?_) fun h=>by cases h
  refine FH_.w TA_ (by omega) ?_
  have e24:wrap64 ((24:Int)-((8*(i%4):Nat):Int))=((24-8*(i%4):Nat):Int):=by rw[BB (by omega) (by omega)];omega
  have gs:At s S (0+i/4*1) (.int .u32 ((st8L r).getD (i/4) 0:Nat)):=by
   have h1:=hs (i/4) _ (Du (show i/4<(st8L r).length by rw[Ig];omega))
   rw[Nat.mul_one]
   exact h1.at'.ext hx fun h=>by have h3:=h.1;omega
  simp only[YW,Ac,W_oS,W_on,Ab,W_mv,Ad,As,T.get_set,Ag,Af,Aq,Ap,Ae,Ak,reduceIte,An,Ar,Ay,AA,Av,Aw,Ax,Az,Au,Ao,Nat.reduceEqDiff,reduceCtorEq, ↓reduceIte,h3,h6,h7,Jw_ (show i≤9223372036854775807 by omega),Rm_,Ll (show 8*(i%4)≤9223372036854775807 by omega),Bd,e24,Di (i:=((i/4:Nat):Int)) (k:=i/4) rfl Al (show i/4<8 by omega)]
  refine W.load1 BG gs ?_
  simp only[Ac,W_oS,W_on,Ab,W_mv,Ad,As,T.get_set,Ag,Af,Aq,Ap,Ae,Ak,reduceIte,An,Ar,Ay,AA,Av,Aw,Ax,Az,Au,Ao,Nat.reduceEqDiff,reduceCtorEq, ↓reduceIte,EO (k:= .u32) (kk:= .i64) (n:=24-8*(i%4)) (show 24-8*(i%4)≤btOf .u32 by show 24-8*(i%4)≤32;omega),Da G6 Dp,wrap_u8,Di (i:=((i:Nat):Int)) (k:=i) rfl LO hi32]
  have x1:Ext Non Non s (s.rdN (S+(0+i/4*1))):=Ext.rdN s _ fun h=>by
   have:s.lim=s0.lim:=hx.lim
   omega
  generalize s.rdN (S+(0+i/4*1))=s1 at *
  have hx1:Ext Non (In O 0 32) s0 s1:=hx.trans x1 hb0 (fun _ _ h=>h) fun _ _ h=>h.elim
  have ho1:Ah s1 O 0 (u8l (Cj 32 (outG r) i)):=ho.ext0 x1
  have hown:=ho1 i _ (NN (show i<(Cj 32 (outG r) i).length by rw[Rk];exact hi32))
  refine W.store1 (o:=0+i*1) DO rfl (by rw[Nat.mul_one];exact hown) fun s2 n2 x2 o2=> ?_
  rw[Nat.mul_one]at x2 o2
  have ho2:Ah s2 O 0 (u8l (Cj 32 (outG r) (i+1))):=by
   rw[←RS 32 (outG r) hi32,←T0]
   exact ho1.set x2 o2
  have hx2:Ext Non (In O 0 32) s0 s2:=hx1.trans x2 hb0 (fun y hy h=>by have h1:O+(0+i)≤y:=h.1;omega) fun y _ h=>by
   have h1:O+(0+i)≤y:=h.1
   have h2:y<O+(0+i)+1:=h.2
   exact⟨by omega,by omega⟩
  refine HS_.w FP_ (by omega) ?_
  have ei:wrap64 ((i:Nat)+1:Int)=((i+1:Nat):Int):=by
   rw[BB (by omega) (by omega)];simp
  simp only[XX,Ac,W_oS,W_on,Ab,W_mv,Ad,As,T.get_set,Ag,Af,Aq,Ap,Ae,Ak,reduceIte,An,Ar,Ay,AA,Av,Aw,Ax,Az,Au,Ao,Nat.reduceEqDiff,reduceCtorEq, ↓reduceIte,A7,Bd,A8,Bc,Bm,Bj,Bg,Bk,h7,ei]
  exact ih (i+1) _ _ _ _ (by omega) (by omega) Fu_ hx2 ho2 (by simp[T.get_set,h2]) (by simp[T.get_set,h3]) (by simp[T.get_set,h6]) (by simp[T.get_set]) fun n' tm' s5 td' e=>q n' tm' s5 td' (by omega)
end
theorem UM_ {n:Nat}{s:St}{v:Value}{l:List Nat}{Q:Value→St→Prop}(hbd:s.lim≤s.next)(hn:l.length+3000≤n)(h:Bs s v l)(hby:Byt l)(hz:l.length≤900000)
  (q: ∀s1,Ext (BsF v) Non s s1→Q (.agg (u8l (sumB l)).toArray) s1):W (AJ envS (runF envS n) 107 [v]) s Q:=by
 refine VH_ fun tm h0=> ?_
 have hc:Bs (s.cxN cxN) v l:=h.same rfl rfl
 have own: ∀{a b:Nat} {y:Nat},In a 0 b y→a≤y:=fun h=>by have:=h.1;omega
 refine Gm_.w rfl (by omega) ?_
 simp only[Yf,Ac,W_oS,W_on,Ab,W_mv,Ad,As,T.get_set,Ag,Af,Aq,Ap,Ae,Ak,reduceIte,An,Ar,Ay,AA,Av,Aw,Ax,Az,Au,Ao,Nat.reduceEqDiff,reduceCtorEq, ↓reduceIte]
 refine W.alloc FF fun s1 n1 x1 o1=> ?_
 have n1':s1.next=s.next+33:=n1
 have hx1:Ext (BsF v) Non (s.cxN cxN) s1:=x1.weak hbd (fun _ _ h=>h.elim) fun _ _ h=>h
 refine Na_.w Fv_ (by omega) ?_
 simp only[Wh,Ac,W_oS,W_on,Ab,W_mv,Ad,As,T.get_set,Ag,Af,Aq,Ap,Ae,Ak,reduceIte,An,Ar,Ay,AA,Av,Aw,Ax,Az,Au,Ao,Nat.reduceEqDiff,reduceCtorEq, ↓reduceIte,Ej Ia_]
 refine W.alloc NS fun s2 n2 x2 o2=> ?_
 have n2':s2.next=s1.next+9:=n2
 have hx2:=hx1.step x2 hbd (fun _ _ h=>h.elim) fun _ h=>h.elim
 refine W.store Em (by rw[BS,B1];rfl) (by rw[BS];exact Ef _) (fun i hi=>Ah.owned o2 i hi) fun s3 n3 x3 o3=> ?_
 rw[BS]at o3
 have hx3:=hx2.step x3 hbd (fun y hy h=>by have h5:=own h;have h6:y<s.lim:=hy;omega) fun y h=>by have h5:=own h;show s.next≤y;omega
 have hb3:s3.lim≤s3.next:=hx3.bnd hbd
 refine KL_.w Ts_ (by omega) ?_
 simp only[S9,Ac,W_oS,W_on,Ab,W_mv,Ad,As,T.get_set,Ag,Af,Aq,Ap,Ae,Ak,reduceIte,An,Ar,Ay,AA,Av,Aw,Ax,Az,Au,Ao,Nat.reduceEqDiff,reduceCtorEq, ↓reduceIte,h0]
 refine NH_ hb3 (by omega) (hc.ext0 hx3) hz fun s4 w nb hnb x4 h4=> ?_
 have hx4:=hx3.step x4 hbd (fun _ _ h=>h) fun _ h=>h.elim
 have hb4:s4.lim≤s4.next:=hx4.bnd hbd
 have hfl:(Dj l).length=64*((l.length+72)/64):=Zp l
 have hfz:(Dj l).length≤1000000:=by omega
 have hBn:Bn s4 w (Dj l):=h4.bn hfz
 have hwF: ∀x,BsF w x→nb≤x:=fun x hx=>by
  obtain⟨c,rfl⟩:=h4.at
  have:nb+0≤x:=hx.1
  omega
 have hwlt: ∀x,BsF w x→x<s4.next:=fun x hx=>hBn.lt x hx
 refine Vo_.w NR_ (by omega) ?_
 simp only[YP,Ac,W_oS,W_on,Ab,W_mv,Ad,As,T.get_set,Ag,Af,Aq,Ap,Ae,Ak,reduceIte,An,Ar,Ay,AA,Av,Aw,Ax,Az,Au,Ao,Nat.reduceEqDiff,reduceCtorEq, ↓reduceIte]
 refine SV_ (S:=s1.next) (R:=s.next) (w:=w) (X:=Dj l) (N:=(l.length+72)/64) (s0:=s4) hb4 (by rw[hx4.lim];show s.lim≤_;omega) hBn (fun x hx=>⟨hwlt x hx,fun h=>by
  have h5:=hwF x hx
  have h6:x<s1.next+0+8:=h.2
  omega⟩) hfl hfz (OE_ hby) ((l.length+72)/64) 0 _ _ _ _ (by omega) (by omega) GE_ (Ext.refl _) (o3.ext0 x4) (by simp[T.get_set];rfl) (by simp[T.get_set]) (by simp[T.get_set]) (by simp[T.get_set]) fun n5 tm5 s5 td5 hn5 hT5 hx5 ho5 g2 g3=> ?_
 have hx5':=hx4.step hx5 hbd (fun y hy h=>by
  have h5:=hwF y h
  have h6:y<s.lim:=hy
  omega) fun y h=>by have h5:=own h;show s.next≤y;omega
 refine Ol_.w hT5 (by omega) ?_
 simp only[WF,Ac,W_oS,W_on,Ab,W_mv,Ad,As,T.get_set,Ag,Af,Aq,Ap,Ae,Ak,reduceIte,An,Ar,Ay,AA,Av,Aw,Ax,Az,Au,Ao,Nat.reduceEqDiff,reduceCtorEq, ↓reduceIte]
 refine W.alloc FF fun s6 n6 x6 o6=> ?_
 have n6':s6.next=s5.next+33:=n6
 have hx6:=hx5'.step x6 hbd (fun _ _ h=>h.elim) fun _ h=>h.elim
 have hN5:s3.next≤s5.next:=Nat.le_trans x4.nxt hx5.nxt
 have e0:Ah s6 s5.next 0 (u8l (Cj 32 (outG (CT (Dj l) ((l.length+72)/64))) 0)):=by
  rw[VB]
  exact o6
 refine JP_.w JD_ (by omega) ?_
 simp only[Xx,Ac,W_oS,W_on,Ab,W_mv,Ad,As,T.get_set,Ag,Af,Aq,Ap,Ae,Ak,reduceIte,An,Ar,Ay,AA,Av,Aw,Ax,Az,Au,Ao,Nat.reduceEqDiff,reduceCtorEq, ↓reduceIte]
 refine CC_ (S:=s1.next) (R:=s.next) (O:=s5.next) (r:=CT (Dj l) ((l.length+72)/64)) (s0:=s6) (hx6.bnd hbd) (by rw[hx6.lim];show s.lim≤_;omega) (by rw[hx6.lim];show s.lim≤_;omega) (by omega) (ho5.ext0 x6) 32 0 _ _ _ _ (by omega) (by omega) Iu_ (Ext.refl _) e0 (by simp[T.get_set,g2]) (by simp[T.get_set,g3]) (by simp[T.get_set]) (by simp[T.get_set]) fun n7 tm7 s7 td7 hn7 hT7 hx7 ho7 k2 k6=> ?_
 rw[←RI_]at ho7
 have hx7':=hx6.step hx7 hbd (fun _ _ h=>h.elim) fun y h=>by have h5:=own h;show s.next≤y;omega
 have hoR:Bb s7 s.next 0 32:=by
  have t: ∀{F G:Nat→Prop} {a b:St},Ext (fun _=>True) (fun y=>s1.next≤y) s1 a→Ext F G a b→(∀y,G y→s1.next≤y)→Ext (fun _=>True) (fun y=>s1.next≤y) s1 b:=fun h k hG=>h.trans k (x1.bnd hbd) (fun _ _ _=>trivial) fun y _ h=>hG y h
  have b4:=t (t (t (Ext.refl s1) x2 fun _ h=>h.elim) x3 fun y h=>own h) x4 fun _ h=>h.elim
  have b7:=t (t (t b4 hx5 fun y h=>own h) x6 fun _ h=>h.elim) hx7 fun y h=>by have:=own h;omega
  exact Bb.ext1 (Ah.owned o1) b7 fun y h h'=>by
   have h6:y<s.next+0+32:=h.2
   omega
 refine IQ_.w hT7 (by omega) ?_
 simp only[Sq,Ac,W_oS,W_on,Ab,W_mv,Ad,As,T.get_set,Ag,Af,Aq,Ap,Ae,Ak,reduceIte,An,Ar,Ay,AA,Av,Aw,Ax,Az,Au,Ao,Nat.reduceEqDiff,reduceCtorEq, ↓reduceIte,k2,k6]
 refine W.loadA DQ ho7.row (by rw[Be,EY]) fun s8 m8 n8 x8=> ?_
 have hx8:=hx7'.step x8 hbd (fun y hy h=>by have h5:s5.next+0≤y:=h.1;have h6:y<s.lim:=hy;omega) fun _ h=>h.elim
 refine W.store DQ (by rw[Cd,Be,EY]) (by rw[Cd];exact BY _) (fun i hi=>let ⟨u,hu⟩:=hoR i hi;⟨u,hu.ext x8 id⟩) fun s9 n9 x9 o9=> ?_
 rw[Cd]at o9
 have hx9:=hx8.step x9 hbd (fun y hy h=>by have h5:=own h;have h6:y<s.lim:=hy;omega) fun y h=>by have h5:=own h;show s.next≤y;omega
 refine W.endC (r:=2) RX_ (.inl Mq_) (by omega) Ww PT_ hx9.cx (by simp[T.get_set,k2];rfl) ?_
 refine W.loadA DQ o9.row (by rw[Be,EY]) fun s10 m10 n10 x10=> ?_
 have hx10:=hx9.step x10 hbd (fun y hy h=>by have h5:s.next+0≤y:=h.1;have h6:y<s.lim:=hy;omega) fun _ h=>h.elim
 exact q _ hx10.cx'
section
variable {S R O:Nat}{l:List Nat}{Q:Value×FrameMode→St→Prop}{s0:St}
theorem IF_ (hb0:s0.lim≤s0.next)(hSl:s0.lim≤S)(hOl:s0.lim≤O)(hSO:O+16≤S)(hl:l.length=32)(hs:Ah s0 S 0 (u8l l)): ∀(k i n:Nat) (tm:T Value) (s:St) (td:List Item),i+k=16→6*k+30≤n→skim 64 td=Gp→Ext Non (In O 0 16) s0 s→Ah s O 0 (u8l (Cj 16 (fun j=>l.getD j 0) i))→
  T.get tm 2=some (.pointer (some ⟨R,0,none⟩))→T.get tm 3=some (.pointer (some ⟨O,0,none⟩))→T.get tm 4=some (.pointer (some ⟨S,0,none⟩))→T.get tm 5=some (.int .i64 (i:Nat))→
  (∀n' tm' s1 td',n≤n'+6*k+10→skim 64 td'=Iz→Ext Non (In O 0 16) s0 s1→Ah s1 O 0 (u8l (l.take 16))→T.get tm' 2=some (.pointer (some ⟨R,0,none⟩))→T.get tm' 3=some (.pointer (some ⟨O,0,none⟩))→W (runF envS n' ⟨65,XV,DH,tm',td', .run, .normal,none⟩) s1 Q)→
  W (runF envS n ⟨65,XV,DH,tm,td, .run, .normal,none⟩) s Q:=by
 intro k
 induction k with
 |zero=>
  intro i n tm s td hi hn hT hx ho h2 h3 h4 h5 q
  refine UT.w hT (by omega) ?_
  simp only[PF,Ac,W_oS,W_on,Ab,W_mv,Ad,As,T.get_set,Ag,Af,Aq,Ap,Ae,Ak,reduceIte,An,Ar,Ay,AA,Av,Aw,Ax,Az,Au,Ao,Nat.reduceEqDiff,reduceCtorEq, ↓reduceIte,A7,Bd,A8,Bc,Bm,Bj,Bg,Bk,h5]
  refine W.cond (v:=false) S5 AL_ (by simp[T.get_set];omega) (by omega) (fun h=>by cases h) fun _=> ?_
  obtain rfl:i=16:=by omega
  have e:Cj 16 (fun j=>l.getD j 0) 16=l.take 16:=by
   rw[XF]
   apply List.ext_getElem?
   intro j
   rw[List.getElem?_map,List.getElem?_take]
   by_cases hj:j<16
   ·rw[List.getElem?_range hj,if_pos hj,List.getElem?_eq_getElem (by omega)]
    show some (l.getD j 0)=_
    rw[List.getD_eq_getElem?_getD,List.getElem?_eq_getElem (by omega)]
    rfl
   ·rw[List.getElem?_eq_none (by simp;omega),if_neg hj]
    rfl
  rw[e]at ho
  exact q _ _ _ _ (by omega) Gk_ hx ho (by simp[T.get_set,h2]) (by simp[T.get_set,h3])
 |succ k ih=>
  intro i n tm s td hi hn hT hx ho h2 h3 h4 h5 q
  have hi16:i<16:=by omega
  have hb:s.lim≤s.next:=hx.bnd hb0
  refine UT.w hT (by omega) ?_
  simp only[PF,Ac,W_oS,W_on,Ab,W_mv,Ad,As,T.get_set,Ag,Af,Aq,Ap,Ae,Ak,reduceIte,An,Ar,Ay,AA,Av,Aw,Ax,Az,Au,Ao,Nat.reduceEqDiff,reduceCtorEq, ↓reduceIte,A7,Bd,A8,Bc,Bm,Bj,Bg,Bk,h5]
  refine W.cond (v:=true) S5 AL_ (by simp[T.get_set];omega) (by omega) (fun _=> ?_) fun h=>by cases h
  refine Eh_.w Tm_ (by omega) ?_
  have gs:At s S (0+i*1) (.int .u8 (l.getD i 0:Nat)):=by
   have h1:=hs i _ (NN (show i<l.length by omega))
   rw[Nat.mul_one]
   exact h1.at'.ext hx fun h=>by have h3:=h.2;omega
  simp only[Zj,Ac,W_oS,W_on,Ab,W_mv,Ad,As,T.get_set,Ag,Af,Aq,Ap,Ae,Ak,reduceIte,An,Ar,Ay,AA,Av,Aw,Ax,Az,Au,Ao,Nat.reduceEqDiff,reduceCtorEq, ↓reduceIte,h3,h4,h5,Di (i:=((i:Nat):Int)) (k:=i) rfl LO (show i<32 by omega)]
  refine W.load1 DO gs ?_
  simp only[Ac,W_oS,W_on,Ab,W_mv,Ad,As,T.get_set,Ag,Af,Aq,Ap,Ae,Ak,reduceIte,An,Ar,Ay,AA,Av,Aw,Ax,Az,Au,Ao,Nat.reduceEqDiff,reduceCtorEq, ↓reduceIte,Di (i:=((i:Nat):Int)) (k:=i) rfl X7 hi16]
  have x1:Ext Non Non s (s.rdN (S+(0+i*1))):=Ext.rdN s _ fun h=>by
   have:s.lim=s0.lim:=hx.lim
   omega
  generalize s.rdN (S+(0+i*1))=s1 at *
  have hx1:Ext Non (In O 0 16) s0 s1:=hx.trans x1 hb0 (fun _ _ h=>h) fun _ _ h=>h.elim
  have ho1:Ah s1 O 0 (u8l (Cj 16 (fun j=>l.getD j 0) i)):=ho.ext0 x1
  have hown:=ho1 i _ (NN (show i<(Cj 16 (fun j=>l.getD j 0) i).length by rw[Rk];exact hi16))
  refine W.store1 (o:=0+i*1) DO rfl (by rw[Nat.mul_one];exact hown) fun s2 n2 x2 o2=> ?_
  rw[Nat.mul_one]at x2 o2
  have ho2:Ah s2 O 0 (u8l (Cj 16 (fun j=>l.getD j 0) (i+1))):=by
   rw[←RS 16 (fun j=>l.getD j 0) hi16,←T0]
   exact ho1.set x2 o2
  have hx2:Ext Non (In O 0 16) s0 s2:=hx1.trans x2 hb0 (fun y hy h=>by have h1:O+(0+i)≤y:=h.1;omega) fun y _ h=>by
   have h1:O+(0+i)≤y:=h.1
   have h2:y<O+(0+i)+1:=h.2
   exact⟨by omega,by omega⟩
  refine TM_.w PV_ (by omega) ?_
  have ei:wrap64 ((i:Nat)+1:Int)=((i+1:Nat):Int):=by
   rw[BB (by omega) (by omega)];simp
  simp only[UB,Ac,W_oS,W_on,Ab,W_mv,Ad,As,T.get_set,Ag,Af,Aq,Ap,Ae,Ak,reduceIte,An,Ar,Ay,AA,Av,Aw,Ax,Az,Au,Ao,Nat.reduceEqDiff,reduceCtorEq, ↓reduceIte,A7,Bd,A8,Bc,Bm,Bj,Bg,Bk,h5,ei]
  exact ih (i+1) _ _ _ _ (by omega) (by omega) OL_ hx2 ho2 (by simp[T.get_set,h2]) (by simp[T.get_set,h3]) (by simp[T.get_set,h4]) (by simp[T.get_set]) fun n' tm' s5 td' e=>q n' tm' s5 td' (by omega)
end
theorem VO_ {n:Nat}{s:St}{v:Value}{l:List Nat}{Q:Value→St→Prop}(hbd:s.lim≤s.next)(hn:l.length+3200≤n)(h:Bs s v l)(hby:Byt l)(hz:l.length≤900000)
  (q: ∀s1,Ext (BsF v) Non s s1→Q (.agg (u8l (idB l)).toArray) s1):W (AJ envS (runF envS n) 65 [v]) s Q:=by
 refine Uz_ fun tm h0=> ?_
 have hc:Bs (s.cxN cxN) v l:=h.same rfl rfl
 have own: ∀{a b:Nat} {y:Nat},In a 0 b y→a≤y:=fun h=>by have:=h.1;omega
 refine GT_.w rfl (by omega) ?_
 simp only[Ul,Ac,W_oS,W_on,Ab,W_mv,Ad,As,T.get_set,Ag,Af,Aq,Ap,Ae,Ak,reduceIte,An,Ar,Ay,AA,Av,Aw,Ax,Az,Au,Ao,Nat.reduceEqDiff,reduceCtorEq, ↓reduceIte]
 refine W.alloc El fun s1 n1 x1 o1=> ?_
 have n1':s1.next=s.next+17:=n1
 have hx1:Ext (BsF v) Non (s.cxN cxN) s1:=x1.weak hbd (fun _ _ h=>h.elim) fun _ _ h=>h
 refine KP_.w MP_ (by omega) ?_
 simp only[ZI,Ac,W_oS,W_on,Ab,W_mv,Ad,As,T.get_set,Ag,Af,Aq,Ap,Ae,Ak,reduceIte,An,Ar,Ay,AA,Av,Aw,Ax,Az,Au,Ao,Nat.reduceEqDiff,reduceCtorEq, ↓reduceIte]
 refine W.alloc El fun s2 n2 x2 o2=> ?_
 have n2':s2.next=s1.next+17:=n2
 have hx2:=hx1.step x2 hbd (fun _ _ h=>h.elim) fun _ h=>h.elim
 refine Hg_.w KC_ (by omega) ?_
 simp only[AH_,Ac,W_oS,W_on,Ab,W_mv,Ad,As,T.get_set,Ag,Af,Aq,Ap,Ae,Ak,reduceIte,An,Ar,Ay,AA,Av,Aw,Ax,Az,Au,Ao,Nat.reduceEqDiff,reduceCtorEq, ↓reduceIte,h0]
 refine UM_ (hx2.bnd hbd) (by omega) (hc.ext0 hx2) hby hz fun s3 x3=> ?_
 have hx3:=hx2.step x3 hbd (fun _ _ h=>h) fun _ h=>h.elim
 refine W.alloc FF fun s4 n4 x4 o4=> ?_
 have n4':s4.next=s3.next+33:=n4
 have hx4:=hx3.step x4 hbd (fun _ _ h=>h.elim) fun _ h=>h.elim
 have hN3:s2.next≤s3.next:=x3.nxt
 refine W.store DQ (by rw[Cd,Be,EY]) (by rw[Cd];exact BY _) (fun i hi=>Ah.owned o4 i hi) fun s5 n5 x5 o5=> ?_
 rw[Cd]at o5
 have hx5:=hx4.step x5 hbd (fun y hy h=>by have h5:=own h;have h6:y<s.lim:=hy;omega) fun y h=>by have h5:=own h;show s.next≤y;omega
 have e0:Ah s5 s1.next 0 (u8l (Cj 16 (fun j=>(sumB l).getD j 0) 0)):=by
  rw[VB]
  refine((Ah.ext0 o2 x3).ext0 x4).ext x5 fun i hi h=> ?_
  have h5:=own h
  have h6:i<16:=hi
  omega
 refine Ms_.w Bp_ (by omega) ?_
 simp only[UD,Ac,W_oS,W_on,Ab,W_mv,Ad,As,T.get_set,Ag,Af,Aq,Ap,Ae,Ak,reduceIte,An,Ar,Ay,AA,Av,Aw,Ax,Az,Au,Ao,Nat.reduceEqDiff,reduceCtorEq, ↓reduceIte]
 refine IF_ (S:=s3.next) (R:=s.next) (O:=s1.next) (l:=sumB l) (s0:=s5) (hx5.bnd hbd) (by rw[hx5.lim];show s.lim≤_;omega) (by rw[hx5.lim];show s.lim≤_;omega) (by omega) (EY l) o5 16 0 _ _ _ _ (by omega) (by omega) Ie_ (Ext.refl _) e0 (by simp[T.get_set]) (by simp[T.get_set]) (by simp[T.get_set]) (by simp[T.get_set]) fun n7 tm7 s7 td7 hn7 hT7 hx7 ho7 k2 k3=> ?_
 have hx7':=hx5.step hx7 hbd (fun _ _ h=>h.elim) fun y h=>by have h5:=own h;show s.next≤y;omega
 have hoR:Bb s7 s.next 0 16:=by
  have t: ∀{F G:Nat→Prop} {a b:St},Ext (fun _=>True) (fun y=>s1.next≤y) s1 a→Ext F G a b→(∀y,G y→s1.next≤y)→Ext (fun _=>True) (fun y=>s1.next≤y) s1 b:=fun h k hG=>h.trans k (x1.bnd hbd) (fun _ _ _=>trivial) fun y _ h=>hG y h
  have b4:=t (t (t (Ext.refl s1) x2 fun _ h=>h.elim) x3 fun _ h=>h.elim) x4 fun _ h=>h.elim
  have b7:=t (t b4 x5 fun y h=>by have:=own h;omega) hx7 fun y h=>by have:=own h;omega
  exact Bb.ext1 (Ah.owned o1) b7 fun y h h'=>by
   have h6:y<s.next+0+16:=h.2
   omega
 have hidl:(idB l).length=16:=CV l
 refine Mu_.w hT7 (by omega) ?_
 simp only[Zf,Ac,W_oS,W_on,Ab,W_mv,Ad,As,T.get_set,Ag,Af,Aq,Ap,Ae,Ak,reduceIte,An,Ar,Ay,AA,Av,Aw,Ax,Az,Au,Ao,Nat.reduceEqDiff,reduceCtorEq, ↓reduceIte,k2,k3]
 refine W.loadA (l:=u8l (idB l)) Cg ho7.row (by rw[Be,hidl]) fun s8 m8 n8 x8=> ?_
 have hx8:=hx7'.step x8 hbd (fun y hy h=>by have h5:s1.next+0≤y:=h.1;have h6:y<s.lim:=hy;omega) fun _ h=>h.elim
 refine W.store Cg (by rw[Cd,Be,hidl]) (by rw[Cd];exact BY _) (fun i hi=>let ⟨u,hu⟩:=hoR i hi;⟨u,hu.ext x8 id⟩) fun s9 n9 x9 o9=> ?_
 rw[Cd]at o9
 have hx9:=hx8.step x9 hbd (fun y hy h=>by have h5:=own h;have h6:y<s.lim:=hy;omega) fun y h=>by have h5:=own h;show s.next≤y;omega
 refine W.endC (r:=2) Be_ (.inl Hr_) (by omega) Ur Rr_ hx9.cx (by simp[T.get_set,k2];rfl) ?_
 refine W.loadA Cg o9.row (by rw[Be,hidl]) fun s10 m10 n10 x10=> ?_
 have hx10:=hx9.step x10 hbd (fun y hy h=>by have h5:s.next+0≤y:=h.1;have h6:y<s.lim:=hy;omega) fun _ h=>h.elim
 exact q _ hx10.cx'
theorem Ext.go {F:Nat→Prop}{F' G':Nat→Prop}{s s1 s2:St}(h:Ext F Non s s1)(k:Ext F' G' s1 s2)(hb:s.lim≤s.next)(hF: ∀y,F' y→F y∨s.next≤y)(hG: ∀y,G' y→s.next≤y):Ext F Non s s2:=
 h.step k hb (fun y hy h=>(hF y h).elim id fun h1=>absurd hy (by omega)) hG
theorem Ur_ {n:Nat}{v:Value}{b:List Nat}{s:St}{Q:Value→St→Prop}(hbd:s.lim≤s.next)(hbs:Bs s v b)(hlt: ∀x,BsF v x→x<s.next)(hby:Byt b)(hn:200000≤n)
  (q0:b.length=0→ ∀s1,Ext (BsF v) Non s s1→Q (.tuple #[.slice none 0 0, .agg (u8l (List.replicate 16 0)).toArray, .int .i64 2]) s1)
  (q1:1024<b.length→ ∀s1,Ext (BsF v) Non s s1→Q (.tuple #[.slice none 0 0, .agg (u8l (List.replicate 16 0)).toArray, .int .i64 3]) s1)
  (q2:1≤b.length→b.length≤1024→ ∀s1 w,Ext (BsF v) Non s s1→Bn s1 w (recB b)→(∀x,BsF w x→s.next≤x)→Q (.tuple #[w, .agg (u8l (idB b)).toArray, .int .i64 0]) s1):
  W (AJ envS (runF envS n) 18 [v]) s Q:=by
 refine NJ_ fun tm h0=> ?_
 have hB:Bs (s.cxN cxN) v b:=hbs.same rfl rfl
 have own: ∀{a b:Nat} {y:Nat},In a 0 b y→a≤y:=fun h=>by have:=h.1;omega
 refine SA_.w rfl (by omega) ?_
 simp only[Yx,Ac,W_oS,W_on,Ab,W_mv,Ad,As,T.get_set,Ag,Af,Aq,Ap,Ae,Ak,reduceIte,An,Ar,Ay,AA,Av,Aw,Ax,Az,Au,Ao,Nat.reduceEqDiff,reduceCtorEq, ↓reduceIte]
 refine W.alloc El fun sa na xa oa=> ?_
 have na':sa.next=s.next+17:=na
 have hxa:Ext (BsF v) Non (s.cxN cxN) sa:=(Ext.refl _).step xa hbd (fun _ _ h=>h.elim) fun _ h=>h.elim
 refine KT_.w If_ (by omega) ?_
 simp only[Xp,Ac,W_oS,W_on,Ab,W_mv,Ad,As,T.get_set,Ag,Af,Aq,Ap,Ae,Ak,reduceIte,An,Ar,Ay,AA,Av,Aw,Ax,Az,Au,Ao,Nat.reduceEqDiff,reduceCtorEq, ↓reduceIte,A7,Bd,A8,Bc,Bm,Bj,Bg,Bk,h0]
 rw[(hB.ext0 xa).len BA]
 simp only[Ac,W_oS,W_on,Ab,W_mv,Ad,As,T.get_set,Ag,Af,Aq,Ap,Ae,Ak,reduceIte,An,Ar,Ay,AA,Av,Aw,Ax,Az,Au,Ao,Nat.reduceEqDiff,reduceCtorEq, ↓reduceIte,A7,Bd,A8,Bc,Bm,Bj,Bg,Bk]
 have fin: ∀(sz:St) (tmz:T Value) (m:Nat) (td:List Item) (P:List Item) (w:Value) (c:Int) (l:List Nat),20≤m→skim 64 td=P→(∃k,P= .code .ret::k)→Ext (BsF v) Non (s.cxN cxN) sz→Ah sz s.next 0 (u8l l)→l.length=16→T.get tmz 2=some w→T.get tmz 3=some (.pointer (some ⟨s.next,0,none⟩))→T.get tmz 4=some (.int .i64 c)→(∀s1,Ext (BsF v) Non s s1→s1.mem=sz.mem→s1.next=sz.next→Q (.tuple #[w, .agg (u8l l).toArray, .int .i64 c]) s1)→
   W (runF envS m ⟨18,R3,Dg,tmz,td, .run, .normal,none⟩) sz fun p s1=>Q p.1 (s1.cxN s.cx):=by
  intro sz tmz m td P w c l hm hT hP xz oz hl h2 h3 h4 q
  refine W.endG hT (.inl hP) (by omega) Ud CL_ xz.cx ?_
  refine W.resTmp h2 (W.resCell (a:=⟨s.next,0,none⟩) h3 ?_)
  refine W.loadA Cg oz.row (by rw[Be,hl]) fun sd md nd xd=> ?_
  have hxd:Ext (BsF v) Non (s.cxN cxN) sd:=xz.go xd hbd (fun y h=> .inr (by have h5:s.next+0≤y:=h.1;show s.next≤y;omega)) fun _ h=>h.elim
  refine W.resTmp h4 (W.resNil ?_)
  exact q _ hxd.cx' md nd
 have zero: ∀(tmz:T Value) (m:Nat) (td:List Item) (P:List Item) (c:Int),20≤m→skim 64 td=P→(∃k,P= .code .ret::k)→T.get tmz 2=some (.slice none 0 0)→T.get tmz 3=some (.pointer (some ⟨s.next,0,none⟩))→(∀s1,Ext (BsF v) Non s s1→Q (.tuple #[.slice none 0 0, .agg (u8l (List.replicate 16 0)).toArray, .int .i64 c]) s1)→
   W (Bo envS 26 (.pointer (some ⟨s.next,0,none⟩)) (.agg (u8l (List.replicate 16 0)).toArray)) sa fun _ s1=>W (runF envS m ⟨18,R3,Dg,T.set tmz 4 (.int .i64 c),td, .run, .normal,none⟩) s1 fun p s1=>Q p.1 (s1.cxN s.cx):=by
  intro tmz m td P c hm hT hP h2 h3 q
  refine W.store Cg rfl (BY _) (fun j hj=>Ah.owned oa j (by simpa using hj)) fun sc nc xc oc=> ?_
  have hxc:Ext (BsF v) Non (s.cxN cxN) sc:=hxa.go xc hbd (fun y h=> .inr (own h)) fun y h=>own h
  exact fin sc _ m td P _ c (List.replicate 16 0) hm hT hP hxc oc (by simp) (by simp[T.get_set,h2]) (by simp[T.get_set,h3]) (by simp[T.get_set]) fun s1 x1 _ _=>q s1 x1
 by_cases hz:b.length=0
 ·refine W.cond (v:=true) X1 WG (by simp[T.get_set,hz]) (by omega) (fun _=> ?_) fun h=>by cases h
  refine FR_.w Rh_ (by omega) ?_
  simp only[Y0,Ac,W_oS,W_on,Ab,W_mv,Ad,As,T.get_set,Ag,Af,Aq,Ap,Ae,Ak,reduceIte,An,Ar,Ay,AA,Av,Aw,Ax,Az,Au,Ao,Nat.reduceEqDiff,reduceCtorEq, ↓reduceIte,Ej KL]
  exact zero _ _ _ _ 2 (by omega) RD_ IU_ (by simp[T.get_set]) (by simp[T.get_set];rfl) (q0 hz)
 refine W.cond (v:=false) X1 WG (by simp[T.get_set];exact fun h=>hz (by rw[h];rfl)) (by omega) (fun h=>by cases h) fun _=> ?_
 refine PD_.w Oj_ (by omega) ?_
 simp only[Yj,Ac,W_oS,W_on,Ab,W_mv,Ad,As,T.get_set,Ag,Af,Aq,Ap,Ae,Ak,reduceIte,An,Ar,Ay,AA,Av,Aw,Ax,Az,Au,Ao,Nat.reduceEqDiff,reduceCtorEq, ↓reduceIte,A7,Bd,A8,Bc,Bm,Bj,Bg,Bk,h0]
 rw[(hB.ext0 xa).len BA]
 simp only[Ac,W_oS,W_on,Ab,W_mv,Ad,As,T.get_set,Ag,Af,Aq,Ap,Ae,Ak,reduceIte,An,Ar,Ay,AA,Av,Aw,Ax,Az,Au,Ao,Nat.reduceEqDiff,reduceCtorEq, ↓reduceIte,A7,Bd,A8,Bc,Bm,Bj,Bg,Bk]
 by_cases hz2:1024<b.length
 ·refine W.cond (v:=true) At_ ZA (by simp[T.get_set];omega) (by omega) (fun _=> ?_) fun h=>by cases h
  refine EZ_.w Tn_ (by omega) ?_
  simp only[ZL,Ac,W_oS,W_on,Ab,W_mv,Ad,As,T.get_set,Ag,Af,Aq,Ap,Ae,Ak,reduceIte,An,Ar,Ay,AA,Av,Aw,Ax,Az,Au,Ao,Nat.reduceEqDiff,reduceCtorEq, ↓reduceIte,Ej KL]
  exact zero _ _ _ _ 3 (by omega) Mr_ QU_ (by simp[T.get_set]) (by simp[T.get_set];rfl) (q1 hz2)
 refine W.cond (v:=false) At_ ZA (by simp[T.get_set];omega) (by omega) (fun h=>by cases h) fun _=> ?_
 refine DB_.w Er_ (by omega) ?_
 simp only[UW,Ac,W_oS,W_on,Ab,W_mv,Ad,As,T.get_set,Ag,Af,Aq,Ap,Ae,Ak,reduceIte,An,Ar,Ay,AA,Av,Aw,Ax,Az,Au,Ao,Nat.reduceEqDiff,reduceCtorEq, ↓reduceIte,h0]
 refine VO_ (hxa.bnd hbd) (by omega) (hB.ext0 xa) hby (by omega) fun sb xb=> ?_
 have hxb:Ext (BsF v) Non (s.cxN cxN) sb:=hxa.step xb hbd (fun _ _ h=>h) fun _ h=>h.elim
 refine W.alloc El fun sc nc xc oc=> ?_
 have nc':sc.next=sb.next+17:=nc
 have hxc:Ext (BsF v) Non (s.cxN cxN) sc:=hxb.step xc hbd (fun _ _ h=>h.elim) fun _ h=>h.elim
 have lb:=xb.nxt
 have hIl:(idB b).length=16:=CV b
 refine W.store Cg (by rw[Cd,Be,hIl]) (by rw[Cd];exact BY _) (fun j hj=>Ah.owned oc j (by simpa using hj)) fun sd nd xd od=> ?_
 rw[Cd]at od
 have hxd:Ext (BsF v) Non (s.cxN cxN) sd:=hxc.go xd hbd (fun y h=> .inr (by have:=own h;show s.next≤y;omega)) fun y h=>by have:=own h;show s.next≤y;omega
 have hbd4:sd.lim≤sd.next:=hxd.bnd hbd
 refine FS_.w QM_ (by omega) ?_
 simp only[SJ,Ac,W_oS,W_on,Ab,W_mv,Ad,As,T.get_set,Ag,Af,Aq,Ap,Ae,Ak,reduceIte,An,Ar,Ay,AA,Av,Aw,Ax,Az,Au,Ao,Nat.reduceEqDiff,reduceCtorEq, ↓reduceIte,h0]
 refine W.buildS hbd4 (r:=[]) CK (by decide) rfl (Bt (by decide)) fun se ne xe re=> ?_
 have hbe:se.lim≤se.next:=xe.bnd hbd4
 have hxe:Ext (BsF v) Non (s.cxN cxN) se:=hxd.step xe hbd (fun _ _ h=>h.elim) fun _ h=>h.elim
 have le':=xe.nxt
 simp only[Fc (lo:=none) (hi:=none) (l:=0) (h:=16) SN (Bt (by decide)) rfl rfl (Nat.zero_le _) (Nat.le_refl _)]
 rw[if_neg (by decide)]
 have hBid:Bs se (.slice (some ⟨sb.next,0+0*1,none⟩) (16-0) (16-0)) (idB b):=by
  have:=Ah.bn (l:=idB b) (fun i u e=>((od i u e).ext xe id)) (Bt (by rw[hIl];decide))
  rw[hIl]at this
  exact this
 refine W.appBy hbe EmB.nil hBid (by rw[hIl];decide) fun sf wf bf hbf hf xf=> ?_
 have hnm: ∀y,¬MkF 1 ([]:List Nat).length sd.next y:=fun y hy=>absurd hy.1 (by simp)
 have hFid: ∀y,BsF (.slice (some ⟨sb.next,0+0*1,none⟩) (16-0) (16-0)) y→sb.next≤y:=fun y h=>by
  have h1:sb.next+(0+0*1)≤y:=h.1
  omega
 have hxf:Ext (BsF v) Non (s.cxN cxN) sf:=hxe.go xf hbd (fun y h=> .inr (by
  show s.next≤y
  rcases h with h|h
  ·have:=hFid y h;omega
  ·exact(hnm y h).elim)) fun y h=>(hnm y h).elim
 rw[List.nil_append]at hf
 have hbf':s.next≤bf:=by rcases hbf with rfl|hbf<;>omega
 have lf:=xf.nxt
 refine W.appBy (hxf.bnd hbd) hf (hB.ext0 hxf) (by rw[hIl];omega) fun sg wg bg hbg hg xg=> ?_
 have hxg:Ext (BsF v) Non (s.cxN cxN) sg:=hxf.go xg hbd (fun y h=>h.elim .inl fun h=> .inr (by have h1:bf+0≤y:=h.2.1;show s.next≤y;omega)) fun y h=>by have h1:bf+0≤y:=h.2.1;show s.next≤y;omega
 have hbg':s.next≤bg:=by rcases hbg with rfl|hbg<;>omega
 have lg:=xg.nxt
 have hbfd:sd.next≤bf:=by rcases hbf with rfl|hbf<;>omega
 have od_g:Ah sg sb.next 0 (u8l (idB b)):=fun i u e=>by
  have hi:i<(u8l (idB b)).length:=(List.getElem?_eq_some_iff.1 e).1
  rw[Be,hIl]at hi
  refine(((od i u e).ext xe id).ext xf (hnm _)).ext xg fun h=> ?_
  have h1:bf+0≤sb.next+(0+i):=h.2.1
  omega
 have oa_g:Bb sg s.next 0 16:=by
  have t: ∀{F G:Nat→Prop} {a b:St},Ext (fun _=>True) (fun y=>sa.next≤y) sa a→Ext F G a b→(∀y,G y→sa.next≤y)→Ext (fun _=>True) (fun y=>sa.next≤y) sa b:=fun h k hG=>h.trans k (hxa.bnd hbd) (fun _ _ _=>trivial) fun y _ h=>hG y h
  have b4:=t (t (t (t (Ext.refl sa) xb fun _ h=>h.elim) xc fun _ h=>h.elim) xd fun y h=>by have:=own h;omega) xe fun _ h=>h.elim
  have b7:=t (t b4 xf fun y h=>(hnm y h).elim) xg fun y h=>by have h1:bf+0≤y:=h.2.1;omega
  exact Bb.ext1 (Ah.owned oa) b7 fun y h h'=>by
   have h6:y<s.next+0+16:=h.2
   omega
 have hbody:(idB b++b).length≤1040:=by rw[List.length_append,hIl];omega
 have hbb:Byt (idB b++b):=fun x hx=>by
  rcases List.mem_append.1 hx with hx|hx
  ·exact Xm b x hx
  ·exact hby x hx
 refine Dj_.w FK_ (by omega) ?_
 simp only[Yg,T.get_set,Nat.reduceEqDiff, ↓reduceIte,h0,Bq,BL,Ag,Af,Ae,Bh]
 have hlen: ∀(s:St) (Q:Value→St→Prop),W (A6 envS .len [22] [v]) s Q=Q (.int .i64 (b.length:Nat)) s:=fun s Q=>by
  rcases hB with⟨rfl,rfl⟩|⟨_,_,_,rfl,_⟩
  ·exact Ch BA Q
  ·exact Ch BA Q
 rw[W_dq hlen]
 simp only[Bq,BL,Ag,Af,Ae,Bh]
 refine W.dop ?_
 rw[Ak]
 refine Mk_ (k:=b.length) (by omega) (Nat.le_refl _) (by omega) fun s1 w1 b1 hb1 x1 h1=>⟨Non,x1,fun rd1 hr1=> ?_⟩
 simp only[T.get_set,Nat.reduceEqDiff, ↓reduceIte,Bq,BL,Ag,Af,Ae,Bh]
 refine W.dop ?_
 rw[Ak]
 have hn1:sg.next≤s1.next:=x1.nxt
 have hBg:Bn s1 wg (idB b++b):=((hg.bn (by omega)).same (s':=oSt sg.mem sg.next) rfl rfl).ext0 x1
 refine Ew_ (Nat.le_refl _) (by omega) (hBg.same (s':=oSt s1.mem s1.next) rfl rfl) hbb (by omega) fun s2 w2 b2 hb2 x2 h2=>⟨BsF wg,x2,fun rd2 hr2=> ?_⟩
 have hn2:s1.next≤s2.next:=x2.nxt
 simp only[Bq,Ag,Af,Ae]
 have h1s:EmB s2 (Cq b.length) w1 b1:=(h1.same (s':=oSt s1.mem s1.next) rfl rfl).ext0 x2
 have hgl:(gput (idB b++b)).length≤2004:=by rw[LZ];omega
 refine W.dopG (W.appBy (Nat.le_refl _) (h1s.same (s':=oSt s2.mem s2.next) rfl rfl) ((h2.bn (by omega)).bs.same (s':=oSt s2.mem s2.next) rfl rfl) (by rw[Gd];omega) fun s3 w3 b3 hb3 h3 x3=>⟨_,_,x3,fun rd3 wr3 hr3 hw3=> ?_⟩)
 have hn3:s2.next≤s3.next:=x3.nxt
 have hb1':sg.next≤b1:=hb1
 have hb2':s1.next≤b2:=hb2
 have hMk: ∀y,MkF 1 (Cq b.length).length b1 y→sg.next≤y:=fun y h=>by
  have:=h.2.1
  omega
 have od3:Ah s3 sb.next 0 (u8l (idB b)):=fun i u e=>by
  have hi:=(od_g i u e).1
  have h4:Own s2 sb.next (0+i) u:=(((((od_g i u e).same (s':=oSt sg.mem sg.next) rfl rfl).ext x1 id).same (s':=oSt s1.mem s1.next) rfl rfl).ext x2 id)
  exact(h4.same (s':=oSt s2.mem s2.next) rfl rfl).ext x3 fun h=>by have:=hMk _ h;omega
 have hF2: ∀y,BsF w2 y→s1.next≤y:=fun y hy=>by
  obtain⟨c,rfl⟩:=h2.at
  have:b2+0≤y:=hy.1
  omega
 simp only[T.get_set,Nat.reduceEqDiff, ↓reduceIte,Bq,BL,Ag,Af,Ae,Bh]
 refine W.dloadA Cg (fun i u e=>((od3 i u e).same (s':=dSt s3.mem s3.next) rfl rfl).at') (by rw[Be,hIl]) fun mem4 rd4 hm4 hr4=> ?_
 subst hm4
 simp only[T.get_set,Nat.reduceEqDiff, ↓reduceIte,Bq,BL,Ag,Af,Ae,Bh,As]
 have oa3:Bb (oSt s3.mem s3.next) s.next 0 16:=fun j hj=>by
  obtain⟨u,hu⟩:=oa_g j hj
  have hi:=hu.1
  have h4:Own s2 s.next (0+j) u:=((((hu.same (s':=oSt sg.mem sg.next) rfl rfl).ext x1 id).same (s':=oSt s1.mem s1.next) rfl rfl).ext x2 id)
  exact⟨u,((h4.same (s':=oSt s2.mem s2.next) rfl rfl).ext x3 fun h=>by have:=hMk _ h;omega).same rfl rfl⟩
 refine W.dopG (W.store Cg (by rw[Cd,Be,hIl]) (by rw[Cd];exact BY _) oa3 fun s5 n5 x5 o5=>⟨_,_,x5,fun rd5 wr5 hr5 hw5=> ?_⟩)
 rw[Cd]at o5
 rw[Ab]
 have n5':s5.next=s3.next:=n5
 refine⟨Nc ?_, ?_⟩
 ·simp only[List.reverse_cons,List.reverse_nil,List.nil_append,List.cons_append,allP,EL,List.take,Jj]
  have hsn:s.next≤sg.next:=hxg.nxt
  have hsbn:sb.next+16≤sg.next:=by omega
  have f1: ∀x,x∈rd1→False:=fun x hx=>(hr1 x hx).2
  have f2: ∀x,x∈rd2→ ¬sg.next≤x:=fun x hx=>Nat.not_le_of_lt ((hg.bn (by omega)).lt x (hr2 x hx).2)
  have f3: ∀x,x∈wr3→sg.next≤x:=fun x hx=>hMk x (hw3 x hx).2
  have g3: ∀x,x∈rd3→sg.next≤x:=fun x hx=>by
   rcases(hr3 x hx).2 with h|h
   ·have:=hF2 x h;omega
   ·exact hMk x h
  have f4: ∀x,x∈rd4→ ¬sg.next≤x:=fun x hx=>by have h1:=(hr4 x hx).2;omega
  have f5: ∀x,x∈rd5→ ¬sg.next≤x:=fun x hx=>by have h1:=(hr5 x hx).2.2;omega
  have g5: ∀x,x∈wr5→ ¬sg.next≤x:=fun x hx=>by have h1:=(hw5 x hx).2.2;omega
  simp+contextual [f2,f4,f5,g5]
  exact⟨⟨.inl rfl, .inl rfl⟩,fun x hx hy=>f4 x hy (f3 x hx), .inl rfl, .inl rfl, .inl rfl, .inl rfl⟩
 ·refine W.cast (Qk_ ..) ?_
  simp only[Ac,W_oS,W_on,Ab,W_mv,Ad,As,T.get_set,Ag,Af,Aq,Ap,Ae,Ak,reduceIte,An,Ar,Ay,AA,Av,Aw,Ax,Az,Au,Ao,Nat.reduceEqDiff,reduceCtorEq, ↓reduceIte]
  have hsn:s.next≤sg.next:=hxg.nxt
  have hsl:sg.lim≤s.next:=by rw[hxg.lim];exact hbd
  generalize hs6:(⟨(dSt s5.mem s5.next).mem,(dSt s5.mem s5.next).next,sg.lim,_,_,sg.cx⟩:St)=s6
  have m6:s6.mem=s5.mem:=by rw[←hs6];rfl
  have n6:s6.next=s5.next:=by rw[←hs6];rfl
  have x6:Ext (fun y=>s.next≤y) (In s.next 0 16) sg s6:=by
   rw[←hs6]
   refine Ext.drawG (by show sg.next≤s5.next;omega) (fun y hy hg=> ?_) ?_ ?_
   ·have e1:T.get s1.mem y=T.get sg.mem y:=x1.mem y hy id
    have e2:T.get s2.mem y=T.get s1.mem y:=x2.mem y (by show y<s1.next;omega) id
    have e3:T.get s3.mem y=T.get s2.mem y:=x3.mem y (by show y<s2.next;omega) fun h=>by have:=hMk y h;omega
    have e5:T.get s5.mem y=T.get s3.mem y:=x5.mem y (by show y<s3.next;omega) hg
    show T.get s5.mem y=_
    rw[e5,e3,e2,e1]
   ·simp only[List.mem_cons,List.not_mem_nil,or_false]
    rintro m (rfl|rfl|rfl|rfl|rfl|rfl|rfl|rfl|rfl) y hy hl<;>first|exact(hw5 y hy).2|(have:=hMk y (hw3 y hy).2;omega)|cases hy
   ·simp only[List.mem_cons,List.not_mem_nil,or_false]
    rintro m (rfl|rfl|rfl|rfl|rfl|rfl|rfl|rfl|rfl) y hy hl
    ·exact own (hr5 y hy).2
    ·cases hy
    ·have h1:=(hr4 y hy).1
     show s.next≤y
     omega
    ·show s.next≤y
     rcases(hr3 y hy).2 with h|h
     ·have:=hF2 y h;omega
     ·have:=hMk y h;omega
    ·show s.next≤y
     obtain⟨c,hc⟩:=hg.at
     have h1:=(hr2 y hy).2
     rw[hc]at h1
     have h2:bg+0≤y:=h1.1
     omega
    ·cases hy
    ·exact(hr1 y hy).2.elim
    ·cases hy
    ·cases hy
  have hx6:Ext (BsF v) Non (s.cxN cxN) s6:=hxg.go x6 hbd (fun y h=> .inr h) fun y h=>own h
  have hb3':s.next≤b3:=by
   have:s2.next≤s3.next:=hn3
   rcases hb3 with rfl|hb3
   ·omega
   ·have:s2.next≤b3:=hb3
    omega
  refine fin s6 _ _ _ _ w3 0 (idB b) (by omega) BV_ UE_ hx6 (fun i u e=>(o5 i u e).same m6 n6) hIl (by simp[T.get_set]) (by simp[T.get_set]) (by simp[T.get_set]) fun s7 x7 m7 n7=> ?_
  have h3':EmB s5 (Cq b.length++gput (idB b++b)) w3 b3:=(h3.same (s':=oSt s3.mem s3.next) rfl rfl).ext x5 fun y h h'=>by
   have h1:b3+0≤y:=h.2.1
   have h2:y<s.next+0+16:=h'.2
   rcases hb3 with rfl|hb3
   ·omega
   ·have:s2.next≤b3:=hb3
    omega
  refine q2 (by omega) (by omega) s7 w3 x7 (((h3'.same m6 n6).same m7 n7).bn (by rw[List.length_append,Gd];omega)) fun y hy=> ?_
  obtain⟨c,rfl⟩:=h3'.at
  have:b3+0≤y:=hy.1
  omega
theorem Bs.lt' {s:St}{v:Value}{l:List Nat}(h:Bs s v l): ∀x,BsF v x→x<s.next:=by
 rcases h with⟨rfl,_⟩|⟨b,o,c,rfl,_,_,h3⟩
 ·intro x h
  exact h.elim
 ·intro x hx
  have h1:b+o≤x:=hx.1
  have h2:x<b+o+l.length:=hx.2
  have:=(h3 (x-(b+o)) _ (List.getElem?_eq_getElem (by rw[Be];omega))).1
  omega
def putR (b:List Nat):List Nat×List Nat×Int:=if b.length=0 then([],List.replicate 16 0,2)else if 1024<b.length then([],List.replicate 16 0,3)else(recB b,idB b,0)
theorem Kk_ (b:List Nat):(putR b).2.1.length=16:=by
 unfold putR
 split
 ·simp
 ·split
  ·simp
  ·exact CV b
def NoMk (s:St)(x:Value)(r:List Nat)(n0 n1:Nat):Prop:=(x= .slice none 0 0∧r=[])∨ ∃nb,MkG s x r nb∧0<r.length∧r.length≤2000∧n0≤nb∧nb+r.length<n1
theorem NoMk.bs {s:St}{x:Value}{r:List Nat}{n0 n1:Nat}(h:NoMk s x r n0 n1):Bs s x r:=by
 rcases h with⟨h1,h2⟩|⟨nb,h,_,h2,_⟩
 ·exact .inl ⟨h1,h2⟩
 ·exact(h.bn (by omega)).bs
theorem NoMk.lo {s:St}{x:Value}{r:List Nat}{n0 n1:Nat}(h:NoMk s x r n0 n1): ∀y,BsF x y→n0≤y:=fun y hy=>by
 rcases h with⟨rfl,_⟩|⟨nb,h,_,_,h3,_⟩
 ·exact hy.elim
 ·rw[h.val]at hy
  have:=hy.1
  omega
theorem NoMk.ext {F G:Nat→Prop}{s s':St}{x:Value}{r:List Nat}{n0 n1:Nat}(h:NoMk s x r n0 n1)(e:Ext F G s s')(hG: ∀y,n0≤y→y<n1→ ¬G y):NoMk s' x r n0 n1:=by
 rcases h with h|⟨nb,h,h1,h2,h3,h4⟩
 ·exact .inl h
 ·refine .inr ⟨nb,h.ext e fun y hy=>hG y (by have:=hy.1;omega) (by have:=hy.2;omega),h1,h2,h3,h4⟩
theorem Wm_ {n:Nat}{v:Value}{b:List Nat}{s:St}(hbd:s.lim≤s.next)(hbs:Bs s v b)(hlt: ∀x,BsF v x→x<s.next)(hby:Byt b)(hn:60000≤n):
  W (AJ envS (runF envS n) 17 [v]) s fun u s1=> ∃x,u= .tuple #[x, .agg (u8l (putR b).2.1).toArray, .int .i64 (putR b).2.2]∧Ext (BsF v) Non s s1∧NoMk s1 x (putR b).1 s.next s1.next:=by
 refine DC_ hbd hbs hlt hby hn (fun h s1 x1=> ?_) (fun h s1 x1=> ?_) fun h1 h2 s1 w nb x1 hm hnb=> ?_
 ·have e:putR b=([],List.replicate 16 0,2):=by unfold putR;rw[if_pos h]
  rw[e]
  exact⟨_,rfl,x1, .inl ⟨rfl,rfl⟩⟩
 ·have e:putR b=([],List.replicate 16 0,3):=by unfold putR;rw[if_neg (by omega),if_pos h]
  rw[e]
  exact⟨_,rfl,x1, .inl ⟨rfl,rfl⟩⟩
 ·have e:putR b=(recB b,idB b,0):=by unfold putR;rw[if_neg (by omega),if_neg (by omega)]
  rw[e]
  have hr:(recB b).length=b.length+26:=by
   unfold recB
   rw[List.length_append,Gd,LZ,List.length_append,CV]
   omega
  exact⟨w,rfl,x1, .inr ⟨nb,hm,by rw[hr];omega,by rw[hr];omega,hnb,hm.lt⟩⟩
theorem RA_ {n:Nat}{v:Value}{b:List Nat}{s:St}(hbd:s.lim≤s.next)(hbs:Bs s v b)(hlt: ∀x,BsF v x→x<s.next)(hby:Byt b)(hn:200000≤n):
  W (AJ envS (runF envS n) 18 [v]) s fun u s1=> ∃x,u= .tuple #[x, .agg (u8l (putR b).2.1).toArray, .int .i64 (putR b).2.2]∧Ext (BsF v) Non s s1∧Bs s1 x (putR b).1:=by
 refine Ur_ hbd hbs hlt hby hn (fun h s1 x1=> ?_) (fun h s1 x1=> ?_) fun h1 h2 s1 w x1 hm _=> ?_
 ·have e:putR b=([],List.replicate 16 0,2):=by unfold putR;rw[if_pos h]
  rw[e]
  exact⟨_,rfl,x1, .inl ⟨rfl,rfl⟩⟩
 ·have e:putR b=([],List.replicate 16 0,3):=by unfold putR;rw[if_neg (by omega),if_pos h]
  rw[e]
  exact⟨_,rfl,x1, .inl ⟨rfl,rfl⟩⟩
 ·have e:putR b=(recB b,idB b,0):=by unfold putR;rw[if_neg (by omega),if_neg (by omega)]
  rw[e]
  exact⟨w,rfl,x1,hm.bs⟩
end Go.Proofs.Ytofanlcjeohcjaa.Am
