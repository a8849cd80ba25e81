import Derived.Test.YtofanlcjeohcjaaPPt19
import Derived.Test.YtofanlcjeohcjaaPPt08
import Derived.Test.YtofanlcjeohcjaaPPt15
import Derived.KernelRfl
import Derived.Test.YtofanlcjeohcjaaPPt07
noncomputable section
namespace Go.Proofs.Ytofanlcjeohcjaa.Am
open Go.RowKit
def Eb:List (List Nat)→List Nat
 |[]=>[]
 |b::l=>recB b++Eb l
def Rl:Nat→List (List Nat)→List Nat
 |_,[]=>[]
 |k,b::l=>(k+(recB b).length)::Rl (k+(recB b).length) l
def Nt:Nat→List (List Nat)→List Hd
 |_,[]=>[]
 |k,b::l=>(idB b,k,b.length)::Nt (k+(recB b).length) l
def Yq (l:List Nat):List Value:=l.map fun n=> .int .i64 (n:Nat)
section
variable {parts:List (Value×List Nat)}{b o c:Nat}
def chs (parts:List (Value×List Nat))(i:Nat):List (List Nat):=(parts.take i).map (·.2)
structure AlI (s0:St)(parts:List (Value×List Nat))(b o c i:Nat)(tm:T Value)(s:St)(vb ve vh:Value)(b1 b2 b3:Nat):Prop where
 t0:T.get tm 0=some (.slice (some ⟨b,o,none⟩) parts.length c)
 t6:T.get tm 6=some vb
 t7:T.get tm 7=some ve
 t8:T.get tm 8=some vh
 t11:T.get tm 11=some (.int .i64 (i:Nat))
 mb:MkS s 1 (Eb (chs parts i)).length (u8l (Eb (chs parts i))) vb b1
 me:MkS s 1 i (Yq (Rl 0 (chs parts i))) ve b2
 mh:MkS s 18 i (Ct (Nt 0 (chs parts i))) vh b3
 n1:s0.next≤b1
 n2:s0.next≤b2
 n3:s0.next≤b3
 d12: ∀x,MkF 1 (Eb (chs parts i)).length b1 x→ ¬MkF 1 i b2 x
 d13: ∀x,MkF 1 (Eb (chs parts i)).length b1 x→ ¬MkF 18 i b3 x
 d23: ∀x,MkF 1 i b2 x→ ¬MkF 18 i b3 x
 sm: ∀p∈parts.take i,1≤p.2.length∧p.2.length≤1024
end
structure RecAt (t:List Nat)(k:Nat)(b:List Nat):Prop where
 n:FJ t k=b.length
 ok:S1 t k=true
 len:k+26+b.length≤t.length
 rok:ZQ t k=true
 good:Yk t k b.length=true
 id:Ux t k b.length=idB b
 body:YX t k b.length=b
section
variable {parts:List (Value×List Nat)}{b o c:Nat}
end
section
variable {parts:List (Value×List Nat)}{b o c:Nat}
structure AlR (s0:St)(parts:List (Value×List Nat))(s:St)(vb ve vh:Value)(b1 b2 b3:Nat):Prop where
 mb:MkS s 1 (Eb (parts.map (·.2))).length (u8l (Eb (parts.map (·.2)))) vb b1
 me:MkS s 1 parts.length (Yq (Rl 0 (parts.map (·.2)))) ve b2
 mh:MkS s 18 parts.length (Ct (Nt 0 (parts.map (·.2)))) vh b3
 n1:s0.next≤b1
 n2:s0.next≤b2
 n3:s0.next≤b3
 d12: ∀x,MkF 1 (Eb (parts.map (·.2))).length b1 x→ ¬MkF 1 parts.length b2 x
 d13: ∀x,MkF 1 (Eb (parts.map (·.2))).length b1 x→ ¬MkF 18 parts.length b3 x
 d23: ∀x,MkF 1 parts.length b2 x→ ¬MkF 18 parts.length b3 x
 sm: ∀p∈parts,1≤p.2.length∧p.2.length≤1024
 le:parts.length≤20
 tt:tot parts≤4000
end
section
variable {E:Env}{s:St}{t:Nat}{xo yo:Operand}
end
section
variable {E:Env}{s s':St}{t:Nat}{xo yo:Operand}
theorem MkS.bs {l:List Nat}{v:Value}{b:Nat}(h:MkS s 1 l.length (u8l l) v b)(hn:l.length<capU):Bs s v l:=by
 rcases h with⟨rfl,h0,_⟩|⟨h,_⟩
 ·exact .inl ⟨rfl,List.eq_nil_of_length_eq_zero h0⟩
 ·refine .inr ⟨b,0,_,h.val, ?_,Gc hn (by decide),fun i u e=>(h.own i u e).at'⟩
  rw[Nat.mul_add_mod,Nat.mod_eq_of_lt hn]
  exact Nat.le_refl _
theorem MkS.put {l:List Nat}{k x:Nat}{v:Value}{b:Nat}{G:Nat→Prop}(h:MkS s 1 l.length (u8l l) v b)(hk:k<l.length)(hn:s'.next=s.next)(e:Ext G (In b k 1) s s')(ho:Own s' b k (.int .u8 (x:Nat))):MkS s' 1 (l.set k x).length (u8l (l.set k x)) v b:=by
 rw[List.length_set]
 rcases h with⟨_,h0,_⟩|⟨h,h0⟩
 ·omega
 ·refine .inr ⟨⟨h.val,fun i u hi=> ?_, ?_, ?_,by rw[hn];exact h.lt⟩,h0⟩
  ·by_cases hik:i=k
   ·subst hik
    unfold u8l at hi
    rw[List.getElem?_map,List.getElem?_set_self hk]at hi
    have:u= .int .u8 (x:Nat):=by injection hi with hi;exact hi.symm
    subst this
    rwa [Nat.zero_add]
   ·have hi':(u8l l)[i]?=some u:=by
     unfold u8l at hi ⊢
     rw[List.getElem?_map,List.getElem?_set_ne (fun q=>hik q.symm)]at hi
     rw[List.getElem?_map]
     exact hi
    exact(h.own i u hi').ext e fun q=>by
     have h1:=In1.1 q
     omega
  ·rw[Be,List.length_set,Nat.mul_one]
  ·have hlt:b+l.length*1<s.next:=h.lt
   rw[e.mem _ hlt fun q=>by have h1:=In1.1 q;omega]
   exact h.tok
theorem MkS.get {l:List Nat}{k:Nat}{v:Value}{b:Nat}(h:MkS s 1 l.length (u8l l) v b)(hk:k<l.length): ∃c,v= .slice (some ⟨b,0,none⟩) l.length c∧Own s b k (.int .u8 (l.getD k 0:Nat)):=by
 rcases h with⟨_,h0,_⟩|⟨h,h0⟩
 ·omega
 ·refine⟨_,h.val, ?_⟩
  have:=h.own k (.int .u8 (l.getD k 0:Nat)) (by
   unfold u8l
   rw[List.getElem?_map,List.getElem?_eq_getElem hk,List.getD_eq_getElem?_getD,List.getElem?_eq_getElem hk]
   rfl)
  rwa [Nat.zero_add]at this
theorem MkS.hat {hs:List Hd}{n i:Nat}{v:Value}{b:Nat}(h:MkS s 18 n (Ct hs) v b)(hn:n=hs.length)(h16: ∀h∈hs,h.1.length=16)(hi:i<hs.length): ∃c,v= .slice (some ⟨b,0,none⟩) n c∧(n<capU→c%capU=n∧Cr c 18=true)∧Row s b (0+i*18) (DP hs[i])∧ ∀w,w≤hs.length→Row s b 0 (Ct (hs.take w)):=by
 rcases h with⟨_,h0,_⟩|⟨h,h0⟩
 ·omega
 ·refine⟨_,h.val,fun hc=>⟨by rw[Nat.mul_add_mod,Nat.mod_eq_of_lt hc],Gc hc (by decide)⟩,fun j u e=> ?_,fun w hw j u e=> ?_⟩
  ·have hj:j<18:=by
    have:=(List.getElem?_eq_some_iff.1 e).1
    rwa [Nh (h16 _ (List.getElem_mem hi))]at this
   have:=(h.own (i*18+j) u (by rw[XP h16 hi hj];exact e)).at'
   rwa [show 0+(i*18+j)=0+i*18+j by omega]at this
  ·refine(h.own j u ?_).at'
   have es:hs=hs.take w++hs.drop w:=(List.take_append_drop w hs).symm
   rw[es,ZW,List.getElem?_append_left (List.getElem?_eq_some_iff.1 e).1]
   exact e
end
theorem Le_:Pl envS 22=true:=by kernel_rfl
theorem VW_:Ot envS 9=true:=by kernel_rfl
def DH:Nat:=BE Try.f65
abbrev XV:Nat:=18
def Tw:Code:=Try.f65.body.getD .skip
theorem Ur:envS.fn.get 65=some Try.f65:=by kernel_rfl
theorem Uz_ {a0:Value}{n:Nat}{s:St}{Q:Value→St→Prop}(h: ∀tm,T.get tm 0=some a0→W (runF envS n ⟨65,18,DH,tm,[.code Tw], .run, .normal,none⟩) (s.cxN cxN) fun p s1=>Q p.1 (s1.cxN s.cx)):W (AJ envS (runF envS n) 65 [a0]) s Q:=
 W.call (by kernel_rfl) (by kernel_rfl) Ur (by kernel_rfl) rfl rfl (by simp) (h _ (by kernel_rfl))
theorem Rr_:Try.f65.results.toList=[.cell 2 26]:=by kernel_rfl
def Qv:List Item:=skim 64 [.code Tw]
def Kl:List Item:=skim 64 Qv.tail
theorem MP_:skim 64 Qv.tail=Kl:=by kernel_rfl
def Ka:List Item:=skim 64 Kl.tail
theorem KC_:skim 64 Kl.tail=Ka:=by kernel_rfl
def Lx:List Item:=skim 64 Ka.tail
theorem Bp_:skim 64 Ka.tail=Lx:=by kernel_rfl
def Gp:List Item:=skim 64 Lx.tail
theorem Ie_:skim 64 Lx.tail=Gp:=by kernel_rfl
def Gt:List Item:=skim 64 Gp.tail
theorem S5:skim 64 Gp.tail=Gt:=by kernel_rfl
def MX:List Item:=skim 64 (brT Gt)
theorem Tm_:skim 64 (brT Gt)=MX:=by kernel_rfl
def Iz:List Item:=skim 64 (brF Gt)
theorem Gk_:skim 64 (brF Gt)=Iz:=by kernel_rfl
def Nv:List Item:=skim 64 MX.tail
theorem PV_:skim 64 MX.tail=Nv:=by kernel_rfl
def Q5:List Item:=skim 64 Iz.tail
theorem Be_:skim 64 Iz.tail=Q5:=by kernel_rfl
theorem OL_:skim 64 Nv.tail=Gp:=by kernel_rfl
def Ul (E:Env)(call round:Aa)(tm:T Value):M (T Value):=
 M.bind (BH E 26) fun v2=>
 setF 2 v2 tm fun tm1=>
 M.pure tm1
theorem GT_:RegEq 65 18 DH Qv Ul:=⟨by kernel_rfl,fun _ _ _ _ _ _ _ _ _=>by kernel_rfl⟩
def ZI (E:Env)(call round:Aa)(tm:T Value):M (T Value):=
 M.bind (BH E 26) fun v3=>
 setF 3 v3 tm fun tm1=>
 M.pure tm1
theorem KP_:RegEq 65 18 DH Kl ZI:=⟨by kernel_rfl,fun _ _ _ _ _ _ _ _ _=>by kernel_rfl⟩
def AH_ (E:Env)(call round:Aa)(tm:T Value):M (T Value):=
 mv (T.get tm 0) fun v6=>
 M.bind (M.on (some (.func (.func 107) #[] #[])) fun f=>M.on (seqO [(some v6)]) fun l=>Bi call round f l) fun v7=>
 M.bind (BH E 101) fun v4=>
 setF 4 v4 tm fun tm1=>
 M.bind (oS (some v4) fun a=>oS (some v7) fun b=>Bo E 101 a b) fun _=>
 M.pure tm1
theorem Hg_:RegEq 65 18 DH Ka AH_:=⟨by kernel_rfl,fun _ _ _ _ _ _ _ _ _=>by kernel_rfl⟩
def UD (E:Env)(call round:Aa)(tm:T Value):M (T Value):=
 mv (some (.int .i64 0)) fun v5=>
 setF 5 v5 tm fun tm1=>
 M.pure tm1
theorem Ms_:RegEq 65 18 DH Lx UD:=⟨by kernel_rfl,fun _ _ _ _ _ _ _ _ _=>by kernel_rfl⟩
def PF (E:Env)(call round:Aa)(tm:T Value):M (T Value):=
 mv (T.get tm 5) fun v8=>
 M.bind (oS (some v8) fun a=>oS (some (.int .i64 16)) fun b=>Cl.get (aBin E .lss 3 (.tmp 8) (.const (.int .i64 16))) a b) fun v9=>
 setF 9 v9 tm fun tm1=>
 M.pure tm1
theorem UT:RegEq 65 18 DH Gp PF:=⟨by kernel_rfl,fun _ _ _ _ _ _ _ _ _=>by kernel_rfl⟩
theorem AL_:BO Gt=some 9:=by kernel_rfl
def Zj (E:Env)(call round:Aa)(tm:T Value):M (T Value):=
 mv (T.get tm 5) fun v12=>
 mv (T.get tm 5) fun v13=>
 M.bind (oS (T.get tm 4) fun a=>oS (some v13) fun b=>A9 E 101 a b) fun v14=>
 M.bind (oS (some v14) fun a=>A5 E 5 a) fun v15=>
 M.bind (oS (T.get tm 3) fun a=>oS (some v12) fun b=>A9 E 26 a b) fun v16=>
 M.bind (oS (some v16) fun a=>oS (some v15) fun b=>Bo E 5 a b) fun _=>
 M.pure tm
theorem Eh_:RegEq 65 18 DH MX Zj:=⟨by kernel_rfl,fun _ _ _ _ _ _ _ _ _=>by kernel_rfl⟩
def Zf (E:Env)(call round:Aa)(tm:T Value):M (T Value):=
 M.bind (oS (T.get tm 3) fun a=>A5 E 26 a) fun v17=>
 M.bind (oS (T.get tm 2) fun a=>oS (some v17) fun b=>Bo E 26 a b) fun _=>
 M.pure tm
theorem Mu_:RegEq 65 18 DH Iz Zf:=⟨by kernel_rfl,fun _ _ _ _ _ _ _ _ _=>by kernel_rfl⟩
def UB (E:Env)(call round:Aa)(tm:T Value):M (T Value):=
 mv (T.get tm 5) fun v10=>
 M.bind (oS (some v10) fun a=>oS (some (.int .i64 1)) fun b=>Cl.get (aBin E .add 3 (.tmp 10) (.const (.int .i64 1))) a b) fun v11=>
 mv (some v11) fun v5=>
 setF 5 v5 tm fun tm1=>
 M.pure tm1
theorem TM_:RegEq 65 18 DH Nv UB:=⟨by kernel_rfl,fun _ _ _ _ _ _ _ _ _=>by kernel_rfl⟩
theorem Hr_: ∃k,Q5= .code .ret::k:=⟨Q5.tail,by kernel_rfl⟩
def Cx:Nat:=BE Try.f107
abbrev Mx:Nat:=41
def Ys:Code:=Try.f107.body.getD .skip
theorem Ww:envS.fn.get 107=some Try.f107:=by kernel_rfl
theorem VH_ {a0:Value}{n:Nat}{s:St}{Q:Value→St→Prop}(h: ∀tm,T.get tm 0=some a0→W (runF envS n ⟨107,41,Cx,tm,[.code Ys], .run, .normal,none⟩) (s.cxN cxN) fun p s1=>Q p.1 (s1.cxN s.cx)):W (AJ envS (runF envS n) 107 [a0]) s Q:=
 W.call (by kernel_rfl) (by kernel_rfl) Ww (by kernel_rfl) rfl rfl (by simp) (h _ (by kernel_rfl))
theorem PT_:Try.f107.results.toList=[.cell 2 101]:=by kernel_rfl
def OX:List Item:=skim 64 [.code Ys]
def Kb:List Item:=skim 64 OX.tail
theorem Fv_:skim 64 OX.tail=Kb:=by kernel_rfl
def Lj:List Item:=skim 64 Kb.tail
theorem Ts_:skim 64 Kb.tail=Lj:=by kernel_rfl
def Ko:List Item:=skim 64 Lj.tail
theorem NR_:skim 64 Lj.tail=Ko:=by kernel_rfl
def Hu:List Item:=skim 64 Ko.tail
theorem GE_:skim 64 Ko.tail=Hu:=by kernel_rfl
def Hx:List Item:=skim 64 Hu.tail
theorem Wt:skim 64 Hu.tail=Hx:=by kernel_rfl
def Jh:List Item:=skim 64 (brT Hx)
theorem Tu_:skim 64 (brT Hx)=Jh:=by kernel_rfl
def Jg:List Item:=skim 64 (brF Hx)
theorem Ck_:skim 64 (brF Hx)=Jg:=by kernel_rfl
def Ry:List Item:=skim 64 Jh.tail
theorem Tc_:skim 64 Jh.tail=Ry:=by kernel_rfl
def LI:List Item:=skim 64 Jg.tail
theorem JD_:skim 64 Jg.tail=LI:=by kernel_rfl
theorem Im_:skim 64 Ry.tail=Hu:=by kernel_rfl
def HD:List Item:=skim 64 LI.tail
theorem Iu_:skim 64 LI.tail=HD:=by kernel_rfl
def FZ:List Item:=skim 64 HD.tail
theorem Yn:skim 64 HD.tail=FZ:=by kernel_rfl
def KM:List Item:=skim 64 (brT FZ)
theorem TA_:skim 64 (brT FZ)=KM:=by kernel_rfl
def IT:List Item:=skim 64 (brF FZ)
theorem Ki_:skim 64 (brF FZ)=IT:=by kernel_rfl
def Ps:List Item:=skim 64 KM.tail
theorem FP_:skim 64 KM.tail=Ps:=by kernel_rfl
def Ro:List Item:=skim 64 IT.tail
theorem RX_:skim 64 IT.tail=Ro:=by kernel_rfl
theorem Fu_:skim 64 Ps.tail=HD:=by kernel_rfl
def Yf (E:Env)(call round:Aa)(tm:T Value):M (T Value):=
 M.bind (BH E 101) fun v2=>
 setF 2 v2 tm fun tm1=>
 M.pure tm1
theorem Gm_:RegEq 107 41 Cx OX Yf:=⟨by kernel_rfl,fun _ _ _ _ _ _ _ _ _=>by kernel_rfl⟩
def Wh (E:Env)(call round:Aa)(tm:T Value):M (T Value):=
 M.bind (oS (seqP [(0,(some (.int .u32 1779033703))),(1,(some (.int .u32 3144134277))),(2,(some (.int .u32 1013904242))),(3,(some (.int .u32 2773480762))),(4,(some (.int .u32 1359893119))),(5,(some (.int .u32 2600822924))),(6,(some (.int .u32 528734635))),(7,(some (.int .u32 1541459225)))]) fun ps=>Cn E 161 ps) fun v8=>
 M.bind (BH E 161) fun v3=>
 setF 3 v3 tm fun tm1=>
 M.bind (oS (some v3) fun a=>oS (some v8) fun b=>Bo E 161 a b) fun _=>
 M.pure tm1
theorem Na_:RegEq 107 41 Cx Kb Wh:=⟨by kernel_rfl,fun _ _ _ _ _ _ _ _ _=>by kernel_rfl⟩
def S9 (E:Env)(call round:Aa)(tm:T Value):M (T Value):=
 mv (T.get tm 0) fun v9=>
 M.bind (M.on (some (.func (.func 131) #[] #[])) fun f=>M.on (seqO [(some v9)]) fun l=>Bi call round f l) fun v10=>
 mv (some v10) fun v4=>
 setF 4 v4 tm fun tm1=>
 M.pure tm1
theorem KL_:RegEq 107 41 Cx Lj S9:=⟨by kernel_rfl,fun _ _ _ _ _ _ _ _ _=>by kernel_rfl⟩
def YP (E:Env)(call round:Aa)(tm:T Value):M (T Value):=
 mv (some (.int .i64 0)) fun v5=>
 setF 5 v5 tm fun tm1=>
 M.pure tm1
theorem Vo_:RegEq 107 41 Cx Ko YP:=⟨by kernel_rfl,fun _ _ _ _ _ _ _ _ _=>by kernel_rfl⟩
def Qz (E:Env)(call round:Aa)(tm:T Value):M (T Value):=
 mv (T.get tm 5) fun v11=>
 mv (T.get tm 4) fun v12=>
 M.bind (oS (seqO [(some v12)]) fun l=>A6 E .len [22] l) fun v13=>
 M.bind (oS (some v11) fun a=>oS (some v13) fun b=>Cl.get (aBin E .lss 3 (.tmp 11) (.tmp 13)) a b) fun v14=>
 setF 14 v14 tm fun tm1=>
 M.pure tm1
theorem W4:RegEq 107 41 Cx Hu Qz:=⟨by kernel_rfl,fun _ _ _ _ _ _ _ _ _=>by kernel_rfl⟩
theorem VN:BO Hx=some 14:=by kernel_rfl
def VC (E:Env)(call round:Aa)(tm:T Value):M ((Rho×T Value)×List OpLog):=
 M.bind (apartO (oS (T.get tm 3) fun a=>A5 E 161 a)) fun p0=>
 M.bind (apartO (oS (T.get tm 4) fun a=>M.pure a)) fun p1=>
 M.bind (apartO (oS (T.get tm 5) fun a=>M.pure a)) fun p2=>
 M.bind (apartO (oS (T.get tm 5) fun a=>M.pure a)) fun p3=>
 M.bind (apartO (oS (some p3.1) fun a=>oS (some (.int .i64 64)) fun b=>Cl.get (aBin E .add 3 (.tmp 20) (.const (.int .i64 64))) a b)) fun p4=>
 M.bind (apartO (M.on (some p1.1) fun a=>M.on (onO (some p2.1) fun v=>some (some v)) fun b=>M.on (onO (some p4.1) fun v=>some (some v)) fun c=>BW E 22 a b c)) fun p5=>
 M.bind (apartO (M.on (some (.func (.func 132) #[] #[])) fun f=>M.on (seqO [(some p0.1),(some p5.1)]) fun l=>Bi call round f l)) fun p6=>
 M.pure (([p6.1,p5.1,p4.1,p3.1,p2.1,p1.1,p0.1],tm),[p6.2,p5.2,p4.2,p3.2,p2.2,p1.2,p0.2])
theorem Lb_:DrawEq 107 41 Cx Jh [0,0,0,0,8,30,63,127] VC:=⟨by kernel_rfl,by kernel_rfl,fun _ _ _ _ _ _ _ _ _=>by kernel_rfl⟩
theorem PS_ (E:Env)(call round:Aa)(x17 x18 x19 x20 x21 x22 x23:Value)(tm:T Value)(s:St):BM call round (CH E Cx 41 (hdC Jh)) [x23,x22,x21,x20,x19,x18,x17] tm s=(M.bind (oS (T.get tm 3) fun a=>oS (some x23) fun b=>Bo E 161 a b) fun _=>M.pure tm) s:=by kernel_rfl
def WF (E:Env)(call round:Aa)(tm:T Value):M (T Value):=
 M.bind (BH E 101) fun v6=>
 setF 6 v6 tm fun tm1=>
 M.pure tm1
theorem Ol_:RegEq 107 41 Cx Jg WF:=⟨by kernel_rfl,fun _ _ _ _ _ _ _ _ _=>by kernel_rfl⟩
def Wu (E:Env)(call round:Aa)(tm:T Value):M (T Value):=
 mv (T.get tm 5) fun v15=>
 M.bind (oS (some v15) fun a=>oS (some (.int .i64 64)) fun b=>Cl.get (aBin E .add 3 (.tmp 15) (.const (.int .i64 64))) a b) fun v16=>
 mv (some v16) fun v5=>
 setF 5 v5 tm fun tm1=>
 M.pure tm1
theorem Vv_:RegEq 107 41 Cx Ry Wu:=⟨by kernel_rfl,fun _ _ _ _ _ _ _ _ _=>by kernel_rfl⟩
def Xx (E:Env)(call round:Aa)(tm:T Value):M (T Value):=
 mv (some (.int .i64 0)) fun v7=>
 setF 7 v7 tm fun tm1=>
 M.pure tm1
theorem JP_:RegEq 107 41 Cx LI Xx:=⟨by kernel_rfl,fun _ _ _ _ _ _ _ _ _=>by kernel_rfl⟩
def PV (E:Env)(call round:Aa)(tm:T Value):M (T Value):=
 mv (T.get tm 7) fun v24=>
 M.bind (oS (some v24) fun a=>oS (some (.int .i64 32)) fun b=>Cl.get (aBin E .lss 3 (.tmp 24) (.const (.int .i64 32))) a b) fun v25=>
 setF 25 v25 tm fun tm1=>
 M.pure tm1
theorem X3:RegEq 107 41 Cx HD PV:=⟨by kernel_rfl,fun _ _ _ _ _ _ _ _ _=>by kernel_rfl⟩
theorem ZX:BO FZ=some 25:=by kernel_rfl
def YW (E:Env)(call round:Aa)(tm:T Value):M (T Value):=
 mv (T.get tm 7) fun v28=>
 mv (T.get tm 7) fun v29=>
 M.bind (oS (some v29) fun a=>oS (some (.int .i64 4)) fun b=>Cl.get (aBin E .quo 3 (.tmp 29) (.const (.int .i64 4))) a b) fun v30=>
 M.bind (oS (T.get tm 3) fun a=>oS (some v30) fun b=>A9 E 161 a b) fun v31=>
 M.bind (oS (some v31) fun a=>A5 E 51 a) fun v32=>
 mv (T.get tm 7) fun v33=>
 M.bind (oS (some v33) fun a=>oS (some (.int .i64 4)) fun b=>Cl.get (aBin E .rem 3 (.tmp 33) (.const (.int .i64 4))) a b) fun v34=>
 M.bind (oS (some (.int .i64 8)) fun a=>oS (some v34) fun b=>Cl.get (aBin E .mul 3 (.const (.int .i64 8)) (.tmp 34)) a b) fun v35=>
 M.bind (oS (some (.int .i64 24)) fun a=>oS (some v35) fun b=>Cl.get (aBin E .sub 3 (.const (.int .i64 24)) (.tmp 35)) a b) fun v36=>
 M.bind (oS (some v32) fun a=>oS (some v36) fun b=>Cl.get (aBin E .shr 51 (.tmp 32) (.tmp 36)) a b) fun v37=>
 M.bind (oS (some v37) fun a=>Bu E 51 5 a) fun v38=>
 M.bind (oS (T.get tm 6) fun a=>oS (some v28) fun b=>A9 E 101 a b) fun v39=>
 M.bind (oS (some v39) fun a=>oS (some v38) fun b=>Bo E 5 a b) fun _=>
 M.pure tm
theorem FH_:RegEq 107 41 Cx KM YW:=⟨by kernel_rfl,fun _ _ _ _ _ _ _ _ _=>by kernel_rfl⟩
def Sq (E:Env)(call round:Aa)(tm:T Value):M (T Value):=
 M.bind (oS (T.get tm 6) fun a=>A5 E 101 a) fun v40=>
 M.bind (oS (T.get tm 2) fun a=>oS (some v40) fun b=>Bo E 101 a b) fun _=>
 M.pure tm
theorem IQ_:RegEq 107 41 Cx IT Sq:=⟨by kernel_rfl,fun _ _ _ _ _ _ _ _ _=>by kernel_rfl⟩
def XX (E:Env)(call round:Aa)(tm:T Value):M (T Value):=
 mv (T.get tm 7) fun v26=>
 M.bind (oS (some v26) fun a=>oS (some (.int .i64 1)) fun b=>Cl.get (aBin E .add 3 (.tmp 26) (.const (.int .i64 1))) a b) fun v27=>
 mv (some v27) fun v7=>
 setF 7 v7 tm fun tm1=>
 M.pure tm1
theorem HS_:RegEq 107 41 Cx Ps XX:=⟨by kernel_rfl,fun _ _ _ _ _ _ _ _ _=>by kernel_rfl⟩
theorem Mq_: ∃k,Ro= .code .ret::k:=⟨Ro.tail,by kernel_rfl⟩
def CJ:Nat:=BE Try.f131
abbrev Kt:Nat:=35
def RR:Code:=Try.f131.body.getD .skip
theorem Sp:envS.fn.get 131=some Try.f131:=by kernel_rfl
theorem AY_ {a0:Value}{n:Nat}{s:St}{Q:Value→St→Prop}(h: ∀tm,T.get tm 0=some a0→W (runF envS n ⟨131,35,CJ,tm,[.code RR], .run, .normal,none⟩) (s.cxN cxN) fun p s1=>Q p.1 (s1.cxN s.cx)):W (AJ envS (runF envS n) 131 [a0]) s Q:=
 W.call (by kernel_rfl) (by kernel_rfl) Sp (by kernel_rfl) rfl rfl (by simp) (h _ (by kernel_rfl))
theorem CY_:Try.f131.results.toList=[.tmp 2]:=by kernel_rfl
def Oe:List Item:=skim 64 [.code RR]
def Kh:List Item:=skim 64 Oe.tail
theorem Su_:skim 64 Oe.tail=Kh:=by kernel_rfl
def Ku:List Item:=skim 64 Kh.tail
theorem Tx_:skim 64 Kh.tail=Ku:=by kernel_rfl
def Hz:List Item:=skim 64 Ku.tail
theorem DU_:skim 64 Ku.tail=Hz:=by kernel_rfl
def Hs:List Item:=skim 64 Hz.tail
theorem Sz:skim 64 Hz.tail=Hs:=by kernel_rfl
def Oc:List Item:=skim 64 (brT Hs)
theorem OD_:skim 64 (brT Hs)=Oc:=by kernel_rfl
def Jt:List Item:=skim 64 (brF Hs)
theorem Wa_:skim 64 (brF Hs)=Jt:=by kernel_rfl
theorem BW_:skim 64 Oc.tail=Hz:=by kernel_rfl
def Ly:List Item:=skim 64 Jt.tail
theorem FY_:skim 64 Jt.tail=Ly:=by kernel_rfl
def GA:List Item:=skim 64 Ly.tail
theorem Px_:skim 64 Ly.tail=GA:=by kernel_rfl
def Gv:List Item:=skim 64 GA.tail
theorem T4:skim 64 GA.tail=Gv:=by kernel_rfl
def Li:List Item:=skim 64 (brT Gv)
theorem Ds_:skim 64 (brT Gv)=Li:=by kernel_rfl
def H2:List Item:=skim 64 (brF Gv)
theorem Co_:skim 64 (brF Gv)=H2:=by kernel_rfl
def Ow:List Item:=skim 64 Li.tail
theorem DE_:skim 64 Li.tail=Ow:=by kernel_rfl
def On:List Item:=skim 64 H2.tail
theorem Nx_:skim 64 H2.tail=On:=by kernel_rfl
theorem Sm_:skim 64 Ow.tail=GA:=by kernel_rfl
def WJ (E:Env)(call round:Aa)(tm:T Value):M (T Value):=
 mv (some (.slice none 0 0)) fun v2=>
 setF 2 v2 tm fun tm1=>
 M.pure tm1
theorem Cz_:RegEq 131 35 CJ Oe WJ:=⟨by kernel_rfl,fun _ _ _ _ _ _ _ _ _=>by kernel_rfl⟩
def Vk (E:Env)(call round:Aa)(tm:T Value):M (T Value):=
 M.bind (oS (seqP []) fun ps=>BX E 22 0 ps) fun v6=>
 mv (T.get tm 0) fun v7=>
 M.bind (oS (seqO [(some v6),(some v7)]) fun l=>A6 E .append [22,22] l) fun v8=>
 mv (some v8) fun v3=>
 setF 3 v3 tm fun tm1=>
 M.pure tm1
theorem AM_:RegEq 131 35 CJ Kh Vk:=⟨by kernel_rfl,fun _ _ _ _ _ _ _ _ _=>by kernel_rfl⟩
def Sw (E:Env)(call round:Aa)(tm:T Value):M (T Value):=
 mv (T.get tm 3) fun v9=>
 M.bind (oS (seqP [(0,(some (.int .u8 128)))]) fun ps=>BX E 22 1 ps) fun v10=>
 M.bind (oS (seqO [(some v9),(some v10)]) fun l=>A6 E .append [22,22] l) fun v11=>
 mv (some v11) fun v3=>
 setF 3 v3 tm fun tm1=>
 M.pure tm1
theorem Vl_:RegEq 131 35 CJ Ku Sw:=⟨by kernel_rfl,fun _ _ _ _ _ _ _ _ _=>by kernel_rfl⟩
def NW (E:Env)(call round:Aa)(tm:T Value):M (T Value):=
 mv (T.get tm 3) fun v12=>
 M.bind (oS (seqO [(some v12)]) fun l=>A6 E .len [22] l) fun v13=>
 M.bind (oS (some v13) fun a=>oS (some (.int .i64 64)) fun b=>Cl.get (aBin E .rem 3 (.tmp 13) (.const (.int .i64 64))) a b) fun v14=>
 M.bind (oS (some v14) fun a=>oS (some (.int .i64 56)) fun b=>Cl.get (aBin E .neq 3 (.tmp 14) (.const (.int .i64 56))) a b) fun v15=>
 setF 15 v15 tm fun tm1=>
 M.pure tm1
theorem W3:RegEq 131 35 CJ Hz NW:=⟨by kernel_rfl,fun _ _ _ _ _ _ _ _ _=>by kernel_rfl⟩
theorem V8:BO Hs=some 15:=by kernel_rfl
def Sd (E:Env)(call round:Aa)(tm:T Value):M (T Value):=
 mv (T.get tm 3) fun v16=>
 M.bind (oS (seqP [(0,(some (.int .u8 0)))]) fun ps=>BX E 22 1 ps) fun v17=>
 M.bind (oS (seqO [(some v16),(some v17)]) fun l=>A6 E .append [22,22] l) fun v18=>
 mv (some v18) fun v3=>
 setF 3 v3 tm fun tm1=>
 M.pure tm1
theorem Vs_:RegEq 131 35 CJ Oc Sd:=⟨by kernel_rfl,fun _ _ _ _ _ _ _ _ _=>by kernel_rfl⟩
def RQ (E:Env)(call round:Aa)(tm:T Value):M (T Value):=
 mv (T.get tm 0) fun v19=>
 M.bind (oS (seqO [(some v19)]) fun l=>A6 E .len [22] l) fun v20=>
 M.bind (oS (some (.int .i64 8)) fun a=>oS (some v20) fun b=>Cl.get (aBin E .mul 3 (.const (.int .i64 8)) (.tmp 20)) a b) fun v21=>
 mv (some v21) fun v4=>
 setF 4 v4 tm fun tm1=>
 M.pure tm1
theorem Fo_:RegEq 131 35 CJ Jt RQ:=⟨by kernel_rfl,fun _ _ _ _ _ _ _ _ _=>by kernel_rfl⟩
def UK (E:Env)(call round:Aa)(tm:T Value):M (T Value):=
 mv (some (.int .i64 7)) fun v5=>
 setF 5 v5 tm fun tm1=>
 M.pure tm1
theorem Ru_:RegEq 131 35 CJ Ly UK:=⟨by kernel_rfl,fun _ _ _ _ _ _ _ _ _=>by kernel_rfl⟩
def Po (E:Env)(call round:Aa)(tm:T Value):M (T Value):=
 mv (T.get tm 5) fun v22=>
 M.bind (oS (some v22) fun a=>oS (some (.int .i64 0)) fun b=>Cl.get (aBin E .geq 3 (.tmp 22) (.const (.int .i64 0))) a b) fun v23=>
 setF 23 v23 tm fun tm1=>
 M.pure tm1
theorem Vo:RegEq 131 35 CJ GA Po:=⟨by kernel_rfl,fun _ _ _ _ _ _ _ _ _=>by kernel_rfl⟩
theorem Uy:BO Gv=some 23:=by kernel_rfl
def Uv (E:Env)(call round:Aa)(tm:T Value):M (T Value):=
 mv (T.get tm 3) fun v26=>
 mv (T.get tm 4) fun v27=>
 mv (T.get tm 5) fun v28=>
 M.bind (oS (some (.int .i64 8)) fun a=>oS (some v28) fun b=>Cl.get (aBin E .mul 3 (.const (.int .i64 8)) (.tmp 28)) a b) fun v29=>
 M.bind (oS (some v27) fun a=>oS (some v29) fun b=>Cl.get (aBin E .shr 3 (.tmp 27) (.tmp 29)) a b) fun v30=>
 M.bind (oS (some v30) fun a=>Bu E 3 5 a) fun v31=>
 M.bind (oS (seqP [(0,(some v31))]) fun ps=>BX E 22 1 ps) fun v32=>
 M.bind (oS (seqO [(some v26),(some v32)]) fun l=>A6 E .append [22,22] l) fun v33=>
 mv (some v33) fun v3=>
 setF 3 v3 tm fun tm1=>
 M.pure tm1
theorem DL_:RegEq 131 35 CJ Li Uv:=⟨by kernel_rfl,fun _ _ _ _ _ _ _ _ _=>by kernel_rfl⟩
def RN (E:Env)(call round:Aa)(tm:T Value):M (T Value):=
 mv (T.get tm 3) fun v34=>
 mv (some v34) fun v2=>
 setF 2 v2 tm fun tm1=>
 M.pure tm1
theorem Fl_:RegEq 131 35 CJ H2 RN:=⟨by kernel_rfl,fun _ _ _ _ _ _ _ _ _=>by kernel_rfl⟩
def Xk (E:Env)(call round:Aa)(tm:T Value):M (T Value):=
 mv (T.get tm 5) fun v24=>
 M.bind (oS (some v24) fun a=>oS (some (.int .i64 1)) fun b=>Cl.get (aBin E .sub 3 (.tmp 24) (.const (.int .i64 1))) a b) fun v25=>
 mv (some v25) fun v5=>
 setF 5 v5 tm fun tm1=>
 M.pure tm1
theorem OT_:RegEq 131 35 CJ Ow Xk:=⟨by kernel_rfl,fun _ _ _ _ _ _ _ _ _=>by kernel_rfl⟩
theorem VU_: ∃k,On= .code .ret::k:=⟨On.tail,by kernel_rfl⟩
def B9:Nat:=BE Try.f132
abbrev K4:Nat:=118
def Sj:Code:=Try.f132.body.getD .skip
theorem ZB:envS.fn.get 132=some Try.f132:=by kernel_rfl
theorem Ix_ {a0 a1:Value}{n:Nat}{s:St}{Q:Value→St→Prop}(h: ∀tm,T.get tm 0=some a0→T.get tm 1=some a1→W (runF envS n ⟨132,118,B9,tm,[.code Sj], .run, .normal,none⟩) (s.cxN cxN) fun p s1=>Q p.1 (s1.cxN s.cx)):W (AJ envS (runF envS n) 132 [a0,a1]) s Q:=
 W.call (by kernel_rfl) (by kernel_rfl) ZB (by kernel_rfl) rfl rfl (by simp) (h _ (by kernel_rfl) (by kernel_rfl))
theorem LL_:Try.f132.results.toList=[.cell 4 161]:=by kernel_rfl
def QK:List Item:=skim 64 [.code Sj]
def Mi:List Item:=skim 64 QK.tail
theorem FC_:skim 64 QK.tail=Mi:=by kernel_rfl
def ML:List Item:=skim 64 Mi.tail
theorem DD_:skim 64 Mi.tail=ML:=by kernel_rfl
def L7:List Item:=skim 64 ML.tail
theorem Gb_:skim 64 ML.tail=L7:=by kernel_rfl
def GX:List Item:=skim 64 L7.tail
theorem Qm_:skim 64 L7.tail=GX:=by kernel_rfl
def FY:List Item:=skim 64 GX.tail
theorem Y9:skim 64 GX.tail=FY:=by kernel_rfl
def Ii:List Item:=skim 64 (brT FY)
theorem VQ_:skim 64 (brT FY)=Ii:=by kernel_rfl
def I6:List Item:=skim 64 (brF FY)
theorem TL_:skim 64 (brF FY)=I6:=by kernel_rfl
def Il:List Item:=skim 64 Ii.tail
theorem Nl_:skim 64 Ii.tail=Il:=by kernel_rfl
def GI:List Item:=skim 64 I6.tail
theorem UW_:skim 64 I6.tail=GI:=by kernel_rfl
def L0:List Item:=skim 64 Il.tail
theorem LI_:skim 64 Il.tail=L0:=by kernel_rfl
def Gh:List Item:=skim 64 GI.tail
theorem RV:skim 64 GI.tail=Gh:=by kernel_rfl
def Q6:List Item:=skim 64 L0.tail
theorem CR_:skim 64 L0.tail=Q6:=by kernel_rfl
def H1:List Item:=skim 64 (brT Gh)
theorem Sw_:skim 64 (brT Gh)=H1:=by kernel_rfl
def IY:List Item:=skim 64 (brF Gh)
theorem ED_:skim 64 (brF Gh)=IY:=by kernel_rfl
theorem Bk_:skim 64 Q6.tail=GX:=by kernel_rfl
def O8:List Item:=skim 64 H1.tail
theorem FE_:skim 64 H1.tail=O8:=by kernel_rfl
def QO:List Item:=skim 64 IY.tail
theorem LR_:skim 64 IY.tail=QO:=by kernel_rfl
theorem Mj_:skim 64 O8.tail=GI:=by kernel_rfl
def Sh (E:Env)(call round:Aa)(tm:T Value):M (T Value):=
 M.bind (oS (T.get tm 0) fun a=>kBox a) fun v2=>
 setF 2 v2 tm fun tm1=>
 M.bind (BH E 161) fun v4=>
 setF 4 v4 tm1 fun tm2=>
 M.pure tm2
theorem Ft_:RegEq 132 118 B9 QK Sh:=⟨by kernel_rfl,fun _ _ _ _ _ _ _ _ _=>by kernel_rfl⟩
def V9 (E:Env)(call round:Aa)(tm:T Value):M (T Value):=
 mv (T.get tm 1) fun v12=>
 M.bind (M.on (some (.func (.func 146) #[] #[])) fun f=>M.on (seqO [(some v12)]) fun l=>Bi call round f l) fun v13=>
 M.bind (M.on (some (.func (.func 147) #[] #[])) fun f=>M.on (seqO []) fun l=>Bi call round f l) fun v14=>
 M.bind (BH E 179) fun v5=>
 setF 5 v5 tm fun tm1=>
 M.bind (BH E 179) fun v6=>
 setF 6 v6 tm1 fun tm2=>
 M.bind (oS (some v5) fun a=>oS (some v13) fun b=>Bo E 179 a b) fun _=>
 M.bind (oS (some v6) fun a=>oS (some v14) fun b=>Bo E 179 a b) fun _=>
 M.pure tm2
theorem Bm_:RegEq 132 118 B9 Mi V9:=⟨by kernel_rfl,fun _ _ _ _ _ _ _ _ _=>by kernel_rfl⟩
def WL (E:Env)(call round:Aa)(tm:T Value):M (T Value):=
 M.bind (oS (T.get tm 2) fun a=>A5 E 161 a) fun v15=>
 M.bind (BH E 161) fun v7=>
 setF 7 v7 tm fun tm1=>
 M.bind (oS (some v7) fun a=>oS (some v15) fun b=>Bo E 161 a b) fun _=>
 M.pure tm1
theorem Ue_:RegEq 132 118 B9 ML WL:=⟨by kernel_rfl,fun _ _ _ _ _ _ _ _ _=>by kernel_rfl⟩
def Ac_ (E:Env)(call round:Aa)(tm:T Value):M (T Value):=
 mv (some (.int .i64 0)) fun v8=>
 setF 8 v8 tm fun tm1=>
 M.pure tm1
theorem Id_:RegEq 132 118 B9 L7 Ac_:=⟨by kernel_rfl,fun _ _ _ _ _ _ _ _ _=>by kernel_rfl⟩
def NV (E:Env)(call round:Aa)(tm:T Value):M (T Value):=
 mv (T.get tm 8) fun v16=>
 M.bind (oS (some v16) fun a=>oS (some (.int .i64 64)) fun b=>Cl.get (aBin E .lss 3 (.tmp 16) (.const (.int .i64 64))) a b) fun v17=>
 setF 17 v17 tm fun tm1=>
 M.pure tm1
theorem Ae_:RegEq 132 118 B9 GX NV:=⟨by kernel_rfl,fun _ _ _ _ _ _ _ _ _=>by kernel_rfl⟩
theorem S3:BO FY=some 17:=by kernel_rfl
def Th (E:Env)(call round:Aa)(tm:T Value):M ((Rho×T Value)×List OpLog):=
 M.bind (apartO (oS (T.get tm 7) fun a=>oS (some (.int .i64 7)) fun b=>A9 E 161 a b)) fun p0=>
 M.bind (apartO (oS (some p0.1) fun a=>A5 E 51 a)) fun p1=>
 M.bind (apartO (oS (T.get tm 7) fun a=>oS (some (.int .i64 4)) fun b=>A9 E 161 a b)) fun p2=>
 M.bind (apartO (oS (some p2.1) fun a=>A5 E 51 a)) fun p3=>
 M.bind (apartO (M.on (some (.func (.func 148) #[] #[])) fun f=>M.on (seqO [(some p3.1),(some (.int .i64 6))]) fun l=>Bi call round f l)) fun p4=>
 M.bind (apartO (oS (T.get tm 7) fun a=>oS (some (.int .i64 4)) fun b=>A9 E 161 a b)) fun p5=>
 M.bind (apartO (oS (some p5.1) fun a=>A5 E 51 a)) fun p6=>
 M.bind (apartO (M.on (some (.func (.func 148) #[] #[])) fun f=>M.on (seqO [(some p6.1),(some (.int .i64 11))]) fun l=>Bi call round f l)) fun p7=>
 M.bind (apartO (oS (some p4.1) fun a=>oS (some p7.1) fun b=>Cl.get (aBin E .xor 51 (.tmp 24) (.tmp 27)) a b)) fun p8=>
 M.bind (apartO (oS (T.get tm 7) fun a=>oS (some (.int .i64 4)) fun b=>A9 E 161 a b)) fun p9=>
 M.bind (apartO (oS (some p9.1) fun a=>A5 E 51 a)) fun p10=>
 M.bind (apartO (M.on (some (.func (.func 148) #[] #[])) fun f=>M.on (seqO [(some p10.1),(some (.int .i64 25))]) fun l=>Bi call round f l)) fun p11=>
 M.bind (apartO (oS (some p8.1) fun a=>oS (some p11.1) fun b=>Cl.get (aBin E .xor 51 (.tmp 28) (.tmp 31)) a b)) fun p12=>
 M.bind (apartO (oS (some p1.1) fun a=>oS (some p12.1) fun b=>Cl.get (aBin E .add 51 (.tmp 21) (.tmp 32)) a b)) fun p13=>
 M.bind (apartO (oS (T.get tm 7) fun a=>oS (some (.int .i64 4)) fun b=>A9 E 161 a b)) fun p14=>
 M.bind (apartO (oS (some p14.1) fun a=>A5 E 51 a)) fun p15=>
 M.bind (apartO (oS (T.get tm 7) fun a=>oS (some (.int .i64 5)) fun b=>A9 E 161 a b)) fun p16=>
 M.bind (apartO (oS (some p16.1) fun a=>A5 E 51 a)) fun p17=>
 M.bind (apartO (oS (some p15.1) fun a=>oS (some p17.1) fun b=>Cl.get (aBin E .and 51 (.tmp 35) (.tmp 37)) a b)) fun p18=>
 M.bind (apartO (oS (T.get tm 7) fun a=>oS (some (.int .i64 4)) fun b=>A9 E 161 a b)) fun p19=>
 M.bind (apartO (oS (some p19.1) fun a=>A5 E 51 a)) fun p20=>
 M.bind (apartO (oS (some p20.1) fun a=>kUn E.P .xor a)) fun p21=>
 M.bind (apartO (oS (T.get tm 7) fun a=>oS (some (.int .i64 6)) fun b=>A9 E 161 a b)) fun p22=>
 M.bind (apartO (oS (some p22.1) fun a=>A5 E 51 a)) fun p23=>
 M.bind (apartO (oS (some p21.1) fun a=>oS (some p23.1) fun b=>Cl.get (aBin E .and 51 (.tmp 41) (.tmp 43)) a b)) fun p24=>
 M.bind (apartO (oS (some p18.1) fun a=>oS (some p24.1) fun b=>Cl.get (aBin E .xor 51 (.tmp 38) (.tmp 44)) a b)) fun p25=>
 M.bind (apartO (oS (some p13.1) fun a=>oS (some p25.1) fun b=>Cl.get (aBin E .add 51 (.tmp 33) (.tmp 45)) a b)) fun p26=>
 M.bind (apartO (oS (T.get tm 8) fun a=>M.pure a)) fun p27=>
 M.bind (apartO (oS (T.get tm 6) fun a=>oS (some p27.1) fun b=>A9 E 179 a b)) fun p28=>
 M.bind (apartO (oS (some p28.1) fun a=>A5 E 51 a)) fun p29=>
 M.bind (apartO (oS (some p26.1) fun a=>oS (some p29.1) fun b=>Cl.get (aBin E .add 51 (.tmp 46) (.tmp 49)) a b)) fun p30=>
 M.bind (apartO (oS (T.get tm 8) fun a=>M.pure a)) fun p31=>
 M.bind (apartO (oS (T.get tm 5) fun a=>oS (some p31.1) fun b=>A9 E 179 a b)) fun p32=>
 M.bind (apartO (oS (some p32.1) fun a=>A5 E 51 a)) fun p33=>
 M.bind (apartO (oS (some p30.1) fun a=>oS (some p33.1) fun b=>Cl.get (aBin E .add 51 (.tmp 50) (.tmp 53)) a b)) fun p34=>
 M.pure (([p34.1,p33.1,p32.1,p31.1,p30.1,p29.1,p28.1,p27.1,p26.1,p25.1,p24.1,p23.1,p22.1,p21.1,p20.1,p19.1,p18.1,p17.1,p16.1,p15.1,p14.1,p13.1,p12.1,p11.1,p10.1,p9.1,p8.1,p7.1,p6.1,p5.1,p4.1,p3.1,p2.1,p1.1,p0.1],tm),[p34.2,p33.2,p32.2,p31.2,p30.2,p29.2,p28.2,p27.2,p26.2,p25.2,p24.2,p23.2,p22.2,p21.2,p20.2,p19.2,p18.2,p17.2,p16.2,p15.2,p14.2,p13.2,p12.2,p11.2,p10.2,p9.2,p8.2,p7.2,p6.2,p5.2,p4.2,p3.2,p2.2,p1.2,p0.2])
theorem Ut_:DrawEq 132 118 B9 Ii [0,1,0,4,12,0,32,124,252,0,512,1788,4092,8191,0,16384,0,65536,245760,0,524288,1572864,0,4194304,16252928,33538048,67108863,0,134217728,402653184,1073741823,0,2147483648,6442450944,17179869183,34359738367] Th:=⟨by kernel_rfl,by kernel_rfl,fun _ _ _ _ _ _ _ _ _=>by kernel_rfl⟩
theorem EC_ (E:Env)(call round:Aa)(x20 x21 x22 x23 x24 x25 x26 x27 x28 x29 x30 x31 x32 x33 x34 x35 x36 x37 x38 x39 x40 x41 x42 x43 x44 x45 x46 x47 x48 x49 x50 x51 x52 x53 x54:Value)(tm:T Value)(s:St):BM call round (CH E B9 118 (hdC Ii)) [x54,x53,x52,x51,x50,x49,x48,x47,x46,x45,x44,x43,x42,x41,x40,x39,x38,x37,x36,x35,x34,x33,x32,x31,x30,x29,x28,x27,x26,x25,x24,x23,x22,x21,x20] tm s=(M.bind (oS (some x54) fun a=>M.pure a) fun v9=>setT 9 v9 tm fun tm1=>M.pure tm1) s:=by kernel_rfl
def Xz (E:Env)(call round:Aa)(tm:T Value):M (T Value):=
 mv (some (.int .i64 0)) fun v11=>
 setF 11 v11 tm fun tm1=>
 M.pure tm1
theorem NU_:RegEq 132 118 B9 I6 Xz:=⟨by kernel_rfl,fun _ _ _ _ _ _ _ _ _=>by kernel_rfl⟩
def Wi (E:Env)(call round:Aa)(tm:T Value):M ((Rho×T Value)×List OpLog):=
 M.bind (apartO (oS (T.get tm 7) fun a=>oS (some (.int .i64 0)) fun b=>A9 E 161 a b)) fun p0=>
 M.bind (apartO (oS (some p0.1) fun a=>A5 E 51 a)) fun p1=>
 M.bind (apartO (M.on (some (.func (.func 148) #[] #[])) fun f=>M.on (seqO [(some p1.1),(some (.int .i64 2))]) fun l=>Bi call round f l)) fun p2=>
 M.bind (apartO (oS (T.get tm 7) fun a=>oS (some (.int .i64 0)) fun b=>A9 E 161 a b)) fun p3=>
 M.bind (apartO (oS (some p3.1) fun a=>A5 E 51 a)) fun p4=>
 M.bind (apartO (M.on (some (.func (.func 148) #[] #[])) fun f=>M.on (seqO [(some p4.1),(some (.int .i64 13))]) fun l=>Bi call round f l)) fun p5=>
 M.bind (apartO (oS (some p2.1) fun a=>oS (some p5.1) fun b=>Cl.get (aBin E .xor 51 (.tmp 57) (.tmp 60)) a b)) fun p6=>
 M.bind (apartO (oS (T.get tm 7) fun a=>oS (some (.int .i64 0)) fun b=>A9 E 161 a b)) fun p7=>
 M.bind (apartO (oS (some p7.1) fun a=>A5 E 51 a)) fun p8=>
 M.bind (apartO (M.on (some (.func (.func 148) #[] #[])) fun f=>M.on (seqO [(some p8.1),(some (.int .i64 22))]) fun l=>Bi call round f l)) fun p9=>
 M.bind (apartO (oS (some p6.1) fun a=>oS (some p9.1) fun b=>Cl.get (aBin E .xor 51 (.tmp 61) (.tmp 64)) a b)) fun p10=>
 M.bind (apartO (oS (T.get tm 7) fun a=>oS (some (.int .i64 0)) fun b=>A9 E 161 a b)) fun p11=>
 M.bind (apartO (oS (some p11.1) fun a=>A5 E 51 a)) fun p12=>
 M.bind (apartO (oS (T.get tm 7) fun a=>oS (some (.int .i64 1)) fun b=>A9 E 161 a b)) fun p13=>
 M.bind (apartO (oS (some p13.1) fun a=>A5 E 51 a)) fun p14=>
 M.bind (apartO (oS (some p12.1) fun a=>oS (some p14.1) fun b=>Cl.get (aBin E .and 51 (.tmp 67) (.tmp 69)) a b)) fun p15=>
 M.bind (apartO (oS (T.get tm 7) fun a=>oS (some (.int .i64 0)) fun b=>A9 E 161 a b)) fun p16=>
 M.bind (apartO (oS (some p16.1) fun a=>A5 E 51 a)) fun p17=>
 M.bind (apartO (oS (T.get tm 7) fun a=>oS (some (.int .i64 2)) fun b=>A9 E 161 a b)) fun p18=>
 M.bind (apartO (oS (some p18.1) fun a=>A5 E 51 a)) fun p19=>
 M.bind (apartO (oS (some p17.1) fun a=>oS (some p19.1) fun b=>Cl.get (aBin E .and 51 (.tmp 72) (.tmp 74)) a b)) fun p20=>
 M.bind (apartO (oS (some p15.1) fun a=>oS (some p20.1) fun b=>Cl.get (aBin E .xor 51 (.tmp 70) (.tmp 75)) a b)) fun p21=>
 M.bind (apartO (oS (T.get tm 7) fun a=>oS (some (.int .i64 1)) fun b=>A9 E 161 a b)) fun p22=>
 M.bind (apartO (oS (some p22.1) fun a=>A5 E 51 a)) fun p23=>
 M.bind (apartO (oS (T.get tm 7) fun a=>oS (some (.int .i64 2)) fun b=>A9 E 161 a b)) fun p24=>
 M.bind (apartO (oS (some p24.1) fun a=>A5 E 51 a)) fun p25=>
 M.bind (apartO (oS (some p23.1) fun a=>oS (some p25.1) fun b=>Cl.get (aBin E .and 51 (.tmp 78) (.tmp 80)) a b)) fun p26=>
 M.bind (apartO (oS (some p21.1) fun a=>oS (some p26.1) fun b=>Cl.get (aBin E .xor 51 (.tmp 76) (.tmp 81)) a b)) fun p27=>
 M.bind (apartO (oS (some p10.1) fun a=>oS (some p27.1) fun b=>Cl.get (aBin E .add 51 (.tmp 65) (.tmp 82)) a b)) fun p28=>
 M.pure (([p28.1,p27.1,p26.1,p25.1,p24.1,p23.1,p22.1,p21.1,p20.1,p19.1,p18.1,p17.1,p16.1,p15.1,p14.1,p13.1,p12.1,p11.1,p10.1,p9.1,p8.1,p7.1,p6.1,p5.1,p4.1,p3.1,p2.1,p1.1,p0.1],tm),[p28.2,p27.2,p26.2,p25.2,p24.2,p23.2,p22.2,p21.2,p20.2,p19.2,p18.2,p17.2,p16.2,p15.2,p14.2,p13.2,p12.2,p11.2,p10.2,p9.2,p8.2,p7.2,p6.2,p5.2,p4.2,p3.2,p2.2,p1.2,p0.2])
theorem NI_:DrawEq 132 118 B9 Il [0,1,3,0,8,31,63,0,128,447,1023,0,2048,0,8192,30720,0,65536,0,262144,983040,2095104,0,4194304,0,16777216,62914560,134215680,268435455,536870911] Wi:=⟨by kernel_rfl,by kernel_rfl,fun _ _ _ _ _ _ _ _ _=>by kernel_rfl⟩
theorem Vm_ (E:Env)(call round:Aa)(x55 x56 x57 x58 x59 x60 x61 x62 x63 x64 x65 x66 x67 x68 x69 x70 x71 x72 x73 x74 x75 x76 x77 x78 x79 x80 x81 x82 x83:Value)(tm:T Value)(s:St):BM call round (CH E B9 118 (hdC Il)) [x83,x82,x81,x80,x79,x78,x77,x76,x75,x74,x73,x72,x71,x70,x69,x68,x67,x66,x65,x64,x63,x62,x61,x60,x59,x58,x57,x56,x55] tm s=(M.bind (oS (some x83) fun a=>M.pure a) fun v10=>setT 10 v10 tm fun tm1=>M.pure tm1) s:=by kernel_rfl
def P8 (E:Env)(call round:Aa)(tm:T Value):M (T Value):=
 mv (T.get tm 11) fun v104=>
 M.bind (oS (some v104) fun a=>oS (some (.int .i64 8)) fun b=>Cl.get (aBin E .lss 3 (.tmp 104) (.const (.int .i64 8))) a b) fun v105=>
 setF 105 v105 tm fun tm1=>
 M.pure tm1
theorem Uh:RegEq 132 118 B9 GI P8:=⟨by kernel_rfl,fun _ _ _ _ _ _ _ _ _=>by kernel_rfl⟩
def WV (E:Env)(call round:Aa)(tm:T Value):M (T Value):=
 mv (T.get tm 9) fun v84=>
 mv (T.get tm 10) fun v85=>
 M.bind (oS (some v84) fun a=>oS (some v85) fun b=>Cl.get (aBin E .add 51 (.tmp 84) (.tmp 85)) a b) fun v86=>
 M.bind (oS (T.get tm 7) fun a=>oS (some (.int .i64 0)) fun b=>A9 E 161 a b) fun v87=>
 M.bind (oS (some v87) fun a=>A5 E 51 a) fun v88=>
 M.bind (oS (T.get tm 7) fun a=>oS (some (.int .i64 1)) fun b=>A9 E 161 a b) fun v89=>
 M.bind (oS (some v89) fun a=>A5 E 51 a) fun v90=>
 M.bind (oS (T.get tm 7) fun a=>oS (some (.int .i64 2)) fun b=>A9 E 161 a b) fun v91=>
 M.bind (oS (some v91) fun a=>A5 E 51 a) fun v92=>
 M.bind (oS (T.get tm 7) fun a=>oS (some (.int .i64 3)) fun b=>A9 E 161 a b) fun v93=>
 M.bind (oS (some v93) fun a=>A5 E 51 a) fun v94=>
 mv (T.get tm 9) fun v95=>
 M.bind (oS (some v94) fun a=>oS (some v95) fun b=>Cl.get (aBin E .add 51 (.tmp 94) (.tmp 95)) a b) fun v96=>
 M.bind (oS (T.get tm 7) fun a=>oS (some (.int .i64 4)) fun b=>A9 E 161 a b) fun v97=>
 M.bind (oS (some v97) fun a=>A5 E 51 a) fun v98=>
 M.bind (oS (T.get tm 7) fun a=>oS (some (.int .i64 5)) fun b=>A9 E 161 a b) fun v99=>
 M.bind (oS (some v99) fun a=>A5 E 51 a) fun v100=>
 M.bind (oS (T.get tm 7) fun a=>oS (some (.int .i64 6)) fun b=>A9 E 161 a b) fun v101=>
 M.bind (oS (some v101) fun a=>A5 E 51 a) fun v102=>
 M.bind (oS (seqP [(0,(some v86)),(1,(some v88)),(2,(some v90)),(3,(some v92)),(4,(some v96)),(5,(some v98)),(6,(some v100)),(7,(some v102))]) fun ps=>Cn E 161 ps) fun v103=>
 M.bind (oS (T.get tm 7) fun a=>oS (some v103) fun b=>Bo E 161 a b) fun _=>
 M.pure tm
theorem EO_:RegEq 132 118 B9 L0 WV:=⟨by kernel_rfl,fun _ _ _ _ _ _ _ _ _=>by kernel_rfl⟩
theorem Zi:BO Gh=some 105:=by kernel_rfl
def YC (E:Env)(call round:Aa)(tm:T Value):M (T Value):=
 mv (T.get tm 8) fun v18=>
 M.bind (oS (some v18) fun a=>oS (some (.int .i64 1)) fun b=>Cl.get (aBin E .add 3 (.tmp 18) (.const (.int .i64 1))) a b) fun v19=>
 mv (some v19) fun v8=>
 setF 8 v8 tm fun tm1=>
 M.pure tm1
theorem JC_:RegEq 132 118 B9 Q6 YC:=⟨by kernel_rfl,fun _ _ _ _ _ _ _ _ _=>by kernel_rfl⟩
def XT (E:Env)(call round:Aa)(tm:T Value):M ((Rho×T Value)×List OpLog):=
 M.bind (apartO (oS (T.get tm 11) fun a=>M.pure a)) fun p0=>
 M.bind (apartO (oS (T.get tm 11) fun a=>M.pure a)) fun p1=>
 M.bind (apartO (oS (T.get tm 2) fun a=>oS (some p1.1) fun b=>A9 E 161 a b)) fun p2=>
 M.bind (apartO (oS (some p2.1) fun a=>A5 E 51 a)) fun p3=>
 M.bind (apartO (oS (T.get tm 11) fun a=>M.pure a)) fun p4=>
 M.bind (apartO (oS (T.get tm 7) fun a=>oS (some p4.1) fun b=>A9 E 161 a b)) fun p5=>
 M.bind (apartO (oS (some p5.1) fun a=>A5 E 51 a)) fun p6=>
 M.bind (apartO (oS (some p3.1) fun a=>oS (some p6.1) fun b=>Cl.get (aBin E .add 51 (.tmp 111) (.tmp 114)) a b)) fun p7=>
 M.bind (apartO (oS (T.get tm 2) fun a=>oS (some p0.1) fun b=>A9 E 161 a b)) fun p8=>
 M.pure (([p8.1,p7.1,p6.1,p5.1,p4.1,p3.1,p2.1,p1.1,p0.1],tm),[p8.2,p7.2,p6.2,p5.2,p4.2,p3.2,p2.2,p1.2,p0.2])
theorem DR_:DrawEq 132 118 B9 H1 [0,0,2,6,0,16,48,126,255,511] XT:=⟨by kernel_rfl,by kernel_rfl,fun _ _ _ _ _ _ _ _ _=>by kernel_rfl⟩
theorem Md_ (E:Env)(call round:Aa)(x108 x109 x110 x111 x112 x113 x114 x115 x116:Value)(tm:T Value)(s:St):BM call round (CH E B9 118 (hdC H1)) [x116,x115,x114,x113,x112,x111,x110,x109,x108] tm s=(M.bind (oS (some x116) fun a=>oS (some x115) fun b=>Bo E 51 a b) fun _=>M.pure tm) s:=by kernel_rfl
def Y4 (E:Env)(call round:Aa)(tm:T Value):M (T Value):=
 M.bind (oS (T.get tm 2) fun a=>A5 E 161 a) fun v117=>
 M.bind (oS (T.get tm 4) fun a=>oS (some v117) fun b=>Bo E 161 a b) fun _=>
 M.pure tm
theorem EP_:RegEq 132 118 B9 IY Y4:=⟨by kernel_rfl,fun _ _ _ _ _ _ _ _ _=>by kernel_rfl⟩
def RL (E:Env)(call round:Aa)(tm:T Value):M (T Value):=
 mv (T.get tm 11) fun v106=>
 M.bind (oS (some v106) fun a=>oS (some (.int .i64 1)) fun b=>Cl.get (aBin E .add 3 (.tmp 106) (.const (.int .i64 1))) a b) fun v107=>
 mv (some v107) fun v11=>
 setF 11 v11 tm fun tm1=>
 M.pure tm1
theorem Lu_:RegEq 132 118 B9 O8 RL:=⟨by kernel_rfl,fun _ _ _ _ _ _ _ _ _=>by kernel_rfl⟩
theorem Ty_: ∃k,QO= .code .ret::k:=⟨QO.tail,by kernel_rfl⟩
def Ci:Nat:=BE Try.f146
abbrev KZ:Nat:=89
def WT:Code:=Try.f146.body.getD .skip
theorem Az_:envS.fn.get 146=some Try.f146:=by kernel_rfl
theorem Nw_ {a0:Value}{n:Nat}{s:St}{Q:Value→St→Prop}(h: ∀tm,T.get tm 0=some a0→W (runF envS n ⟨146,89,Ci,tm,[.code WT], .run, .normal,none⟩) (s.cxN cxN) fun p s1=>Q p.1 (s1.cxN s.cx)):W (AJ envS (runF envS n) 146 [a0]) s Q:=
 W.call (by kernel_rfl) (by kernel_rfl) Az_ (by kernel_rfl) rfl rfl (by simp) (h _ (by kernel_rfl))
theorem Wo_:Try.f146.results.toList=[.cell 2 179]:=by kernel_rfl
def Nm:List Item:=skim 64 [.code WT]
def Kk:List Item:=skim 64 Nm.tail
theorem UR_:skim 64 Nm.tail=Kk:=by kernel_rfl
def Lq:List Item:=skim 64 Kk.tail
theorem Hn_:skim 64 Kk.tail=Lq:=by kernel_rfl
def FT:List Item:=skim 64 Lq.tail
theorem Ox_:skim 64 Lq.tail=FT:=by kernel_rfl
def GK:List Item:=skim 64 FT.tail
theorem Us:skim 64 FT.tail=GK:=by kernel_rfl
def IB:List Item:=skim 64 (brT GK)
theorem OU_:skim 64 (brT GK)=IB:=by kernel_rfl
def H3:List Item:=skim 64 (brF GK)
theorem Vx_:skim 64 (brF GK)=H3:=by kernel_rfl
def Ri:List Item:=skim 64 IB.tail
theorem VN_:skim 64 IB.tail=Ri:=by kernel_rfl
def HJ:List Item:=skim 64 H3.tail
theorem Tg_:skim 64 H3.tail=HJ:=by kernel_rfl
theorem AU_:skim 64 Ri.tail=FT:=by kernel_rfl
def Hj:List Item:=skim 64 HJ.tail
theorem Xe:skim 64 HJ.tail=Hj:=by kernel_rfl
def IL:List Item:=skim 64 (brT Hj)
theorem Ih_:skim 64 (brT Hj)=IL:=by kernel_rfl
def H4:List Item:=skim 64 (brF Hj)
theorem OK_:skim 64 (brF Hj)=H4:=by kernel_rfl
def Io:List Item:=skim 64 IL.tail
theorem CH_:skim 64 IL.tail=Io:=by kernel_rfl
def Pj:List Item:=skim 64 H4.tail
theorem VK_:skim 64 H4.tail=Pj:=by kernel_rfl
def Om:List Item:=skim 64 Io.tail
theorem TI_:skim 64 Io.tail=Om:=by kernel_rfl
theorem Re_:skim 64 Om.tail=HJ:=by kernel_rfl
def TL (E:Env)(call round:Aa)(tm:T Value):M (T Value):=
 M.bind (BH E 179) fun v2=>
 setF 2 v2 tm fun tm1=>
 M.pure tm1
theorem EJ_:RegEq 146 89 Ci Nm TL:=⟨by kernel_rfl,fun _ _ _ _ _ _ _ _ _=>by kernel_rfl⟩
def Ym (E:Env)(call round:Aa)(tm:T Value):M (T Value):=
 M.bind (BH E 179) fun v3=>
 setF 3 v3 tm fun tm1=>
 M.pure tm1
theorem Fm_:RegEq 146 89 Ci Kk Ym:=⟨by kernel_rfl,fun _ _ _ _ _ _ _ _ _=>by kernel_rfl⟩
def YY (E:Env)(call round:Aa)(tm:T Value):M (T Value):=
 mv (some (.int .i64 0)) fun v4=>
 setF 4 v4 tm fun tm1=>
 M.pure tm1
theorem QO_:RegEq 146 89 Ci Lq YY:=⟨by kernel_rfl,fun _ _ _ _ _ _ _ _ _=>by kernel_rfl⟩
def QN (E:Env)(call round:Aa)(tm:T Value):M (T Value):=
 mv (T.get tm 4) fun v8=>
 M.bind (oS (some v8) fun a=>oS (some (.int .i64 16)) fun b=>Cl.get (aBin E .lss 3 (.tmp 8) (.const (.int .i64 16))) a b) fun v9=>
 setF 9 v9 tm fun tm1=>
 M.pure tm1
theorem WX:RegEq 146 89 Ci FT QN:=⟨by kernel_rfl,fun _ _ _ _ _ _ _ _ _=>by kernel_rfl⟩
theorem U6:BO GK=some 9:=by kernel_rfl
def Al_ (E:Env)(call round:Aa)(tm:T Value):M ((Rho×T Value)×List OpLog):=
 M.bind (apartO (oS (T.get tm 4) fun a=>M.pure a)) fun p0=>
 M.bind (apartO (oS (T.get tm 0) fun a=>M.pure a)) fun p1=>
 M.bind (apartO (oS (T.get tm 4) fun a=>M.pure a)) fun p2=>
 M.bind (apartO (oS (some (.int .i64 4)) fun a=>oS (some p2.1) fun b=>Cl.get (aBin E .mul 3 (.const (.int .i64 4)) (.tmp 14)) a b)) fun p3=>
 M.bind (apartO (oS (some p1.1) fun a=>oS (some p3.1) fun b=>A9 E 22 a b)) fun p4=>
 M.bind (apartO (oS (some p4.1) fun a=>A5 E 5 a)) fun p5=>
 M.bind (apartO (oS (some p5.1) fun a=>Bu E 5 51 a)) fun p6=>
 M.bind (apartO (oS (some p6.1) fun a=>oS (some (.int .u64 24)) fun b=>Cl.get (aBin E .shl 51 (.tmp 18) (.const (.int .u64 24))) a b)) fun p7=>
 M.bind (apartO (oS (T.get tm 0) fun a=>M.pure a)) fun p8=>
 M.bind (apartO (oS (T.get tm 4) fun a=>M.pure a)) fun p9=>
 M.bind (apartO (oS (some (.int .i64 4)) fun a=>oS (some p9.1) fun b=>Cl.get (aBin E .mul 3 (.const (.int .i64 4)) (.tmp 21)) a b)) fun p10=>
 M.bind (apartO (oS (some p10.1) fun a=>oS (some (.int .i64 1)) fun b=>Cl.get (aBin E .add 3 (.tmp 22) (.const (.int .i64 1))) a b)) fun p11=>
 M.bind (apartO (oS (some p8.1) fun a=>oS (some p11.1) fun b=>A9 E 22 a b)) fun p12=>
 M.bind (apartO (oS (some p12.1) fun a=>A5 E 5 a)) fun p13=>
 M.bind (apartO (oS (some p13.1) fun a=>Bu E 5 51 a)) fun p14=>
 M.bind (apartO (oS (some p14.1) fun a=>oS (some (.int .u64 16)) fun b=>Cl.get (aBin E .shl 51 (.tmp 26) (.const (.int .u64 16))) a b)) fun p15=>
 M.bind (apartO (oS (some p7.1) fun a=>oS (some p15.1) fun b=>Cl.get (aBin E .or 51 (.tmp 19) (.tmp 27)) a b)) fun p16=>
 M.bind (apartO (oS (T.get tm 0) fun a=>M.pure a)) fun p17=>
 M.bind (apartO (oS (T.get tm 4) fun a=>M.pure a)) fun p18=>
 M.bind (apartO (oS (some (.int .i64 4)) fun a=>oS (some p18.1) fun b=>Cl.get (aBin E .mul 3 (.const (.int .i64 4)) (.tmp 30)) a b)) fun p19=>
 M.bind (apartO (oS (some p19.1) fun a=>oS (some (.int .i64 2)) fun b=>Cl.get (aBin E .add 3 (.tmp 31) (.const (.int .i64 2))) a b)) fun p20=>
 M.bind (apartO (oS (some p17.1) fun a=>oS (some p20.1) fun b=>A9 E 22 a b)) fun p21=>
 M.bind (apartO (oS (some p21.1) fun a=>A5 E 5 a)) fun p22=>
 M.bind (apartO (oS (some p22.1) fun a=>Bu E 5 51 a)) fun p23=>
 M.bind (apartO (oS (some p23.1) fun a=>oS (some (.int .u64 8)) fun b=>Cl.get (aBin E .shl 51 (.tmp 35) (.const (.int .u64 8))) a b)) fun p24=>
 M.bind (apartO (oS (some p16.1) fun a=>oS (some p24.1) fun b=>Cl.get (aBin E .or 51 (.tmp 28) (.tmp 36)) a b)) fun p25=>
 M.bind (apartO (oS (T.get tm 0) fun a=>M.pure a)) fun p26=>
 M.bind (apartO (oS (T.get tm 4) fun a=>M.pure a)) fun p27=>
 M.bind (apartO (oS (some (.int .i64 4)) fun a=>oS (some p27.1) fun b=>Cl.get (aBin E .mul 3 (.const (.int .i64 4)) (.tmp 39)) a b)) fun p28=>
 M.bind (apartO (oS (some p28.1) fun a=>oS (some (.int .i64 3)) fun b=>Cl.get (aBin E .add 3 (.tmp 40) (.const (.int .i64 3))) a b)) fun p29=>
 M.bind (apartO (oS (some p26.1) fun a=>oS (some p29.1) fun b=>A9 E 22 a b)) fun p30=>
 M.bind (apartO (oS (some p30.1) fun a=>A5 E 5 a)) fun p31=>
 M.bind (apartO (oS (some p31.1) fun a=>Bu E 5 51 a)) fun p32=>
 M.bind (apartO (oS (some p25.1) fun a=>oS (some p32.1) fun b=>Cl.get (aBin E .or 51 (.tmp 37) (.tmp 44)) a b)) fun p33=>
 M.bind (apartO (oS (T.get tm 3) fun a=>oS (some p0.1) fun b=>A9 E 179 a b)) fun p34=>
 M.pure (([p34.1,p33.1,p32.1,p31.1,p30.1,p29.1,p28.1,p27.1,p26.1,p25.1,p24.1,p23.1,p22.1,p21.1,p20.1,p19.1,p18.1,p17.1,p16.1,p15.1,p14.1,p13.1,p12.1,p11.1,p10.1,p9.1,p8.1,p7.1,p6.1,p5.1,p4.1,p3.1,p2.1,p1.1,p0.1],tm),[p34.2,p33.2,p32.2,p31.2,p30.2,p29.2,p28.2,p27.2,p26.2,p25.2,p24.2,p23.2,p22.2,p21.2,p20.2,p19.2,p18.2,p17.2,p16.2,p15.2,p14.2,p13.2,p12.2,p11.2,p10.2,p9.2,p8.2,p7.2,p6.2,p5.2,p4.2,p3.2,p2.2,p1.2,p0.2])
theorem Qr_:DrawEq 146 89 Ci IB [0,0,0,4,14,30,62,126,0,0,512,1536,3840,7936,16128,32512,65534,0,0,262144,786432,1966080,4063232,8257536,16646144,33554430,0,0,134217728,402653184,1006632960,2080374784,4227858432,8589934590,17179869183,34359738367] Al_:=⟨by kernel_rfl,by kernel_rfl,fun _ _ _ _ _ _ _ _ _=>by kernel_rfl⟩
theorem Ni_ (E:Env)(call round:Aa)(x12 x13 x14 x15 x16 x17 x18 x19 x20 x21 x22 x23 x24 x25 x26 x27 x28 x29 x30 x31 x32 x33 x34 x35 x36 x37 x38 x39 x40 x41 x42 x43 x44 x45 x46:Value)(tm:T Value)(s:St):BM call round (CH E Ci 89 (hdC IB)) [x46,x45,x44,x43,x42,x41,x40,x39,x38,x37,x36,x35,x34,x33,x32,x31,x30,x29,x28,x27,x26,x25,x24,x23,x22,x21,x20,x19,x18,x17,x16,x15,x14,x13,x12] tm s=(M.bind (oS (some x46) fun a=>oS (some x45) fun b=>Bo E 51 a b) fun _=>M.pure tm) s:=by kernel_rfl
def Vh (E:Env)(call round:Aa)(tm:T Value):M (T Value):=
 mv (some (.int .i64 16)) fun v5=>
 setF 5 v5 tm fun tm1=>
 M.pure tm1
theorem Uq_:RegEq 146 89 Ci H3 Vh:=⟨by kernel_rfl,fun _ _ _ _ _ _ _ _ _=>by kernel_rfl⟩
def SC (E:Env)(call round:Aa)(tm:T Value):M (T Value):=
 mv (T.get tm 4) fun v10=>
 M.bind (oS (some v10) fun a=>oS (some (.int .i64 1)) fun b=>Cl.get (aBin E .add 3 (.tmp 10) (.const (.int .i64 1))) a b) fun v11=>
 mv (some v11) fun v4=>
 setF 4 v4 tm fun tm1=>
 M.pure tm1
theorem EL_:RegEq 146 89 Ci Ri SC:=⟨by kernel_rfl,fun _ _ _ _ _ _ _ _ _=>by kernel_rfl⟩
def PN (E:Env)(call round:Aa)(tm:T Value):M (T Value):=
 mv (T.get tm 5) fun v47=>
 M.bind (oS (some v47) fun a=>oS (some (.int .i64 64)) fun b=>Cl.get (aBin E .lss 3 (.tmp 47) (.const (.int .i64 64))) a b) fun v48=>
 setF 48 v48 tm fun tm1=>
 M.pure tm1
theorem Vq:RegEq 146 89 Ci HJ PN:=⟨by kernel_rfl,fun _ _ _ _ _ _ _ _ _=>by kernel_rfl⟩
theorem TW:BO Hj=some 48:=by kernel_rfl
def U0 (E:Env)(call round:Aa)(tm:T Value):M ((Rho×T Value)×List OpLog):=
 M.bind (apartO (oS (T.get tm 5) fun a=>M.pure a)) fun p0=>
 M.bind (apartO (oS (some p0.1) fun a=>oS (some (.int .i64 15)) fun b=>Cl.get (aBin E .sub 3 (.tmp 51) (.const (.int .i64 15))) a b)) fun p1=>
 M.bind (apartO (oS (T.get tm 3) fun a=>oS (some p1.1) fun b=>A9 E 179 a b)) fun p2=>
 M.bind (apartO (oS (some p2.1) fun a=>A5 E 51 a)) fun p3=>
 M.bind (apartO (oS (T.get tm 5) fun a=>M.pure a)) fun p4=>
 M.bind (apartO (oS (some p4.1) fun a=>oS (some (.int .i64 2)) fun b=>Cl.get (aBin E .sub 3 (.tmp 55) (.const (.int .i64 2))) a b)) fun p5=>
 M.bind (apartO (oS (T.get tm 3) fun a=>oS (some p5.1) fun b=>A9 E 179 a b)) fun p6=>
 M.bind (apartO (oS (some p6.1) fun a=>A5 E 51 a)) fun p7=>
 M.bind (apartO (oS (some p3.1) fun a=>M.pure a)) fun p8=>
 setT 6 p8.1 tm fun tm1=>
 M.pure (([p8.1,p7.1,p6.1,p5.1,p4.1,p3.1,p2.1,p1.1,p0.1],tm1),[p8.2,p7.2,p6.2,p5.2,p4.2,p3.2,p2.2,p1.2,p0.2])
theorem IX_:DrawEq 146 89 Ci IL [0,1,3,7,0,16,48,112,15,511] U0:=⟨by kernel_rfl,by kernel_rfl,fun _ _ _ _ _ _ _ _ _=>by kernel_rfl⟩
theorem Gt_ (E:Env)(call round:Aa)(x51 x52 x53 x54 x55 x56 x57 x58 x6:Value)(tm:T Value)(s:St):BM call round (CH E Ci 89 (hdC IL)) [x6,x58,x57,x56,x55,x54,x53,x52,x51] tm s=(M.bind (oS (some x58) fun a=>M.pure a) fun v7=>setT 7 v7 tm fun tm1=>M.pure tm1) s:=by kernel_rfl
def U2 (E:Env)(call round:Aa)(tm:T Value):M (T Value):=
 M.bind (oS (T.get tm 3) fun a=>A5 E 179 a) fun v88=>
 M.bind (oS (T.get tm 2) fun a=>oS (some v88) fun b=>Bo E 179 a b) fun _=>
 M.pure tm
theorem Dw_:RegEq 146 89 Ci H4 U2:=⟨by kernel_rfl,fun _ _ _ _ _ _ _ _ _=>by kernel_rfl⟩
def RM (E:Env)(call round:Aa)(tm:T Value):M ((Rho×T Value)×List OpLog):=
 M.bind (apartO (oS (T.get tm 5) fun a=>M.pure a)) fun p0=>
 M.bind (apartO (oS (T.get tm 5) fun a=>M.pure a)) fun p1=>
 M.bind (apartO (oS (some p1.1) fun a=>oS (some (.int .i64 16)) fun b=>Cl.get (aBin E .sub 3 (.tmp 60) (.const (.int .i64 16))) a b)) fun p2=>
 M.bind (apartO (oS (T.get tm 3) fun a=>oS (some p2.1) fun b=>A9 E 179 a b)) fun p3=>
 M.bind (apartO (oS (some p3.1) fun a=>A5 E 51 a)) fun p4=>
 M.bind (apartO (oS (T.get tm 6) fun a=>M.pure a)) fun p5=>
 M.bind (apartO (M.on (some (.func (.func 148) #[] #[])) fun f=>M.on (seqO [(some p5.1),(some (.int .i64 7))]) fun l=>Bi call round f l)) fun p6=>
 M.bind (apartO (oS (T.get tm 6) fun a=>M.pure a)) fun p7=>
 M.bind (apartO (M.on (some (.func (.func 148) #[] #[])) fun f=>M.on (seqO [(some p7.1),(some (.int .i64 18))]) fun l=>Bi call round f l)) fun p8=>
 M.bind (apartO (oS (some p6.1) fun a=>oS (some p8.1) fun b=>Cl.get (aBin E .xor 51 (.tmp 65) (.tmp 67)) a b)) fun p9=>
 M.bind (apartO (oS (T.get tm 6) fun a=>M.pure a)) fun p10=>
 M.bind (apartO (oS (some p10.1) fun a=>oS (some (.int .u64 3)) fun b=>Cl.get (aBin E .shr 51 (.tmp 69) (.const (.int .u64 3))) a b)) fun p11=>
 M.bind (apartO (oS (some p9.1) fun a=>oS (some p11.1) fun b=>Cl.get (aBin E .xor 51 (.tmp 68) (.tmp 70)) a b)) fun p12=>
 M.bind (apartO (oS (some p4.1) fun a=>oS (some p12.1) fun b=>Cl.get (aBin E .add 51 (.tmp 63) (.tmp 71)) a b)) fun p13=>
 M.bind (apartO (oS (T.get tm 5) fun a=>M.pure a)) fun p14=>
 M.bind (apartO (oS (some p14.1) fun a=>oS (some (.int .i64 7)) fun b=>Cl.get (aBin E .sub 3 (.tmp 73) (.const (.int .i64 7))) a b)) fun p15=>
 M.bind (apartO (oS (T.get tm 3) fun a=>oS (some p15.1) fun b=>A9 E 179 a b)) fun p16=>
 M.bind (apartO (oS (some p16.1) fun a=>A5 E 51 a)) fun p17=>
 M.bind (apartO (oS (some p13.1) fun a=>oS (some p17.1) fun b=>Cl.get (aBin E .add 51 (.tmp 72) (.tmp 76)) a b)) fun p18=>
 M.bind (apartO (oS (T.get tm 7) fun a=>M.pure a)) fun p19=>
 M.bind (apartO (M.on (some (.func (.func 148) #[] #[])) fun f=>M.on (seqO [(some p19.1),(some (.int .i64 17))]) fun l=>Bi call round f l)) fun p20=>
 M.bind (apartO (oS (T.get tm 7) fun a=>M.pure a)) fun p21=>
 M.bind (apartO (M.on (some (.func (.func 148) #[] #[])) fun f=>M.on (seqO [(some p21.1),(some (.int .i64 19))]) fun l=>Bi call round f l)) fun p22=>
 M.bind (apartO (oS (some p20.1) fun a=>oS (some p22.1) fun b=>Cl.get (aBin E .xor 51 (.tmp 79) (.tmp 81)) a b)) fun p23=>
 M.bind (apartO (oS (T.get tm 7) fun a=>M.pure a)) fun p24=>
 M.bind (apartO (oS (some p24.1) fun a=>oS (some (.int .u64 10)) fun b=>Cl.get (aBin E .shr 51 (.tmp 83) (.const (.int .u64 10))) a b)) fun p25=>
 M.bind (apartO (oS (some p23.1) fun a=>oS (some p25.1) fun b=>Cl.get (aBin E .xor 51 (.tmp 82) (.tmp 84)) a b)) fun p26=>
 M.bind (apartO (oS (some p18.1) fun a=>oS (some p26.1) fun b=>Cl.get (aBin E .add 51 (.tmp 77) (.tmp 85)) a b)) fun p27=>
 M.bind (apartO (oS (T.get tm 3) fun a=>oS (some p0.1) fun b=>A9 E 179 a b)) fun p28=>
 M.pure (([p28.1,p27.1,p26.1,p25.1,p24.1,p23.1,p22.1,p21.1,p20.1,p19.1,p18.1,p17.1,p16.1,p15.1,p14.1,p13.1,p12.1,p11.1,p10.1,p9.1,p8.1,p7.1,p6.1,p5.1,p4.1,p3.1,p2.1,p1.1,p0.1],tm),[p28.2,p27.2,p26.2,p25.2,p24.2,p23.2,p22.2,p21.2,p20.2,p19.2,p18.2,p17.2,p16.2,p15.2,p14.2,p13.2,p12.2,p11.2,p10.2,p9.2,p8.2,p7.2,p6.2,p5.2,p4.2,p3.2,p2.2,p1.2,p0.2])
theorem Es_:DrawEq 146 89 Ci Io [0,0,2,6,14,0,32,0,224,480,0,1024,4064,8190,0,16384,49152,114688,262142,0,524768,0,3670496,7864800,0,16777216,66585056,134217726,268435455,536870911] RM:=⟨by kernel_rfl,by kernel_rfl,fun _ _ _ _ _ _ _ _ _=>by kernel_rfl⟩
theorem BG_ (E:Env)(call round:Aa)(x59 x60 x61 x62 x63 x64 x65 x66 x67 x68 x69 x70 x71 x72 x73 x74 x75 x76 x77 x78 x79 x80 x81 x82 x83 x84 x85 x86 x87:Value)(tm:T Value)(s:St):BM call round (CH E Ci 89 (hdC Io)) [x87,x86,x85,x84,x83,x82,x81,x80,x79,x78,x77,x76,x75,x74,x73,x72,x71,x70,x69,x68,x67,x66,x65,x64,x63,x62,x61,x60,x59] tm s=(M.bind (oS (some x87) fun a=>oS (some x86) fun b=>Bo E 51 a b) fun _=>M.pure tm) s:=by kernel_rfl
theorem Dy_: ∃k,Pj= .code .ret::k:=⟨Pj.tail,by kernel_rfl⟩
def Vi (E:Env)(call round:Aa)(tm:T Value):M (T Value):=
 mv (T.get tm 5) fun v49=>
 M.bind (oS (some v49) fun a=>oS (some (.int .i64 1)) fun b=>Cl.get (aBin E .add 3 (.tmp 49) (.const (.int .i64 1))) a b) fun v50=>
 mv (some v50) fun v5=>
 setF 5 v5 tm fun tm1=>
 M.pure tm1
theorem Oi_:RegEq 146 89 Ci Om Vi:=⟨by kernel_rfl,fun _ _ _ _ _ _ _ _ _=>by kernel_rfl⟩
def Rj:Nat:=BE Try.f147
def WO:Code:=Try.f147.body.getD .skip
theorem XI:envS.fn.get 147=some Try.f147:=by kernel_rfl
theorem UP_ {n:Nat}{s:St}{Q:Value→St→Prop}(h: ∀tm,W (runF envS n ⟨147,2,Rj,tm,[.code WO], .run, .normal,none⟩) (s.cxN cxN) fun p s1=>Q p.1 (s1.cxN s.cx)):W (AJ envS (runF envS n) 147 []) s Q:=
 W.call (by kernel_rfl) (by kernel_rfl) XI (by kernel_rfl) rfl rfl (by simp) (h _)
theorem EQ_:Try.f147.results.toList=[.cell 0 179]:=by kernel_rfl
def Qq:List Item:=skim 64 [.code WO]
def Lg:List Item:=skim 64 Qq.tail
theorem Pw_:skim 64 Qq.tail=Lg:=by kernel_rfl
def Oj:List Item:=skim 64 Lg.tail
theorem Dz_:skim 64 Lg.tail=Oj:=by kernel_rfl
def SY (E:Env)(call round:Aa)(tm:T Value):M (T Value):=
 M.bind (BH E 179) fun v0=>
 setF 0 v0 tm fun tm1=>
 M.pure tm1
theorem NB_:RegEq 147 2 Rj Qq SY:=⟨by kernel_rfl,fun _ _ _ _ _ _ _ _ _=>by kernel_rfl⟩
def Zn (E:Env)(call round:Aa)(tm:T Value):M (T Value):=
 M.bind (oS (seqP [(0,(some (.int .u32 1116352408))),(1,(some (.int .u32 1899447441))),(2,(some (.int .u32 3049323471))),(3,(some (.int .u32 3921009573))),(4,(some (.int .u32 961987163))),(5,(some (.int .u32 1508970993))),(6,(some (.int .u32 2453635748))),(7,(some (.int .u32 2870763221))),(8,(some (.int .u32 3624381080))),(9,(some (.int .u32 310598401))),(10,(some (.int .u32 607225278))),(11,(some (.int .u32 1426881987))),(12,(some (.int .u32 1925078388))),(13,(some (.int .u32 2162078206))),(14,(some (.int .u32 2614888103))),(15,(some (.int .u32 3248222580))),(16,(some (.int .u32 3835390401))),(17,(some (.int .u32 4022224774))),(18,(some (.int .u32 264347078))),(19,(some (.int .u32 604807628))),(20,(some (.int .u32 770255983))),(21,(some (.int .u32 1249150122))),(22,(some (.int .u32 1555081692))),(23,(some (.int .u32 1996064986))),(24,(some (.int .u32 2554220882))),(25,(some (.int .u32 2821834349))),(26,(some (.int .u32 2952996808))),(27,(some (.int .u32 3210313671))),(28,(some (.int .u32 3336571891))),(29,(some (.int .u32 3584528711))),(30,(some (.int .u32 113926993))),(31,(some (.int .u32 338241895))),(32,(some (.int .u32 666307205))),(33,(some (.int .u32 773529912))),(34,(some (.int .u32 1294757372))),(35,(some (.int .u32 1396182291))),(36,(some (.int .u32 1695183700))),(37,(some (.int .u32 1986661051))),(38,(some (.int .u32 2177026350))),(39,(some (.int .u32 2456956037))),(40,(some (.int .u32 2730485921))),(41,(some (.int .u32 2820302411))),(42,(some (.int .u32 3259730800))),(43,(some (.int .u32 3345764771))),(44,(some (.int .u32 3516065817))),(45,(some (.int .u32 3600352804))),(46,(some (.int .u32 4094571909))),(47,(some (.int .u32 275423344))),(48,(some (.int .u32 430227734))),(49,(some (.int .u32 506948616))),(50,(some (.int .u32 659060556))),(51,(some (.int .u32 883997877))),(52,(some (.int .u32 958139571))),(53,(some (.int .u32 1322822218))),(54,(some (.int .u32 1537002063))),(55,(some (.int .u32 1747873779))),(56,(some (.int .u32 1955562222))),(57,(some (.int .u32 2024104815))),(58,(some (.int .u32 2227730452))),(59,(some (.int .u32 2361852424))),(60,(some (.int .u32 2428436474))),(61,(some (.int .u32 2756734187))),(62,(some (.int .u32 3204031479))),(63,(some (.int .u32 3329325298)))]) fun ps=>Cn E 179 ps) fun v1=>
 M.bind (oS (T.get tm 0) fun a=>oS (some v1) fun b=>Bo E 179 a b) fun _=>
 M.pure tm
theorem QI_:RegEq 147 2 Rj Lg Zn:=⟨by kernel_rfl,fun _ _ _ _ _ _ _ _ _=>by kernel_rfl⟩
theorem OZ_: ∃k,Oj= .code .ret::k:=⟨Oj.tail,by kernel_rfl⟩
def Mo:Nat:=BE Try.f148
def Tl:Code:=Try.f148.body.getD .skip
theorem Wl:envS.fn.get 148=some Try.f148:=by kernel_rfl
theorem Jj_ {a0 a1:Value}{n:Nat}{s:St}{Q:Value→St→Prop}(h: ∀tm,T.get tm 0=some a0→T.get tm 1=some a1→W (runF envS n ⟨148,13,Mo,tm,[.code Tl], .run, .normal,none⟩) (s.cxN cxN) fun p s1=>Q p.1 (s1.cxN s.cx)):W (AJ envS (runF envS n) 148 [a0,a1]) s Q:=
 W.call (by kernel_rfl) (by kernel_rfl) Wl (by kernel_rfl) rfl rfl (by simp) (h _ (by kernel_rfl) (by kernel_rfl))
theorem IB_:Try.f148.results.toList=[.tmp 4]:=by kernel_rfl
def Rb:List Item:=skim 64 [.code Tl]
def Je:List Item:=skim 64 Rb.tail
theorem SI_:skim 64 Rb.tail=Je:=by kernel_rfl
def QX:List Item:=skim 64 Je.tail
theorem Kp_:skim 64 Je.tail=QX:=by kernel_rfl
def Vr (E:Env)(call round:Aa)(tm:T Value):M (T Value):=
 mv (some (.int .u32 0)) fun v4=>
 setF 4 v4 tm fun tm1=>
 M.pure tm1
theorem Kv_:RegEq 148 13 Mo Rb Vr:=⟨by kernel_rfl,fun _ _ _ _ _ _ _ _ _=>by kernel_rfl⟩
def RA (E:Env)(call round:Aa)(tm:T Value):M ((Rho×T Value)×List OpLog):=
 M.bind (apartO (oS (T.get tm 0) fun a=>M.pure a)) fun p0=>
 M.bind (apartO (oS (T.get tm 1) fun a=>M.pure a)) fun p1=>
 M.bind (apartO (oS (some p0.1) fun a=>oS (some p1.1) fun b=>Cl.get (aBin E .shr 51 (.tmp 5) (.tmp 6)) a b)) fun p2=>
 M.bind (apartO (oS (T.get tm 0) fun a=>M.pure a)) fun p3=>
 M.bind (apartO (oS (T.get tm 1) fun a=>M.pure a)) fun p4=>
 M.bind (apartO (oS (some (.int .i64 32)) fun a=>oS (some p4.1) fun b=>Cl.get (aBin E .sub 3 (.const (.int .i64 32)) (.tmp 9)) a b)) fun p5=>
 M.bind (apartO (oS (some p3.1) fun a=>oS (some p5.1) fun b=>Cl.get (aBin E .shl 51 (.tmp 8) (.tmp 10)) a b)) fun p6=>
 M.bind (apartO (oS (some p2.1) fun a=>oS (some p6.1) fun b=>Cl.get (aBin E .or 51 (.tmp 7) (.tmp 11)) a b)) fun p7=>
 M.pure (([p7.1,p6.1,p5.1,p4.1,p3.1,p2.1,p1.1,p0.1],tm),[p7.2,p6.2,p5.2,p4.2,p3.2,p2.2,p1.2,p0.2])
theorem GN_:DrawEq 148 13 Mo Je [0,0,3,0,0,16,56,127,255] RA:=⟨by kernel_rfl,by kernel_rfl,fun _ _ _ _ _ _ _ _ _=>by kernel_rfl⟩
theorem Gf_ (E:Env)(call round:Aa)(x5 x6 x7 x8 x9 x10 x11 x12:Value)(tm:T Value)(s:St):BM call round (CH E Mo 13 (hdC Je)) [x12,x11,x10,x9,x8,x7,x6,x5] tm s=(M.bind (oS (some x12) fun a=>M.pure a) fun v4=>setT 4 v4 tm fun tm1=>M.pure tm1) s:=by kernel_rfl
theorem IC_: ∃k,QX= .code .ret::k:=⟨QX.tail,by kernel_rfl⟩
theorem Nm_ {x k:Nat}:x>>>k|||x<<<(32-k)%4294967296=rot x k:=by
 unfold rot
 rw[Nat.shiftRight_eq_div_pow,Nat.shiftLeft_eq]
theorem Kz_ {k n x:Nat}(hk:k≤32)(hx:x<4294967296)(hn:10≤n)(s:St):AJ envS (runF envS n) 148 [.int .u32 (x:Nat), .int .i64 (k:Nat)] s= .some (.int .u32 (rot x k:Nat)) s:=by
 have h:W (AJ envS (runF envS n) 148 [.int .u32 (x:Nat), .int .i64 (k:Nat)]) s fun v s1=>v= .int .u32 (rot x k:Nat)∧s1=s:=by
  refine Jj_ fun tm h0 h1=> ?_
  refine Kv_.w rfl (by omega) ?_
  simp only[Vr,Ac,W_oS,W_on,Ab,W_mv,Ad,As,T.get_set,Ag,Af,Aq,Ap,Ae,Ak,reduceIte,An,Ar,Ay,AA,Av,Aw,Ax,Az,Au,Ao,Nat.reduceEqDiff,reduceCtorEq, ↓reduceIte]
  refine GN_.w SI_ (by omega) ?_
  have e32:wrap64 ((32:Int)-(k:Nat))=((32-k:Nat):Int):=by
   rw[BB (by omega) (by omega)];omega
  simp only[RA,T.get_set,Nat.reduceEqDiff, ↓reduceIte,h0,h1,Bq,Bh,Gf,e32]
  rw[Ph k rfl hk]
  simp only[Bq,Bh,Gf,e32]
  rw[K5 (32-k) rfl (by omega)]
  simp only[Bq,Bh,JO]
  rw[Nm_,Nat.mod_eq_of_lt (Bz x k hx),Ab]
  refine⟨Pz (by simp) (by simp), ?_⟩
  refine W.cast (Gf_ _ _ _ _ _ _ _ _ _ _ _ _ _) ?_
  simp only[Ac,W_oS,W_on,Ab,W_mv,Ad,As,T.get_set,Ag,Af,Aq,Ap,Ae,Ak,reduceIte,An,Ar,Ay,AA,Av,Aw,Ax,Az,Au,Ao,Nat.reduceEqDiff,reduceCtorEq, ↓reduceIte]
  refine W.end' (rs:=[4]) (vs:=[.int .u32 (rot x k:Nat)]) Kp_ (.inl IC_) (by omega) Wl IB_ rfl (by simp[T.get_set]) ?_
  exact⟨rfl,rfl⟩
 obtain⟨v,s1,e,rfl,rfl⟩:=h
 exact e
end Go.Proofs.Ytofanlcjeohcjaa.Am
end
