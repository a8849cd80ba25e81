import Derived.Test.YtofanlcjeohcjaaPPt15
import Derived.Test.YtofanlcjeohcjaaPPt08
import Derived.KernelRfl
import Derived.Test.YtofanlcjeohcjaaPPt23
noncomputable section
namespace Go.Proofs.Ytofanlcjeohcjaa.Am
open Go.RowKit
def DG:Nat:=BE Try.f3
abbrev PZ_:Nat:=62
def ZC:Code:=Try.f3.body.getD .skip
theorem Q9:envS.fn.get 3=some Try.f3:=by kernel_rfl
theorem AN_ {a0 a1:Value}{n:Nat}{s:St}{Q:Value→St→Prop}(h: ∀tm,T.get tm 0=some a0→T.get tm 1=some a1→W (runF envS n ⟨3,62,DG,tm,[.code ZC], .run, .normal,none⟩) (s.cxN cxN) fun p s1=>Q p.1 (s1.cxN s.cx)):W (AJ envS (runF envS n) 3 [a0,a1]) s Q:=
 W.call (by kernel_rfl) (by kernel_rfl) Q9 (by kernel_rfl) rfl rfl (by simp) (h _ (by kernel_rfl) (by kernel_rfl))
theorem Ya:Try.f3.results.toList=[.tmp 4]:=by kernel_rfl
def N8:List Item:=skim 64 [.code ZC]
def Ki:List Item:=skim 64 N8.tail
theorem RJ_:skim 64 N8.tail=Ki:=by kernel_rfl
def Gm:List Item:=skim 64 Ki.tail
theorem Tu:skim 64 Ki.tail=Gm:=by kernel_rfl
def Lf:List Item:=skim 64 (brT Gm)
theorem KM_:skim 64 (brT Gm)=Lf:=by kernel_rfl
def Ln:List Item:=skim 64 (brF Gm)
theorem NN_:skim 64 (brF Gm)=Ln:=by kernel_rfl
def O1:List Item:=skim 64 Lf.tail
theorem GA_:skim 64 Lf.tail=O1:=by kernel_rfl
def KA:List Item:=skim 64 Ln.tail
theorem SN_:skim 64 Ln.tail=KA:=by kernel_rfl
def KE:List Item:=skim 64 KA.tail
theorem Sa_:skim 64 KA.tail=KE:=by kernel_rfl
def Nb:List Item:=skim 64 KE.tail
theorem NY_:skim 64 KE.tail=Nb:=by kernel_rfl
def LN:List Item:=skim 64 Nb.tail
theorem CZ_:skim 64 Nb.tail=LN:=by kernel_rfl
def HW:List Item:=skim 64 LN.tail
theorem Rz:skim 64 LN.tail=HW:=by kernel_rfl
def OK:List Item:=skim 64 HW.tail
theorem Kx_:skim 64 HW.tail=OK:=by kernel_rfl
def Z1 (E:Env)(call round:Aa)(tm:T Value):M (T Value):=
 mv (some (.bool false)) fun v4=>
 setF 4 v4 tm fun tm1=>
 M.pure tm1
theorem Io_:RegEq 3 62 DG N8 Z1:=⟨by kernel_rfl,fun _ _ _ _ _ _ _ _ _=>by kernel_rfl⟩
def XO (E:Env)(call round:Aa)(tm:T Value):M (T Value):=
 mv (T.get tm 0) fun v13=>
 M.bind (oS (seqO [(some v13)]) fun l=>A6 E .len [22] l) fun v14=>
 M.bind (oS (some v14) fun a=>oS (some (.int .i64 1100)) fun b=>Cl.get (aBin E .gtr 3 (.tmp 14) (.const (.int .i64 1100))) a b) fun v15=>
 setF 15 v15 tm fun tm1=>
 M.pure tm1
theorem MK_:RegEq 3 62 DG Ki XO:=⟨by kernel_rfl,fun _ _ _ _ _ _ _ _ _=>by kernel_rfl⟩
theorem VH:BO Gm=some 15:=by kernel_rfl
def VQ (E:Env)(call round:Aa)(tm:T Value):M (T Value):=
 M.bind (M.on (some (.func (.func 15) #[] #[])) fun f=>M.on (seqO []) fun l=>Bi call round f l) fun v16=>
 mv (some v16) fun v4=>
 setF 4 v4 tm fun tm1=>
 M.pure tm1
theorem Gs_:RegEq 3 62 DG Lf VQ:=⟨by kernel_rfl,fun _ _ _ _ _ _ _ _ _=>by kernel_rfl⟩
def Tv (E:Env)(call round:Aa)(tm:T Value):M (T Value):=
 mv (T.get tm 0) fun v17=>
 M.bind (M.on (some (.func (.func 16) #[] #[])) fun f=>M.on (seqO [(some v17)]) fun l=>Bi call round f l) fun v18=>
 mv (some v18) fun v5=>
 setF 5 v5 tm fun tm1=>
 M.pure tm1
theorem Tt_:RegEq 3 62 DG Ln Tv:=⟨by kernel_rfl,fun _ _ _ _ _ _ _ _ _=>by kernel_rfl⟩
theorem Pa_: ∃k,O1= .code .ret::k:=⟨O1.tail,by kernel_rfl⟩
def RX (E:Env)(call round:Aa)(tm:T Value):M (T Value):=
 mv (T.get tm 5) fun v20=>
 M.bind (M.on (some (.func (.func 17) #[] #[])) fun f=>M.on (seqO [(some v20)]) fun l=>Bi call round f l) fun v21=>
 mv (some v21) fun v19=>
 M.bind (oS (some v19) fun a=>kExt 0 a) fun v22=>
 M.bind (oS (some v19) fun a=>kExt 1 a) fun v23=>
 M.bind (oS (some v19) fun a=>kExt 2 a) fun v24=>
 M.bind (BH E 26) fun v7=>
 setF 7 v7 tm fun tm1=>
 mv (some v22) fun v6=>
 setF 6 v6 tm1 fun tm2=>
 M.bind (oS (some v7) fun a=>oS (some v23) fun b=>Bo E 26 a b) fun _=>
 mv (some v24) fun v8=>
 setF 8 v8 tm2 fun tm3=>
 M.pure tm3
theorem EY_:RegEq 3 62 DG KA RX:=⟨by kernel_rfl,fun _ _ _ _ _ _ _ _ _=>by kernel_rfl⟩
def UH (E:Env)(call round:Aa)(tm:T Value):M (T Value):=
 mv (T.get tm 0) fun v26=>
 M.bind (M.on (some (.func (.func 18) #[] #[])) fun f=>M.on (seqO [(some v26)]) fun l=>Bi call round f l) fun v27=>
 mv (some v27) fun v25=>
 M.bind (oS (some v25) fun a=>kExt 0 a) fun v28=>
 M.bind (oS (some v25) fun a=>kExt 1 a) fun v29=>
 M.bind (oS (some v25) fun a=>kExt 2 a) fun v30=>
 M.bind (BH E 26) fun v10=>
 setF 10 v10 tm fun tm1=>
 mv (some v28) fun v9=>
 setF 9 v9 tm1 fun tm2=>
 M.bind (oS (some v10) fun a=>oS (some v29) fun b=>Bo E 26 a b) fun _=>
 mv (some v30) fun v11=>
 setF 11 v11 tm2 fun tm3=>
 M.pure tm3
theorem QN_:RegEq 3 62 DG KE UH:=⟨by kernel_rfl,fun _ _ _ _ _ _ _ _ _=>by kernel_rfl⟩
def Zr (E:Env)(call round:Aa)(tm:T Value):M (T Value):=
 mv (T.get tm 8) fun v31=>
 mv (T.get tm 11) fun v32=>
 M.bind (oS (some v31) fun a=>oS (some v32) fun b=>Cl.get (aBin E .eql 27 (.tmp 31) (.tmp 32)) a b) fun v33=>
 mv (some v33) fun v34=>
 M.bind (M.chk (isK v34) (M.if (isB v34 true) (oS (T.get tm 7) fun a=>A5 E 26 a) (M.pure undef))) fun v35=>
 M.bind (M.chk (isK v34) (M.if (isB v34 true) (oS (T.get tm 10) fun a=>A5 E 26 a) (M.pure undef))) fun v36=>
 M.bind (M.chk (isK v34) (M.if (isB v34 true) (oS (some v35) fun a=>oS (some v36) fun b=>Cl.get (aBin E .eql 26 (.tmp 35) (.tmp 36)) a b) (M.pure undef))) fun v37=>
 M.bind (M.on (some v34) fun a=>M.on (some v37) fun b=>M.on (some (.bool false)) fun c=>Cw a b c) fun v38=>
 mv (some v38) fun v39=>
 M.bind (M.chk (isK v39) (M.if (isB v39 true) (oS (T.get tm 6) fun a=>M.pure a) (M.pure undef))) fun v40=>
 M.bind (M.chk (isK v39) (M.if (isB v39 true) (oS (T.get tm 9) fun a=>M.pure a) (M.pure undef))) fun v41=>
 M.bind (M.chk (isK v39) (M.if (isB v39 true) (M.on (some (.func (.func 19) #[] #[])) fun f=>M.on (seqO [(some v40),(some v41)]) fun l=>Bi call round f l) (M.pure undef))) fun v42=>
 M.bind (M.on (some v39) fun a=>M.on (some v42) fun b=>M.on (some (.bool false)) fun c=>Cw a b c) fun v43=>
 mv (some v43) fun v44=>
 M.bind (M.chk (isK v44) (M.if (isB v44 true) (oS (T.get tm 1) fun a=>M.pure a) (M.pure undef))) fun v45=>
 M.bind (M.chk (isK v44) (M.if (isB v44 true) (M.on (some (.func (.func 20) #[] #[])) fun f=>M.on (seqO [(some v45)]) fun l=>Bi call round f l) (M.pure undef))) fun v46=>
 M.bind (M.chk (isK v44) (M.if (isB v44 true) (oS (T.get tm 1) fun a=>M.pure a) (M.pure undef))) fun v47=>
 M.bind (M.chk (isK v44) (M.if (isB v44 true) (M.on (some (.func (.func 21) #[] #[])) fun f=>M.on (seqO [(some v47)]) fun l=>Bi call round f l) (M.pure undef))) fun v48=>
 M.bind (M.chk (isK v44) (M.if (isB v44 true) (oS (some v46) fun a=>oS (some v48) fun b=>Cl.get (aBin E .eql 3 (.tmp 46) (.tmp 48)) a b) (M.pure undef))) fun v49=>
 M.bind (M.on (some v44) fun a=>M.on (some v49) fun b=>M.on (some (.bool false)) fun c=>Cw a b c) fun v50=>
 mv (some v50) fun v12=>
 setF 12 v12 tm fun tm1=>
 M.pure tm1
theorem Wh_:RegEq 3 62 DG Nb Zr:=⟨by kernel_rfl,fun _ _ _ _ _ _ _ _ _=>by kernel_rfl⟩
def WZ (E:Env)(call round:Aa)(tm:T Value):M (T Value):=
 mv (T.get tm 6) fun v51=>
 M.bind (M.on (some (.func (.func 22) #[] #[])) fun f=>M.on (seqO [(some v51)]) fun l=>Bi call round f l) fun v52=>
 M.pure tm
theorem Fi_:RegEq 3 62 DG LN WZ:=⟨by kernel_rfl,fun _ _ _ _ _ _ _ _ _=>by kernel_rfl⟩
def X9 (E:Env)(call round:Aa)(tm:T Value):M (T Value):=
 mv (T.get tm 12) fun v53=>
 mv (some v53) fun v54=>
 M.bind (M.chk (isK v54) (M.if (isB v54 true) (oS (T.get tm 5) fun a=>M.pure a) (M.pure undef))) fun v55=>
 M.bind (M.chk (isK v54) (M.if (isB v54 true) (oS (T.get tm 0) fun a=>M.pure a) (M.pure undef))) fun v56=>
 M.bind (M.chk (isK v54) (M.if (isB v54 true) (M.on (some (.func (.func 23) #[] #[])) fun f=>M.on (seqO [(some v55),(some v56)]) fun l=>Bi call round f l) (M.pure undef))) fun v57=>
 M.bind (M.on (some v54) fun a=>M.on (some v57) fun b=>M.on (some (.bool false)) fun c=>Cw a b c) fun v58=>
 mv (some v58) fun v59=>
 M.bind (M.chk (isK v59) (M.if (isB v59 true) (M.on (some (.func (.func 15) #[] #[])) fun f=>M.on (seqO []) fun l=>Bi call round f l) (M.pure undef))) fun v60=>
 M.bind (M.on (some v59) fun a=>M.on (some v60) fun b=>M.on (some (.bool false)) fun c=>Cw a b c) fun v61=>
 mv (some v61) fun v4=>
 setF 4 v4 tm fun tm1=>
 M.pure tm1
theorem RF_:RegEq 3 62 DG HW X9:=⟨by kernel_rfl,fun _ _ _ _ _ _ _ _ _=>by kernel_rfl⟩
theorem IO_: ∃k,OK= .code .ret::k:=⟨OK.tail,by kernel_rfl⟩
theorem Uf:envS.orc.get 15=some (Hf (.bool true)):=by kernel_rfl
theorem Va_:arrB envS.P 26=some 16:=by kernel_rfl
theorem LF_ {n:Nat}{y:Int}{v:Value}{b:List Nat}{s:St}(hbd:s.lim≤s.next)(hbs:Bs s v b)(hlt: ∀x,BsF v x→x<s.next)(hby:Byt b)(hn:300000≤n):W (AJ envS (runF envS n) 3 [v, .int .i64 y]) s fun u _=>u= .bool true:=by
 refine AN_ fun tm h0 h1=> ?_
 have hb0:(s.cxN cxN).lim≤(s.cxN cxN).next:=hbd
 have hB:Bs (s.cxN cxN) v b:=hbs.same rfl rfl
 refine Io_.w rfl (by omega) ?_
 simp only[Z1,Ac,W_oS,W_on,Ab,W_mv,Ad,As,T.get_set,Ag,Af,Aq,Ap,Ae,Ak,reduceIte,An,Ar,Ay,AA,Av,Aw,Ax,Az,Au,Ao,Nat.reduceEqDiff,reduceCtorEq, ↓reduceIte]
 refine MK_.w RJ_ (by omega) ?_
 simp only[XO,Ac,W_oS,W_on,Ab,W_mv,Ad,As,T.get_set,Ag,Af,Aq,Ap,Ae,Ak,reduceIte,An,Ar,Ay,AA,Av,Aw,Ax,Az,Au,Ao,Nat.reduceEqDiff,reduceCtorEq, ↓reduceIte,A7,Bd,A8,Bc,Bm,Bj,Bg,Bk,h0]
 rw[hB.len BA]
 simp only[Ac,W_oS,W_on,Ab,W_mv,Ad,As,T.get_set,Ag,Af,Aq,Ap,Ae,Ak,reduceIte,An,Ar,Ay,AA,Av,Aw,Ax,Az,Au,Ao,Nat.reduceEqDiff,reduceCtorEq, ↓reduceIte,A7,Bd,A8,Bc,Bm,Bj,Bg,Bk]
 by_cases hz:1100<b.length
 ·refine W.cond (v:=true) Tu VH (by simp[T.get_set];omega) (by omega) (fun _=> ?_) fun h=>by cases h
  refine Gs_.w KM_ (by omega) ?_
  simp only[VQ,Ac,W_oS,W_on,Ab,W_mv,Ad,As,T.get_set,Ag,Af,Aq,Ap,Ae,Ak,reduceIte,An,Ar,Ay,AA,Av,Aw,Ax,Az,Au,Ao,Nat.reduceEqDiff,reduceCtorEq, ↓reduceIte]
  refine W.orc Uf (W.pure ?_)
  try simp only[Ac,W_oS,W_on,Ab,W_mv,Ad,As,T.get_set,Ag,Af,Aq,Ap,Ae,Ak,reduceIte,An,Ar,Ay,AA,Av,Aw,Ax,Az,Au,Ao,Nat.reduceEqDiff,reduceCtorEq, ↓reduceIte]
  exact W.end' (rs:=[4]) (vs:=[.bool true]) GA_ (.inl Pa_) (by omega) Q9 Ya rfl (by simp[T.get_set]) rfl
 refine W.cond (v:=false) Tu VH (by simp[T.get_set];omega) (by omega) (fun h=>by cases h) fun _=> ?_
 refine Tt_.w NN_ (by omega) ?_
 simp only[Tv,Ac,W_oS,W_on,Ab,W_mv,Ad,As,T.get_set,Ag,Af,Aq,Ap,Ae,Ak,reduceIte,An,Ar,Ay,AA,Av,Aw,Ax,Az,Au,Ao,Nat.reduceEqDiff,reduceCtorEq, ↓reduceIte,h0]
 refine XK hb0 hB (by omega) (by omega) fun s1 x1 o1 l1=> ?_
 have o1:Ah s1 s.next 0 (u8l (CF b)):=o1
 have l1:s.next+b.length+3≤s1.next:=l1
 have y1:Ext Any Non (s.cxN cxN) s1:=x1
 have b1:=y1.bnd hb0
 refine EY_.w SN_ (by omega) ?_
 simp only[RX,Ac,W_oS,W_on,Ab,W_mv,Ad,As,T.get_set,Ag,Af,Aq,Ap,Ae,Ak,reduceIte,An,Ar,Ay,AA,Av,Aw,Ax,Az,Au,Ao,Nat.reduceEqDiff,reduceCtorEq, ↓reduceIte]
 have hU:b.length+3<capU:=Bt (by omega)
 have hlv:Bs s1 (.slice (some ⟨s.next,0,none⟩) b.length (b.length+3)) b:= .inr ⟨s.next,0,b.length+3,rfl,by rw[Nat.mod_eq_of_lt hU];omega,D3 hU,fun i u e=>(o1 i u (by
  unfold CF u8l
  rw[List.map_append,List.getElem?_append_left (List.getElem?_eq_some_iff.1 e).1]
  exact e)).at'⟩
 refine W.mono (Wm_ b1 hlv (fun x hx=>by have h1:x<s.next+0+b.length:=hx.2;omega) hby (by omega)) ?_
 rintro _ s2 ⟨x,rfl,x2,hX⟩
 generalize hr:putR b=R at *
 obtain⟨r,id,e⟩:=R
 have hid:id.length=16:=by have:=Kk_ b;rw[hr]at this;exact this
 have y2:=y1.then0 x2 hb0
 have n2:=x2.nxt
 rw[Hc (k:=0) rfl,Hc (k:=1) rfl,Hc (k:=2) rfl]
 try simp only[Ac,W_oS,W_on,Ab,W_mv,Ad,As,T.get_set,Ag,Af,Aq,Ap,Ae,Ak,reduceIte,An,Ar,Ay,AA,Av,Aw,Ax,Az,Au,Ao,Nat.reduceEqDiff,reduceCtorEq, ↓reduceIte]
 refine W.alloc El fun s3 n3 x3 o3=> ?_
 have n3':s3.next=s2.next+17:=n3
 have y3:=y2.then0 x3 hb0
 refine W.store Cg (by rw[Cd,Be,hid]) (by rw[Cd];exact BY _) (fun j hj=>Ah.owned o3 j (by simpa using hj)) fun s4 n4 x4 o4=> ?_
 rw[Cd]at o4
 have n4':s4.next=s3.next:=n4
 have hns:s.next≤s2.next:=y2.nxt
 have y4:=y3.thenW x4 hb0 (by show s.next≤s2.next;omega)
 refine QN_.w Sa_ (by omega) ?_
 simp only[UH,Ac,W_oS,W_on,Ab,W_mv,Ad,As,T.get_set,Ag,Af,Aq,Ap,Ae,Ak,reduceIte,An,Ar,Ay,AA,Av,Aw,Ax,Az,Au,Ao,Nat.reduceEqDiff,reduceCtorEq, ↓reduceIte,h0]
 refine W.mono (RA_ (y4.bnd hb0) (hB.ext0 y4) (fun x hx=>by have:=hlt x hx;omega) hby (by omega)) ?_
 rintro _ s5 ⟨z,rfl,x5,hZ⟩
 rw[hr]at hZ ⊢
 have y5:=y4.then0 x5 hb0
 have n5:=x5.nxt
 rw[Hc (k:=0) rfl,Hc (k:=1) rfl,Hc (k:=2) rfl]
 try simp only[Ac,W_oS,W_on,Ab,W_mv,Ad,As,T.get_set,Ag,Af,Aq,Ap,Ae,Ak,reduceIte,An,Ar,Ay,AA,Av,Aw,Ax,Az,Au,Ao,Nat.reduceEqDiff,reduceCtorEq, ↓reduceIte]
 refine W.alloc El fun s6 n6 x6 o6=> ?_
 have n6':s6.next=s5.next+17:=n6
 have y6:=y5.then0 x6 hb0
 refine W.store Cg (by rw[Cd,Be,hid]) (by rw[Cd];exact BY _) (fun j hj=>Ah.owned o6 j (by simpa using hj)) fun s7 n7 x7 o7=> ?_
 rw[Cd]at o7
 have n7':s7.next=s6.next:=n7
 have y7:=y6.thenW x7 hb0 (by show s.next≤s5.next;omega)
 have hX7:NoMk s7 x r s1.next s2.next:=((((hX.ext x3 fun _ _ _ h=>h).ext x4 fun q _ hq h=>by have:=h.1;omega).ext x5 fun _ _ _ h=>h).ext x6 fun _ _ _ h=>h).ext x7 fun q _ hq h=>by have:=h.1;omega
 have hZ7:Bs s7 z r:=(hZ.ext0 x6).ext x7 fun q hq h=>by
  have h1:=h.1
  have h2:=hZ.lt' q hq
  omega
 have o4':Ah s7 s2.next 0 (u8l id):=fun i u e=>by
  have hi:i<(u8l id).length:=(List.getElem?_eq_some_iff.1 e).1
  rw[Be,hid]at hi
  exact((((o4 i u e).ext0 x5).ext0 x6).ext x7 fun h=>by have:=h.1;omega)
 have oL:Ah s7 s.next 0 (u8l (CF b)):=fun i u e=>by
  have hi:i<(u8l (CF b)).length:=(List.getElem?_eq_some_iff.1 e).1
  rw[Be,IW]at hi
  exact((((((o1 i u e).ext0 x2).ext0 x3).ext x4 fun h=>by have:=h.1;omega).ext0 x5).ext0 x6).ext x7 fun h=>by have:=h.1;omega
 refine Wh_.w NY_ (by omega) ?_
 simp only[Zr,Ac,W_oS,W_on,Ab,W_mv,Ad,As,T.get_set,Ag,Af,Aq,Ap,Ae,Ak,reduceIte,An,Ar,Ay,AA,Av,Aw,Ax,Az,Au,Ao,Nat.reduceEqDiff,reduceCtorEq, ↓reduceIte,A7,Bd,A8,Bc,Bm,Bj,Bg,Bk,h1,decide_true,An,Ar]
 refine W.loadA Cg o4'.row (by rw[Be,hid]) fun s8 m8 n8 x8=> ?_
 refine W.loadA Cg (l:=u8l id) (fun i u e=>((o7 i u e).same m8 n8).at') (by rw[Be,hid]) fun s9 m9 n9 x9=> ?_
 rw[Rf_ Va_ hid hid]
 simp only[Ac,W_oS,W_on,Ab,W_mv,Ad,As,T.get_set,Ag,Af,Aq,Ap,Ae,Ak,reduceIte,An,Ar,Ay,AA,Av,Aw,Ax,Az,Au,Ao,Nat.reduceEqDiff,reduceCtorEq, ↓reduceIte,decide_true,An,Ar]
 have m79:s9.mem=s7.mem:=m9.trans m8
 have n79:s9.next=s7.next:=n9.trans n8
 have y9:=(y7.then0 x8 hb0).then0 x9 hb0
 refine Vb (y9.bnd hb0) (hX7.bs.same m79 n79) (hZ7.same m79 n79) (by omega) fun s10 x10 m10 n10=> ?_
 have y10:=y9.then0 x10 hb0
 simp only[Ac,W_oS,W_on,Ab,W_mv,Ad,As,T.get_set,Ag,Af,Aq,Ap,Ae,Ak,reduceIte,An,Ar,Ay,AA,Av,Aw,Ax,Az,Au,Ao,Nat.reduceEqDiff,reduceCtorEq, ↓reduceIte,decide_true,An,Ar]
 refine UN_ _ (by omega) ?_
 try simp only[Ac,W_oS,W_on,Ab,W_mv,Ad,As,T.get_set,Ag,Af,Aq,Ap,Ae,Ak,reduceIte,An,Ar,Ay,AA,Av,Aw,Ax,Az,Au,Ao,Nat.reduceEqDiff,reduceCtorEq, ↓reduceIte]
 refine JW_ _ (by omega) ?_
 simp only[Ac,W_oS,W_on,Ab,W_mv,Ad,As,T.get_set,Ag,Af,Aq,Ap,Ae,Ak,reduceIte,An,Ar,Ay,AA,Av,Aw,Ax,Az,Au,Ao,Nat.reduceEqDiff,reduceCtorEq, ↓reduceIte,A7,Bd,A8,Bc,Bm,Bj,Bg,Bk,decide_true,An,Ar]
 have m7a:s10.mem=s7.mem:=m10.trans m79
 have n7a:s10.next=s7.next:=n10.trans n79
 refine Fi_.w CZ_ (by omega) ?_
 simp only[WZ,Ac,W_oS,W_on,Ab,W_mv,Ad,As,T.get_set,Ag,Af,Aq,Ap,Ae,Ak,reduceIte,An,Ar,Ay,AA,Av,Aw,Ax,Az,Au,Ao,Nat.reduceEqDiff,reduceCtorEq, ↓reduceIte]
 have hXa:NoMk s10 x r s1.next s2.next:=by
  rcases hX7 with h|⟨nb,h,h1,h2,h3,h4⟩
  ·exact .inl h
  ·exact .inr ⟨nb,h.same m7a n7a,h1,h2,h3,h4⟩
 have hBa:Bs s10 v b:=hB.ext0 y10
 have oLa:Ah s10 s.next 0 (u8l (CF b)):=fun i u e=>(oL i u e).same m7a n7a
 have tail: ∀s11:St,s11.lim≤s11.next→s11.cx=cxN→Bs s11 v b→Ah s11 s.next 0 (u8l (CF b))→ ∀(n':Nat) (tm':T Value) (td:List Item),200≤n'→skim 64 td=HW→T.get tm' 0=some v→T.get tm' 5=some (.slice (some ⟨s.next,0,none⟩) b.length (b.length+3))→T.get tm' 12=some (.bool true)→
   W (runF envS n' ⟨3,PZ_,DG,tm',td, .run, .normal,none⟩) s11 fun p s1=>(fun(u:Value) (_:St)=>u= .bool true) p.1 (s1.cxN s.cx):=by
  intro s11 hb11 hcx hv11 ho11 n' tm' td hn' hT g0 g5 g12
  refine RF_.w hT (by omega) ?_
  simp only[X9,Ac,W_oS,W_on,Ab,W_mv,Ad,As,T.get_set,Ag,Af,Aq,Ap,Ae,Ak,reduceIte,An,Ar,Ay,AA,Av,Aw,Ax,Az,Au,Ao,Nat.reduceEqDiff,reduceCtorEq, ↓reduceIte,g0,g5,g12,An,Ar]
  refine DA_ hb11 hv11 (by omega) ho11.row (by omega) fun s12 x12=> ?_
  simp only[Ac,W_oS,W_on,Ab,W_mv,Ad,As,T.get_set,Ag,Af,Aq,Ap,Ae,Ak,reduceIte,An,Ar,Ay,AA,Av,Aw,Ax,Az,Au,Ao,Nat.reduceEqDiff,reduceCtorEq, ↓reduceIte,An,Ar]
  refine W.orc Uf (W.pure ?_)
  try simp only[Ac,W_oS,W_on,Ab,W_mv,Ad,As,T.get_set,Ag,Af,Aq,Ap,Ae,Ak,reduceIte,An,Ar,Ay,AA,Av,Aw,Ax,Az,Au,Ao,Nat.reduceEqDiff,reduceCtorEq, ↓reduceIte,An,Ar]
  exact W.end' (rs:=[4]) (vs:=[.bool true]) Kx_ (.inl IO_) (by omega) Q9 Ya (x12.cx.trans hcx) (by simp[T.get_set]) rfl
 rcases hXa with⟨rfl,_⟩|⟨nb,h,h2,h3,h4,h5⟩
 ·refine W.orc (m:=En) (by kernel_rfl) (W.pure ?_)
  try simp only[Ac,W_oS,W_on,Ab,W_mv,Ad,As,T.get_set,Ag,Af,Aq,Ap,Ae,Ak,reduceIte,An,Ar,Ay,AA,Av,Aw,Ax,Az,Au,Ao,Nat.reduceEqDiff,reduceCtorEq, ↓reduceIte]
  exact tail s10 (y10.bnd hb0) y10.cx hBa oLa _ _ _ (by omega) Rz (by simp[T.get_set,h0]) (by simp[T.get_set];rfl) (by simp[T.get_set])
 ·refine KY_ (y10.bnd hb0) h h2 (by omega) fun s11 x11=> ?_
  try simp only[Ac,W_oS,W_on,Ab,W_mv,Ad,As,T.get_set,Ag,Af,Aq,Ap,Ae,Ak,reduceIte,An,Ar,Ay,AA,Av,Aw,Ax,Az,Au,Ao,Nat.reduceEqDiff,reduceCtorEq, ↓reduceIte]
  refine tail s11 (x11.bnd (y10.bnd hb0)) (x11.cx.trans y10.cx) (hBa.ext x11 fun q hq h=> ?_) (fun i u e=>(oLa i u e).ext x11 fun h=> ?_) _ _ _ (by omega) Rz (by simp[T.get_set,h0]) (by simp[T.get_set];rfl) (by simp[T.get_set])
  ·have h6:=h.1
   have h7:=hlt q hq
   omega
  ·have hi:i<(u8l (CF b)).length:=(List.getElem?_eq_some_iff.1 e).1
   rw[Be,IW]at hi
   have h6:=h.1
   omega
open Go.RowKit Go.ChangeShapes Go.WideShapes
attribute [local irreducible] Bv
theorem BB_ {P:Program}{N F:Nat}{s:St}{t e:TypeId}{us:List Value}(ht:P.underlying t=some (.slice e))(he:P.underlying e=some (.int .u8))(hc:P.cellsOf e=1)(h:Bv P N s (F+2) t us): ∃v l,us=[v]∧Bs s v l∧Byt l∧l.length≤N:=by
 obtain⟨v,es,rfl,hE,_,hN,ha⟩:=Bv.slice ht (by rw[hc];decide) h
 have h1: ∀i,i<es.length→ ∃n:Nat,n<256∧es[i]?=some [.int .u8 (n:Nat)]:=fun i hi=>by
  obtain⟨_,hx⟩:=ha _ (List.getElem_mem hi)
  obtain⟨n,e1,e2⟩:=hx.int' he
  have h2:(0:Int)≤n∧n≤255:=by
   have e3:(decide ((0:Int)≤n)&&decide (n≤(255:Int)))=true:=e2
   rw[Bool.and_eq_true]at e3
   exact⟨of_decide_eq_true e3.1,of_decide_eq_true e3.2⟩
  exact⟨n.toNat,by omega,by rw[List.getElem?_eq_getElem hi,e1,Int.toNat_of_nonneg h2.1]⟩
 obtain⟨l,hl,hp⟩:=Ag_ h1
 refine⟨v,l,rfl, ?_,fun x hx=> ?_,by omega⟩
 ·rcases hE with⟨rfl,rfl⟩|⟨b,c,rfl,hc1,hc2,hr⟩
  ·exact .inl ⟨rfl,List.eq_nil_of_length_eq_zero hl⟩
  ·rw[hc]at hc2 hr
   refine .inr ⟨b,0,c,by rw[hl],by rw[hl];exact hc1,hc2,fun i x e=> ?_⟩
   obtain⟨n,e1,rfl⟩: ∃n,l[i]?=some n∧Value.int .u8 (n:Nat)=x:=by
    rw[List.getElem?_map]at e
    exact Option.map_eq_some_iff.1 e
   have:=hr i _ (hp i n e1).2 0 _ rfl
   rw[Nat.mul_one]at this
   rw[Nat.zero_add]
   exact this
 ·obtain⟨i,hi⟩:=List.getElem?_of_mem hx
  exact(hp i x hi).1
theorem EK_:envS.P=Try.prog:=by kernel_rfl
theorem RH:Try.f3.params.toList=[22,3]:=by kernel_rfl
theorem Po_:Try.prog.underlying 22=some (.slice 5):=by kernel_rfl
theorem KW_:Try.prog.underlying 5=some (.int .u8):=by kernel_rfl
theorem VJ_:Try.prog.underlying 3=some (.int .i64):=by kernel_rfl
theorem DH_:Try.prog.cellsOf 5=1:=by kernel_rfl
theorem PH_:aggT Try.prog 22=false:=by kernel_rfl
theorem Rq_:aggT Try.prog 3=false:=by kernel_rfl
theorem Ps_:envS.orc.get 3=none:=by kernel_rfl
theorem Uo_:envS.ext.get 3=none:=by kernel_rfl
theorem Cr_:[22,3].all (DM Try.prog 8)=true:=by kernel_rfl
set_option maxRecDepth 1000000 in
theorem walkPuts {H:Type}{enc:TypeId×Value→H}{w:World}{base:Nat}{args:Array Value}{ds:List (DataW H)}{ps:List MemPlace}(hA:DataW.TrodAll enc Try.prog w 0 (fun _=>true) true Try.f3.params.toList args.toList ds ps)
  (hv: ∀(j:Nat) t v,Try.f3.params[j]?=some t→args[j]?=some v→Value.okWide Try.prog w .any base t v):Calls Try.prog 3 args w fun e w'=>e= .returned (.bool true)∧Below w.heap.size w w':=by
 have hv': ∀(j:Nat) t v,[22,3][j]?=some t→args.toList[j]?=some v→Value.okWide Try.prog w .any base t v:=fun j t v e1 e2=>by
  rw[←RH]at e1
  rw[Array.getElem?_toList]at e1 e2
  exact hv j t v e1 e2
 rw[RH]at hA
 have hE:envS.P=Try.prog:=EK_
 have h:=Uw_ (E:=envS) (fuel:=300000) (f:=3) (F:=8) (N:=maxLen) (v:= .bool true) (ts:=[22,3]) Kt_ Ps_ Uo_ rfl (by rw[hE];exact hA) (by rw[hE];exact hv') (by rw[hE];exact Cr_) (.inl (Nat.le_refl _)) (fun m nx us hus hu=>by
  rw[hE]at hu
  match us,hus,hu with
  |[u0,u1],_,hu=>
   have k0:=(hu 0 _ u0 rfl rfl).one PH_
   have k1:=(hu 1 _ u1 rfl rfl).one Rq_
   obtain⟨v,b,e0,hB,hby,_⟩:=BB_ Po_ KW_ DH_ k0
   obtain⟨y,e1,_⟩:=k1.int' VJ_
   cases e0
   cases e1
   exact LF_ (Nat.zero_le _) hB hB.lt' hby (by omega))
 rw[hE]at h
 exact h
end Go.Proofs.Ytofanlcjeohcjaa.Am
end
