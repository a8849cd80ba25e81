import Derived.Test.YtofanlcjeohcjaaMt14
import Derived.Test.YtofanlcjeohcjaaMt07
import Derived.KernelRfl
noncomputable section
namespace Go.Proofs.Ytofanlcjeohcjaa.Am
open Go.RowKit
def PX:Nat:=BB Try.f105
def TP:Code:=Try.f105.body.getD .skip
theorem Cs_:envS.fn.get 105=some Try.f105:=by kernel_rfl
theorem Ed_ {a0:Value}{n:Nat}{s:St}{Q:Value→St→Prop}(h: ∀tm,T.get tm 0=some a0→W (runF envS n ⟨105,5,PX,tm,[.code TP], .run, .normal,none⟩) (s.cxN cxN) fun p s1=>Q p.1 (s1.cxN s.cx)):W (Au envS (runF envS n) 105 [a0]) s Q:=
 W.call (by kernel_rfl) (by kernel_rfl) Cs_ (by kernel_rfl) rfl rfl (by simp) (h _ (by kernel_rfl))
theorem HF_:Try.f105.results.toList=[.tmp 2]:=by kernel_rfl
def Ri:List Item:=skim 64 [.code TP]
def MU:List Item:=skim 64 Ri.tail
theorem Gu_:skim 64 Ri.tail=MU:=by kernel_rfl
def Sz:List Item:=skim 64 MU.tail
theorem FK_:skim 64 MU.tail=Sz:=by kernel_rfl
def TQ (E:Env)(call round:Ab)(tm:T Value):M (T Value):=
 mv (some (.int .u32 0)) fun v2=>
 setF 2 v2 tm fun tm1=>
 M.pure tm1
theorem Hm_:RegEq 105 5 PX Ri TQ:=⟨by kernel_rfl,fun _ _ _ _ _ _ _ _ _=>by kernel_rfl⟩
def Uh (E:Env)(call round:Ab)(tm:T Value):M (T Value):=
 mv (T.get tm 0) fun v3=>
 M.bind (M.on (some (.func (.func 130) #[] #[])) fun f=>M.on (seqO [(some (.int .u32 0)),(some v3)]) fun l=>AZ call round f l) fun v4=>
 mv (some v4) fun v2=>
 setF 2 v2 tm fun tm1=>
 M.pure tm1
theorem DQ_:RegEq 105 5 PX MU Uh:=⟨by kernel_rfl,fun _ _ _ _ _ _ _ _ _=>by kernel_rfl⟩
theorem PP_: ∃k,Sz= .code .ret::k:=⟨Sz.tail,by kernel_rfl⟩
def Ni:Nat:=BB Try.f64
def VS:Code:=Try.f64.body.getD .skip
theorem WN:envS.fn.get 64=some Try.f64:=by kernel_rfl
theorem GD_ {a0:Value}{n:Nat}{s:St}{Q:Value→St→Prop}(h: ∀tm,T.get tm 0=some a0→W (runF envS n ⟨64,21,Ni,tm,[.code VS], .run, .normal,none⟩) (s.cxN cxN) fun p s1=>Q p.1 (s1.cxN s.cx)):W (Au envS (runF envS n) 64 [a0]) s Q:=
 W.call (by kernel_rfl) (by kernel_rfl) WN (by kernel_rfl) rfl rfl (by simp) (h _ (by kernel_rfl))
theorem OH_:Try.f64.results.toList=[.tmp 2]:=by kernel_rfl
def Se:List Item:=skim 64 [.code VS]
def MY:List Item:=skim 64 Se.tail
theorem Oa_:skim 64 Se.tail=MY:=by kernel_rfl
def KC:List Item:=skim 64 MY.tail
theorem NF_:skim 64 MY.tail=KC:=by kernel_rfl
def OK:List Item:=skim 64 KC.tail
theorem RV_:skim 64 KC.tail=OK:=by kernel_rfl
def XZ (E:Env)(call round:Ab)(tm:T Value):M (T Value):=
 mv (some (.slice none 0 0)) fun v2=>
 setF 2 v2 tm fun tm1=>
 M.pure tm1
theorem MZ_:RegEq 64 21 Ni Se XZ:=⟨by kernel_rfl,fun _ _ _ _ _ _ _ _ _=>by kernel_rfl⟩
def Wo (E:Env)(call round:Ab)(tm:T Value):M (T Value):=
 mv (T.get tm 0) fun v4=>
 M.bind (M.on (some (.func (.func 105) #[] #[])) fun f=>M.on (seqO [(some v4)]) fun l=>AZ call round f l) fun v5=>
 mv (some v5) fun v3=>
 setF 3 v3 tm fun tm1=>
 M.pure tm1
theorem Or_:RegEq 64 21 Ni MY Wo:=⟨by kernel_rfl,fun _ _ _ _ _ _ _ _ _=>by kernel_rfl⟩
def Y6 (E:Env)(call round:Ab)(tm:T Value):M (T Value):=
 mv (T.get tm 0) fun v6=>
 mv (T.get tm 3) fun v7=>
 M.bind (oS (some v7) fun a=>BV E 51 5 a) fun v8=>
 mv (T.get tm 3) fun v9=>
 M.bind (oS (some v9) fun a=>oS (some (.int .u64 8)) fun b=>Cl.get (aBin E .shr 51 (.tmp 9) (.const (.int .u64 8))) a b) fun v10=>
 M.bind (oS (some v10) fun a=>BV E 51 5 a) fun v11=>
 mv (T.get tm 3) fun v12=>
 M.bind (oS (some v12) fun a=>oS (some (.int .u64 16)) fun b=>Cl.get (aBin E .shr 51 (.tmp 12) (.const (.int .u64 16))) a b) fun v13=>
 M.bind (oS (some v13) fun a=>BV E 51 5 a) fun v14=>
 mv (T.get tm 3) fun v15=>
 M.bind (oS (some v15) fun a=>oS (some (.int .u64 24)) fun b=>Cl.get (aBin E .shr 51 (.tmp 15) (.const (.int .u64 24))) a b) fun v16=>
 M.bind (oS (some v16) fun a=>BV E 51 5 a) fun v17=>
 M.bind (oS (seqP [(0,(some v8)),(1,(some v11)),(2,(some v14)),(3,(some v17))]) fun ps=>Cf E 22 4 ps) fun v18=>
 M.bind (oS (seqP [(0,(some v6)),(1,(some v18))]) fun ps=>Cf E 43 2 ps) fun v19=>
 M.bind (M.on (some (.func (.func 63) #[] #[])) fun f=>M.on (seqO [(some v19)]) fun l=>AZ call round f l) fun v20=>
 mv (some v20) fun v2=>
 setF 2 v2 tm fun tm1=>
 M.pure tm1
theorem Rq_:RegEq 64 21 Ni KC Y6:=⟨by kernel_rfl,fun _ _ _ _ _ _ _ _ _=>by kernel_rfl⟩
theorem LB_: ∃k,OK= .code .ret::k:=⟨OK.tail,by kernel_rfl⟩
def Gt:Nat:=BB Try.f81
def Te:Code:=Try.f81.body.getD .skip
theorem JS:envS.fn.get 81=some Try.f81:=by kernel_rfl
theorem GO_ {a0:Value}{n:Nat}{s:St}{Q:Value→St→Prop}(h: ∀tm,T.get tm 0=some a0→W (runF envS n ⟨81,23,Gt,tm,[.code Te], .run, .normal,none⟩) (s.cxN cxN) fun p s1=>Q p.1 (s1.cxN s.cx)):W (Au envS (runF envS n) 81 [a0]) s Q:=
 W.call (by kernel_rfl) (by kernel_rfl) JS (by kernel_rfl) rfl rfl (by simp) (h _ (by kernel_rfl))
theorem PJ:Try.f81.results.toList=[.tmp 2, .tmp 3]:=by kernel_rfl
def Pv:List Item:=skim 64 [.code Te]
def LG:List Item:=skim 64 Pv.tail
theorem Ml_:skim 64 Pv.tail=LG:=by kernel_rfl
def MZ:List Item:=skim 64 LG.tail
theorem SZ_:skim 64 LG.tail=MZ:=by kernel_rfl
def Ho:List Item:=skim 64 MZ.tail
theorem PB:skim 64 MZ.tail=Ho:=by kernel_rfl
def NO:List Item:=skim 64 (brT Ho)
theorem SR:skim 64 (brT Ho)=NO:=by kernel_rfl
def LY:List Item:=skim 64 (brF Ho)
theorem Jp_:skim 64 (brF Ho)=LY:=by kernel_rfl
def R7:List Item:=skim 64 NO.tail
theorem UD:skim 64 NO.tail=R7:=by kernel_rfl
def RC:List Item:=skim 64 LY.tail
theorem Ug_:skim 64 LY.tail=RC:=by kernel_rfl
def Xv (E:Env)(call round:Ab)(tm:T Value):M (T Value):=
 mv (some (.slice none 0 0)) fun v2=>
 setF 2 v2 tm fun tm1=>
 mv (some (.int .i64 0)) fun v3=>
 setF 3 v3 tm1 fun tm2=>
 M.pure tm2
theorem OT_:RegEq 81 23 Gt Pv Xv:=⟨by kernel_rfl,fun _ _ _ _ _ _ _ _ _=>by kernel_rfl⟩
def VU (E:Env)(call round:Ab)(tm:T Value):M (T Value):=
 mv (T.get tm 0) fun v5=>
 M.bind (oS (seqO [(some v5)]) fun l=>AT E .len [22] l) fun v6=>
 M.bind (oS (some v6) fun a=>oS (some (.int .i64 4)) fun b=>Cl.get (aBin E .sub 3 (.tmp 6) (.const (.int .i64 4))) a b) fun v7=>
 mv (some v7) fun v4=>
 setF 4 v4 tm fun tm1=>
 M.pure tm1
theorem TL_:RegEq 81 23 Gt LG VU:=⟨by kernel_rfl,fun _ _ _ _ _ _ _ _ _=>by kernel_rfl⟩
def Q3 (E:Env)(call round:Ab)(tm:T Value):M (T Value):=
 mv (T.get tm 4) fun v8=>
 M.bind (oS (some v8) fun a=>oS (some (.int .i64 0)) fun b=>Cl.get (aBin E .lss 3 (.tmp 8) (.const (.int .i64 0))) a b) fun v9=>
 mv (some v9) fun v10=>
 M.bind (M.chk (isK v10) (M.if (isB v10 false) (oS (T.get tm 0) fun a=>M.pure a) (M.pure undef))) fun v11=>
 M.bind (M.chk (isK v10) (M.if (isB v10 false) (oS (T.get tm 4) fun a=>M.pure a) (M.pure undef))) fun v12=>
 M.bind (M.chk (isK v10) (M.if (isB v10 false) (M.on (some v11) fun a=>M.on (some none) fun b=>M.on (onO (some v12) fun v=>some (some v)) fun c=>BE E 22 a b c) (M.pure undef))) fun v13=>
 M.bind (M.chk (isK v10) (M.if (isB v10 false) (M.on (some (.func (.func 64) #[] #[])) fun f=>M.on (seqO [(some v13)]) fun l=>AZ call round f l) (M.pure undef))) fun v14=>
 M.bind (M.chk (isK v10) (M.if (isB v10 false) (oS (T.get tm 0) fun a=>M.pure a) (M.pure undef))) fun v15=>
 M.bind (M.chk (isK v10) (M.if (isB v10 false) (M.on (some (.func (.func 116) #[] #[])) fun f=>M.on (seqO [(some v14),(some v15)]) fun l=>AZ call round f l) (M.pure undef))) fun v16=>
 M.bind (M.chk (isK v10) (M.if (isB v10 false) (oS (some v16) fun a=>kUn E.P .not a) (M.pure undef))) fun v17=>
 M.bind (M.on (some v10) fun a=>M.on (some (.bool true)) fun b=>M.on (some v17) fun c=>BJ a b c) fun v18=>
 setF 18 v18 tm fun tm1=>
 M.pure tm1
theorem IM_:RegEq 81 23 Gt MZ Q3:=⟨by kernel_rfl,fun _ _ _ _ _ _ _ _ _=>by kernel_rfl⟩
theorem ON:Ba Ho=some 18:=by kernel_rfl
def Rw (E:Env)(call round:Ab)(tm:T Value):M (T Value):=
 mv (some (.slice none 0 0)) fun v2=>
 setF 2 v2 tm fun tm1=>
 mv (some (.int .i64 4)) fun v3=>
 setF 3 v3 tm1 fun tm2=>
 M.pure tm2
theorem AX_:RegEq 81 23 Gt NO Rw:=⟨by kernel_rfl,fun _ _ _ _ _ _ _ _ _=>by kernel_rfl⟩
def YW (E:Env)(call round:Ab)(tm:T Value):M (T Value):=
 mv (T.get tm 0) fun v19=>
 mv (T.get tm 4) fun v20=>
 M.bind (M.on (some v19) fun a=>M.on (some none) fun b=>M.on (onO (some v20) fun v=>some (some v)) fun c=>BE E 22 a b c) fun v21=>
 M.bind (M.on (some (.func (.func 117) #[] #[])) fun f=>M.on (seqO [(some v21)]) fun l=>AZ call round f l) fun v22=>
 mv (some v22) fun v2=>
 setF 2 v2 tm fun tm1=>
 mv (some (.int .i64 0)) fun v3=>
 setF 3 v3 tm1 fun tm2=>
 M.pure tm2
theorem LW_:RegEq 81 23 Gt LY YW:=⟨by kernel_rfl,fun _ _ _ _ _ _ _ _ _=>by kernel_rfl⟩
theorem Vx: ∃k,R7= .code .ret::k:=⟨R7.tail,by kernel_rfl⟩
theorem Ih_: ∃k,RC= .code .ret::k:=⟨RC.tail,by kernel_rfl⟩
def Ce:Nat:=BB Try.f63
abbrev M9:Nat:=36
def Un:Code:=Try.f63.body.getD .skip
theorem UW:envS.fn.get 63=some Try.f63:=by kernel_rfl
theorem Up_ {a0:Value}{n:Nat}{s:St}{Q:Value→St→Prop}(h: ∀tm,T.get tm 0=some a0→W (runF envS n ⟨63,36,Ce,tm,[.code Un], .run, .normal,none⟩) (s.cxN cxN) fun p s1=>Q p.1 (s1.cxN s.cx)):W (Au envS (runF envS n) 63 [a0]) s Q:=
 W.call (by kernel_rfl) (by kernel_rfl) UW (by kernel_rfl) rfl rfl (by simp) (h _ (by kernel_rfl))
theorem OJ_:Try.f63.results.toList=[.tmp 2]:=by kernel_rfl
def Rz:List Item:=skim 64 [.code Un]
def J9:List Item:=skim 64 Rz.tail
theorem KM_:skim 64 Rz.tail=J9:=by kernel_rfl
def KE:List Item:=skim 64 J9.tail
theorem VC_:skim 64 J9.tail=KE:=by kernel_rfl
def G7:List Item:=skim 64 KE.tail
theorem Rn_:skim 64 KE.tail=G7:=by kernel_rfl
def Hg:List Item:=skim 64 G7.tail
theorem Aw_:skim 64 G7.tail=Hg:=by kernel_rfl
def K3:List Item:=skim 64 (brT Hg)
theorem CD_:skim 64 (brT Hg)=K3:=by kernel_rfl
def IC:List Item:=skim 64 (brF Hg)
theorem FO_:skim 64 (brF Hg)=IC:=by kernel_rfl
def K6:List Item:=skim 64 K3.tail
theorem RU_:skim 64 K3.tail=K6:=by kernel_rfl
def J5:List Item:=skim 64 IC.tail
theorem Tt_:skim 64 IC.tail=J5:=by kernel_rfl
def LE:List Item:=skim 64 K6.tail
theorem Ii_:skim 64 K6.tail=LE:=by kernel_rfl
def Gp:List Item:=skim 64 J5.tail
theorem Ea_:skim 64 J5.tail=Gp:=by kernel_rfl
def NM:List Item:=skim 64 LE.tail
theorem Ny_:skim 64 LE.tail=NM:=by kernel_rfl
def GP:List Item:=skim 64 Gp.tail
theorem WJ:skim 64 Gp.tail=GP:=by kernel_rfl
def RM:List Item:=skim 64 (brF NM)
theorem SQ_:skim 64 (brF NM)=RM:=by kernel_rfl
def Nm:List Item:=skim 64 (brT GP)
theorem TZ_:skim 64 (brT GP)=Nm:=by kernel_rfl
def JG:List Item:=skim 64 (brF GP)
theorem LP_:skim 64 (brF GP)=JG:=by kernel_rfl
theorem WA_:skim 64 RM.tail=G7:=by kernel_rfl
def NT:List Item:=skim 64 Nm.tail
theorem EE_:skim 64 Nm.tail=NT:=by kernel_rfl
def RV:List Item:=skim 64 JG.tail
theorem PL_:skim 64 JG.tail=RV:=by kernel_rfl
def Ot:List Item:=skim 64 NT.tail
theorem Md_:skim 64 NT.tail=Ot:=by kernel_rfl
theorem PA_:skim 64 Ot.tail=Gp:=by kernel_rfl
def WS (E:Env)(call round:Ab)(tm:T Value):M (T Value):=
 mv (some (.slice none 0 0)) fun v2=>
 setF 2 v2 tm fun tm1=>
 M.pure tm1
theorem SV_:RegEq 63 36 Ce Rz WS:=⟨by kernel_rfl,fun _ _ _ _ _ _ _ _ _=>by kernel_rfl⟩
def T4 (E:Env)(call round:Ab)(tm:T Value):M (T Value):=
 mv (some (.int .i64 0)) fun v3=>
 setF 3 v3 tm fun tm1=>
 M.pure tm1
theorem RS_:RegEq 63 36 Ce J9 T4:=⟨by kernel_rfl,fun _ _ _ _ _ _ _ _ _=>by kernel_rfl⟩
def ZL (E:Env)(call round:Ab)(tm:T Value):M (T Value):=
 mv (T.get tm 0) fun v9=>
 setF 9 v9 tm fun tm1=>
 M.bind (oS (seqO [(some v9)]) fun l=>AT E .len [43] l) fun v10=>
 setF 10 v10 tm1 fun tm2=>
 mv (some (.int .i64 0)) fun v11=>
 setF 11 v11 tm2 fun tm3=>
 M.pure tm3
theorem Rw_:RegEq 63 36 Ce KE ZL:=⟨by kernel_rfl,fun _ _ _ _ _ _ _ _ _=>by kernel_rfl⟩
def Ql (E:Env)(call round:Ab)(tm:T Value):M (T Value):=
 M.bind (oS (T.get tm 11) fun a=>oS (T.get tm 10) fun b=>Cl.get (aBin E .lss 3 (.tmp 11) (.tmp 10)) a b) fun v12=>
 setF 12 v12 tm fun tm1=>
 M.pure tm1
theorem Yo:RegEq 63 36 Ce G7 Ql:=⟨by kernel_rfl,fun _ _ _ _ _ _ _ _ _=>by kernel_rfl⟩
theorem TE:Ba Hg=some 12:=by kernel_rfl
def Zl (E:Env)(call round:Ab)(tm:T Value):M (T Value):=
 M.bind (oS (T.get tm 9) fun a=>oS (T.get tm 11) fun b=>BM E 43 a b) fun v13=>
 M.bind (oS (some v13) fun a=>AQ E 22 a) fun v14=>
 mv (some v14) fun v5=>
 setF 5 v5 tm fun tm1=>
 M.pure tm1
theorem Tf_:RegEq 63 36 Ce K3 Zl:=⟨by kernel_rfl,fun _ _ _ _ _ _ _ _ _=>by kernel_rfl⟩
def WM (E:Env)(call round:Ab)(tm:T Value):M (T Value):=
 mv (T.get tm 3) fun v23=>
 M.bind (M.on (some (.func (.func 106) #[] #[])) fun f=>M.on (seqO [(some (.slice none 0 0)),(some v23)]) fun l=>AZ call round f l) fun v24=>
 mv (some v24) fun v6=>
 setF 6 v6 tm fun tm1=>
 M.pure tm1
theorem Hc_:RegEq 63 36 Ce IC WM:=⟨by kernel_rfl,fun _ _ _ _ _ _ _ _ _=>by kernel_rfl⟩
def YJ (E:Env)(call round:Ab)(tm:T Value):M (T Value):=
 mv (T.get tm 3) fun v15=>
 mv (T.get tm 5) fun v16=>
 M.bind (oS (seqO [(some v16)]) fun l=>AT E .len [22] l) fun v17=>
 M.bind (oS (some v15) fun a=>oS (some v17) fun b=>Cl.get (aBin E .add 3 (.tmp 15) (.tmp 17)) a b) fun v18=>
 mv (some v18) fun v3=>
 setF 3 v3 tm fun tm1=>
 M.pure tm1
theorem ME_:RegEq 63 36 Ce K6 YJ:=⟨by kernel_rfl,fun _ _ _ _ _ _ _ _ _=>by kernel_rfl⟩
def Wt (E:Env)(call round:Ab)(tm:T Value):M (T Value):=
 mv (T.get tm 0) fun v25=>
 setF 25 v25 tm fun tm1=>
 M.bind (oS (seqO [(some v25)]) fun l=>AT E .len [43] l) fun v26=>
 setF 26 v26 tm1 fun tm2=>
 mv (some (.int .i64 0)) fun v27=>
 setF 27 v27 tm2 fun tm3=>
 M.pure tm3
theorem SB_:RegEq 63 36 Ce J5 Wt:=⟨by kernel_rfl,fun _ _ _ _ _ _ _ _ _=>by kernel_rfl⟩
def Uf (E:Env)(call round:Ab)(tm:T Value):M (T Value):=
 mv (T.get tm 3) fun v19=>
 M.bind (oS (some v19) fun a=>oS (some (.int .i64 0)) fun b=>Cl.get (aBin E .lss 3 (.tmp 19) (.const (.int .i64 0))) a b) fun v20=>
 setF 20 v20 tm fun tm1=>
 M.pure tm1
theorem Xq_:RegEq 63 36 Ce LE Uf:=⟨by kernel_rfl,fun _ _ _ _ _ _ _ _ _=>by kernel_rfl⟩
def Rj (E:Env)(call round:Ab)(tm:T Value):M (T Value):=
 M.bind (oS (T.get tm 27) fun a=>oS (T.get tm 26) fun b=>Cl.get (aBin E .lss 3 (.tmp 27) (.tmp 26)) a b) fun v28=>
 setF 28 v28 tm fun tm1=>
 M.pure tm1
theorem VD:RegEq 63 36 Ce Gp Rj:=⟨by kernel_rfl,fun _ _ _ _ _ _ _ _ _=>by kernel_rfl⟩
theorem Xt_:Ba NM=some 20:=by kernel_rfl
theorem Zm:Ba GP=some 28:=by kernel_rfl
def Xk (E:Env)(call round:Ab)(tm:T Value):M (T Value):=
 M.bind (oS (T.get tm 11) fun a=>oS (some (.int .i64 1)) fun b=>Cl.get (aBin E .add 3 (.tmp 11) (.const (.int .i64 1))) a b) fun v22=>
 mv (some v22) fun v11=>
 setF 11 v11 tm fun tm1=>
 M.pure tm1
theorem UN_:RegEq 63 36 Ce RM Xk:=⟨by kernel_rfl,fun _ _ _ _ _ _ _ _ _=>by kernel_rfl⟩
def Xi (E:Env)(call round:Ab)(tm:T Value):M (T Value):=
 M.bind (oS (T.get tm 25) fun a=>oS (T.get tm 27) fun b=>BM E 43 a b) fun v29=>
 M.bind (oS (some v29) fun a=>AQ E 22 a) fun v30=>
 mv (some v30) fun v8=>
 setF 8 v8 tm fun tm1=>
 M.pure tm1
theorem Sx_:RegEq 63 36 Ce Nm Xi:=⟨by kernel_rfl,fun _ _ _ _ _ _ _ _ _=>by kernel_rfl⟩
def YB (E:Env)(call round:Ab)(tm:T Value):M (T Value):=
 mv (T.get tm 6) fun v35=>
 mv (some v35) fun v2=>
 setF 2 v2 tm fun tm1=>
 M.pure tm1
theorem GH_:RegEq 63 36 Ce JG YB:=⟨by kernel_rfl,fun _ _ _ _ _ _ _ _ _=>by kernel_rfl⟩
def AD_ (E:Env)(call round:Ab)(tm:T Value):M (T Value):=
 mv (T.get tm 6) fun v31=>
 mv (T.get tm 8) fun v32=>
 M.bind (oS (seqO [(some v31),(some v32)]) fun l=>AT E .append [22,22] l) fun v33=>
 mv (some v33) fun v6=>
 setF 6 v6 tm fun tm1=>
 M.pure tm1
theorem Pr_:RegEq 63 36 Ce NT AD_:=⟨by kernel_rfl,fun _ _ _ _ _ _ _ _ _=>by kernel_rfl⟩
theorem Ts_: ∃k,RV= .code .ret::k:=⟨RV.tail,by kernel_rfl⟩
def X2 (E:Env)(call round:Ab)(tm:T Value):M (T Value):=
 M.bind (oS (T.get tm 27) fun a=>oS (some (.int .i64 1)) fun b=>Cl.get (aBin E .add 3 (.tmp 27) (.const (.int .i64 1))) a b) fun v34=>
 mv (some v34) fun v27=>
 setF 27 v27 tm fun tm1=>
 M.pure tm1
theorem Gn_:RegEq 63 36 Ce Ot X2:=⟨by kernel_rfl,fun _ _ _ _ _ _ _ _ _=>by kernel_rfl⟩
def Fa:Nat:=BB Try.f106
def Ad_:Code:=Try.f106.body.getD .skip
theorem Bx_:envS.fn.get 106=some Try.f106:=by kernel_rfl
theorem Vw_ {a0 a1:Value}{n:Nat}{s:St}{Q:Value→St→Prop}(h: ∀tm,T.get tm 0=some a0→T.get tm 1=some a1→W (runF envS n ⟨106,27,Fa,tm,[.code Ad_], .run, .normal,none⟩) (s.cxN cxN) fun p s1=>Q p.1 (s1.cxN s.cx)):W (Au envS (runF envS n) 106 [a0,a1]) s Q:=
 W.call (by kernel_rfl) (by kernel_rfl) Bx_ (by kernel_rfl) rfl rfl (by simp) (h _ (by kernel_rfl) (by kernel_rfl))
theorem Qj_:Try.f106.results.toList=[.tmp 4]:=by kernel_rfl
def OE:List Item:=skim 64 [.code Ad_]
def Kw:List Item:=skim 64 OE.tail
theorem Lm_:skim 64 OE.tail=Kw:=by kernel_rfl
def Kz:List Item:=skim 64 Kw.tail
theorem Xi_:skim 64 Kw.tail=Kz:=by kernel_rfl
def KQ:List Item:=skim 64 (brF Kz)
theorem LL_:skim 64 (brF Kz)=KQ:=by kernel_rfl
def Ld:List Item:=skim 64 KQ.tail
theorem OW_:skim 64 KQ.tail=Ld:=by kernel_rfl
def Jm:List Item:=skim 64 Ld.tail
theorem Sl_:skim 64 Ld.tail=Jm:=by kernel_rfl
def Ov:List Item:=skim 64 (brT Jm)
theorem Pp_:skim 64 (brT Jm)=Ov:=by kernel_rfl
def Ku:List Item:=skim 64 (brF Jm)
theorem QB_:skim 64 Ov.tail=Ku:=by kernel_rfl
def Om:List Item:=skim 64 Ku.tail
theorem Hw_:skim 64 Ku.tail=Om:=by kernel_rfl
def Bd_ (E:Env)(call round:Ab)(tm:T Value):M (T Value):=
 mv (some (.slice none 0 0)) fun v4=>
 setF 4 v4 tm fun tm1=>
 M.pure tm1
theorem Tp_:RegEq 106 27 Fa OE Bd_:=⟨by kernel_rfl,fun _ _ _ _ _ _ _ _ _=>by kernel_rfl⟩
def Vl (E:Env)(call round:Ab)(tm:T Value):M (T Value):=
 mv (T.get tm 1) fun v5=>
 M.bind (oS (some v5) fun a=>oS (some (.int .i64 0)) fun b=>Cl.get (aBin E .lss 3 (.tmp 5) (.const (.int .i64 0))) a b) fun v6=>
 setF 6 v6 tm fun tm1=>
 M.pure tm1
theorem SX_:RegEq 106 27 Fa Kw Vl:=⟨by kernel_rfl,fun _ _ _ _ _ _ _ _ _=>by kernel_rfl⟩
theorem UA_:Ba Kz=some 6:=by kernel_rfl
def TY (E:Env)(call round:Ab)(tm:T Value):M (T Value):=
 mv (T.get tm 1) fun v8=>
 mv (T.get tm 0) fun v9=>
 M.bind (oS (seqO [(some v9)]) fun l=>AT E .cap [22] l) fun v10=>
 mv (T.get tm 0) fun v11=>
 M.bind (oS (seqO [(some v11)]) fun l=>AT E .len [22] l) fun v12=>
 M.bind (oS (some v10) fun a=>oS (some v12) fun b=>Cl.get (aBin E .sub 3 (.tmp 10) (.tmp 12)) a b) fun v13=>
 M.bind (oS (some v8) fun a=>oS (some v13) fun b=>Cl.get (aBin E .sub 3 (.tmp 8) (.tmp 13)) a b) fun v14=>
 mv (some v14) fun v1=>
 setF 1 v1 tm fun tm1=>
 M.pure tm1
theorem CC_:RegEq 106 27 Fa KQ TY:=⟨by kernel_rfl,fun _ _ _ _ _ _ _ _ _=>by kernel_rfl⟩
def Cj_ (E:Env)(call round:Ab)(tm:T Value):M (T Value):=
 mv (T.get tm 1) fun v15=>
 M.bind (oS (some v15) fun a=>oS (some (.int .i64 0)) fun b=>Cl.get (aBin E .gtr 3 (.tmp 15) (.const (.int .i64 0))) a b) fun v16=>
 setF 16 v16 tm fun tm1=>
 M.pure tm1
theorem IF_:RegEq 106 27 Fa Ld Cj_:=⟨by kernel_rfl,fun _ _ _ _ _ _ _ _ _=>by kernel_rfl⟩
theorem SS_:Ba Jm=some 16:=by kernel_rfl
def XH (E:Env)(call round:Ab)(tm:T Value):M (T Value):=
 mv (T.get tm 0) fun v17=>
 mv (T.get tm 0) fun v18=>
 M.bind (oS (seqO [(some v18)]) fun l=>AT E .cap [22] l) fun v19=>
 M.bind (M.on (some v17) fun a=>M.on (some none) fun b=>M.on (onO (some v19) fun v=>some (some v)) fun c=>BE E 22 a b c) fun v20=>
 mv (T.get tm 1) fun v21=>
 M.bind (oS (seqO [(some v20),(some v21)]) fun l=>AT E .append [22,3] l) fun v22=>
 mv (T.get tm 0) fun v23=>
 M.bind (oS (seqO [(some v23)]) fun l=>AT E .len [22] l) fun v24=>
 M.bind (M.on (some v22) fun a=>M.on (some none) fun b=>M.on (onO (some v24) fun v=>some (some v)) fun c=>BE E 22 a b c) fun v25=>
 mv (some v25) fun v0=>
 setF 0 v0 tm fun tm1=>
 M.pure tm1
theorem GX_:RegEq 106 27 Fa Ov XH:=⟨by kernel_rfl,fun _ _ _ _ _ _ _ _ _=>by kernel_rfl⟩
def Zh (E:Env)(call round:Ab)(tm:T Value):M (T Value):=
 mv (T.get tm 0) fun v26=>
 mv (some v26) fun v4=>
 setF 4 v4 tm fun tm1=>
 M.pure tm1
theorem Gp_:RegEq 106 27 Fa Ku Zh:=⟨by kernel_rfl,fun _ _ _ _ _ _ _ _ _=>by kernel_rfl⟩
theorem NU_: ∃k,Om= .code .ret::k:=⟨Om.tail,by kernel_rfl⟩
def C8:Nat:=BB Try.f116
abbrev Ho_:Nat:=26
def Ak_:Code:=Try.f116.body.getD .skip
theorem LS:envS.fn.get 116=some Try.f116:=by kernel_rfl
theorem KJ_ {a0 a1:Value}{n:Nat}{s:St}{Q:Value→St→Prop}(h: ∀tm,T.get tm 0=some a0→T.get tm 1=some a1→W (runF envS n ⟨116,26,C8,tm,[.code Ak_], .run, .normal,none⟩) (s.cxN cxN) fun p s1=>Q p.1 (s1.cxN s.cx)):W (Au envS (runF envS n) 116 [a0,a1]) s Q:=
 W.call (by kernel_rfl) (by kernel_rfl) LS (by kernel_rfl) rfl rfl (by simp) (h _ (by kernel_rfl) (by kernel_rfl))
theorem RJ:Try.f116.results.toList=[.tmp 4]:=by kernel_rfl
def Su:List Item:=skim 64 [.code Ak_]
def KM:List Item:=skim 64 Su.tail
theorem EW_:skim 64 Su.tail=KM:=by kernel_rfl
def He:List Item:=skim 64 KM.tail
theorem ZJ:skim 64 KM.tail=He:=by kernel_rfl
def K1:List Item:=skim 64 (brT He)
theorem Jl_:skim 64 (brT He)=K1:=by kernel_rfl
def MO:List Item:=skim 64 (brF He)
theorem Hb_:skim 64 (brF He)=MO:=by kernel_rfl
def RI:List Item:=skim 64 K1.tail
theorem Li_:skim 64 K1.tail=RI:=by kernel_rfl
def Ge:List Item:=skim 64 MO.tail
theorem Fs_:skim 64 MO.tail=Ge:=by kernel_rfl
def Hf:List Item:=skim 64 Ge.tail
theorem XL:skim 64 Ge.tail=Hf:=by kernel_rfl
def NU:List Item:=skim 64 (brT Hf)
theorem Qd_:skim 64 (brT Hf)=NU:=by kernel_rfl
def MD:List Item:=skim 64 (brF Hf)
theorem Gd_:skim 64 (brF Hf)=MD:=by kernel_rfl
def Iy:List Item:=skim 64 NU.tail
theorem TT_:skim 64 NU.tail=Iy:=by kernel_rfl
def QA:List Item:=skim 64 MD.tail
theorem VE_:skim 64 MD.tail=QA:=by kernel_rfl
def Hn:List Item:=skim 64 Iy.tail
theorem TA:skim 64 Iy.tail=Hn:=by kernel_rfl
def K7:List Item:=skim 64 (brT Hn)
theorem TW_:skim 64 (brT Hn)=K7:=by kernel_rfl
def Sp:List Item:=skim 64 (brF Hn)
theorem Vq_:skim 64 (brF Hn)=Sp:=by kernel_rfl
def Ry:List Item:=skim 64 K7.tail
theorem MT_:skim 64 K7.tail=Ry:=by kernel_rfl
theorem Va_:skim 64 Sp.tail=Ge:=by kernel_rfl
def YM (E:Env)(call round:Ab)(tm:T Value):M (T Value):=
 mv (some (.bool false)) fun v4=>
 setF 4 v4 tm fun tm1=>
 M.pure tm1
theorem Mn_:RegEq 116 26 C8 Su YM:=⟨by kernel_rfl,fun _ _ _ _ _ _ _ _ _=>by kernel_rfl⟩
def Xr (E:Env)(call round:Ab)(tm:T Value):M (T Value):=
 mv (T.get tm 0) fun v6=>
 M.bind (oS (seqO [(some v6)]) fun l=>AT E .len [22] l) fun v7=>
 mv (T.get tm 1) fun v8=>
 M.bind (oS (seqO [(some v8)]) fun l=>AT E .len [22] l) fun v9=>
 M.bind (oS (some v7) fun a=>oS (some v9) fun b=>Cl.get (aBin E .neq 3 (.tmp 7) (.tmp 9)) a b) fun v10=>
 setF 10 v10 tm fun tm1=>
 M.pure tm1
theorem UC_:RegEq 116 26 C8 KM Xr:=⟨by kernel_rfl,fun _ _ _ _ _ _ _ _ _=>by kernel_rfl⟩
theorem AP_:Ba He=some 10:=by kernel_rfl
def VY (E:Env)(call round:Ab)(tm:T Value):M (T Value):=
 mv (some (.bool false)) fun v4=>
 setF 4 v4 tm fun tm1=>
 M.pure tm1
theorem GE_:RegEq 116 26 C8 K1 VY:=⟨by kernel_rfl,fun _ _ _ _ _ _ _ _ _=>by kernel_rfl⟩
def Ai_ (E:Env)(call round:Ab)(tm:T Value):M (T Value):=
 mv (T.get tm 0) fun v11=>
 M.bind (oS (seqO [(some v11)]) fun l=>AT E .len [22] l) fun v12=>
 setF 12 v12 tm fun tm1=>
 mv (some (.int .i64 0)) fun v13=>
 setF 13 v13 tm1 fun tm2=>
 M.pure tm2
theorem Qk_:RegEq 116 26 C8 MO Ai_:=⟨by kernel_rfl,fun _ _ _ _ _ _ _ _ _=>by kernel_rfl⟩
theorem Tc_: ∃k,RI= .code .ret::k:=⟨RI.tail,by kernel_rfl⟩
def Sc (E:Env)(call round:Ab)(tm:T Value):M (T Value):=
 M.bind (oS (T.get tm 13) fun a=>oS (T.get tm 12) fun b=>Cl.get (aBin E .lss 3 (.tmp 13) (.tmp 12)) a b) fun v14=>
 setF 14 v14 tm fun tm1=>
 M.pure tm1
theorem Al_:RegEq 116 26 C8 Ge Sc:=⟨by kernel_rfl,fun _ _ _ _ _ _ _ _ _=>by kernel_rfl⟩
theorem Tf:Ba Hf=some 14:=by kernel_rfl
def SK (E:Env)(call round:Ab)(tm:T Value):M (T Value):=
 mv (T.get tm 13) fun v15=>
 mv (some v15) fun v5=>
 setF 5 v5 tm fun tm1=>
 M.pure tm1
theorem Vc_:RegEq 116 26 C8 NU SK:=⟨by kernel_rfl,fun _ _ _ _ _ _ _ _ _=>by kernel_rfl⟩
def By_ (E:Env)(call round:Ab)(tm:T Value):M (T Value):=
 mv (some (.bool true)) fun v4=>
 setF 4 v4 tm fun tm1=>
 M.pure tm1
theorem DP_:RegEq 116 26 C8 MD By_:=⟨by kernel_rfl,fun _ _ _ _ _ _ _ _ _=>by kernel_rfl⟩
def Wx (E:Env)(call round:Ab)(tm:T Value):M ((Rho×T Value)×List OpLog):=
 M.bind (apartO (oS (T.get tm 0) fun a=>M.pure a)) fun p0=>
 M.bind (apartO (oS (T.get tm 5) fun a=>M.pure a)) fun p1=>
 M.bind (apartO (oS (some p0.1) fun a=>oS (some p1.1) fun b=>BM E 22 a b)) fun p2=>
 M.bind (apartO (oS (some p2.1) fun a=>AQ E 5 a)) fun p3=>
 M.bind (apartO (oS (T.get tm 1) fun a=>M.pure a)) fun p4=>
 M.bind (apartO (oS (T.get tm 5) fun a=>M.pure a)) fun p5=>
 M.bind (apartO (oS (some p4.1) fun a=>oS (some p5.1) fun b=>BM E 22 a b)) fun p6=>
 M.bind (apartO (oS (some p6.1) fun a=>AQ E 5 a)) fun p7=>
 M.pure (([p7.1,p6.1,p5.1,p4.1,p3.1,p2.1,p1.1,p0.1],tm),[p7.2,p6.2,p5.2,p4.2,p3.2,p2.2,p1.2,p0.2])
theorem Xl_:DrawEq 116 26 C8 Iy [0,0,3,7,0,0,48,112,255] Wx:=⟨by kernel_rfl,by kernel_rfl,fun _ _ _ _ _ _ _ _ _=>by kernel_rfl⟩
theorem Xj_ (E:Env)(call round:Ab)(x16 x17 x18 x19 x20 x21 x22 x23:Value)(tm:T Value)(s:St):BG call round (Cs E C8 26 (hdC Iy)) [x23,x22,x21,x20,x19,x18,x17,x16] tm s=(M.bind (oS (some x19) fun a=>oS (some x23) fun b=>Cl.get (aBin E .neq 5 (.tmp 19) (.tmp 23)) a b) fun v24=>setT 24 v24 tm fun tm1=>M.pure tm1) s:=by kernel_rfl
theorem TS_: ∃k,QA= .code .ret::k:=⟨QA.tail,by kernel_rfl⟩
theorem YY:Ba Hn=some 24:=by kernel_rfl
def Uu (E:Env)(call round:Ab)(tm:T Value):M (T Value):=
 mv (some (.bool false)) fun v4=>
 setF 4 v4 tm fun tm1=>
 M.pure tm1
theorem UB_:RegEq 116 26 C8 K7 Uu:=⟨by kernel_rfl,fun _ _ _ _ _ _ _ _ _=>by kernel_rfl⟩
def ZG (E:Env)(call round:Ab)(tm:T Value):M (T Value):=
 M.bind (oS (T.get tm 13) fun a=>oS (some (.int .i64 1)) fun b=>Cl.get (aBin E .add 3 (.tmp 13) (.const (.int .i64 1))) a b) fun v25=>
 mv (some v25) fun v13=>
 setF 13 v13 tm fun tm1=>
 M.pure tm1
theorem NY_:RegEq 116 26 C8 Sp ZG:=⟨by kernel_rfl,fun _ _ _ _ _ _ _ _ _=>by kernel_rfl⟩
theorem VI_: ∃k,Ry= .code .ret::k:=⟨Ry.tail,by kernel_rfl⟩
def J8:Nat:=BB Try.f117
def Ay_:Code:=Try.f117.body.getD .skip
theorem QT:envS.fn.get 117=some Try.f117:=by kernel_rfl
theorem Fg_ {a0:Value}{n:Nat}{s:St}{Q:Value→St→Prop}(h: ∀tm,T.get tm 0=some a0→W (runF envS n ⟨117,8,J8,tm,[.code Ay_], .run, .normal,none⟩) (s.cxN cxN) fun p s1=>Q p.1 (s1.cxN s.cx)):W (Au envS (runF envS n) 117 [a0]) s Q:=
 W.call (by kernel_rfl) (by kernel_rfl) QT (by kernel_rfl) rfl rfl (by simp) (h _ (by kernel_rfl))
theorem WW:Try.f117.results.toList=[.tmp 2]:=by kernel_rfl
def N6:List Item:=skim 64 [.code Ay_]
def Mh:List Item:=skim 64 N6.tail
theorem OZ_:skim 64 N6.tail=Mh:=by kernel_rfl
def M1:List Item:=skim 64 Mh.tail
theorem Vi_:skim 64 Mh.tail=M1:=by kernel_rfl
def KV:List Item:=skim 64 (brF M1)
theorem Et_:skim 64 (brF M1)=KV:=by kernel_rfl
def QX:List Item:=skim 64 KV.tail
theorem Ux:skim 64 KV.tail=QX:=by kernel_rfl
def WO (E:Env)(call round:Ab)(tm:T Value):M (T Value):=
 mv (some (.slice none 0 0)) fun v2=>
 setF 2 v2 tm fun tm1=>
 M.pure tm1
theorem Kq_:RegEq 117 8 J8 N6 WO:=⟨by kernel_rfl,fun _ _ _ _ _ _ _ _ _=>by kernel_rfl⟩
def Ax_ (E:Env)(call round:Ab)(tm:T Value):M (T Value):=
 mv (T.get tm 0) fun v3=>
 M.bind (oS (some v3) fun a=>oS (some (.slice none 0 0)) fun b=>Cl.get (aBin E .eql 22 (.tmp 3) (.const (.slice none 0 0))) a b) fun v4=>
 setF 4 v4 tm fun tm1=>
 M.pure tm1
theorem Eb_:RegEq 117 8 J8 Mh Ax_:=⟨by kernel_rfl,fun _ _ _ _ _ _ _ _ _=>by kernel_rfl⟩
theorem Le_:Ba M1=some 4:=by kernel_rfl
def VO (E:Env)(call round:Ab)(tm:T Value):M (T Value):=
 M.bind (oS (seqP []) fun ps=>Cf E 22 0 ps) fun v5=>
 mv (T.get tm 0) fun v6=>
 M.bind (oS (seqO [(some v5),(some v6)]) fun l=>AT E .append [22,22] l) fun v7=>
 mv (some v7) fun v2=>
 setF 2 v2 tm fun tm1=>
 M.pure tm1
theorem EA_:RegEq 117 8 J8 KV VO:=⟨by kernel_rfl,fun _ _ _ _ _ _ _ _ _=>by kernel_rfl⟩
theorem Ue: ∃k,QX= .code .ret::k:=⟨QX.tail,by kernel_rfl⟩
section
variable {s:St}
def Bn (s:St)(v:Value)(l:List Nat):Prop:= ∃b o c,v= .slice (some ⟨b,o,none⟩) l.length c∧l.length≤c%capU∧CB c 1=true∧Row s b o (u8l l)
theorem Bn.bs {v:Value}{l:List Nat}(h:Bn s v l):Bs s v l:= .inr h
theorem Bn.ext {F G:Nat→Prop}{s s':St}{v:Value}{l:List Nat}(h:Bn s v l)(e:Ext F G s s')(hG: ∀x,BsF v x→ ¬G x):Bn s' v l:=by
 rcases h.bs.ext e hG with⟨rfl,_⟩|h'
 ·obtain⟨_,_,_,e,_⟩:=h;cases e
 ·exact h'
theorem Bn.ext0 {F:Nat→Prop}{s s':St}{v:Value}{l:List Nat}(h:Bn s v l)(e:Ext F Non s s'):Bn s' v l:=h.ext e fun _ _=>id
def Byt (l:List Nat):Prop:= ∀x∈l,x<256
theorem QI: ∀{l:List Nat},Byt l→u8s (u8l l)=some l
 |[],_=>rfl
 |n::l,h=>by
  have e:=QI (l:=l) fun x hx=>h x (by simp[hx])
  show(match Value.int .u8 (.ofNat n),u8s (u8l l)with| .int .u8 (.ofNat n),some ns=>bif Nat.blt n 256 then some (n::ns)else none|_,_=>none)=_
  rw[e]
  simp -implicitDefEqProofs only[B2 (h n (by simp)),cond_true]
theorem W.rdB {b o:Nat}{l:List Nat}{Q:List Value→St→Prop}(h:Row s b o (u8l l))(q: ∀s1,s1.mem=s.mem→s1.next=s.next→Ext (In b o l.length) Non s s1→Q (u8l l) s1):W (Am.rdL l.length ⟨b,o,none⟩) s Q:=by
 have hl:l.length=(u8l l).length:=(A1 l).symm
 rw[hl]
 refine W.rdL h fun s1 e1 e2 e3=>q s1 e1 e2 ?_
 rw[A1]at e3
 exact e3
theorem W.more {sum:Nat}{v:Value}{l:List Nat}{Q:Value→St→Prop}(h:Bn s v l)(hl:Byt l)(hz:l.length≤4611686018427387904)(hs:sum<4294967296)
  (q: ∀s1,s1.mem=s.mem→s1.next=s.next→Ext (BsF v) Non s s1→Q (.int .u32 (CG sum l:Nat)) s1):W (DL [.int .u32 (sum:Nat),v]) s Q:=by
 obtain⟨b,o,c,rfl,h1,h2,h3⟩:=h
 refine W.chk (by rw[B2 hs];simpa using hz) (W.bind (W.rdB h3 fun s1 e1 e2 e3=>W.on (QI hl) ?_))
 rw[LA]
 exact W.pure (q s1 e1 e2 e3)
end
theorem T1 {n:Nat}{s:St}{v:Value}{l:List Nat}{Q:Value→St→Prop}(hn:10≤n)(h:Bn s v l)(hl:Byt l)(hz:l.length≤4611686018427387904)
  (q: ∀s1,s1.mem=s.mem→s1.next=s.next→Ext (BsF v) Non s s1→Q (.int .u32 (CG 0 l:Nat)) s1):W (Au envS (runF envS n) 105 [v]) s Q:=by
 refine Ed_ fun tm h0=> ?_
 refine Hm_.w rfl (by omega) ?_
 simp -implicitDefEqProofs only[TQ,Aa,W_mv,Ac]
 refine DQ_.w Gu_ (by omega) ?_
 simp -implicitDefEqProofs only[Uh,Ad,W_on,Aa,W_mv,Ac,T.get_set,Al,Ak,Aj,AS,reduceIte,reduceCtorEq, ↓reduceIte,h0]
 refine W.orc (m:=DL) (by kernel_rfl) ?_
 change W (DL [.int .u32 ((0:Nat):Int),v]) _ _
 refine W.more (s:=s.cxN cxN) h hl hz (by decide) fun s1 e1 e2 e3=> ?_
 refine W.end' (rs:=[2]) (vs:=[.int .u32 (CG 0 l:Nat)]) FK_ (.inl PP_) (by omega) Cs_ HF_ e3.cx (by simp[T.get_set]) ?_
 refine q _ e1 e2 ⟨e3.nxt,e3.lim,rfl,e3.mem,e3.rd,e3.wr⟩
theorem A2:slN envS 22=some 1:=by kernel_rfl
theorem Ci:slN envS 43=some 1:=by kernel_rfl
theorem EP:elT envS 22=some (1,1,[.int .u8 0]):=by kernel_rfl
theorem Jx:appT envS 22 22=some (1,1,false,[.int .u8 0]):=by kernel_rfl
theorem Mf_:appT envS 22 3=some (1,1,true,[.int .u8 0]):=by kernel_rfl
theorem C9:tyS envS 22=some (1,false):=by kernel_rfl
theorem FF:tyS envS 5=some (1,false):=by kernel_rfl
theorem Iz (n:Nat):rep n [Value.int .u8 0]=List.replicate n (Value.int .u8 0):=by
 induction n with
 |zero=>rfl
 |succ n ih=>
  show [Value.int .u8 0]++rep n [Value.int .u8 0]=_
  rw[ih];rfl
structure Room (s s':St)(N:Nat)(v:Value)(b:Nat):Prop where
 val:v= .slice (some ⟨b,0,none⟩) 0 (capU*((b+N*1)*1024+1)+N)
 new:s.next≤b
 own:Af s' b 0 (List.replicate N (.int .u8 0))
theorem PD_ {n N:Nat}{s:St}{Q:Value→St→Prop}(hbd:s.lim≤s.next)(hn:20≤n)(hN:0<N)(hN2:N≤1000000)
  (q: ∀s1 v b,Room s s1 N v b→Ext Non Non s s1→Q v s1):W (Au envS (runF envS n) 106 [.slice none 0 0, .int .i64 (N:Nat)]) s Q:=by
 refine Vw_ fun tm h0 h1=> ?_
 refine Tp_.w rfl (by omega) ?_
 simp -implicitDefEqProofs only[Bd_,Aa,W_mv,Ac]
 refine SX_.w Lm_ (by omega) ?_
 simp -implicitDefEqProofs only[Vl,Ad,W_oS,Aa,W_mv,Ac,T.get_set,reduceIte,Nat.reduceEqDiff, ↓reduceIte,BA,h1]
 refine W.cond (v:=false) Xi_ UA_ (by simp[T.get_set]) (by omega) (fun h=>by cases h) fun _=> ?_
 refine CC_.w LL_ (by omega) ?_
 simp -implicitDefEqProofs only[TY,Ad,W_oS,Aa,W_mv,Ac,T.get_set,Al,Ak,Aj,reduceIte,Nat.reduceEqDiff,reduceCtorEq, ↓reduceIte,DQ,h0,h1,S1 A2,BX A2]
 refine IF_.w OW_ (by omega) ?_
 have e1:wrap64 ((N:Int)-wrap64 (((0:Nat):Int)-((0:Nat):Int)))=(N:Nat):=by
  rw[Bj (n:=((0:Nat):Int)-((0:Nat):Int)) (by simp) (by simp),Bj]<;>simp<;>omega
 simp -implicitDefEqProofs only[Cj_,Ad,W_oS,Aa,W_mv,Ac,T.get_set,reduceIte, ↓reduceIte,Dj,e1]
 refine W.cond (v:=true) Sl_ SS_ (by simp[T.get_set,hN]) (by omega) (fun _=> ?_) fun h=>by cases h
 refine GX_.w Pp_ (by omega) ?_
 simp -implicitDefEqProofs only[XH,Ad,W_oS,W_on,Aa,W_mv,Ac,T.get_set,Al,Ak,Aj,reduceIte,Nat.reduceEqDiff,reduceCtorEq, ↓reduceIte,h0,S1 A2,TH_ (lo:=none) (hi:=some (.int .i64 ((0:Nat):Int))) A2 rfl rfl,DN]
 refine W.appNil (s:=s.cxN cxN) hbd (n:=N) (l:=rep N [.int .u8 0]) Mf_ (Ov_ (by omega)) hN (by decide) (by decide) (by omega) (by rw[Iz];simp) (by rw[Iz];simp[oneCell]) fun s2 v b hf x2=> ?_
 obtain⟨rfl,hnew,hown,hlen,htok,hlt⟩:=hf
 have hc:=SE (q:=(b+N*1)*1024+1) (BD (n:=N) (by omega))
 simp -implicitDefEqProofs only[BX A2,Mr (l:=0) (h:=0) (lo:=none) (hi:=some (.int .i64 ((0:Nat):Int))) A2 rfl rfl (Nat.le_refl _) (Nat.zero_le _) (Ix (m:=b+N*1) (BD (n:=N) (by omega)) (by decide)),reduceIte, ↓reduceIte,hc,hN]
 refine Gp_.w QB_ (by omega) ?_
 simp -implicitDefEqProofs only[Zh,Aa,W_mv,Ac,T.get_set,reduceIte, ↓reduceIte]
 refine W.end' (rs:=[4]) (vs:=[.slice (some ⟨b,0,none⟩) 0 (capU*((b+N*1)*1024+1)+N)]) Hw_ (.inl NU_) (by omega) Bx_ Qj_ x2.cx (by simp[T.get_set]) ?_
 exact q _ _ b ⟨rfl,hnew,fun i v e=>(hown i v (by rw[Iz];exact e)).same rfl rfl⟩ ⟨x2.nxt,x2.lim,rfl,x2.mem,x2.rd,x2.wr⟩
def tot (l:List (Value×List Nat)):Nat:=(l.map fun p=>p.2.length).sum
theorem Wm_ {l:List (Value×List Nat)}{i:Nat}{p:Value×List Nat}(h:l[i]?=some p):tot (l.take (i+1))=tot (l.take i)+p.2.length:=by
 unfold tot
 rw[List.take_add_one,h]
 simp
theorem Vd {l:List (Value×List Nat)}(i:Nat):tot (l.take i)≤tot l:=by
 unfold tot
 have:(l.map fun p=>p.2.length).sum=((l.take i).map fun p=>p.2.length).sum+((l.drop i).map fun p=>p.2.length).sum:=by
  rw[←List.sum_append,←List.map_append,List.take_append_drop]
 omega
def Cy (b o:Nat)(l:List (Value×List Nat)):Nat→Prop:=fun x=>In b o l.length x∨ ∃p∈l,BsF p.1 x
structure Parts (s:St)(b o:Nat)(l:List (Value×List Nat)):Prop where
 row:Row s b o (l.map (·.1))
 bs: ∀p∈l,Bs s p.1 p.2
theorem Parts.same {s s':St}{b o:Nat}{l:List (Value×List Nat)}(h:Parts s b o l)(hm:s'.mem=s.mem)(hn:s'.next=s.next):Parts s' b o l:=
 ⟨fun i v e=>(h.row i v e).same hm hn,fun p hp=>(h.bs p hp).same hm hn⟩
theorem Parts.ext0 {F:Nat→Prop}{s s':St}{b o:Nat}{l:List (Value×List Nat)}(h:Parts s b o l)(e:Ext F Non s s'):Parts s' b o l:=⟨h.row.ext0 e,fun p hp=>(h.bs p hp).ext0 e⟩
section
variable {b o c:Nat}{parts:List (Value×List Nat)}
theorem Parts.get {s:St}(h:Parts s b o parts){i:Nat}(hi:i<parts.length):At s b (o+i*1) parts[i].1∧Bs s parts[i].1 parts[i].2:=by
 refine⟨?_,h.bs _ (List.getElem_mem hi)⟩
 rw[Nat.mul_one]
 exact h.row i _ (by simp[hi])
theorem QY {i:Nat}(hi:i<parts.length):tot (parts.take (i+1))=tot (parts.take i)+parts[i].2.length:=Wm_ (List.getElem?_eq_getElem hi)
theorem Mg_ (ht:tot parts≤1000000)(hlen:parts.length≤4611686018427387904){F:Nat→Prop}(hF: ∀x,Cy b o parts x→F x){Q:Value×FrameMode→St→Prop}{s0:St}(hb0:s0.lim≤s0.next)(hp:Parts s0 b o parts): ∀(k i n:Nat) (tm:T Value) (s:St) (td:List Item),i+k=parts.length→7*k+7≤n→skim 64 td=G7→Ext F Non s0 s→s.mem=s0.mem→s.next=s0.next→
  T.get tm 0=some (.slice (some ⟨b,o,none⟩) parts.length c)→T.get tm 9=some (.slice (some ⟨b,o,none⟩) parts.length c)→T.get tm 10=some (.int .i64 (parts.length:Nat))→T.get tm 11=some (.int .i64 (i:Nat))→T.get tm 3=some (.int .i64 (tot (parts.take i):Nat))→
  (∀n' tm' s1 td',n≤n'+7*k+2→skim 64 td'=IC→Ext F Non s0 s1→s1.mem=s0.mem→s1.next=s0.next→T.get tm' 0=some (.slice (some ⟨b,o,none⟩) parts.length c)→T.get tm' 3=some (.int .i64 (tot parts:Nat))→W (runF envS n' ⟨63,M9,Ce,tm',td', .run, .normal,none⟩) s1 Q)→
  W (runF envS n ⟨63,M9,Ce,tm,td, .run, .normal,none⟩) s Q:=by
 intro k
 induction k with
 |zero=>
  intro i n tm s td hi hn hT hx hm hnx h0 h9 h10 h11 h3 q
  refine Yo.w hT (by omega) ?_
  simp -implicitDefEqProofs only[Ql,Ad,W_oS,Aa,Ac,BA,h10,h11]
  refine W.cond (v:=false) Aw_ TE (by simp[T.get_set];omega) (by omega) (fun h=>by cases h) fun _=> ?_
  have e:tot (parts.take i)=tot parts:=by rw[show i=parts.length by omega,List.take_length]
  rw[e]at h3
  exact q _ _ _ _ (by omega) FO_ hx hm hnx (by simp[T.get_set,h0]) (by simp[T.get_set,h3])
 |succ k ih=>
  intro i n tm s td hi hn hT hx hm hnx h0 h9 h10 h11 h3 q
  have hil:i<parts.length:=by omega
  obtain⟨g1,g2⟩:=hp.get hil
  have hlt:=QY hil
  have htl:=Vd (l:=parts) (i+1)
  refine Yo.w hT (by omega) ?_
  simp -implicitDefEqProofs only[Ql,Ad,W_oS,Aa,Ac,BA,h10,h11]
  refine W.cond (v:=true) Aw_ TE (by simp[T.get_set];omega) (by omega) (fun _=> ?_) fun h=>by cases h
  refine Tf_.w CD_ (by omega) ?_
  simp -implicitDefEqProofs only[Zl,Ad,W_oS,Aa,W_mv,Ac,T.get_set,reduceIte,Nat.reduceEqDiff, ↓reduceIte,h9,h11,Cr Ci hil]
  refine W.load1 C9 (g1.same hm hnx) ?_
  refine ME_.w RU_ (by omega) ?_
  have ew:wrap64 ((tot (parts.take i):Nat)+(parts[i].2.length:Nat):Int)=(tot (parts.take (i+1)):Nat):=by
   rw[Bj (by omega) (by omega),hlt];simp
  have ei:wrap64 ((i:Nat)+1:Int)=((i+1:Nat):Int):=by
   have:parts.length≤4611686018427387904:=hlen
   rw[Bj (by omega) (by omega)];simp
  have hx1:Ext F Non s0 (s.rdN (b+(o+i*1))):=hx.trans (Ext.rdN (F:=F) s _ fun _=>hF _ (.inl ⟨by omega,by omega⟩)) hb0 (fun _ _ h=>h) fun _ _ h=>h
  simp -implicitDefEqProofs only[YJ,Ad,W_oS,Aa,W_mv,Ac,T.get_set,Al,Ak,Aj,reduceIte,Nat.reduceEqDiff, ↓reduceIte,BN,h3,Bs.len (s:=s.rdN (b+(o+i*1))) (g2.same hm hnx) A2,ew]
  refine Xq_.w Ii_ (by omega) ?_
  simp -implicitDefEqProofs only[Uf,Ad,W_oS,Aa,W_mv,Ac,T.get_set,reduceIte, ↓reduceIte,BA]
  refine W.cond (v:=false) Ny_ Xt_ (by simp[T.get_set]) (by omega) (fun h=>by cases h) fun _=> ?_
  refine UN_.w SQ_ (by omega) ?_
  simp -implicitDefEqProofs only[Xk,Ad,W_oS,Aa,W_mv,Ac,T.get_set,reduceIte,Nat.reduceEqDiff, ↓reduceIte,BN,h11,ei]
  exact ih (i+1) _ _ _ _ (by omega) (by omega) WA_ hx1 hm hnx (by simp[T.get_set,h0]) (by simp[T.get_set,h9]) (by simp[T.get_set,h10]) (by simp[T.get_set]) (by simp[T.get_set]) fun n' tm' s1 td' e=>q n' tm' s1 td' (by omega)
end
section
variable {b o c:Nat}{parts:List (Value×List Nat)}
def fl (l:List (Value×List Nat)):List Nat:=(l.map (·.2)).flatten
theorem J7 (l:List (Value×List Nat)):(fl l).length=tot l:=by
 unfold fl tot
 rw[List.length_flatten,List.map_map]
 rfl
theorem JJ_ {l:List (Value×List Nat)}{i:Nat}(h:i<l.length):fl (l.take (i+1))=fl (l.take i)++l[i].2:=by
 unfold fl
 rw[List.take_add_one,List.getElem?_eq_getElem h,List.map_append,List.flatten_append]
 simp
theorem Mb_ (ht:tot parts≤1000000)(hlen:parts.length≤4611686018427387904){F:Nat→Prop}(hF: ∀x,Cy b o parts x→F x){Q:Value×FrameMode→St→Prop}{s0:St}(hb0:s0.lim≤s0.next)(hp:Parts s0 b o parts){nb cc:Nat}(hnb:s0.next≤nb)(hcc:cc%capU=tot parts): ∀(k i n:Nat) (tm:T Value) (s:St) (td:List Item),i+k=parts.length→6*k+6≤n→skim 64 td=Gp→Ext F Non s0 s→AW s nb 0 (tot parts)→Af s nb 0 (u8l (fl (parts.take i)))→
  T.get tm 25=some (.slice (some ⟨b,o,none⟩) parts.length c)→T.get tm 26=some (.int .i64 (parts.length:Nat))→T.get tm 27=some (.int .i64 (i:Nat))→T.get tm 6=some (.slice (some ⟨nb,0,none⟩) (tot (parts.take i)) cc)→
  (∀n' tm' s1 td',n≤n'+6*k+2→skim 64 td'=JG→Ext F Non s0 s1→Af s1 nb 0 (u8l (fl parts))→T.get tm' 6=some (.slice (some ⟨nb,0,none⟩) (tot parts) cc)→W (runF envS n' ⟨63,M9,Ce,tm',td', .run, .normal,none⟩) s1 Q)→
  W (runF envS n ⟨63,M9,Ce,tm,td, .run, .normal,none⟩) s Q:=by
 intro k
 induction k with
 |zero=>
  intro i n tm s td hi hn hT hx hown hrow h25 h26 h27 h6 q
  refine VD.w hT (by omega) ?_
  simp -implicitDefEqProofs only[Rj,Ad,W_oS,Aa,Ac,BA,h26,h27]
  refine W.cond (v:=false) WJ Zm (by simp[T.get_set];omega) (by omega) (fun h=>by cases h) fun _=> ?_
  have e:parts.take i=parts:=by rw[show i=parts.length by omega,List.take_length]
  rw[e]at h6 hrow
  exact q _ _ _ _ (by omega) LP_ hx hrow (by simp[T.get_set,h6])
 |succ k ih=>
  intro i n tm s td hi hn hT hx hown hrow h25 h26 h27 h6 q
  have hil:i<parts.length:=by omega
  obtain⟨g1,g2⟩:=(hp.ext0 hx).get hil
  have hlt:=QY hil
  have htl:=Vd (l:=parts) (i+1)
  refine VD.w hT (by omega) ?_
  simp -implicitDefEqProofs only[Rj,Ad,W_oS,Aa,Ac,BA,h26,h27]
  refine W.cond (v:=true) WJ Zm (by simp[T.get_set];omega) (by omega) (fun _=> ?_) fun h=>by cases h
  refine Sx_.w TZ_ (by omega) ?_
  simp -implicitDefEqProofs only[Xi,Ad,W_oS,Aa,W_mv,Ac,T.get_set,reduceIte,Nat.reduceEqDiff, ↓reduceIte,h25,h27,Cr Ci hil]
  refine W.load1 C9 g1 ?_
  have hx1:Ext F Non s0 (s.rdN (b+(o+i*1))):=hx.trans (Ext.rdN (F:=F) s _ fun _=>hF _ (.inl ⟨by omega,by omega⟩)) hb0 (fun _ _ h=>h) fun _ _ h=>h
  refine Pr_.w EE_ (by omega) ?_
  simp -implicitDefEqProofs only[AD_,Ad,W_oS,Aa,W_mv,Ac,T.get_set,Al,Ak,Aj,reduceIte,Nat.reduceEqDiff, ↓reduceIte,h6,DN]
  refine W.appIn (s:=s.rdN (b+(o+i*1))) Jx (g2.same (s':=s.rdN (b+(o+i*1))) rfl rfl).src.g (by rw[hcc];omega) (by rw[A1,Nat.mul_one]) (BT _) (fun j hj=> ?_) fun s2 n2 x2 r2=> ?_
  ·obtain⟨u,hu⟩:=hown (tot (parts.take i)+j) (by omega)
   exact⟨u,by rw[show 0+tot (parts.take i)*1+j=0+(tot (parts.take i)+j) by omega];exact hu⟩
  have ei:wrap64 ((i:Nat)+1:Int)=((i+1:Nat):Int):=by
   rw[Bj (by omega) (by omega)];simp
  have hx2:Ext F Non s0 s2:=hx1.step x2 hb0 (fun l hl h=>by
   rcases h with h|h
   ·exact hF _ (.inr ⟨_,List.getElem_mem hil,h⟩)
   ·exact absurd h.1 (by omega)) fun l h=>by have:=h.1;omega
  have el:parts[i].2.length*1=(u8l parts[i].2).length:=by rw[A1,Nat.mul_one]
  rw[el]at x2
  have hown2:AW s2 nb 0 (tot parts):=AW.ext (s:=s.rdN (b+(o+i*1))) (fun j hj=>let ⟨u,hu⟩:=hown j hj;⟨u,hu.same rfl rfl⟩) x2 r2
  have hrow2:Af s2 nb 0 (u8l (fl (parts.take (i+1)))):=by
   rw[JJ_ hil]
   unfold u8l
   rw[List.map_append]
   refine Af.append (Af.ext (s:=s.rdN (b+(o+i*1))) (fun j v e=>(hrow j v e).same rfl rfl) x2 fun j hj=> ?_) ?_
   ·rw[A1,J7]at hj
    intro h
    have:=h.1
    omega
   ·rw[A1,J7]
    rw[Nat.mul_one]at r2
    exact r2
  refine Gn_.w Md_ (by omega) ?_
  simp -implicitDefEqProofs only[X2,Ad,W_oS,Aa,W_mv,Ac,T.get_set,reduceIte,Nat.reduceEqDiff, ↓reduceIte,BN,h27,ei]
  exact ih (i+1) _ _ _ _ (by omega) (by omega) PA_ hx2 hown2 hrow2 (by simp[T.get_set,h25]) (by simp[T.get_set,h26]) (by simp[T.get_set]) (by simp[T.get_set,hlt]) fun n' tm' s1 td' e=>q n' tm' s1 td' (by omega)
end
structure New (s s':St)(v:Value)(l:List Nat):Prop where
 bn:Bn s' v l
 new: ∀x,BsF v x→s.next≤x
theorem Ext.cx' {F G:Nat→Prop}{s s1:St}{c:Ctx}(x:Ext F G (s.cxN c) s1):Ext F G s (s1.cxN s.cx):=⟨x.nxt,x.lim,rfl,x.mem,x.rd,x.wr⟩
theorem Bn.same {s s':St}{v:Value}{l:List Nat}(h:Bn s v l)(hm:s'.mem=s.mem)(hn:s'.next=s.next):Bn s' v l:=by
 obtain⟨b,o,c,h0,h1,h2,h3⟩:=h
 exact⟨b,o,c,h0,h1,h2,fun i v e=>(h3 i v e).same hm hn⟩
theorem PF {n:Nat}{s:St}{b o c:Nat}{parts:List (Value×List Nat)}{Q:Value→St→Prop}(hbd:s.lim≤s.next)(hp:Parts s b o parts)(h0:0<tot parts)(ht:tot parts≤1000000)(hlen:parts.length≤4611686018427387904)(hn:13*parts.length+60≤n)
  (q: ∀s1 v,Ext (Cy b o parts) Non s s1→New s s1 v (fl parts)→Q v s1):W (Au envS (runF envS n) 63 [.slice (some ⟨b,o,none⟩) parts.length c]) s Q:=by
 refine Up_ fun tm hk0=> ?_
 have hpc:Parts (s.cxN cxN) b o parts:=hp.same rfl rfl
 refine SV_.w rfl (by omega) ?_
 simp -implicitDefEqProofs only[WS,Aa,W_mv,Ac]
 refine RS_.w KM_ (by omega) ?_
 simp -implicitDefEqProofs only[T4,Aa,W_mv,Ac]
 refine Rw_.w VC_ (by omega) ?_
 simp -implicitDefEqProofs only[ZL,Ad,W_oS,Aa,W_mv,Ac,T.get_set,Al,Ak,Aj,reduceIte,reduceCtorEq, ↓reduceIte,hk0,BX Ci]
 refine Mg_ (c:=c) ht hlen (F:=Cy b o parts) (fun _ h=>h) (s0:=s.cxN cxN) hbd hpc parts.length 0 _ _ _ _ (by omega) (by omega) Rn_ (Ext.refl _) rfl rfl (by simp[T.get_set,hk0]) (by simp[T.get_set]) (by simp[T.get_set]) (by simp[T.get_set]) (by simp[T.get_set,tot]) fun n1 tm1 s1 td1 hn1 hT1 hx1 hm1 hnx1 g0 g3=> ?_
 refine Hc_.w hT1 (by omega) ?_
 simp -implicitDefEqProofs only[WM,Ad,W_on,Aa,W_mv,Ac,Al,Ak,Aj,AS,g3]
 have hb1:s1.lim≤s1.next:=hx1.bnd hbd
 refine PD_ hb1 (by omega) h0 ht fun s2 v nb hr x2=> ?_
 obtain⟨rfl,hnew,hown⟩:=hr
 have hx2:Ext (Cy b o parts) Non (s.cxN cxN) s2:=hx1.step x2 hbd (fun _ _ h=>h.elim) fun _ h=>h.elim
 have hnb:s.next≤nb:=by
  have:s1.next=s.next:=hnx1
  omega
 have hcc:=SE (q:=(nb+tot parts*1)*1024+1) (BD (n:=tot parts) (by omega))
 have hok:=Ix (m:=nb+tot parts*1) (sz:=1) (BD (n:=tot parts) (by omega)) (by decide)
 generalize hC:capU*((nb+tot parts*1)*1024+1)+tot parts=C at *
 refine SB_.w Tt_ (by omega) ?_
 simp -implicitDefEqProofs only[Wt,Ad,W_oS,Aa,W_mv,Ac,T.get_set,Al,Ak,Aj,reduceIte,reduceCtorEq, ↓reduceIte,g0,BX Ci]
 refine Mb_ (c:=c) ht hlen (F:=Cy b o parts) (fun _ h=>h) (s0:=s.cxN cxN) hbd hpc (nb:=nb) (cc:=C) hnb hcc parts.length 0 _ _ _ _ (by omega) (by omega) Ea_ hx2 (by have:=hown.owned;rwa [List.length_replicate]at this) (fun i v e=>by simp[fl]at e) (by simp[T.get_set]) (by simp[T.get_set]) (by simp[T.get_set]) (by simp[T.get_set,tot]) fun n3 tm3 s3 td3 hn3 hT3 hx3 hrow g6=> ?_
 refine GH_.w hT3 (by omega) ?_
 simp -implicitDefEqProofs only[YB,Aa,W_mv,Ac,g6]
 refine W.end' (rs:=[2]) (vs:=[.slice (some ⟨nb,0,none⟩) (tot parts) C]) PL_ (.inl Ts_) (by omega) UW OJ_ hx3.cx (by simp[T.get_set]) ?_
 refine q _ _ hx3.cx' ⟨⟨nb,0,C,by rw[J7];rfl,by rw[J7,hcc];exact Nat.le_refl _,hok,hrow.row⟩,fun x hx=> ?_⟩
 have:nb+0≤x:=hx.1
 omega
theorem Oy:elT envS 43=some (1,24,[.slice none 0 0]):=by kernel_rfl
theorem Sv:hasT envS 51=true:=by kernel_rfl
theorem IA:intK envS 5=some .u8:=by kernel_rfl
def le4 (n:Nat):List Nat:=[n%256,n>>>8%256,n>>>16%256,n>>>24%256]
def gput (l:List Nat):List Nat:=l++le4 (CG 0 l)
theorem Byt.le4 (n:Nat):Byt (le4 n):=fun x hx=>by
 simp -implicitDefEqProofs only[Am.le4,List.mem_cons,List.not_mem_nil,or_false]at hx
 omega
theorem Byt.gput {l:List Nat}(h:Byt l):Byt (gput l):=fun x hx=>by
 rcases List.mem_append.1 hx with hx|hx
 ·exact h x hx
 ·exact Byt.le4 _ x hx
theorem XQ {n:Nat}{s:St}{v:Value}{l:List Nat}{Q:Value→St→Prop}(hbd:s.lim≤s.next)(hn:120≤n)(h:Bn s v l)(hl:Byt l)(hz:l.length≤900000)
  (q: ∀s1 w,Ext (BsF v) Non s s1→New s s1 w (gput l)→Q w s1):W (Au envS (runF envS n) 64 [v]) s Q:=by
 refine GD_ fun tm h0=> ?_
 have hc:Bn (s.cxN cxN) v l:=h.same rfl rfl
 refine MZ_.w rfl (by omega) ?_
 simp -implicitDefEqProofs only[XZ,Aa,W_mv,Ac]
 refine Or_.w Oa_ (by omega) ?_
 simp -implicitDefEqProofs only[Wo,Ad,W_on,Aa,W_mv,Ac,T.get_set,Al,Ak,Aj,AS,reduceIte,reduceCtorEq, ↓reduceIte,h0]
 refine T1 (by omega) hc hl (by omega) fun s1 m1 n1 x1=> ?_
 refine Rq_.w NF_ (by omega) ?_
 generalize hS:CG 0 l=S
 simp -implicitDefEqProofs only[Y6,Ad,W_oS,W_on,Aa,W_mv,Ac,T.get_set,Al,Ak,Bg,A7,Aj,AS,reduceIte,reduceCtorEq, ↓reduceIte,h0]
 simp -implicitDefEqProofs only[E8 Sv IA,wrap_u8,KG (k:= .u32) (by decide),XY (k:= .u32) (by decide),X7 (k:= .u32) (by decide)]
 have hb1:s1.lim≤s1.next:=x1.bnd hbd
 refine W.buildS hb1 (r:=u8l (le4 S)) EP (by decide) rfl (BD (by decide)) fun s2 n2 x2 r2=> ?_
 have hb2:s2.lim≤s2.next:=x2.bnd hb1
 obtain⟨b,o,c,rfl,hv⟩:=hc
 refine W.buildS hb2 (r:=[.slice (some ⟨b,o,none⟩) l.length c, .slice (some ⟨s1.next,0,none⟩) 4 4]) Oy (by decide) rfl (BD (by decide)) fun s3 n3 x3 r3=> ?_
 have hb3:s3.lim≤s3.next:=x3.bnd hb2
 have hx1:Ext (BsF (.slice (some ⟨b,o,none⟩) l.length c)) Non (s.cxN cxN) s1:=x1
 have hx2:=hx1.step x2 hbd (fun _ _ h=>h.elim) fun _ h=>h.elim
 have hx3:=hx2.step x3 hbd (fun _ _ h=>h.elim) fun _ h=>h.elim
 have hBv:Bs s3 (.slice (some ⟨b,o,none⟩) l.length c) l:=(Bn.bs ⟨b,o,c,rfl,hv⟩).ext0 hx3
 have hB4:Bs s3 (.slice (some ⟨s1.next,0,none⟩) 4 4) (le4 S):=(Af.bn r2 (BD (by simp[le4]))).ext0 x3
 have hlt:tot [((.slice (some ⟨b,o,none⟩) l.length c:Value),l),(.slice (some ⟨s1.next,0,none⟩) 4 4,le4 S)]=l.length+4:=by simp[tot,le4]
 refine PF (parts:=[(.slice (some ⟨b,o,none⟩) l.length c,l),(.slice (some ⟨s1.next,0,none⟩) 4 4,le4 S)]) hb3 ⟨r3.row,fun p hp=> ?_⟩ (by rw[hlt];omega) (by rw[hlt];omega) (by simp) (by simp;omega) fun s4 w x4 hw=> ?_
 ·rcases List.mem_cons.1 hp with rfl|hp
  ·exact hBv
  ·rcases List.mem_cons.1 hp with rfl|hp
   ·exact hB4
   ·cases hp
 have hx4:=hx3.step x4 hbd (fun x hx h=>by
  have hn1:s.next≤s1.next:=x1.nxt
  have hn2:s1.next≤s2.next:=x2.nxt
  have hxl:x<s.lim:=hx
  rcases h with h|⟨p,hp,h⟩
  ·have:=h.1;omega
  ·rcases List.mem_cons.1 hp with rfl|hp
   ·exact h
   ·rcases List.mem_cons.1 hp with rfl|hp
    ·have:s1.next+0≤x:=h.1
     omega
    ·cases hp) fun _ h=>h.elim
 refine W.end' (rs:=[2]) (vs:=[w]) RV_ (.inl LB_) (by omega) WN OH_ hx4.cx (by simp[T.get_set]) ?_
 refine q _ _ hx4.cx' ⟨?_,fun x hx=> ?_⟩
 ·have:=hw.bn.same (s':=s4.cxN s.cx) rfl rfl
  show Bn (s4.cxN s.cx) w (gput l)
  unfold gput
  rw[hS]
  simpa [fl]using this
 ·have h1:=hw.new x hx
  have h2:s.next≤s3.next:=hx3.nxt
  omega
theorem Bs.at {s:St}{v:Value}{l:List Nat}(h:Bs s v l){i:Nat}(hi:i<l.length): ∃b o c,v= .slice (some ⟨b,o,none⟩) l.length c∧At s b (o+i*1) (u8 l[i])∧(∀x,x=b+(o+i*1)→BsF v x):=by
 rcases h with⟨rfl,rfl⟩|⟨b,o,c,rfl,_,_,h3⟩
 ·simp at hi
 ·refine⟨b,o,c,rfl, ?_,fun x hx=>⟨by omega,by omega⟩⟩
  rw[Nat.mul_one]
  exact h3.at (List.getElem?_eq_getElem hi)
section
variable {va vb:Value}{la lb:List Nat}
theorem Wv_ {F:Nat→Prop}(hFa: ∀x,BsF va x→F x)(hFb: ∀x,BsF vb x→F x){Q:Value×FrameMode→St→Prop}{s0:St}(hb0:s0.lim≤s0.next)(ha:Bs s0 va la)(hb:Bs s0 vb lb)(hlen:la.length=lb.length)(hz:la.length≤4611686018427387904)(hcx:s0.cx= .cx none (some []))(q: ∀s1,Ext F Non s0 s1→s1.mem=s0.mem→s1.next=s0.next→Q (.bool (decide (la=lb)), .run) s1):
  ∀(k i n:Nat) (tm:T Value) (s:St) (td:List Item),i+k=la.length→7*k+20≤n→skim 64 td=Ge→Ext F Non s0 s→s.mem=s0.mem→s.next=s0.next→la.take i=lb.take i→
  T.get tm 0=some va→T.get tm 1=some vb→T.get tm 12=some (.int .i64 (la.length:Nat))→T.get tm 13=some (.int .i64 (i:Nat))→
  W (runF envS n ⟨116,Ho_,C8,tm,td, .run, .normal,none⟩) s Q:=by
 intro k
 induction k with
 |zero=>
  intro i n tm s td hi hn hT hx hm hnx heq h0 h1 h12 h13
  refine Al_.w hT (by omega) ?_
  simp -implicitDefEqProofs only[Sc,Ad,W_oS,Aa,Ac,BA,h12,h13]
  refine W.cond (v:=false) XL Tf (by simp[T.get_set];omega) (by omega) (fun h=>by cases h) fun _=> ?_
  refine DP_.w Gd_ (by omega) ?_
  simp -implicitDefEqProofs only[By_,Aa,W_mv,Ac]
  have e:la=lb:=by
   rw[show i=la.length by omega,List.take_length,hlen,List.take_length]at heq
   exact heq
  refine W.end' (rs:=[4]) (vs:=[.bool true]) VE_ (.inl TS_) (by omega) LS RJ (hx.cx.trans hcx) (by simp[T.get_set]) ?_
  have:=q s hx hm hnx
  rw[decide_eq_true e]at this
  exact this
 |succ k ih=>
  intro i n tm s td hi hn hT hx hm hnx heq h0 h1 h12 h13
  have hia:i<la.length:=by omega
  have hib:i<lb.length:=by omega
  obtain⟨ba,oa,ca,rfl,ga,fa⟩:=ha.at hia
  obtain⟨bb,ob,cb,rfl,gb,fb⟩:=hb.at hib
  refine Al_.w hT (by omega) ?_
  simp -implicitDefEqProofs only[Sc,Ad,W_oS,Aa,Ac,BA,h12,h13]
  refine W.cond (v:=true) XL Tf (by simp[T.get_set];omega) (by omega) (fun _=> ?_) fun h=>by cases h
  refine Vc_.w Qd_ (by omega) ?_
  simp -implicitDefEqProofs only[SK,Aa,W_mv,Ac,T.get_set,reduceIte,Nat.reduceEqDiff, ↓reduceIte,h13]
  refine Xl_.w TT_ (by omega) ?_
  simp -implicitDefEqProofs only[Wx,T.get_set,Nat.reduceEqDiff, ↓reduceIte,h0,h1,Cm,Bd]
  rw[W_dq fun s Q=>Cr (s:=s) A2 hia Q]
  refine W.dload FF (ga.same hm hnx) fun rd1 hr1=> ?_
  simp -implicitDefEqProofs only[Bd]
  rw[W_dq fun s Q=>Cr (s:=s) A2 hib Q]
  refine W.dload FF (gb.same hm hnx) fun rd2 hr2=> ?_
  rw[Aa]
  refine⟨E1 (by simp) (by simp), ?_⟩
  refine W.cast (Xj_ _ _ _ _ _ _ _ _ _ _ _ _ _) ?_
  simp -implicitDefEqProofs only[Ad,W_oS,Aa,A4,CW_]
  generalize hs':(⟨(dSt s.mem s.next).mem,(dSt s.mem s.next).next,s.lim,_,_,s.cx⟩:St)=s'
  have hx':Ext F Non s0 s':=by
   rw[←hs']
   refine hx.trans (Ext.draw (F:=F) (Nat.le_refl _) (fun _ _=>rfl) (by simp) (by
    simp -implicitDefEqProofs only[List.mem_cons,List.not_mem_nil,or_false]
    rintro m (rfl|rfl|rfl|rfl|rfl|rfl|rfl|rfl) x hx _<;>first|(exact hFa _ (fa _ (hr1 _ hx)))|(exact hFb _ (fb _ (hr2 _ hx)))|(cases hx))) hb0 (fun _ _ h=>h) fun _ _ h=>h
  have hm':s'.mem=s0.mem:=by rw[←hs'];exact hm
  have hn':s'.next=s0.next:=by rw[←hs'];exact hnx
  by_cases he:la[i]=lb[i]
  ·refine W.cond (v:=false) TA YY (by simp[T.get_set,he]) (by omega) (fun h=>by cases h) fun _=> ?_
   refine NY_.w Vq_ (by omega) ?_
   have ei:wrap64 ((i:Nat)+1:Int)=((i+1:Nat):Int):=by
    rw[Bj (by omega) (by omega)];simp
   simp -implicitDefEqProofs only[ZG,Ad,W_oS,Aa,W_mv,Ac,T.get_set,reduceIte,Nat.reduceEqDiff, ↓reduceIte,BN,h13,ei]
   refine ih (i+1) _ _ _ _ (by omega) (by omega) Va_ hx' hm' hn' ?_ (by simp[T.get_set,h0]) (by simp[T.get_set,h1]) (by simp[T.get_set,h12]) (by simp[T.get_set])
   rw[List.take_add_one,List.take_add_one,heq,List.getElem?_eq_getElem hia,List.getElem?_eq_getElem hib,he]
  ·refine W.cond (v:=true) TA YY (by simp[T.get_set,he]) (by omega) (fun _=> ?_) fun h=>by cases h
   refine UB_.w TW_ (by omega) ?_
   simp -implicitDefEqProofs only[Uu,Aa,W_mv,Ac]
   have e:la≠lb:=by
    intro e
    subst e
    exact he rfl
   refine W.end' (rs:=[4]) (vs:=[.bool false]) MT_ (.inl VI_) (by omega) LS RJ (hx'.cx.trans hcx) (by simp[T.get_set]) ?_
   have:=q s' hx' hm' hn'
   rw[decide_eq_false e]at this
   exact this
theorem Tz_ {n:Nat}{s:St}{Q:Value→St→Prop}(hbd:s.lim≤s.next)(ha:Bs s va la)(hb:Bs s vb lb)(hz:la.length≤4611686018427387904)(hn:7*la.length+40≤n)
  (q: ∀s1,Ext (fun x=>BsF va x∨BsF vb x) Non s s1→s1.mem=s.mem→s1.next=s.next→Q (.bool (decide (la=lb))) s1):W (Au envS (runF envS n) 116 [va,vb]) s Q:=by
 refine KJ_ fun tm h0 h1=> ?_
 have ha':Bs (s.cxN cxN) va la:=ha.same rfl rfl
 have hb':Bs (s.cxN cxN) vb lb:=hb.same rfl rfl
 refine Mn_.w rfl (by omega) ?_
 simp -implicitDefEqProofs only[YM,Aa,W_mv,Ac]
 refine UC_.w EW_ (by omega) ?_
 simp -implicitDefEqProofs only[Xr,Ad,W_oS,Aa,W_mv,Ac,T.get_set,Al,Ak,Aj,reduceIte,Nat.reduceEqDiff,reduceCtorEq, ↓reduceIte,Ev,h0,h1,ha'.len A2,hb'.len A2]
 by_cases hlen:la.length=lb.length
 ·refine W.cond (v:=false) ZJ AP_ (by simp[T.get_set,hlen]) (by omega) (fun h=>by cases h) fun _=> ?_
  refine Qk_.w Hb_ (by omega) ?_
  simp -implicitDefEqProofs only[Ai_,Ad,W_oS,Aa,W_mv,Ac,T.get_set,Al,Ak,Aj,reduceIte,reduceCtorEq, ↓reduceIte,h0,ha'.len A2]
  exact Wv_ (s0:=s.cxN cxN) (F:=fun x=>BsF va x∨BsF vb x) (fun _ h=> .inl h) (fun _ h=> .inr h) hbd ha' hb' hlen hz rfl (fun s1 x1 m1 n1=>q _ x1.cx' m1 n1) la.length 0 _ _ _ _ (by omega) (by omega) Fs_ (Ext.refl _) rfl rfl (by simp) (by simp[T.get_set,h0]) (by simp[T.get_set,h1]) (by simp[T.get_set]) (by simp[T.get_set])
 ·refine W.cond (v:=true) ZJ AP_ (by simp[T.get_set];omega) (by omega) (fun _=> ?_) fun h=>by cases h
  refine GE_.w Jl_ (by omega) ?_
  simp -implicitDefEqProofs only[VY,Aa,W_mv,Ac]
  have e:la≠lb:=fun e=>hlen (by rw[e])
  refine W.end' (rs:=[4]) (vs:=[.bool false]) Li_ (.inl Tc_) (by omega) LS RJ rfl (by simp[T.get_set]) ?_
  have:=q _ (Ext.refl s) rfl rfl
  rw[decide_eq_false e]at this
  exact this
end
theorem Fresh1.toNew {s s':St}{v:Value}{b:Nat}{l:List Nat}(h:Fresh1 s s' 1 l.length (u8l l) v b)(hl:l.length<capU):New s s' v l:=by
 obtain⟨rfl,hnew,hown,_,_,_⟩:=h
 refine⟨⟨b,0,_,rfl,by rw[SE hl];exact Nat.le_refl _,Ix hl (by decide),hown.row⟩,fun x hx=> ?_⟩
 have:b+0≤x:=hx.1
 omega
theorem GK_ {n:Nat}{s:St}{v:Value}{l:List Nat}{Q:Value→St→Prop}(hbd:s.lim≤s.next)(h:Bn s v l)(hz:l.length≤1000000)(hn:30≤n)
  (q: ∀s1 w,Ext (BsF v) Non s s1→New s s1 w l→Q w s1):W (Au envS (runF envS n) 117 [v]) s Q:=by
 refine Fg_ fun tm h0=> ?_
 have hc:Bn (s.cxN cxN) v l:=h.same rfl rfl
 refine Kq_.w rfl (by omega) ?_
 simp -implicitDefEqProofs only[WO,Aa,W_mv,Ac]
 refine Eb_.w OZ_ (by omega) ?_
 obtain⟨b,o,c,rfl,hv⟩:=hc
 simp -implicitDefEqProofs only[Ax_,Ad,W_oS,Aa,W_mv,Ac,T.get_set,reduceIte,reduceCtorEq, ↓reduceIte,h0,QJ_ A2]
 refine W.cond (v:=false) Vi_ Le_ (by simp[T.get_set]) (by omega) (fun h=>by cases h) fun _=> ?_
 refine EA_.w Et_ (by omega) ?_
 simp -implicitDefEqProofs only[VO,Ad,W_oS,Aa,W_mv,Ac,T.get_set,Al,Ak,A7,Aj,reduceIte,reduceCtorEq, ↓reduceIte,h0]
 refine W.buildS (s:=s.cxN cxN) hbd (r:=[]) EP (by decide) rfl (BD (by decide)) fun s1 n1 x1 r1=> ?_
 have hb1:s1.lim≤s1.next:=x1.bnd hbd
 have hx1:Ext (BsF (.slice (some ⟨b,o,none⟩) l.length c)) Non (s.cxN cxN) s1:=x1.weak hbd (fun _ _ h=>h.elim) fun _ _ h=>h
 have hv1:Bs s1 (.slice (some ⟨b,o,none⟩) l.length c) l:=(Bn.bs ⟨b,o,c,rfl,hv⟩).ext0 hx1
 rw[DN]
 by_cases hl:0<l.length
 ·refine W.appEmp hb1 Jx hv1.src.g hl (by decide) (by decide) (by omega) (by rw[A1,Nat.mul_one]) (BT _) fun s2 w nb hf x2=> ?_
  have hx2:=hx1.step x2 hbd (fun _ _ h=>h) fun _ h=>h.elim
  refine W.end' (rs:=[2]) (vs:=[w]) Ux (.inl Ue) (by omega) QT WW hx2.cx (by simp[T.get_set]) ?_
  have hN:=hf.toNew (BD (by omega))
  refine q _ _ hx2.cx' ⟨hN.bn.same rfl rfl,fun x hx=> ?_⟩
  have h1:=hN.new x hx
  have h2:s.next≤s1.next:=hx1.nxt
  omega
 ·have h0l:l=[]:=List.eq_nil_of_length_eq_zero (by omega)
  subst h0l
  refine W.appIn (s:=s1) (n:=0) (len:=0) (c:=0) (l:=[]) Jx hv1.src.g (by simp) rfl rfl (fun i hi=>absurd hi (by omega)) fun s2 n2 x2 r2=> ?_
  have hx2:=hx1.step x2 hbd (fun _ _ h=>by
   rcases h with h|h
   ·exact h
   ·have h3:=h.1;have h4:=h.2;omega) fun l h=>by have h3:=h.1;have h4:=h.2;omega
  refine W.end' (rs:=[2]) (vs:=[.slice (some ⟨s.next,0,none⟩) (0+0) 0]) Ux (.inl Ue) (by omega) QT WW hx2.cx (by simp[T.get_set];rfl) ?_
  refine q _ _ hx2.cx' ⟨⟨s.next,0,0,rfl,by simp,LM (by unfold capU;decide),fun i v e=>by simp at e⟩,fun x hx=> ?_⟩
  have h3:s.next+0≤x:=hx.1
  have h4:x<s.next+0+(0+0):=hx.2
  omega
theorem W.cut {E:Env}{t:Nat}{s:St}{v:Value}{l:List Nat}{i j:Nat}{lo hi:Option Value}{Q:Value→St→Prop}(h:Bn s v l)(ht:slN E t=some 1)(hlo:bndV lo 0=some i)(hhi:bndV hi l.length=some j)(hij:i≤j)(hj:j≤l.length)
  (q: ∀v',Bn s v' ((l.take j).drop i)→(∀x,BsF v' x→BsF v x)→Q v' s):W (BE E t v lo hi) s Q:=by
 obtain⟨b,o,c,rfl,h1,h2,h3⟩:=h
 rw[Mr ht hlo hhi hij (by omega) h2]
 obtain⟨o',e1,e2,e3,e4,e5⟩:=Bs.sub' hij hj h1 h2 h3
 rw[e1]
 refine q _ ⟨b,o',c-i,rfl,e2,e3,e4⟩ fun x hx=> ?_
 have hlen:((l.take j).drop i).length=j-i:=by rw[List.length_drop,List.length_take];omega
 have h6:b+o'≤x:=hx.1
 have h7:x<b+o'+((l.take j).drop i).length:=hx.2
 rw[hlen]at h7
 rcases e5 with rfl|e5
 ·exact⟨by omega,by omega⟩
 ·rw[hlen]at e5;omega
def GOk (l:List Nat):Prop:=4≤l.length∧gput (l.take (l.length-4))=l
instance (l:List Nat):Decidable (GOk l):=by unfold GOk;infer_instance
theorem ED (l:List Nat):(gput l).length=l.length+4:=by simp[gput,le4]
theorem RB_ {n:Nat}{s:St}{v:Value}{l:List Nat}{Q:Value→St→Prop}(hbd:s.lim≤s.next)(h:Bn s v l)(hb:Byt l)(hz:l.length≤900000)(hn:7*l.length+200≤n)
  (q1:GOk l→ ∀s1 w,Ext (BsF v) Non s s1→New s s1 w (l.take (l.length-4))→Q (.tuple #[w, .int .i64 0]) s1) (q2: ¬GOk l→ ∀s1,Ext (BsF v) Non s s1→Q (.tuple #[.slice none 0 0, .int .i64 4]) s1):W (Au envS (runF envS n) 81 [v]) s Q:=by
 refine GO_ fun tm h0=> ?_
 have hc:Bn (s.cxN cxN) v l:=h.same rfl rfl
 refine OT_.w rfl (by omega) ?_
 simp -implicitDefEqProofs only[Xv,Aa,W_mv,Ac]
 refine TL_.w Ml_ (by omega) ?_
 simp -implicitDefEqProofs only[VU,Ad,W_oS,Aa,W_mv,Ac,T.get_set,Al,Ak,Aj,reduceIte,reduceCtorEq, ↓reduceIte,DQ,h0,hc.bs.len A2]
 refine IM_.w SZ_ (by omega) ?_
 by_cases h4:4≤l.length
 ·have ek:wrap64 ((l.length:Nat)-4:Int)=((l.length-4:Nat):Int):=by
   rw[Bj (by omega) (by omega)];omega
  have ed:decide (((l.length-4:Nat):Int)<0)=false:=by simp
  simp -implicitDefEqProofs only[Q3,Ad,W_oS,W_on,Aa,W_mv,Ac,T.get_set,Al,Ak,Aj,AS,reduceIte,AV,Bc,A0,A6,AU,reduceCtorEq, ↓reduceIte,BA,h0,ek,ed]
  have hcut:(l.take (l.length-4)).drop 0=l.take (l.length-4):=rfl
  refine W.cut hc A2 (i:=0) (j:=l.length-4) rfl rfl (Nat.zero_le _) (by omega) fun v1 hv1 hF1=> ?_
  rw[hcut]at hv1
  have hB1:Byt (l.take (l.length-4)):=fun x hx=>hb x (List.mem_of_mem_take hx)
  have hl1:(l.take (l.length-4)).length=l.length-4:=by rw[List.length_take];omega
  refine XQ (s:=s.cxN cxN) hbd (by omega) hv1 hB1 (by omega) fun s1 w1 x1 hw1=> ?_
  have hb1:s1.lim≤s1.next:=x1.bnd hbd
  have hx1:Ext (BsF v) Non (s.cxN cxN) s1:=x1.weak hbd (fun x _ hx=>hF1 x hx) fun _ _ h=>h
  refine Tz_ hb1 hw1.bn.bs (hc.ext0 hx1).bs (by rw[ED];omega) (by rw[ED];omega) fun s2 x2 m2 n2=> ?_
  have hx2:Ext (BsF v) Non (s.cxN cxN) s2:=hx1.step x2 hbd (fun x hx h=>by
   rcases h with h|h
   ·have h5:s.next≤x:=hw1.new x h
    have h6:x<s.lim:=hx
    omega
   ·exact h) fun _ h=>h.elim
  have hb2:s2.lim≤s2.next:=hx2.bnd hbd
  simp -implicitDefEqProofs only[DE]
  by_cases hg:gput (l.take (l.length-4))=l
  ·refine W.cond (v:=false) PB ON (by simp[T.get_set,hg]) (by omega) (fun h=>by cases h) fun _=> ?_
   refine LW_.w Jp_ (by omega) ?_
   simp -implicitDefEqProofs only[YW,Ad,W_on,Aa,W_mv,Ac,T.get_set,Al,Ak,Aj,AS,reduceIte,Nat.reduceEqDiff,reduceCtorEq, ↓reduceIte,h0]
   refine W.cut (hc.ext0 hx2) A2 (i:=0) (j:=l.length-4) rfl rfl (Nat.zero_le _) (by omega) fun v3 hv3 hF3=> ?_
   rw[hcut]at hv3
   refine GK_ hb2 hv3 (by omega) (by omega) fun s3 w x3 hw3=> ?_
   have hx3:Ext (BsF v) Non (s.cxN cxN) s3:=hx2.step x3 hbd (fun x _ hx=>hF3 x hx) fun _ h=>h.elim
   refine W.end' (rs:=[2,3]) (vs:=[w, .int .i64 0]) Ug_ (.inl Ih_) (by omega) JS PJ hx3.cx (by simp[T.get_set]) ?_
   refine q1 ⟨h4,hg⟩ _ w hx3.cx' ⟨hw3.bn.same rfl rfl,fun x hx=> ?_⟩
   have h5:=hw3.new x hx
   have h6:s.next≤s2.next:=hx2.nxt
   omega
  ·refine W.cond (v:=true) PB ON (by simp[T.get_set,hg]) (by omega) (fun _=> ?_) fun h=>by cases h
   refine AX_.w SR (by omega) ?_
   simp -implicitDefEqProofs only[Rw,Aa,W_mv,Ac]
   refine W.end' (rs:=[2,3]) (vs:=[.slice none 0 0, .int .i64 4]) UD (.inl Vx) (by omega) JS PJ hx2.cx (by simp[T.get_set]) ?_
   exact q2 (fun h=>hg h.2) _ hx2.cx'
 ·have ed:decide (wrap64 ((l.length:Nat)-4:Int)<0)=true:=by
   rw[Bj (by omega) (by omega)];simp;omega
  simp -implicitDefEqProofs only[Q3,Ad,W_oS,W_on,Aa,W_mv,Ac,T.get_set,Al,Ak,Aj,reduceIte,AV,Bi,A0,Bm,AU,reduceCtorEq, ↓reduceIte,BA,h0,ed]
  refine W.cond (v:=true) PB ON (by simp[T.get_set]) (by omega) (fun _=> ?_) fun h=>by cases h
  refine AX_.w SR (by omega) ?_
  simp -implicitDefEqProofs only[Rw,Aa,W_mv,Ac]
  refine W.end' (rs:=[2,3]) (vs:=[.slice none 0 0, .int .i64 4]) UD (.inl Vx) (by omega) JS PJ rfl (by simp[T.get_set]) ?_
  exact q2 (fun h=>h4 h.1) _ (Ext.refl s)
def Q4:Nat:=BB Try.f110
def TW:Code:=Try.f110.body.getD .skip
theorem Z4:envS.fn.get 110=some Try.f110:=by kernel_rfl
theorem Wq_ {n:Nat}{s:St}{Q:Value→St→Prop}(h: ∀tm,W (runF envS n ⟨110,4,Q4,tm,[.code TW], .run, .normal,none⟩) (s.cxN cxN) fun p s1=>Q p.1 (s1.cxN s.cx)):W (Au envS (runF envS n) 110 []) s Q:=
 W.call (by kernel_rfl) (by kernel_rfl) Z4 (by kernel_rfl) rfl rfl (by simp) (h _)
theorem Ww_:Try.f110.results.toList=[.tmp 0]:=by kernel_rfl
def P9:List Item:=skim 64 [.code TW]
def ME:List Item:=skim 64 P9.tail
theorem Ft_:skim 64 P9.tail=ME:=by kernel_rfl
def NZ:List Item:=skim 64 ME.tail
theorem Ik_:skim 64 ME.tail=NZ:=by kernel_rfl
def Ao_ (E:Env)(call round:Ab)(tm:T Value):M (T Value):=
 mv (some (.pointer none)) fun v0=>
 setF 0 v0 tm fun tm1=>
 M.pure tm1
theorem MQ_:RegEq 110 4 Q4 P9 Ao_:=⟨by kernel_rfl,fun _ _ _ _ _ _ _ _ _=>by kernel_rfl⟩
def UQ (E:Env)(call round:Ab)(tm:T Value):M (T Value):=
 M.bind (M.on (some (.func (.func 133) #[] #[])) fun f=>M.on (seqO []) fun l=>AZ call round f l) fun v1=>
 M.bind (oS (seqP [(0,(some (.bool true))),(1,(some v1))]) fun ps=>Cc E 167 ps) fun v2=>
 M.bind (oS (some v2) fun a=>kBox a) fun v3=>
 mv (some v3) fun v0=>
 setF 0 v0 tm fun tm1=>
 M.pure tm1
theorem Wg_:RegEq 110 4 Q4 ME UQ:=⟨by kernel_rfl,fun _ _ _ _ _ _ _ _ _=>by kernel_rfl⟩
theorem FF_: ∃k,NZ= .code .ret::k:=⟨NZ.tail,by kernel_rfl⟩
def Sy:Nat:=BB Try.f133
def Vc:Code:=Try.f133.body.getD .skip
theorem YV:envS.fn.get 133=some Try.f133:=by kernel_rfl
theorem LK_ {n:Nat}{s:St}{Q:Value→St→Prop}(h: ∀tm,W (runF envS n ⟨133,2,Sy,tm,[.code Vc], .run, .normal,none⟩) (s.cxN cxN) fun p s1=>Q p.1 (s1.cxN s.cx)):W (Au envS (runF envS n) 133 []) s Q:=
 W.call (by kernel_rfl) (by kernel_rfl) YV (by kernel_rfl) rfl rfl (by simp) (h _)
theorem MP_:Try.f133.results.toList=[.cell 0 163]:=by kernel_rfl
def O5:List Item:=skim 64 [.code Vc]
def JW:List Item:=skim 64 O5.tail
theorem Wk_:skim 64 O5.tail=JW:=by kernel_rfl
def QG:List Item:=skim 64 JW.tail
theorem DI_:skim 64 JW.tail=QG:=by kernel_rfl
def VQ (E:Env)(call round:Ab)(tm:T Value):M (T Value):=
 M.bind (BF E 163) fun v0=>
 setF 0 v0 tm fun tm1=>
 M.pure tm1
theorem RF_:RegEq 133 2 Sy O5 VQ:=⟨by kernel_rfl,fun _ _ _ _ _ _ _ _ _=>by kernel_rfl⟩
def Xx (E:Env)(call round:Ab)(tm:T Value):M (T Value):=
 M.bind (oS (seqP [(0,(some (.int .u32 1779033703))),(1,(some (.int .u32 3144134277))),(2,(some (.int .u32 1013904242))),(3,(some (.int .u32 2773480762))),(4,(some (.int .u32 1359893119))),(5,(some (.int .u32 2600822924))),(6,(some (.int .u32 528734635))),(7,(some (.int .u32 1541459225)))]) fun ps=>Cc E 163 ps) fun v1=>
 M.bind (oS (T.get tm 0) fun a=>oS (some v1) fun b=>A5 E 163 a b) fun _=>
 M.pure tm
theorem He_:RegEq 133 2 Sy JW Xx:=⟨by kernel_rfl,fun _ _ _ _ _ _ _ _ _=>by kernel_rfl⟩
theorem IJ_: ∃k,QG= .code .ret::k:=⟨QG.tail,by kernel_rfl⟩
def Ds:Nat:=BB Try.f111
abbrev TA_:Nat:=57
def Uk:Code:=Try.f111.body.getD .skip
theorem NW:envS.fn.get 111=some Try.f111:=by kernel_rfl
theorem EX_ {a0 a1:Value}{n:Nat}{s:St}{Q:Value→St→Prop}(h: ∀tm,T.get tm 0=some a0→T.get tm 1=some a1→W (runF envS n ⟨111,57,Ds,tm,[.code Uk], .run, .normal,none⟩) (s.cxN cxN) fun p s1=>Q p.1 (s1.cxN s.cx)):W (Au envS (runF envS n) 111 [a0,a1]) s Q:=
 W.call (by kernel_rfl) (by kernel_rfl) NW (by kernel_rfl) rfl rfl (by simp) (h _ (by kernel_rfl) (by kernel_rfl))
theorem U3:Try.f111.results.toList=[]:=by kernel_rfl
def OS:List Item:=skim 64 [.code Uk]
def LU:List Item:=skim 64 OS.tail
theorem Kg_:skim 64 OS.tail=LU:=by kernel_rfl
def FC:List Item:=skim 64 (brF LU)
theorem Fi_:skim 64 (brF LU)=FC:=by kernel_rfl
def GV:List Item:=skim 64 FC.tail
theorem OU:skim 64 FC.tail=GV:=by kernel_rfl
def NI:List Item:=skim 64 (brT GV)
theorem Ip_:skim 64 (brT GV)=NI:=by kernel_rfl
def Uc_:List Item:=skim 64 (brF GV)
theorem Wc:skim 64 (brF GV)=Uc_:=by kernel_rfl
def Kh:List Item:=skim 64 NI.tail
theorem FS_:skim 64 NI.tail=Kh:=by kernel_rfl
def Kx:List Item:=skim 64 Kh.tail
theorem KX_:skim 64 Kh.tail=Kx:=by kernel_rfl
def Nc:List Item:=skim 64 Kx.tail
theorem TN_:skim 64 Kx.tail=Nc:=by kernel_rfl
def Ko:List Item:=skim 64 Nc.tail
theorem HP_:skim 64 Nc.tail=Ko:=by kernel_rfl
def IQ:List Item:=skim 64 Ko.tail
theorem Ze:skim 64 Ko.tail=IQ:=by kernel_rfl
def Ky:List Item:=skim 64 (brT IQ)
theorem CL_:skim 64 (brT IQ)=Ky:=by kernel_rfl
theorem VW_:skim 64 (brF IQ)=FC:=by kernel_rfl
theorem SI_:skim 64 Ky.tail=FC:=by kernel_rfl
def UR (E:Env)(call round:Ab)(tm:T Value):M (T Value):=
 mv (T.get tm 0) fun v6=>
 M.bind (oS (some v6) fun a=>oS (some (.pointer none)) fun b=>Cl.get (aBin E .eql 145 (.tmp 6) (.const (.pointer none))) a b) fun v7=>
 mv (some v7) fun v8=>
 M.bind (M.chk (isK v8) (M.if (isB v8 false) (oS (T.get tm 0) fun a=>M.pure a) (M.pure undef))) fun v9=>
 M.bind (M.chk (isK v8) (M.if (isB v8 false) (oS (some v9) fun a=>kNil a) (M.pure undef))) fun v10=>
 M.bind (M.chk (isK v8) (M.if (isB v8 false) (oS (some v10) fun a=>kFld E 167 a 0) (M.pure undef))) fun v11=>
 M.bind (M.chk (isK v8) (M.if (isB v8 false) (oS (some v11) fun a=>AQ E 4 a) (M.pure undef))) fun v12=>
 M.bind (M.chk (isK v8) (M.if (isB v8 false) (oS (some v12) fun a=>kUn E.P .not a) (M.pure undef))) fun v13=>
 M.bind (M.on (some v8) fun a=>M.on (some (.bool true)) fun b=>M.on (some v13) fun c=>BJ a b c) fun v14=>
 setF 14 v14 tm fun tm1=>
 M.pure tm1
theorem Si_:RegEq 111 57 Ds OS UR:=⟨by kernel_rfl,fun _ _ _ _ _ _ _ _ _=>by kernel_rfl⟩
theorem MY_:Ba LU=some 14:=by kernel_rfl
def L9 (E:Env)(call round:Ab)(tm:T Value):M (T Value):=
 mv (T.get tm 1) fun v15=>
 M.bind (oS (seqO [(some v15)]) fun l=>AT E .len [22] l) fun v16=>
 M.bind (oS (some v16) fun a=>oS (some (.int .i64 0)) fun b=>Cl.get (aBin E .gtr 3 (.tmp 16) (.const (.int .i64 0))) a b) fun v17=>
 setF 17 v17 tm fun tm1=>
 M.pure tm1
theorem Ro:RegEq 111 57 Ds FC L9:=⟨by kernel_rfl,fun _ _ _ _ _ _ _ _ _=>by kernel_rfl⟩
theorem O8:Ba GV=some 17:=by kernel_rfl
def AU_ (E:Env)(call round:Ab)(tm:T Value):M (T Value):=
 mv (T.get tm 0) fun v18=>
 M.bind (oS (some v18) fun a=>kNil a) fun v19=>
 M.bind (oS (some v19) fun a=>kFld E 167 a 3) fun v20=>
 M.bind (oS (some v20) fun a=>AQ E 3 a) fun v21=>
 M.bind (oS (some v21) fun a=>oS (some (.int .i64 64)) fun b=>Cl.get (aBin E .rem 3 (.tmp 21) (.const (.int .i64 64))) a b) fun v22=>
 mv (some v22) fun v4=>
 setF 4 v4 tm fun tm1=>
 M.pure tm1
theorem GF_:RegEq 111 57 Ds NI AU_:=⟨by kernel_rfl,fun _ _ _ _ _ _ _ _ _=>by kernel_rfl⟩
def BR_ (E:Env)(call round:Ab)(tm:T Value):M (T Value):=
 mv (T.get tm 0) fun v23=>
 M.bind (oS (some v23) fun a=>kNil a) fun v24=>
 M.bind (oS (some v24) fun a=>kFld E 167 a 2) fun v25=>
 mv (T.get tm 4) fun v26=>
 M.bind (M.on (some v25) fun a=>M.on (onO (some v26) fun v=>some (some v)) fun b=>M.on (some none) fun c=>BE E 165 a b c) fun v27=>
 mv (T.get tm 1) fun v28=>
 M.bind (oS (seqO [(some v27),(some v28)]) fun l=>AT E .copy [22,22] l) fun v29=>
 mv (some v29) fun v5=>
 setF 5 v5 tm fun tm1=>
 M.pure tm1
theorem UY_:RegEq 111 57 Ds Kh BR_:=⟨by kernel_rfl,fun _ _ _ _ _ _ _ _ _=>by kernel_rfl⟩
def Ur (E:Env)(call round:Ab)(tm:T Value):M (T Value):=
 mv (T.get tm 1) fun v30=>
 mv (T.get tm 5) fun v31=>
 M.bind (M.on (some v30) fun a=>M.on (onO (some v31) fun v=>some (some v)) fun b=>M.on (some none) fun c=>BE E 22 a b c) fun v32=>
 mv (some v32) fun v1=>
 setF 1 v1 tm fun tm1=>
 M.pure tm1
theorem NH_:RegEq 111 57 Ds Kx Ur:=⟨by kernel_rfl,fun _ _ _ _ _ _ _ _ _=>by kernel_rfl⟩
def Zg (E:Env)(call round:Ab)(tm:T Value):M (T Value):=
 mv (T.get tm 0) fun v33=>
 M.bind (oS (some v33) fun a=>kNil a) fun v34=>
 M.bind (oS (some v34) fun a=>kFld E 167 a 3) fun v35=>
 M.bind (oS (some v35) fun a=>AQ E 3 a) fun v36=>
 mv (T.get tm 5) fun v37=>
 M.bind (oS (some v36) fun a=>oS (some v37) fun b=>Cl.get (aBin E .add 3 (.tmp 36) (.tmp 37)) a b) fun v38=>
 M.bind (oS (some v33) fun a=>kNil a) fun v39=>
 M.bind (oS (some v39) fun a=>kFld E 167 a 3) fun v40=>
 M.bind (oS (some v40) fun a=>oS (some v38) fun b=>A5 E 3 a b) fun _=>
 M.pure tm
theorem Pg_:RegEq 111 57 Ds Nc Zg:=⟨by kernel_rfl,fun _ _ _ _ _ _ _ _ _=>by kernel_rfl⟩
def SL (E:Env)(call round:Ab)(tm:T Value):M (T Value):=
 mv (T.get tm 4) fun v41=>
 mv (T.get tm 5) fun v42=>
 M.bind (oS (some v41) fun a=>oS (some v42) fun b=>Cl.get (aBin E .add 3 (.tmp 41) (.tmp 42)) a b) fun v43=>
 M.bind (oS (some v43) fun a=>oS (some (.int .i64 64)) fun b=>Cl.get (aBin E .eql 3 (.tmp 43) (.const (.int .i64 64))) a b) fun v44=>
 setF 44 v44 tm fun tm1=>
 M.pure tm1
theorem WH_:RegEq 111 57 Ds Ko SL:=⟨by kernel_rfl,fun _ _ _ _ _ _ _ _ _=>by kernel_rfl⟩
theorem Cx_:Ba IQ=some 44:=by kernel_rfl
def Am_ (E:Env)(call round:Ab)(tm:T Value):M ((Rho×T Value)×List OpLog):=
 M.bind (apartO (oS (T.get tm 0) fun a=>M.pure a)) fun p0=>
 M.bind (apartO (oS (T.get tm 0) fun a=>M.pure a)) fun p1=>
 M.bind (apartO (oS (some p1.1) fun a=>kNil a)) fun p2=>
 M.bind (apartO (oS (some p2.1) fun a=>kFld E 167 a 1)) fun p3=>
 M.bind (apartO (oS (some p3.1) fun a=>AQ E 163 a)) fun p4=>
 M.bind (apartO (oS (T.get tm 0) fun a=>M.pure a)) fun p5=>
 M.bind (apartO (oS (some p5.1) fun a=>kNil a)) fun p6=>
 M.bind (apartO (oS (some p6.1) fun a=>kFld E 167 a 2)) fun p7=>
 M.bind (apartO (M.on (some p7.1) fun a=>M.on (some none) fun b=>M.on (some none) fun c=>BE E 165 a b c)) fun p8=>
 M.bind (apartO (M.on (some (.func (.func 134) #[] #[])) fun f=>M.on (seqO [(some p4.1),(some p8.1)]) fun l=>AZ call round f l)) fun p9=>
 M.bind (apartO (oS (some p0.1) fun a=>kNil a)) fun p10=>
 M.bind (apartO (oS (some p10.1) fun a=>kFld E 167 a 1)) fun p11=>
 M.pure (([p11.1,p10.1,p9.1,p8.1,p7.1,p6.1,p5.1,p4.1,p3.1,p2.1,p1.1,p0.1],tm),[p11.2,p10.2,p9.2,p8.2,p7.2,p6.2,p5.2,p4.2,p3.2,p2.2,p1.2,p0.2])
theorem Rf_:DrawEq 111 57 Ds Ky [0,0,2,6,14,0,32,96,224,510,1023,2047,4095] Am_:=⟨by kernel_rfl,by kernel_rfl,fun _ _ _ _ _ _ _ _ _=>by kernel_rfl⟩
theorem Em_ (E:Env)(call round:Ab)(x45 x46 x47 x48 x49 x50 x51 x52 x53 x54 x55 x56:Value)(tm:T Value)(s:St):BG call round (Cs E Ds 57 (hdC Ky)) [x56,x55,x54,x53,x52,x51,x50,x49,x48,x47,x46,x45] tm s=(M.bind (oS (some x56) fun a=>oS (some x54) fun b=>A5 E 163 a b) fun _=>M.pure tm) s:=by kernel_rfl
def BW:Nat:=BB Try.f112
abbrev G3:Nat:=74
def SZ:Code:=Try.f112.body.getD .skip
theorem SV:envS.fn.get 112=some Try.f112:=by kernel_rfl
theorem PI_ {a0:Value}{n:Nat}{s:St}{Q:Value→St→Prop}(h: ∀tm,T.get tm 0=some a0→W (runF envS n ⟨112,74,BW,tm,[.code SZ], .run, .normal,none⟩) (s.cxN cxN) fun p s1=>Q p.1 (s1.cxN s.cx)):W (Au envS (runF envS n) 112 [a0]) s Q:=
 W.call (by kernel_rfl) (by kernel_rfl) SV (by kernel_rfl) rfl rfl (by simp) (h _ (by kernel_rfl))
theorem VG_:Try.f112.results.toList=[.cell 2 101]:=by kernel_rfl
def PV:List Item:=skim 64 [.code SZ]
def K2:List Item:=skim 64 PV.tail
theorem Rr_:skim 64 PV.tail=K2:=by kernel_rfl
def Lu:List Item:=skim 64 K2.tail
theorem Jy_:skim 64 K2.tail=Lu:=by kernel_rfl
def LB:List Item:=skim 64 Lu.tail
theorem JN_:skim 64 Lu.tail=LB:=by kernel_rfl
def Lb:List Item:=skim 64 (brF LB)
theorem Cz_:skim 64 (brF LB)=Lb:=by kernel_rfl
def Ie:List Item:=skim 64 Lb.tail
theorem GC_:skim 64 Lb.tail=Ie:=by kernel_rfl
def NA:List Item:=skim 64 Ie.tail
theorem SU_:skim 64 Ie.tail=NA:=by kernel_rfl
def K4:List Item:=skim 64 NA.tail
theorem Qf_:skim 64 NA.tail=K4:=by kernel_rfl
def G5:List Item:=skim 64 K4.tail
theorem Ol_:skim 64 K4.tail=G5:=by kernel_rfl
def GE:List Item:=skim 64 G5.tail
theorem Be_:skim 64 G5.tail=GE:=by kernel_rfl
def KH:List Item:=skim 64 (brT GE)
theorem Oo_:skim 64 (brT GE)=KH:=by kernel_rfl
def IV:List Item:=skim 64 (brF GE)
theorem MR_:skim 64 (brF GE)=IV:=by kernel_rfl
def Qj:List Item:=skim 64 KH.tail
theorem NE_:skim 64 KH.tail=Qj:=by kernel_rfl
def JL:List Item:=skim 64 IV.tail
theorem Sh_:skim 64 IV.tail=JL:=by kernel_rfl
theorem FU_:skim 64 Qj.tail=G5:=by kernel_rfl
def GB:List Item:=skim 64 JL.tail
theorem Sr_:skim 64 JL.tail=GB:=by kernel_rfl
def GW:List Item:=skim 64 GB.tail
theorem Tz:skim 64 GB.tail=GW:=by kernel_rfl
def M8:List Item:=skim 64 (brT GW)
theorem Mz_:skim 64 (brT GW)=M8:=by kernel_rfl
def IR:List Item:=skim 64 (brF GW)
theorem MK_:skim 64 (brF GW)=IR:=by kernel_rfl
def LR:List Item:=skim 64 M8.tail
theorem Rl_:skim 64 M8.tail=LR:=by kernel_rfl
def Q1:List Item:=skim 64 IR.tail
theorem Sc_:skim 64 IR.tail=Q1:=by kernel_rfl
def O4:List Item:=skim 64 LR.tail
theorem Jm_:skim 64 LR.tail=O4:=by kernel_rfl
theorem Po_:skim 64 O4.tail=GB:=by kernel_rfl
def SU (E:Env)(call round:Ab)(tm:T Value):M (T Value):=
 M.bind (BF E 101) fun v2=>
 setF 2 v2 tm fun tm1=>
 M.pure tm1
theorem PX_:RegEq 112 74 BW PV SU:=⟨by kernel_rfl,fun _ _ _ _ _ _ _ _ _=>by kernel_rfl⟩
def XN (E:Env)(call round:Ab)(tm:T Value):M (T Value):=
 M.bind (BF E 101) fun v3=>
 setF 3 v3 tm fun tm1=>
 M.pure tm1
theorem Gy_:RegEq 112 74 BW K2 XN:=⟨by kernel_rfl,fun _ _ _ _ _ _ _ _ _=>by kernel_rfl⟩
def X9 (E:Env)(call round:Ab)(tm:T Value):M (T Value):=
 mv (T.get tm 0) fun v9=>
 M.bind (oS (some v9) fun a=>oS (some (.pointer none)) fun b=>Cl.get (aBin E .eql 145 (.tmp 9) (.const (.pointer none))) a b) fun v10=>
 mv (some v10) fun v11=>
 M.bind (M.chk (isK v11) (M.if (isB v11 false) (oS (T.get tm 0) fun a=>M.pure a) (M.pure undef))) fun v12=>
 M.bind (M.chk (isK v11) (M.if (isB v11 false) (oS (some v12) fun a=>kNil a) (M.pure undef))) fun v13=>
 M.bind (M.chk (isK v11) (M.if (isB v11 false) (oS (some v13) fun a=>kFld E 167 a 0) (M.pure undef))) fun v14=>
 M.bind (M.chk (isK v11) (M.if (isB v11 false) (oS (some v14) fun a=>AQ E 4 a) (M.pure undef))) fun v15=>
 M.bind (M.chk (isK v11) (M.if (isB v11 false) (oS (some v15) fun a=>kUn E.P .not a) (M.pure undef))) fun v16=>
 M.bind (M.on (some v11) fun a=>M.on (some (.bool true)) fun b=>M.on (some v16) fun c=>BJ a b c) fun v17=>
 setF 17 v17 tm fun tm1=>
 M.pure tm1
theorem IT_:RegEq 112 74 BW Lu X9:=⟨by kernel_rfl,fun _ _ _ _ _ _ _ _ _=>by kernel_rfl⟩
theorem JO_:Ba LB=some 17:=by kernel_rfl
def UN (E:Env)(call round:Ab)(tm:T Value):M (T Value):=
 mv (T.get tm 0) fun v19=>
 M.bind (oS (some v19) fun a=>kNil a) fun v20=>
 M.bind (oS (some v20) fun a=>AQ E 167 a) fun v21=>
 M.bind (BF E 167) fun v4=>
 setF 4 v4 tm fun tm1=>
 M.bind (oS (some v4) fun a=>oS (some v21) fun b=>A5 E 167 a b) fun _=>
 M.pure tm1
theorem NX_:RegEq 112 74 BW Lb UN:=⟨by kernel_rfl,fun _ _ _ _ _ _ _ _ _=>by kernel_rfl⟩
def Tx (E:Env)(call round:Ab)(tm:T Value):M (T Value):=
 mv (T.get tm 0) fun v22=>
 M.bind (oS (some v22) fun a=>kNil a) fun v23=>
 M.bind (oS (some v23) fun a=>kFld E 167 a 3) fun v24=>
 M.bind (oS (some v24) fun a=>AQ E 3 a) fun v25=>
 M.bind (oS (some v25) fun a=>oS (some (.int .i64 64)) fun b=>Cl.get (aBin E .rem 3 (.tmp 25) (.const (.int .i64 64))) a b) fun v26=>
 M.bind (oS (some (.int .i64 119)) fun a=>oS (some v26) fun b=>Cl.get (aBin E .sub 3 (.const (.int .i64 119)) (.tmp 26)) a b) fun v27=>
 M.bind (oS (some v27) fun a=>oS (some (.int .i64 64)) fun b=>Cl.get (aBin E .rem 3 (.tmp 27) (.const (.int .i64 64))) a b) fun v28=>
 M.bind (oS (some (.int .i64 1)) fun a=>oS (some v28) fun b=>Cl.get (aBin E .add 3 (.const (.int .i64 1)) (.tmp 28)) a b) fun v29=>
 M.bind (oS (some v29) fun a=>oS (some (.int .i64 80)) fun b=>En E 22 a b) fun v30=>
 mv (some v30) fun v5=>
 setF 5 v5 tm fun tm1=>
 M.pure tm1
theorem OC_:RegEq 112 74 BW Ie Tx:=⟨by kernel_rfl,fun _ _ _ _ _ _ _ _ _=>by kernel_rfl⟩
def Ap_ (E:Env)(call round:Ab)(tm:T Value):M (T Value):=
 mv (T.get tm 5) fun v31=>
 M.bind (oS (some v31) fun a=>oS (some (.int .i64 0)) fun b=>BM E 22 a b) fun v32=>
 M.bind (oS (some v32) fun a=>oS (some (.int .u8 128)) fun b=>A5 E 5 a b) fun _=>
 M.pure tm
theorem Jz_:RegEq 112 74 BW NA Ap_:=⟨by kernel_rfl,fun _ _ _ _ _ _ _ _ _=>by kernel_rfl⟩
def VP (E:Env)(call round:Ab)(tm:T Value):M (T Value):=
 mv (some (.int .i64 56)) fun v6=>
 setF 6 v6 tm fun tm1=>
 M.pure tm1
theorem Ta_:RegEq 112 74 BW K4 VP:=⟨by kernel_rfl,fun _ _ _ _ _ _ _ _ _=>by kernel_rfl⟩
def Qx (E:Env)(call round:Ab)(tm:T Value):M (T Value):=
 mv (T.get tm 6) fun v33=>
 M.bind (oS (some v33) fun a=>oS (some (.int .i64 0)) fun b=>Cl.get (aBin E .geq 3 (.tmp 33) (.const (.int .i64 0))) a b) fun v34=>
 setF 34 v34 tm fun tm1=>
 M.pure tm1
theorem W8:RegEq 112 74 BW G5 Qx:=⟨by kernel_rfl,fun _ _ _ _ _ _ _ _ _=>by kernel_rfl⟩
theorem VK:Ba GE=some 34:=by kernel_rfl
def Uw (E:Env)(call round:Ab)(tm:T Value):M (T Value):=
 mv (T.get tm 5) fun v37=>
 mv (T.get tm 0) fun v38=>
 M.bind (oS (some v38) fun a=>kNil a) fun v39=>
 M.bind (oS (some v39) fun a=>kFld E 167 a 3) fun v40=>
 M.bind (oS (some v40) fun a=>AQ E 3 a) fun v41=>
 M.bind (oS (some (.int .i64 8)) fun a=>oS (some v41) fun b=>Cl.get (aBin E .mul 3 (.const (.int .i64 8)) (.tmp 41)) a b) fun v42=>
 mv (T.get tm 6) fun v43=>
 M.bind (oS (some v42) fun a=>oS (some v43) fun b=>Cl.get (aBin E .shr 3 (.tmp 42) (.tmp 43)) a b) fun v44=>
 M.bind (oS (some v44) fun a=>BV E 3 5 a) fun v45=>
 M.bind (oS (seqP [(0,(some v45))]) fun ps=>Cf E 22 1 ps) fun v46=>
 M.bind (oS (seqO [(some v37),(some v46)]) fun l=>AT E .append [22,22] l) fun v47=>
 mv (some v47) fun v5=>
 setF 5 v5 tm fun tm1=>
 M.pure tm1
theorem SJ_:RegEq 112 74 BW KH Uw:=⟨by kernel_rfl,fun _ _ _ _ _ _ _ _ _=>by kernel_rfl⟩
def AC_ (E:Env)(call round:Ab)(tm:T Value):M (T Value):=
 mv (T.get tm 5) fun v48=>
 M.bind (M.on (some (.func (.func 111) #[] #[])) fun f=>M.on (seqO [(T.get tm 4),(some v48)]) fun l=>AZ call round f l) fun v49=>
 M.pure tm
theorem Wa_:RegEq 112 74 BW IV AC_:=⟨by kernel_rfl,fun _ _ _ _ _ _ _ _ _=>by kernel_rfl⟩
def Y8 (E:Env)(call round:Ab)(tm:T Value):M (T Value):=
 mv (T.get tm 6) fun v35=>
 M.bind (oS (some v35) fun a=>oS (some (.int .i64 8)) fun b=>Cl.get (aBin E .sub 3 (.tmp 35) (.const (.int .i64 8))) a b) fun v36=>
 mv (some v36) fun v6=>
 setF 6 v6 tm fun tm1=>
 M.pure tm1
theorem QZ_:RegEq 112 74 BW Qj Y8:=⟨by kernel_rfl,fun _ _ _ _ _ _ _ _ _=>by kernel_rfl⟩
def Ac_ (E:Env)(call round:Ab)(tm:T Value):M (T Value):=
 M.bind (oS (T.get tm 4) fun a=>kFld E 167 a 1) fun v50=>
 M.bind (oS (some v50) fun a=>AQ E 163 a) fun v51=>
 setF 51 v51 tm fun tm1=>
 mv (some (.int .i64 0)) fun v52=>
 setF 52 v52 tm1 fun tm2=>
 M.pure tm2
theorem Oh_:RegEq 112 74 BW JL Ac_:=⟨by kernel_rfl,fun _ _ _ _ _ _ _ _ _=>by kernel_rfl⟩
def Rk (E:Env)(call round:Ab)(tm:T Value):M (T Value):=
 M.bind (oS (T.get tm 52) fun a=>oS (some (.int .i64 8)) fun b=>Cl.get (aBin E .lss 3 (.tmp 52) (.const (.int .i64 8))) a b) fun v53=>
 setF 53 v53 tm fun tm1=>
 M.pure tm1
theorem Ca_:RegEq 112 74 BW GB Rk:=⟨by kernel_rfl,fun _ _ _ _ _ _ _ _ _=>by kernel_rfl⟩
theorem BK_:Ba GW=some 53:=by kernel_rfl
def Vz (E:Env)(call round:Ab)(tm:T Value):M (T Value):=
 mv (T.get tm 52) fun v54=>
 M.bind (oS (T.get tm 51) fun a=>oS (T.get tm 52) fun b=>kIdx E 163 a b) fun v55=>
 mv (some v54) fun v7=>
 setF 7 v7 tm fun tm1=>
 mv (some v55) fun v8=>
 setF 8 v8 tm1 fun tm2=>
 M.pure tm2
theorem IK_:RegEq 112 74 BW M8 Vz:=⟨by kernel_rfl,fun _ _ _ _ _ _ _ _ _=>by kernel_rfl⟩
def AR_ (E:Env)(call round:Ab)(tm:T Value):M (T Value):=
 M.bind (oS (T.get tm 3) fun a=>AQ E 101 a) fun v73=>
 M.bind (oS (T.get tm 2) fun a=>oS (some v73) fun b=>A5 E 101 a b) fun _=>
 M.pure tm
theorem KG_:RegEq 112 74 BW IR AR_:=⟨by kernel_rfl,fun _ _ _ _ _ _ _ _ _=>by kernel_rfl⟩
def Ba_ (E:Env)(call round:Ab)(tm:T Value):M (T Value):=
 mv (T.get tm 7) fun v56=>
 M.bind (oS (some (.int .i64 4)) fun a=>oS (some v56) fun b=>Cl.get (aBin E .mul 3 (.const (.int .i64 4)) (.tmp 56)) a b) fun v57=>
 M.bind (M.on (T.get tm 3) fun a=>M.on (onO (some v57) fun v=>some (some v)) fun b=>M.on (some none) fun c=>BE E 101 a b c) fun v58=>
 mv (T.get tm 8) fun v59=>
 M.bind (oS (some v59) fun a=>oS (some (.int .u64 24)) fun b=>Cl.get (aBin E .shr 51 (.tmp 59) (.const (.int .u64 24))) a b) fun v60=>
 M.bind (oS (some v60) fun a=>BV E 51 5 a) fun v61=>
 mv (T.get tm 8) fun v62=>
 M.bind (oS (some v62) fun a=>oS (some (.int .u64 16)) fun b=>Cl.get (aBin E .shr 51 (.tmp 62) (.const (.int .u64 16))) a b) fun v63=>
 M.bind (oS (some v63) fun a=>BV E 51 5 a) fun v64=>
 mv (T.get tm 8) fun v65=>
 M.bind (oS (some v65) fun a=>oS (some (.int .u64 8)) fun b=>Cl.get (aBin E .shr 51 (.tmp 65) (.const (.int .u64 8))) a b) fun v66=>
 M.bind (oS (some v66) fun a=>BV E 51 5 a) fun v67=>
 mv (T.get tm 8) fun v68=>
 M.bind (oS (some v68) fun a=>BV E 51 5 a) fun v69=>
 M.bind (oS (seqP [(0,(some v61)),(1,(some v64)),(2,(some v67)),(3,(some v69))]) fun ps=>Cf E 22 4 ps) fun v70=>
 M.bind (oS (seqO [(some v58),(some v70)]) fun l=>AT E .copy [22,22] l) fun v71=>
 M.pure tm
theorem EM_:RegEq 112 74 BW LR Ba_:=⟨by kernel_rfl,fun _ _ _ _ _ _ _ _ _=>by kernel_rfl⟩
theorem DL_: ∃k,Q1= .code .ret::k:=⟨Q1.tail,by kernel_rfl⟩
def Th (E:Env)(call round:Ab)(tm:T Value):M (T Value):=
 M.bind (oS (T.get tm 52) fun a=>oS (some (.int .i64 1)) fun b=>Cl.get (aBin E .add 3 (.tmp 52) (.const (.int .i64 1))) a b) fun v72=>
 mv (some v72) fun v52=>
 setF 52 v52 tm fun tm1=>
 M.pure tm1
theorem ON_:RegEq 112 74 BW O4 Th:=⟨by kernel_rfl,fun _ _ _ _ _ _ _ _ _=>by kernel_rfl⟩
def H4:Nat:=BB Try.f73
def UZ:Code:=Try.f73.body.getD .skip
theorem S2:envS.fn.get 73=some Try.f73:=by kernel_rfl
theorem Dl_ {a0:Value}{n:Nat}{s:St}{Q:Value→St→Prop}(h: ∀tm,T.get tm 0=some a0→W (runF envS n ⟨73,10,H4,tm,[.code UZ], .run, .normal,none⟩) (s.cxN cxN) fun p s1=>Q p.1 (s1.cxN s.cx)):W (Au envS (runF envS n) 73 [a0]) s Q:=
 W.call (by kernel_rfl) (by kernel_rfl) S2 (by kernel_rfl) rfl rfl (by simp) (h _ (by kernel_rfl))
theorem La_:Try.f73.results.toList=[.cell 2 101]:=by kernel_rfl
def PN:List Item:=skim 64 [.code UZ]
def KK:List Item:=skim 64 PN.tail
theorem DH_:skim 64 PN.tail=KK:=by kernel_rfl
def Lw:List Item:=skim 64 KK.tail
theorem Ul_:skim 64 KK.tail=Lw:=by kernel_rfl
def KZ:List Item:=skim 64 Lw.tail
theorem UT_:skim 64 Lw.tail=KZ:=by kernel_rfl
def Oj:List Item:=skim 64 KZ.tail
theorem Jv_:skim 64 KZ.tail=Oj:=by kernel_rfl
def W4 (E:Env)(call round:Ab)(tm:T Value):M (T Value):=
 M.bind (BF E 101) fun v2=>
 setF 2 v2 tm fun tm1=>
 M.pure tm1
theorem JR_:RegEq 73 10 H4 PN W4:=⟨by kernel_rfl,fun _ _ _ _ _ _ _ _ _=>by kernel_rfl⟩
def Bq_ (E:Env)(call round:Ab)(tm:T Value):M (T Value):=
 M.bind (M.on (some (.func (.func 110) #[] #[])) fun f=>M.on (seqO []) fun l=>AZ call round f l) fun v4=>
 mv (some v4) fun v3=>
 setF 3 v3 tm fun tm1=>
 M.pure tm1
theorem Mt_:RegEq 73 10 H4 KK Bq_:=⟨by kernel_rfl,fun _ _ _ _ _ _ _ _ _=>by kernel_rfl⟩
def VB (E:Env)(call round:Ab)(tm:T Value):M (T Value):=
 mv (T.get tm 3) fun v5=>
 mv (T.get tm 0) fun v6=>
 M.bind (M.on (some (.func (.func 111) #[] #[])) fun f=>M.on (seqO [(some v5),(some v6)]) fun l=>AZ call round f l) fun v7=>
 M.pure tm
theorem Ga_:RegEq 73 10 H4 Lw VB:=⟨by kernel_rfl,fun _ _ _ _ _ _ _ _ _=>by kernel_rfl⟩
def XK (E:Env)(call round:Ab)(tm:T Value):M (T Value):=
 mv (T.get tm 3) fun v8=>
 M.bind (M.on (some (.func (.func 112) #[] #[])) fun f=>M.on (seqO [(some v8)]) fun l=>AZ call round f l) fun v9=>
 M.bind (oS (T.get tm 2) fun a=>oS (some v9) fun b=>A5 E 101 a b) fun _=>
 M.pure tm
theorem CY_:RegEq 73 10 H4 KZ XK:=⟨by kernel_rfl,fun _ _ _ _ _ _ _ _ _=>by kernel_rfl⟩
theorem Ms_: ∃k,Oj= .code .ret::k:=⟨Oj.tail,by kernel_rfl⟩
def LC:Nat:=BB Try.f32
def Yk:Code:=Try.f32.body.getD .skip
theorem Wh:envS.fn.get 32=some Try.f32:=by kernel_rfl
theorem VX_ {a0:Value}{n:Nat}{s:St}{Q:Value→St→Prop}(h: ∀tm,T.get tm 0=some a0→W (runF envS n ⟨32,9,LC,tm,[.code Yk], .run, .normal,none⟩) (s.cxN cxN) fun p s1=>Q p.1 (s1.cxN s.cx)):W (Au envS (runF envS n) 32 [a0]) s Q:=
 W.call (by kernel_rfl) (by kernel_rfl) Wh (by kernel_rfl) rfl rfl (by simp) (h _ (by kernel_rfl))
theorem HA_:Try.f32.results.toList=[.cell 2 26]:=by kernel_rfl
def PI:List Item:=skim 64 [.code Yk]
def KF:List Item:=skim 64 PI.tail
theorem Hv_:skim 64 PI.tail=KF:=by kernel_rfl
def Nz:List Item:=skim 64 KF.tail
theorem Ty_:skim 64 KF.tail=Nz:=by kernel_rfl
def PM:List Item:=skim 64 Nz.tail
theorem Qt_:skim 64 Nz.tail=PM:=by kernel_rfl
def YT (E:Env)(call round:Ab)(tm:T Value):M (T Value):=
 M.bind (BF E 26) fun v2=>
 setF 2 v2 tm fun tm1=>
 M.pure tm1
theorem Kd_:RegEq 32 9 LC PI YT:=⟨by kernel_rfl,fun _ _ _ _ _ _ _ _ _=>by kernel_rfl⟩
def Wn (E:Env)(call round:Ab)(tm:T Value):M (T Value):=
 mv (T.get tm 0) fun v4=>
 M.bind (M.on (some (.func (.func 73) #[] #[])) fun f=>M.on (seqO [(some v4)]) fun l=>AZ call round f l) fun v5=>
 M.bind (BF E 101) fun v3=>
 setF 3 v3 tm fun tm1=>
 M.bind (oS (some v3) fun a=>oS (some v5) fun b=>A5 E 101 a b) fun _=>
 M.pure tm1
theorem Fl_:RegEq 32 9 LC KF Wn:=⟨by kernel_rfl,fun _ _ _ _ _ _ _ _ _=>by kernel_rfl⟩
def ZK (E:Env)(call round:Ab)(tm:T Value):M (T Value):=
 M.bind (M.on (T.get tm 3) fun a=>M.on (some none) fun b=>M.on (onO (some (.int .i64 16)) fun v=>some (some v)) fun c=>BE E 101 a b c) fun v6=>
 M.bind (oS (some v6) fun a=>Dl E 26 a) fun v7=>
 M.bind (oS (some v7) fun a=>AQ E 26 a) fun v8=>
 M.bind (oS (T.get tm 2) fun a=>oS (some v8) fun b=>A5 E 26 a b) fun _=>
 M.pure tm
theorem Il_:RegEq 32 9 LC Nz ZK:=⟨by kernel_rfl,fun _ _ _ _ _ _ _ _ _=>by kernel_rfl⟩
theorem Qp_: ∃k,PM= .code .ret::k:=⟨PM.tail,by kernel_rfl⟩
structure DS where
 st:Sha.St8
 w:List Nat
 n:Nat
def DS.k (d:DS)(b:List Nat):Nat:=Nat.min (64-d.n%64) b.length
def DS.w' (d:DS)(b:List Nat):List Nat:=d.w.take (d.n%64)++(b.take (d.k b)++d.w.drop (d.n%64+d.k b))
def DS.step (d:DS)(b:List Nat):DS:=⟨if d.n%64+d.k b=64 then Sha.next d.st (fun j=>(d.w' b).getD j 0)else d.st,d.w' b,d.n+d.k b⟩
def DS.write:Nat→DS→List Nat→DS
 |0,d,_=>d
 |f+1,d,b=>if b.length=0 then d else DS.write f (d.step b) (b.drop (d.k b))
structure Dig (s:St)(D:Nat)(d:DS):Prop where
 made:Own s D 0 (.bool true)
 st:Af s D 1 (st8V d.st).toList
 w:Af s D 9 (u8l d.w)
 n:Own s D 73 (.int .i64 (d.n:Nat))
 len:d.w.length=64
 byt:Byt d.w
 ok:d.st.Ok
theorem Dq (r:Sha.St8):(st8V r).toList.length=8:=rfl
theorem Dig.ext0 {F:Nat→Prop}{s s':St}{D:Nat}{d:DS}(h:Dig s D d)(e:Ext F Non s s'):Dig s' D d:=⟨h.made.ext0 e,h.st.ext0 e,h.w.ext0 e,h.n.ext0 e,h.len,h.byt,h.ok⟩
theorem Dig.same {s s':St}{D:Nat}{d:DS}(h:Dig s D d)(hm:s'.mem=s.mem)(hn:s'.next=s.next):Dig s' D d:=
 ⟨h.made.same hm hn,fun i v e=>(h.st i v e).same hm hn,fun i v e=>(h.w i v e).same hm hn,h.n.same hm hn,h.len,h.byt,h.ok⟩
theorem Xr_ {r:Sha.St8}(h:r.Ok):u32s (st8V r).toList=some [r.a,r.b,r.c,r.d,r.e,r.f,r.g,r.h]:=by
 have e: ∀(n:Nat) (l:List Value) (ns:List Nat),n<4294967296→u32s l=some ns→u32s (.int .u32 (n:Int)::l)=some (n::ns):=fun n l ns hn hl=>by
  show(match Value.int .u32 (.ofNat n),u32s l with| .int .u32 (.ofNat n),some ns=>bif Nat.blt n 4294967296 then some (n::ns)else none|_,_=>none)=_
  rw[hl]
  simp -implicitDefEqProofs only[B2 hn,cond_true]
 exact e _ _ _ h.a (e _ _ _ h.b (e _ _ _ h.c (e _ _ _ h.d (e _ _ _ h.e (e _ _ _ h.f (e _ _ _ h.g (e _ _ _ h.h rfl)))))))
theorem W.next {s:St}{r:Sha.St8}{b o c:Nat}{l:List Nat}{Q:Value→St→Prop}(hr:r.Ok)(h:Row s b o (u8l l))(hl:l.length=64)(hb:Byt l)
  (q: ∀s1,s1.mem=s.mem→s1.next=s.next→Ext (In b o 64) Non s s1→Q (.agg (st8V (Sha.next r fun j=>l.getD j 0))) s1):W (Ed [.agg (st8V r), .slice (some ⟨b,o,none⟩) 64 c]) s Q:=by
 refine W.on (Xr_ hr) (W.chk (by decide) (W.bind ?_))
 have h2:l.length=(u8l l).length:=(A1 l).symm
 show W (Am.rdL 64 ⟨b,o,none⟩) s _
 rw[←hl]
 refine W.rdB h fun s1 e1 e2 e3=>W.on (QI hb) ?_
 show W (JA r l st8M) s1 Q
 rw[Kl,KL]
 rw[hl]at e3
 exact W.pure (q s1 e1 e2 e3)
theorem Zk:fldN envS 167 0=some (0,1,false):=by kernel_rfl
theorem Sl:fldN envS 167 1=some (1,8,true):=by kernel_rfl
theorem U7:fldN envS 167 2=some (9,64,true):=by kernel_rfl
theorem MC:fldN envS 167 3=some (73,1,false):=by kernel_rfl
theorem Ti:ptrT envS 145=true:=by kernel_rfl
theorem Tl:tyS envS 4=some (1,false):=by kernel_rfl
theorem Jo:tyS envS 3=some (1,false):=by kernel_rfl
theorem Ve:arrN envS 165=some (64,1):=by kernel_rfl
theorem I9:tyS envS 163=some (8,true):=by kernel_rfl
theorem Bs.srcK {s:St}{v:Value}{l:List Nat}(h:Bs s v l){k:Nat}(hk:k≤l.length): ∃s1,srcL 1 v k s= .some (u8l (l.take k)) s1∧s1.mem=s.mem∧s1.next=s.next∧Ext (BsF v) Non s s1:=by
 rcases h with⟨rfl,rfl⟩|⟨b,o,c,rfl,_,_,h3⟩
 ·simp at hk
  subst hk
  exact⟨s,rfl,rfl,rfl,Ext.refl s⟩
 ·have h4:Row s b o (u8l (l.take k)):=by
   have:=h3.take (n:=k)
   rw[←List.map_take]at this
   exact this
  have hl:(l.take k).length=k:=by rw[List.length_take];omega
  obtain⟨a,s1,e,rfl,h1,h2,h5⟩:=W.rdB (Q:=fun a s1=>a=u8l (l.take k)∧s1.mem=s.mem∧s1.next=s.next∧Ext (In b o (l.take k).length) Non s s1) h4 fun s1 e1 e2 e3=>⟨rfl,e1,e2,e3⟩
  rw[hl]at e h5
  refine⟨s1, ?_,h1,h2, ?_⟩
  ·show Am.rdL (k*1) ⟨b,o,none⟩ s=_
   rw[Nat.mul_one]
   exact e
  ·refine⟨h5.nxt,h5.lim,h5.cx,h5.mem, ?_,h5.wr⟩
   obtain⟨d,p1,p2⟩:=h5.rd
   exact⟨d,p1,fun x hx=>⟨(p2 x hx).1,by have:=(p2 x hx).2;exact⟨this.1,by have:=this.2;omega⟩⟩⟩
theorem DS.k_le (d:DS)(b:List Nat):d.k b≤b.length∧d.n%64+d.k b≤64:=by
 unfold DS.k
 have h1:Nat.min (64-d.n%64) b.length≤64-d.n%64:=Nat.min_le_left _ _
 have h2:Nat.min (64-d.n%64) b.length≤b.length:=Nat.min_le_right _ _
 have h3:d.n%64<64:=Nat.mod_lt _ (by decide)
 exact⟨h2,by omega⟩
theorem DS.w'_len (d:DS)(b:List Nat)(h:d.w.length=64):(d.w' b).length=64:=by
 obtain⟨h1,h2⟩:=d.k_le b
 unfold DS.w'
 rw[List.length_append,List.length_append,List.length_take,List.length_take,List.length_drop,h]
 omega
theorem DS.w'_byt (d:DS)(b:List Nat)(h:Byt d.w)(hb:Byt b):Byt (d.w' b):=fun x hx=>by
 unfold DS.w' at hx
 rcases List.mem_append.1 hx with hx|hx
 ·exact h x (List.mem_of_mem_take hx)
 ·rcases List.mem_append.1 hx with hx|hx
  ·exact hb x (List.mem_of_mem_take hx)
  ·exact h x (List.mem_of_mem_drop hx)
theorem Dig.lay {F:Nat→Prop}{s s2:St}{D:Nat}{d:DS}{b:List Nat}(h:Dig s D d)(x:Ext F (In D (0+9+d.n%64*1) (d.k b*1)) s s2)(r:Af s2 D (0+9+d.n%64*1) (u8l (b.take (d.k b))))(hb:Byt b):Dig s2 D ⟨d.st,d.w' b,d.n⟩:=by
 obtain⟨h1,h2⟩:=d.k_le b
 have hm:d.n%64<64:=Nat.mod_lt _ (by decide)
 have hkl:(b.take (d.k b)).length=d.k b:=by rw[List.length_take];omega
 refine⟨h.made.ext x fun q=>by have:=q.1;omega,h.st.ext x fun i hi q=> ?_, ?_,h.n.ext x fun q=>by have:=q.2;omega,d.w'_len b h.len,d.w'_byt b h.byt hb,h.ok⟩
 ·have h3:i<8:=hi
  have:=q.1;omega
 ·show Af s2 D 9 (u8l (d.w' b))
  have e:u8l (d.w' b)=u8l (d.w.take (d.n%64))++(u8l (b.take (d.k b))++u8l (d.w.drop (d.n%64+d.k b))):=by
   unfold DS.w' u8l
   rw[List.map_append,List.map_append]
  have hl1:(u8l (d.w.take (d.n%64))).length=d.n%64:=by rw[A1,List.length_take,h.len];omega
  have hw1:Af s D 9 (u8l (d.w.take (d.n%64))):=by
   have:=h.w.take (n:=d.n%64)
   rw[←List.map_take]at this
   exact this
  have hw3:Af s D (9+(d.n%64+d.k b)) (u8l (d.w.drop (d.n%64+d.k b))):=by
   have:=h.w.drop (n:=d.n%64+d.k b)
   rw[←List.map_drop]at this
   exact this
  rw[e]
  refine Af.append (hw1.ext x fun i hi q=> ?_) (Af.append ?_ ?_)
  ·rw[hl1]at hi
   have:=q.1;omega
  ·rw[hl1,show 9+d.n%64=0+9+d.n%64*1 by omega]
   exact r
  ·rw[hl1,A1,hkl,Nat.add_assoc]
   refine hw3.ext x fun i hi q=> ?_
   have:=q.2;omega
end Go.Proofs.Ytofanlcjeohcjaa.Am
end
