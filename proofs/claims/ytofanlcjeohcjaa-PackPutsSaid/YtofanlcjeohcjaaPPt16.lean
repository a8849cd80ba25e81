import Derived.Test.YtofanlcjeohcjaaPPt15
import Derived.Test.YtofanlcjeohcjaaPPt08
import Derived.KernelRfl
noncomputable section
namespace Go.Proofs.Ytofanlcjeohcjaa.Am
open Go.RowKit
def Rc:Nat:=BE Try.f105
def XM:Code:=Try.f105.body.getD .skip
theorem SA:envS.fn.get 105=some Try.f105:=by kernel_rfl
theorem AW_ {a0:Value}{n:Nat}{s:St}{Q:Value→St→Prop}(h: ∀tm,T.get tm 0=some a0→W (runF envS n ⟨105,5,Rc,tm,[.code XM], .run, .normal,none⟩) (s.cxN cxN) fun p s1=>Q p.1 (s1.cxN s.cx)):W (AJ envS (runF envS n) 105 [a0]) s Q:=
 W.call (by kernel_rfl) (by kernel_rfl) SA (by kernel_rfl) rfl rfl (by simp) (h _ (by kernel_rfl))
theorem BX_:Try.f105.results.toList=[.tmp 2]:=by kernel_rfl
def N0:List Item:=skim 64 [.code XM]
def KX:List Item:=skim 64 N0.tail
theorem TR_:skim 64 N0.tail=KX:=by kernel_rfl
def OW:List Item:=skim 64 KX.tail
theorem IV_:skim 64 KX.tail=OW:=by kernel_rfl
def Zy (E:Env)(call round:Aa)(tm:T Value):M (T Value):=
 mv (some (.int .u32 0)) fun v2=>
 setF 2 v2 tm fun tm1=>
 M.pure tm1
theorem Ui_:RegEq 105 5 Rc N0 Zy:=⟨by kernel_rfl,fun _ _ _ _ _ _ _ _ _=>by kernel_rfl⟩
def WB (E:Env)(call round:Aa)(tm:T Value):M (T Value):=
 mv (T.get tm 0) fun v3=>
 M.bind (M.on (some (.func (.func 130) #[] #[])) fun f=>M.on (seqO [(some (.int .u32 0)),(some v3)]) fun l=>Bi call round f l) fun v4=>
 mv (some v4) fun v2=>
 setF 2 v2 tm fun tm1=>
 M.pure tm1
theorem DX_:RegEq 105 5 Rc KX WB:=⟨by kernel_rfl,fun _ _ _ _ _ _ _ _ _=>by kernel_rfl⟩
theorem De_: ∃k,OW= .code .ret::k:=⟨OW.tail,by kernel_rfl⟩
def JD:Nat:=BE Try.f64
def YS:Code:=Try.f64.body.getD .skip
theorem VX:envS.fn.get 64=some Try.f64:=by kernel_rfl
theorem JJ_ {a0:Value}{n:Nat}{s:St}{Q:Value→St→Prop}(h: ∀tm,T.get tm 0=some a0→W (runF envS n ⟨64,21,JD,tm,[.code YS], .run, .normal,none⟩) (s.cxN cxN) fun p s1=>Q p.1 (s1.cxN s.cx)):W (AJ envS (runF envS n) 64 [a0]) s Q:=
 W.call (by kernel_rfl) (by kernel_rfl) VX (by kernel_rfl) rfl rfl (by simp) (h _ (by kernel_rfl))
theorem NX_:Try.f64.results.toList=[.tmp 2]:=by kernel_rfl
def P0:List Item:=skim 64 [.code YS]
def LR:List Item:=skim 64 P0.tail
theorem MW_:skim 64 P0.tail=LR:=by kernel_rfl
def J6:List Item:=skim 64 LR.tail
theorem IH_:skim 64 LR.tail=J6:=by kernel_rfl
def NI:List Item:=skim 64 J6.tail
theorem Us_:skim 64 J6.tail=NI:=by kernel_rfl
def VY (E:Env)(call round:Aa)(tm:T Value):M (T Value):=
 mv (some (.slice none 0 0)) fun v2=>
 setF 2 v2 tm fun tm1=>
 M.pure tm1
theorem Ne_:RegEq 64 21 JD P0 VY:=⟨by kernel_rfl,fun _ _ _ _ _ _ _ _ _=>by kernel_rfl⟩
def UM (E:Env)(call round:Aa)(tm:T Value):M (T Value):=
 mv (T.get tm 0) fun v4=>
 M.bind (M.on (some (.func (.func 105) #[] #[])) fun f=>M.on (seqO [(some v4)]) fun l=>Bi call round f l) fun v5=>
 mv (some v5) fun v3=>
 setF 3 v3 tm fun tm1=>
 M.pure tm1
theorem Gr_:RegEq 64 21 JD LR UM:=⟨by kernel_rfl,fun _ _ _ _ _ _ _ _ _=>by kernel_rfl⟩
def Vl (E:Env)(call round:Aa)(tm:T Value):M (T Value):=
 mv (T.get tm 0) fun v6=>
 mv (T.get tm 3) fun v7=>
 M.bind (oS (some v7) fun a=>Bu E 51 5 a) fun v8=>
 mv (T.get tm 3) fun v9=>
 M.bind (oS (some v9) fun a=>oS (some (.int .u64 8)) fun b=>Cl.get (aBin E .shr 51 (.tmp 9) (.const (.int .u64 8))) a b) fun v10=>
 M.bind (oS (some v10) fun a=>Bu E 51 5 a) fun v11=>
 mv (T.get tm 3) fun v12=>
 M.bind (oS (some v12) fun a=>oS (some (.int .u64 16)) fun b=>Cl.get (aBin E .shr 51 (.tmp 12) (.const (.int .u64 16))) a b) fun v13=>
 M.bind (oS (some v13) fun a=>Bu E 51 5 a) fun v14=>
 mv (T.get tm 3) fun v15=>
 M.bind (oS (some v15) fun a=>oS (some (.int .u64 24)) fun b=>Cl.get (aBin E .shr 51 (.tmp 15) (.const (.int .u64 24))) a b) fun v16=>
 M.bind (oS (some v16) fun a=>Bu E 51 5 a) fun v17=>
 M.bind (oS (seqP [(0,(some v8)),(1,(some v11)),(2,(some v14)),(3,(some v17))]) fun ps=>BX E 22 4 ps) fun v18=>
 M.bind (oS (seqP [(0,(some v6)),(1,(some v18))]) fun ps=>BX E 43 2 ps) fun v19=>
 M.bind (M.on (some (.func (.func 63) #[] #[])) fun f=>M.on (seqO [(some v19)]) fun l=>Bi call round f l) fun v20=>
 mv (some v20) fun v2=>
 setF 2 v2 tm fun tm1=>
 M.pure tm1
theorem Gx_:RegEq 64 21 JD J6 Vl:=⟨by kernel_rfl,fun _ _ _ _ _ _ _ _ _=>by kernel_rfl⟩
theorem MX_: ∃k,NI= .code .ret::k:=⟨NI.tail,by kernel_rfl⟩
def Cp:Nat:=BE Try.f63
abbrev My:Nat:=36
def UY:Code:=Try.f63.body.getD .skip
theorem Ax_:envS.fn.get 63=some Try.f63:=by kernel_rfl
theorem Pt_ {a0:Value}{n:Nat}{s:St}{Q:Value→St→Prop}(h: ∀tm,T.get tm 0=some a0→W (runF envS n ⟨63,36,Cp,tm,[.code UY], .run, .normal,none⟩) (s.cxN cxN) fun p s1=>Q p.1 (s1.cxN s.cx)):W (AJ envS (runF envS n) 63 [a0]) s Q:=
 W.call (by kernel_rfl) (by kernel_rfl) Ax_ (by kernel_rfl) rfl rfl (by simp) (h _ (by kernel_rfl))
theorem Hl_:Try.f63.results.toList=[.tmp 2]:=by kernel_rfl
def PY:List Item:=skim 64 [.code UY]
def LU:List Item:=skim 64 PY.tail
theorem Dx_:skim 64 PY.tail=LU:=by kernel_rfl
def Kn:List Item:=skim 64 LU.tail
theorem NA_:skim 64 LU.tail=Kn:=by kernel_rfl
def GD:List Item:=skim 64 Kn.tail
theorem TF_:skim 64 Kn.tail=GD:=by kernel_rfl
def Gs:List Item:=skim 64 GD.tail
theorem T3:skim 64 GD.tail=Gs:=by kernel_rfl
def JU:List Item:=skim 64 (brT Gs)
theorem DG_:skim 64 (brT Gs)=JU:=by kernel_rfl
def Jv:List Item:=skim 64 (brF Gs)
theorem Hd_:skim 64 (brF Gs)=Jv:=by kernel_rfl
def Ms:List Item:=skim 64 JU.tail
theorem Iz_:skim 64 JU.tail=Ms:=by kernel_rfl
def JX:List Item:=skim 64 Jv.tail
theorem FQ_:skim 64 Jv.tail=JX:=by kernel_rfl
def KR:List Item:=skim 64 Ms.tail
theorem BA_:skim 64 Ms.tail=KR:=by kernel_rfl
def GS:List Item:=skim 64 JX.tail
theorem We_:skim 64 JX.tail=GS:=by kernel_rfl
def MA:List Item:=skim 64 KR.tail
theorem Dt_:skim 64 KR.tail=MA:=by kernel_rfl
def Hl:List Item:=skim 64 GS.tail
theorem Yo:skim 64 GS.tail=Hl:=by kernel_rfl
def PS:List Item:=skim 64 (brF MA)
theorem St_:skim 64 (brF MA)=PS:=by kernel_rfl
def Kr:List Item:=skim 64 (brT Hl)
theorem Ib_:skim 64 (brT Hl)=Kr:=by kernel_rfl
def I3:List Item:=skim 64 (brF Hl)
theorem GG_:skim 64 (brF Hl)=I3:=by kernel_rfl
theorem NQ_:skim 64 PS.tail=GD:=by kernel_rfl
def KC:List Item:=skim 64 Kr.tail
theorem Gq_:skim 64 Kr.tail=KC:=by kernel_rfl
def NM:List Item:=skim 64 I3.tail
theorem Sf_:skim 64 I3.tail=NM:=by kernel_rfl
def N1:List Item:=skim 64 KC.tail
theorem Wf_:skim 64 KC.tail=N1:=by kernel_rfl
theorem PQ_:skim 64 N1.tail=GS:=by kernel_rfl
def Wz (E:Env)(call round:Aa)(tm:T Value):M (T Value):=
 mv (some (.slice none 0 0)) fun v2=>
 setF 2 v2 tm fun tm1=>
 M.pure tm1
theorem OQ_:RegEq 63 36 Cp PY Wz:=⟨by kernel_rfl,fun _ _ _ _ _ _ _ _ _=>by kernel_rfl⟩
def V5 (E:Env)(call round:Aa)(tm:T Value):M (T Value):=
 mv (some (.int .i64 0)) fun v3=>
 setF 3 v3 tm fun tm1=>
 M.pure tm1
theorem NC_:RegEq 63 36 Cp LU V5:=⟨by kernel_rfl,fun _ _ _ _ _ _ _ _ _=>by kernel_rfl⟩
def T9 (E:Env)(call round:Aa)(tm:T Value):M (T Value):=
 mv (T.get tm 0) fun v9=>
 setF 9 v9 tm fun tm1=>
 M.bind (oS (seqO [(some v9)]) fun l=>A6 E .len [43] l) fun v10=>
 setF 10 v10 tm1 fun tm2=>
 mv (some (.int .i64 0)) fun v11=>
 setF 11 v11 tm2 fun tm3=>
 M.pure tm3
theorem QP_:RegEq 63 36 Cp Kn T9:=⟨by kernel_rfl,fun _ _ _ _ _ _ _ _ _=>by kernel_rfl⟩
def PM (E:Env)(call round:Aa)(tm:T Value):M (T Value):=
 M.bind (oS (T.get tm 11) fun a=>oS (T.get tm 10) fun b=>Cl.get (aBin E .lss 3 (.tmp 11) (.tmp 10)) a b) fun v12=>
 setF 12 v12 tm fun tm1=>
 M.pure tm1
theorem X6:RegEq 63 36 Cp GD PM:=⟨by kernel_rfl,fun _ _ _ _ _ _ _ _ _=>by kernel_rfl⟩
theorem US:BO Gs=some 12:=by kernel_rfl
def YO (E:Env)(call round:Aa)(tm:T Value):M (T Value):=
 M.bind (oS (T.get tm 9) fun a=>oS (T.get tm 11) fun b=>A9 E 43 a b) fun v13=>
 M.bind (oS (some v13) fun a=>A5 E 22 a) fun v14=>
 mv (some v14) fun v5=>
 setF 5 v5 tm fun tm1=>
 M.pure tm1
theorem NS_:RegEq 63 36 Cp JU YO:=⟨by kernel_rfl,fun _ _ _ _ _ _ _ _ _=>by kernel_rfl⟩
def Ze (E:Env)(call round:Aa)(tm:T Value):M (T Value):=
 mv (T.get tm 3) fun v23=>
 M.bind (M.on (some (.func (.func 106) #[] #[])) fun f=>M.on (seqO [(some (.slice none 0 0)),(some v23)]) fun l=>Bi call round f l) fun v24=>
 mv (some v24) fun v6=>
 setF 6 v6 tm fun tm1=>
 M.pure tm1
theorem Cp_:RegEq 63 36 Cp Jv Ze:=⟨by kernel_rfl,fun _ _ _ _ _ _ _ _ _=>by kernel_rfl⟩
def WW (E:Env)(call round:Aa)(tm:T Value):M (T Value):=
 mv (T.get tm 3) fun v15=>
 mv (T.get tm 5) fun v16=>
 M.bind (oS (seqO [(some v16)]) fun l=>A6 E .len [22] l) fun v17=>
 M.bind (oS (some v15) fun a=>oS (some v17) fun b=>Cl.get (aBin E .add 3 (.tmp 15) (.tmp 17)) a b) fun v18=>
 mv (some v18) fun v3=>
 setF 3 v3 tm fun tm1=>
 M.pure tm1
theorem Pj_:RegEq 63 36 Cp Ms WW:=⟨by kernel_rfl,fun _ _ _ _ _ _ _ _ _=>by kernel_rfl⟩
def Vc (E:Env)(call round:Aa)(tm:T Value):M (T Value):=
 mv (T.get tm 0) fun v25=>
 setF 25 v25 tm fun tm1=>
 M.bind (oS (seqO [(some v25)]) fun l=>A6 E .len [43] l) fun v26=>
 setF 26 v26 tm1 fun tm2=>
 mv (some (.int .i64 0)) fun v27=>
 setF 27 v27 tm2 fun tm3=>
 M.pure tm3
theorem Ux_:RegEq 63 36 Cp JX Vc:=⟨by kernel_rfl,fun _ _ _ _ _ _ _ _ _=>by kernel_rfl⟩
def Aa_ (E:Env)(call round:Aa)(tm:T Value):M (T Value):=
 mv (T.get tm 3) fun v19=>
 M.bind (oS (some v19) fun a=>oS (some (.int .i64 0)) fun b=>Cl.get (aBin E .lss 3 (.tmp 19) (.const (.int .i64 0))) a b) fun v20=>
 setF 20 v20 tm fun tm1=>
 M.pure tm1
theorem Eo_:RegEq 63 36 Cp KR Aa_:=⟨by kernel_rfl,fun _ _ _ _ _ _ _ _ _=>by kernel_rfl⟩
def QF (E:Env)(call round:Aa)(tm:T Value):M (T Value):=
 M.bind (oS (T.get tm 27) fun a=>oS (T.get tm 26) fun b=>Cl.get (aBin E .lss 3 (.tmp 27) (.tmp 26)) a b) fun v28=>
 setF 28 v28 tm fun tm1=>
 M.pure tm1
theorem Xs:RegEq 63 36 Cp GS QF:=⟨by kernel_rfl,fun _ _ _ _ _ _ _ _ _=>by kernel_rfl⟩
theorem Qf_:BO MA=some 20:=by kernel_rfl
theorem YV:BO Hl=some 28:=by kernel_rfl
def Vv (E:Env)(call round:Aa)(tm:T Value):M (T Value):=
 M.bind (oS (T.get tm 11) fun a=>oS (some (.int .i64 1)) fun b=>Cl.get (aBin E .add 3 (.tmp 11) (.const (.int .i64 1))) a b) fun v22=>
 mv (some v22) fun v11=>
 setF 11 v11 tm fun tm1=>
 M.pure tm1
theorem TW_:RegEq 63 36 Cp PS Vv:=⟨by kernel_rfl,fun _ _ _ _ _ _ _ _ _=>by kernel_rfl⟩
def Xd (E:Env)(call round:Aa)(tm:T Value):M (T Value):=
 M.bind (oS (T.get tm 25) fun a=>oS (T.get tm 27) fun b=>A9 E 43 a b) fun v29=>
 M.bind (oS (some v29) fun a=>A5 E 22 a) fun v30=>
 mv (some v30) fun v8=>
 setF 8 v8 tm fun tm1=>
 M.pure tm1
theorem PM_:RegEq 63 36 Cp Kr Xd:=⟨by kernel_rfl,fun _ _ _ _ _ _ _ _ _=>by kernel_rfl⟩
def Up (E:Env)(call round:Aa)(tm:T Value):M (T Value):=
 mv (T.get tm 6) fun v35=>
 mv (some v35) fun v2=>
 setF 2 v2 tm fun tm1=>
 M.pure tm1
theorem Wd_:RegEq 63 36 Cp I3 Up:=⟨by kernel_rfl,fun _ _ _ _ _ _ _ _ _=>by kernel_rfl⟩
def SO (E:Env)(call round:Aa)(tm:T Value):M (T Value):=
 mv (T.get tm 6) fun v31=>
 mv (T.get tm 8) fun v32=>
 M.bind (oS (seqO [(some v31),(some v32)]) fun l=>A6 E .append [22,22] l) fun v33=>
 mv (some v33) fun v6=>
 setF 6 v6 tm fun tm1=>
 M.pure tm1
theorem FF_:RegEq 63 36 Cp KC SO:=⟨by kernel_rfl,fun _ _ _ _ _ _ _ _ _=>by kernel_rfl⟩
theorem VB_: ∃k,NM= .code .ret::k:=⟨NM.tail,by kernel_rfl⟩
def XB (E:Env)(call round:Aa)(tm:T Value):M (T Value):=
 M.bind (oS (T.get tm 27) fun a=>oS (some (.int .i64 1)) fun b=>Cl.get (aBin E .add 3 (.tmp 27) (.const (.int .i64 1))) a b) fun v34=>
 mv (some v34) fun v27=>
 setF 27 v27 tm fun tm1=>
 M.pure tm1
theorem JV_:RegEq 63 36 Cp N1 XB:=⟨by kernel_rfl,fun _ _ _ _ _ _ _ _ _=>by kernel_rfl⟩
def FH:Nat:=BE Try.f106
def XN:Code:=Try.f106.body.getD .skip
theorem XQ:envS.fn.get 106=some Try.f106:=by kernel_rfl
theorem Nv_ {a0 a1:Value}{n:Nat}{s:St}{Q:Value→St→Prop}(h: ∀tm,T.get tm 0=some a0→T.get tm 1=some a1→W (runF envS n ⟨106,27,FH,tm,[.code XN], .run, .normal,none⟩) (s.cxN cxN) fun p s1=>Q p.1 (s1.cxN s.cx)):W (AJ envS (runF envS n) 106 [a0,a1]) s Q:=
 W.call (by kernel_rfl) (by kernel_rfl) XQ (by kernel_rfl) rfl rfl (by simp) (h _ (by kernel_rfl) (by kernel_rfl))
theorem Pb_:Try.f106.results.toList=[.tmp 4]:=by kernel_rfl
def OL:List Item:=skim 64 [.code XN]
def M0:List Item:=skim 64 OL.tail
theorem HU_:skim 64 OL.tail=M0:=by kernel_rfl
def Mw:List Item:=skim 64 M0.tail
theorem KS_:skim 64 M0.tail=Mw:=by kernel_rfl
def LD:List Item:=skim 64 (brF Mw)
theorem NE_:skim 64 (brF Mw)=LD:=by kernel_rfl
def J8:List Item:=skim 64 LD.tail
theorem Ro_:skim 64 LD.tail=J8:=by kernel_rfl
def II:List Item:=skim 64 J8.tail
theorem Th_:skim 64 J8.tail=II:=by kernel_rfl
def PB:List Item:=skim 64 (brT II)
theorem HH_:skim 64 (brT II)=PB:=by kernel_rfl
def Lc:List Item:=skim 64 (brF II)
theorem IJ_:skim 64 PB.tail=Lc:=by kernel_rfl
def Rp:List Item:=skim 64 Lc.tail
theorem Ny_:skim 64 Lc.tail=Rp:=by kernel_rfl
def V2 (E:Env)(call round:Aa)(tm:T Value):M (T Value):=
 mv (some (.slice none 0 0)) fun v4=>
 setF 4 v4 tm fun tm1=>
 M.pure tm1
theorem Iq_:RegEq 106 27 FH OL V2:=⟨by kernel_rfl,fun _ _ _ _ _ _ _ _ _=>by kernel_rfl⟩
def Vd (E:Env)(call round:Aa)(tm:T Value):M (T Value):=
 mv (T.get tm 1) fun v5=>
 M.bind (oS (some v5) fun a=>oS (some (.int .i64 0)) fun b=>Cl.get (aBin E .lss 3 (.tmp 5) (.const (.int .i64 0))) a b) fun v6=>
 setF 6 v6 tm fun tm1=>
 M.pure tm1
theorem Oc_:RegEq 106 27 FH M0 Vd:=⟨by kernel_rfl,fun _ _ _ _ _ _ _ _ _=>by kernel_rfl⟩
theorem GL_:BO Mw=some 6:=by kernel_rfl
def RY (E:Env)(call round:Aa)(tm:T Value):M (T Value):=
 mv (T.get tm 1) fun v8=>
 mv (T.get tm 0) fun v9=>
 M.bind (oS (seqO [(some v9)]) fun l=>A6 E .cap [22] l) fun v10=>
 mv (T.get tm 0) fun v11=>
 M.bind (oS (seqO [(some v11)]) fun l=>A6 E .len [22] l) fun v12=>
 M.bind (oS (some v10) fun a=>oS (some v12) fun b=>Cl.get (aBin E .sub 3 (.tmp 10) (.tmp 12)) a b) fun v13=>
 M.bind (oS (some v8) fun a=>oS (some v13) fun b=>Cl.get (aBin E .sub 3 (.tmp 8) (.tmp 13)) a b) fun v14=>
 mv (some v14) fun v1=>
 setF 1 v1 tm fun tm1=>
 M.pure tm1
theorem Qt_:RegEq 106 27 FH LD RY:=⟨by kernel_rfl,fun _ _ _ _ _ _ _ _ _=>by kernel_rfl⟩
def Zm (E:Env)(call round:Aa)(tm:T Value):M (T Value):=
 mv (T.get tm 1) fun v15=>
 M.bind (oS (some v15) fun a=>oS (some (.int .i64 0)) fun b=>Cl.get (aBin E .gtr 3 (.tmp 15) (.const (.int .i64 0))) a b) fun v16=>
 setF 16 v16 tm fun tm1=>
 M.pure tm1
theorem Lj_:RegEq 106 27 FH J8 Zm:=⟨by kernel_rfl,fun _ _ _ _ _ _ _ _ _=>by kernel_rfl⟩
theorem CS_:BO II=some 16:=by kernel_rfl
def Ab_ (E:Env)(call round:Aa)(tm:T Value):M (T Value):=
 mv (T.get tm 0) fun v17=>
 mv (T.get tm 0) fun v18=>
 M.bind (oS (seqO [(some v18)]) fun l=>A6 E .cap [22] l) fun v19=>
 M.bind (M.on (some v17) fun a=>M.on (some none) fun b=>M.on (onO (some v19) fun v=>some (some v)) fun c=>BW E 22 a b c) fun v20=>
 mv (T.get tm 1) fun v21=>
 M.bind (oS (seqO [(some v20),(some v21)]) fun l=>A6 E .append [22,3] l) fun v22=>
 mv (T.get tm 0) fun v23=>
 M.bind (oS (seqO [(some v23)]) fun l=>A6 E .len [22] l) fun v24=>
 M.bind (M.on (some v22) fun a=>M.on (some none) fun b=>M.on (onO (some v24) fun v=>some (some v)) fun c=>BW E 22 a b c) fun v25=>
 mv (some v25) fun v0=>
 setF 0 v0 tm fun tm1=>
 M.pure tm1
theorem ET_:RegEq 106 27 FH PB Ab_:=⟨by kernel_rfl,fun _ _ _ _ _ _ _ _ _=>by kernel_rfl⟩
def TN (E:Env)(call round:Aa)(tm:T Value):M (T Value):=
 mv (T.get tm 0) fun v26=>
 mv (some v26) fun v4=>
 setF 4 v4 tm fun tm1=>
 M.pure tm1
theorem Cg_:RegEq 106 27 FH Lc TN:=⟨by kernel_rfl,fun _ _ _ _ _ _ _ _ _=>by kernel_rfl⟩
theorem IS_: ∃k,Rp= .code .ret::k:=⟨Rp.tail,by kernel_rfl⟩
section
variable {s:St}
def Bn (s:St)(v:Value)(l:List Nat):Prop:= ∃b o c,v= .slice (some ⟨b,o,none⟩) l.length c∧l.length≤c%capU∧Cr c 1=true∧Row s b o (u8l l)
theorem Bn.bs {v:Value}{l:List Nat}(h:Bn s v l):Bs s v l:= .inr h
theorem Bn.ext {F G:Nat→Prop}{s s':St}{v:Value}{l:List Nat}(h:Bn s v l)(e:Ext F G s s')(hG: ∀x,BsF v x→ ¬G x):Bn s' v l:=by
 rcases h.bs.ext e hG with⟨rfl,_⟩|h'
 ·obtain⟨_,_,_,e,_⟩:=h;cases e
 ·exact h'
theorem Bn.ext0 {F:Nat→Prop}{s s':St}{v:Value}{l:List Nat}(h:Bn s v l)(e:Ext F Non s s'):Bn s' v l:=h.ext e fun _ _=>id
def Byt (l:List Nat):Prop:= ∀x∈l,x<256
theorem PE: ∀{l:List Nat},Byt l→u8s (u8l l)=some l
 |[],_=>rfl
 |n::l,h=>by
  have e:=PE (l:=l) fun x hx=>h x (by simp[hx])
  show(match Value.int .u8 (.ofNat n),u8s (u8l l)with| .int .u8 (.ofNat n),some ns=>bif Nat.blt n 256 then some (n::ns)else none|_,_=>none)=_
  rw[e]
  simp -implicitDefEqProofs only[BU (h n (by simp)),cond_true]
theorem W.rdB {b o:Nat}{l:List Nat}{Q:List Value→St→Prop}(h:Row s b o (u8l l))(q: ∀s1,s1.mem=s.mem→s1.next=s.next→Ext (In b o l.length) Non s s1→Q (u8l l) s1):W (Am.rdL l.length ⟨b,o,none⟩) s Q:=by
 have hl:l.length=(u8l l).length:=(Be l).symm
 rw[hl]
 refine W.rdL h fun s1 e1 e2 e3=>q s1 e1 e2 ?_
 rw[Be]at e3
 exact e3
theorem W.more {sum:Nat}{v:Value}{l:List Nat}{Q:Value→St→Prop}(h:Bn s v l)(hl:Byt l)(hz:l.length≤4611686018427387904)(hs:sum<4294967296)
  (q: ∀s1,s1.mem=s.mem→s1.next=s.next→Ext (BsF v) Non s s1→Q (.int .u32 (Co sum l:Nat)) s1):W (DZ [.int .u32 (sum:Nat),v]) s Q:=by
 obtain⟨b,o,c,rfl,h1,h2,h3⟩:=h
 refine W.chk (by rw[BU hs];simpa using hz) (W.bind (W.rdB h3 fun s1 e1 e2 e3=>W.on (PE hl) ?_))
 rw[M9]
 exact W.pure (q s1 e1 e2 e3)
end
theorem VO {n:Nat}{s:St}{v:Value}{l:List Nat}{Q:Value→St→Prop}(hn:10≤n)(h:Bn s v l)(hl:Byt l)(hz:l.length≤4611686018427387904)
  (q: ∀s1,s1.mem=s.mem→s1.next=s.next→Ext (BsF v) Non s s1→Q (.int .u32 (Co 0 l:Nat)) s1):W (AJ envS (runF envS n) 105 [v]) s Q:=by
 refine AW_ fun tm h0=> ?_
 refine Ui_.w rfl (by omega) ?_
 simp -implicitDefEqProofs only[Zy,Ab,W_mv,Ad]
 refine DX_.w TR_ (by omega) ?_
 simp -implicitDefEqProofs only[WB,Ac,W_on,Ab,W_mv,Ad,T.get_set,Ag,Af,Ae,Ak,reduceIte,reduceCtorEq, ↓reduceIte,h0]
 refine W.orc (m:=DZ) (by kernel_rfl) ?_
 change W (DZ [.int .u32 ((0:Nat):Int),v]) _ _
 refine W.more (s:=s.cxN cxN) h hl hz (by decide) fun s1 e1 e2 e3=> ?_
 refine W.end' (rs:=[2]) (vs:=[.int .u32 (Co 0 l:Nat)]) IV_ (.inl De_) (by omega) SA BX_ e3.cx (by simp[T.get_set]) ?_
 refine q _ e1 e2 ⟨e3.nxt,e3.lim,rfl,e3.mem,e3.rd,e3.wr⟩
theorem BA:slN envS 22=some 1:=by kernel_rfl
theorem MG:slN envS 43=some 1:=by kernel_rfl
theorem CK:elT envS 22=some (1,1,[.int .u8 0]):=by kernel_rfl
theorem Lr:appT envS 22 22=some (1,1,false,[.int .u8 0]):=by kernel_rfl
theorem Rl_:appT envS 22 3=some (1,1,true,[.int .u8 0]):=by kernel_rfl
theorem Wq:tyS envS 22=some (1,false):=by kernel_rfl
theorem DO:tyS envS 5=some (1,false):=by kernel_rfl
theorem GU (n:Nat):rep n [Value.int .u8 0]=List.replicate n (Value.int .u8 0):=by
 induction n with
 |zero=>rfl
 |succ n ih=>
  show [Value.int .u8 0]++rep n [Value.int .u8 0]=_
  rw[ih];rfl
structure Room (s s':St)(N:Nat)(v:Value)(b:Nat):Prop where
 val:v= .slice (some ⟨b,0,none⟩) 0 (capU*((b+N*1)*1024+1)+N)
 new:s.next≤b
 own:Ah s' b 0 (List.replicate N (.int .u8 0))
 tok:T.get s'.mem (b+N)=some (.O (.tok false 1025))
 lt:b+N<s'.next
theorem Ok_ {n N:Nat}{s:St}{Q:Value→St→Prop}(hbd:s.lim≤s.next)(hn:20≤n)(hN:0<N)(hN2:N≤1000000)
  (q: ∀s1 v b,Room s s1 N v b→Ext Non Non s s1→Q v s1):W (AJ envS (runF envS n) 106 [.slice none 0 0, .int .i64 (N:Nat)]) s Q:=by
 refine Nv_ fun tm h0 h1=> ?_
 refine Iq_.w rfl (by omega) ?_
 simp -implicitDefEqProofs only[V2,Ab,W_mv,Ad]
 refine Oc_.w HU_ (by omega) ?_
 simp -implicitDefEqProofs only[Vd,Ac,W_oS,Ab,W_mv,Ad,T.get_set,reduceIte,Nat.reduceEqDiff, ↓reduceIte,A8,h1]
 refine W.cond (v:=false) KS_ GL_ (by simp[T.get_set]) (by omega) (fun h=>by cases h) fun _=> ?_
 refine Qt_.w NE_ (by omega) ?_
 simp -implicitDefEqProofs only[RY,Ac,W_oS,Ab,W_mv,Ad,T.get_set,Ag,Af,Ae,reduceIte,Nat.reduceEqDiff,reduceCtorEq, ↓reduceIte,Bd,h0,h1,T1 BA,Ch BA]
 refine Lj_.w Ro_ (by omega) ?_
 have e1:wrap64 ((N:Int)-wrap64 (((0:Nat):Int)-((0:Nat):Int)))=(N:Nat):=by
  rw[BB (n:=((0:Nat):Int)-((0:Nat):Int)) (by simp) (by simp),BB]<;>simp<;>omega
 simp -implicitDefEqProofs only[Zm,Ac,W_oS,Ab,W_mv,Ad,T.get_set,reduceIte, ↓reduceIte,Bc,e1]
 refine W.cond (v:=true) Th_ CS_ (by simp[T.get_set,hN]) (by omega) (fun _=> ?_) fun h=>by cases h
 refine ET_.w HH_ (by omega) ?_
 simp -implicitDefEqProofs only[Ab_,Ac,W_oS,W_on,Ab,W_mv,Ad,T.get_set,Ag,Af,Ae,reduceIte,Nat.reduceEqDiff,reduceCtorEq, ↓reduceIte,h0,T1 BA,Rd_ (lo:=none) (hi:=some (.int .i64 ((0:Nat):Int))) BA rfl rfl,Jp]
 refine W.appNilT (s:=s.cxN cxN) hbd (n:=N) (l:=rep N [.int .u8 0]) Rl_ (Gh_ (by omega)) hN (by decide) (by decide) (by omega) (by rw[GU];simp) (by rw[GU];simp[oneCell]) fun s2 v b hf hT x2=> ?_
 obtain⟨rfl,hnew,hown,hlen,htok,hlt⟩:=hf
 have hc:=Mj (q:=(b+N*1)*1024+1) (Bt (n:=N) (by omega))
 simp -implicitDefEqProofs only[Ch BA,IG (l:=0) (h:=0) (lo:=none) (hi:=some (.int .i64 ((0:Nat):Int))) BA rfl rfl (Nat.le_refl _) (Nat.zero_le _) (Gc (m:=b+N*1) (Bt (n:=N) (by omega)) (by decide)),reduceIte, ↓reduceIte,hc,hN]
 refine Cg_.w IJ_ (by omega) ?_
 simp -implicitDefEqProofs only[TN,Ab,W_mv,Ad,T.get_set,reduceIte, ↓reduceIte]
 refine W.end' (rs:=[4]) (vs:=[.slice (some ⟨b,0,none⟩) 0 (capU*((b+N*1)*1024+1)+N)]) Ny_ (.inl IS_) (by omega) XQ Pb_ x2.cx (by simp[T.get_set]) ?_
 exact q _ _ b ⟨rfl,hnew,fun i v e=>(hown i v (by rw[GU];exact e)).same rfl rfl,by rw[Nat.mul_one]at hT;exact hT,by rw[Nat.mul_one]at hlt;exact hlt⟩ ⟨x2.nxt,x2.lim,rfl,x2.mem,x2.rd,x2.wr⟩
def tot (l:List (Value×List Nat)):Nat:=(l.map fun p=>p.2.length).sum
theorem QC_ {l:List (Value×List Nat)}{i:Nat}{p:Value×List Nat}(h:l[i]?=some p):tot (l.take (i+1))=tot (l.take i)+p.2.length:=by
 unfold tot
 rw[List.take_add_one,h]
 simp
theorem TJ {l:List (Value×List Nat)}(i:Nat):tot (l.take i)≤tot l:=by
 unfold tot
 have:(l.map fun p=>p.2.length).sum=((l.take i).map fun p=>p.2.length).sum+((l.drop i).map fun p=>p.2.length).sum:=by
  rw[←List.sum_append,←List.map_append,List.take_append_drop]
 omega
def Eo (b o:Nat)(l:List (Value×List Nat)):Nat→Prop:=fun x=>In b o l.length x∨ ∃p∈l,BsF p.1 x
structure Parts (s:St)(b o:Nat)(l:List (Value×List Nat)):Prop where
 row:Row s b o (l.map (·.1))
 bs: ∀p∈l,Bs s p.1 p.2
theorem Parts.same {s s':St}{b o:Nat}{l:List (Value×List Nat)}(h:Parts s b o l)(hm:s'.mem=s.mem)(hn:s'.next=s.next):Parts s' b o l:=
 ⟨fun i v e=>(h.row i v e).same hm hn,fun p hp=>(h.bs p hp).same hm hn⟩
theorem Parts.ext0 {F:Nat→Prop}{s s':St}{b o:Nat}{l:List (Value×List Nat)}(h:Parts s b o l)(e:Ext F Non s s'):Parts s' b o l:=⟨h.row.ext0 e,fun p hp=>(h.bs p hp).ext0 e⟩
section
variable {b o c:Nat}{parts:List (Value×List Nat)}
theorem Parts.get {s:St}(h:Parts s b o parts){i:Nat}(hi:i<parts.length):At s b (o+i*1) parts[i].1∧Bs s parts[i].1 parts[i].2:=by
 refine⟨?_,h.bs _ (List.getElem_mem hi)⟩
 rw[Nat.mul_one]
 exact h.row i _ (by simp[hi])
theorem ZT {i:Nat}(hi:i<parts.length):tot (parts.take (i+1))=tot (parts.take i)+parts[i].2.length:=QC_ (List.getElem?_eq_getElem hi)
theorem Sn_ (ht:tot parts≤1000000)(hlen:parts.length≤4611686018427387904){F:Nat→Prop}(hF: ∀x,Eo b o parts x→F x){Q:Value×FrameMode→St→Prop}{s0:St}(hb0:s0.lim≤s0.next)(hp:Parts s0 b o parts): ∀(k i n:Nat) (tm:T Value) (s:St) (td:List Item),i+k=parts.length→7*k+7≤n→skim 64 td=GD→Ext F Non s0 s→s.mem=s0.mem→s.next=s0.next→
  T.get tm 0=some (.slice (some ⟨b,o,none⟩) parts.length c)→T.get tm 9=some (.slice (some ⟨b,o,none⟩) parts.length c)→T.get tm 10=some (.int .i64 (parts.length:Nat))→T.get tm 11=some (.int .i64 (i:Nat))→T.get tm 3=some (.int .i64 (tot (parts.take i):Nat))→
  (∀n' tm' s1 td',n≤n'+7*k+2→skim 64 td'=Jv→Ext F Non s0 s1→s1.mem=s0.mem→s1.next=s0.next→T.get tm' 0=some (.slice (some ⟨b,o,none⟩) parts.length c)→T.get tm' 3=some (.int .i64 (tot parts:Nat))→W (runF envS n' ⟨63,My,Cp,tm',td', .run, .normal,none⟩) s1 Q)→
  W (runF envS n ⟨63,My,Cp,tm,td, .run, .normal,none⟩) s Q:=by
 intro k
 induction k with
 |zero=>
  intro i n tm s td hi hn hT hx hm hnx h0 h9 h10 h11 h3 q
  refine X6.w hT (by omega) ?_
  simp -implicitDefEqProofs only[PM,Ac,W_oS,Ab,Ad,A8,h10,h11]
  refine W.cond (v:=false) T3 US (by simp[T.get_set];omega) (by omega) (fun h=>by cases h) fun _=> ?_
  have e:tot (parts.take i)=tot parts:=by rw[show i=parts.length by omega,List.take_length]
  rw[e]at h3
  exact q _ _ _ _ (by omega) Hd_ hx hm hnx (by simp[T.get_set,h0]) (by simp[T.get_set,h3])
 |succ k ih=>
  intro i n tm s td hi hn hT hx hm hnx h0 h9 h10 h11 h3 q
  have hil:i<parts.length:=by omega
  obtain⟨g1,g2⟩:=hp.get hil
  have hlt:=ZT hil
  have htl:=TJ (l:=parts) (i+1)
  refine X6.w hT (by omega) ?_
  simp -implicitDefEqProofs only[PM,Ac,W_oS,Ab,Ad,A8,h10,h11]
  refine W.cond (v:=true) T3 US (by simp[T.get_set];omega) (by omega) (fun _=> ?_) fun h=>by cases h
  refine NS_.w DG_ (by omega) ?_
  simp -implicitDefEqProofs only[YO,Ac,W_oS,Ab,W_mv,Ad,T.get_set,reduceIte,Nat.reduceEqDiff, ↓reduceIte,h9,h11,GO MG hil]
  refine W.load1 Wq (g1.same hm hnx) ?_
  refine Pj_.w Iz_ (by omega) ?_
  have ew:wrap64 ((tot (parts.take i):Nat)+(parts[i].2.length:Nat):Int)=(tot (parts.take (i+1)):Nat):=by
   rw[BB (by omega) (by omega),hlt];simp
  have ei:wrap64 ((i:Nat)+1:Int)=((i+1:Nat):Int):=by
   have:parts.length≤4611686018427387904:=hlen
   rw[BB (by omega) (by omega)];simp
  have hx1:Ext F Non s0 (s.rdN (b+(o+i*1))):=hx.trans (Ext.rdN (F:=F) s _ fun _=>hF _ (.inl ⟨by omega,by omega⟩)) hb0 (fun _ _ h=>h) fun _ _ h=>h
  simp -implicitDefEqProofs only[WW,Ac,W_oS,Ab,W_mv,Ad,T.get_set,Ag,Af,Ae,reduceIte,Nat.reduceEqDiff, ↓reduceIte,A7,h3,Bs.len (s:=s.rdN (b+(o+i*1))) (g2.same hm hnx) BA,ew]
  refine Eo_.w BA_ (by omega) ?_
  simp -implicitDefEqProofs only[Aa_,Ac,W_oS,Ab,W_mv,Ad,T.get_set,reduceIte, ↓reduceIte,A8]
  refine W.cond (v:=false) Dt_ Qf_ (by simp[T.get_set]) (by omega) (fun h=>by cases h) fun _=> ?_
  refine TW_.w St_ (by omega) ?_
  simp -implicitDefEqProofs only[Vv,Ac,W_oS,Ab,W_mv,Ad,T.get_set,reduceIte,Nat.reduceEqDiff, ↓reduceIte,A7,h11,ei]
  exact ih (i+1) _ _ _ _ (by omega) (by omega) NQ_ hx1 hm hnx (by simp[T.get_set,h0]) (by simp[T.get_set,h9]) (by simp[T.get_set,h10]) (by simp[T.get_set]) (by simp[T.get_set]) fun n' tm' s1 td' e=>q n' tm' s1 td' (by omega)
end
section
variable {b o c:Nat}{parts:List (Value×List Nat)}
def fl (l:List (Value×List Nat)):List Nat:=(l.map (·.2)).flatten
theorem Ff (l:List (Value×List Nat)):(fl l).length=tot l:=by
 unfold fl tot
 rw[List.length_flatten,List.map_map]
 rfl
theorem Vw_ {l:List (Value×List Nat)}{i:Nat}(h:i<l.length):fl (l.take (i+1))=fl (l.take i)++l[i].2:=by
 unfold fl
 rw[List.take_add_one,List.getElem?_eq_getElem h,List.map_append,List.flatten_append]
 simp
theorem KN_ (ht:tot parts≤1000000)(hlen:parts.length≤4611686018427387904){F:Nat→Prop}(hF: ∀x,Eo b o parts x→F x){Q:Value×FrameMode→St→Prop}{s0:St}(hb0:s0.lim≤s0.next)(hp:Parts s0 b o parts){nb cc:Nat}(hnb:s0.next≤nb)(hcc:cc%capU=tot parts){z:Nat}{ce:Cell}(hz:nb+tot parts≤z): ∀(k i n:Nat) (tm:T Value) (s:St) (td:List Item),i+k=parts.length→6*k+6≤n→skim 64 td=GS→Ext F Non s0 s→Bb s nb 0 (tot parts)→Ah s nb 0 (u8l (fl (parts.take i)))→(T.get s.mem z=some ce∧z<s.next)→
  T.get tm 25=some (.slice (some ⟨b,o,none⟩) parts.length c)→T.get tm 26=some (.int .i64 (parts.length:Nat))→T.get tm 27=some (.int .i64 (i:Nat))→T.get tm 6=some (.slice (some ⟨nb,0,none⟩) (tot (parts.take i)) cc)→
  (∀n' tm' s1 td',n≤n'+6*k+2→skim 64 td'=I3→Ext F Non s0 s1→Ah s1 nb 0 (u8l (fl parts))→(T.get s1.mem z=some ce∧z<s1.next)→T.get tm' 6=some (.slice (some ⟨nb,0,none⟩) (tot parts) cc)→W (runF envS n' ⟨63,My,Cp,tm',td', .run, .normal,none⟩) s1 Q)→
  W (runF envS n ⟨63,My,Cp,tm,td, .run, .normal,none⟩) s Q:=by
 intro k
 induction k with
 |zero=>
  intro i n tm s td hi hn hT hx hown hrow hce h25 h26 h27 h6 q
  refine Xs.w hT (by omega) ?_
  simp -implicitDefEqProofs only[QF,Ac,W_oS,Ab,Ad,A8,h26,h27]
  refine W.cond (v:=false) Yo YV (by simp[T.get_set];omega) (by omega) (fun h=>by cases h) fun _=> ?_
  have e:parts.take i=parts:=by rw[show i=parts.length by omega,List.take_length]
  rw[e]at h6 hrow
  exact q _ _ _ _ (by omega) GG_ hx hrow hce (by simp[T.get_set,h6])
 |succ k ih=>
  intro i n tm s td hi hn hT hx hown hrow hce h25 h26 h27 h6 q
  have hil:i<parts.length:=by omega
  obtain⟨g1,g2⟩:=(hp.ext0 hx).get hil
  have hlt:=ZT hil
  have htl:=TJ (l:=parts) (i+1)
  refine Xs.w hT (by omega) ?_
  simp -implicitDefEqProofs only[QF,Ac,W_oS,Ab,Ad,A8,h26,h27]
  refine W.cond (v:=true) Yo YV (by simp[T.get_set];omega) (by omega) (fun _=> ?_) fun h=>by cases h
  refine PM_.w Ib_ (by omega) ?_
  simp -implicitDefEqProofs only[Xd,Ac,W_oS,Ab,W_mv,Ad,T.get_set,reduceIte,Nat.reduceEqDiff, ↓reduceIte,h25,h27,GO MG hil]
  refine W.load1 Wq g1 ?_
  have hx1:Ext F Non s0 (s.rdN (b+(o+i*1))):=hx.trans (Ext.rdN (F:=F) s _ fun _=>hF _ (.inl ⟨by omega,by omega⟩)) hb0 (fun _ _ h=>h) fun _ _ h=>h
  refine FF_.w Gq_ (by omega) ?_
  simp -implicitDefEqProofs only[SO,Ac,W_oS,Ab,W_mv,Ad,T.get_set,Ag,Af,Ae,reduceIte,Nat.reduceEqDiff, ↓reduceIte,h6,Jp]
  refine W.appIn (s:=s.rdN (b+(o+i*1))) Lr (g2.same (s':=s.rdN (b+(o+i*1))) rfl rfl).src.g (by rw[hcc];omega) (by rw[Be,Nat.mul_one]) (BY _) (fun j hj=> ?_) fun s2 n2 x2 r2=> ?_
  ·obtain⟨u,hu⟩:=hown (tot (parts.take i)+j) (by omega)
   exact⟨u,by rw[show 0+tot (parts.take i)*1+j=0+(tot (parts.take i)+j) by omega];exact hu⟩
  have ei:wrap64 ((i:Nat)+1:Int)=((i+1:Nat):Int):=by
   rw[BB (by omega) (by omega)];simp
  have hx2:Ext F Non s0 s2:=hx1.step x2 hb0 (fun l hl h=>by
   rcases h with h|h
   ·exact hF _ (.inr ⟨_,List.getElem_mem hil,h⟩)
   ·exact absurd h.1 (by omega)) fun l h=>by have:=h.1;omega
  have el:parts[i].2.length*1=(u8l parts[i].2).length:=by rw[Be,Nat.mul_one]
  rw[el]at x2
  have hown2:Bb s2 nb 0 (tot parts):=Bb.ext (s:=s.rdN (b+(o+i*1))) (fun j hj=>let ⟨u,hu⟩:=hown j hj;⟨u,hu.same rfl rfl⟩) x2 r2
  have hrow2:Ah s2 nb 0 (u8l (fl (parts.take (i+1)))):=by
   rw[Vw_ hil]
   unfold u8l
   rw[List.map_append]
   refine Ah.append (Ah.ext (s:=s.rdN (b+(o+i*1))) (fun j v e=>(hrow j v e).same rfl rfl) x2 fun j hj=> ?_) ?_
   ·rw[Be,Ff]at hj
    intro h
    have:=h.1
    omega
   ·rw[Be,Ff]
    rw[Nat.mul_one]at r2
    exact r2
  refine JV_.w Wf_ (by omega) ?_
  simp -implicitDefEqProofs only[XB,Ac,W_oS,Ab,W_mv,Ad,T.get_set,reduceIte,Nat.reduceEqDiff, ↓reduceIte,A7,h27,ei]
  exact ih (i+1) _ _ _ _ (by omega) (by omega) PQ_ hx2 hown2 hrow2 ⟨by rw[x2.mem z hce.2 fun h=>by have h1:=h.2;rw[Be]at h1;omega];exact hce.1,Nat.lt_of_lt_of_le hce.2 x2.nxt⟩ (by simp[T.get_set,h25]) (by simp[T.get_set,h26]) (by simp[T.get_set]) (by simp[T.get_set,hlt]) fun n' tm' s1 td' e=>q n' tm' s1 td' (by omega)
end
structure New (s s':St)(v:Value)(l:List Nat):Prop where
 bn:Bn s' v l
 new: ∀x,BsF v x→s.next≤x
theorem Bn.same {s s':St}{v:Value}{l:List Nat}(h:Bn s v l)(hm:s'.mem=s.mem)(hn:s'.next=s.next):Bn s' v l:=by
 obtain⟨b,o,c,h0,h1,h2,h3⟩:=h
 exact⟨b,o,c,h0,h1,h2,fun i v e=>(h3 i v e).same hm hn⟩
structure MkG (s:St)(v:Value)(l:List Nat)(b:Nat):Prop where
 val:v= .slice (some ⟨b,0,none⟩) l.length (capU*((b+l.length)*1024+1)+l.length)
 own:Ah s b 0 (u8l l)
 tok:T.get s.mem (b+l.length)=some (.O (.tok false 1025))
 lt:b+l.length<s.next
theorem MkG.same {s s':St}{v:Value}{l:List Nat}{b:Nat}(h:MkG s v l b)(hm:s'.mem=s.mem)(hn:s'.next=s.next):MkG s' v l b:=
 ⟨h.val,fun i u e=>(h.own i u e).same hm hn,by rw[hm];exact h.tok,by rw[hn];exact h.lt⟩
theorem MkG.ext {F G:Nat→Prop}{s s':St}{v:Value}{l:List Nat}{b:Nat}(h:MkG s v l b)(e:Ext F G s s')(hG: ∀x,In b 0 (l.length+1) x→ ¬G x):MkG s' v l b:=
 ⟨h.val,fun i u q=>(h.own i u q).ext e (hG _ ⟨by omega,by have:=(List.getElem?_eq_some_iff.1 q).1;rw[Be]at this;omega⟩),by rw[e.mem _ h.lt (hG _ ⟨by omega,by omega⟩)];exact h.tok,Nat.lt_of_lt_of_le h.lt e.nxt⟩
theorem MkG.bn {s:St}{v:Value}{l:List Nat}{b:Nat}(h:MkG s v l b)(hl:l.length≤1073741824):Bn s v l:=
 ⟨b,0,_,h.val,by rw[Mj (Bt hl)];exact Nat.le_refl _,Gc (Bt hl) (by decide),h.own.row⟩
theorem MkG.new {s0 s:St}{v:Value}{l:List Nat}{b:Nat}(h:MkG s v l b)(hl:l.length≤1073741824)(hb:s0.next≤b):New s0 s v l:=
 ⟨h.bn hl,fun x hx=>by rw[h.val]at hx;have:=hx.1;omega⟩
theorem SI {n:Nat}{s:St}{b o c:Nat}{parts:List (Value×List Nat)}{Q:Value→St→Prop}(hbd:s.lim≤s.next)(hp:Parts s b o parts)(h0:0<tot parts)(ht:tot parts≤1000000)(hlen:parts.length≤4611686018427387904)(hn:13*parts.length+60≤n)
  (q: ∀s1 v nb,Ext (Eo b o parts) Non s s1→MkG s1 v (fl parts) nb→s.next≤nb→Q v s1):W (AJ envS (runF envS n) 63 [.slice (some ⟨b,o,none⟩) parts.length c]) s Q:=by
 refine Pt_ fun tm hk0=> ?_
 have hpc:Parts (s.cxN cxN) b o parts:=hp.same rfl rfl
 refine OQ_.w rfl (by omega) ?_
 simp -implicitDefEqProofs only[Wz,Ab,W_mv,Ad]
 refine NC_.w Dx_ (by omega) ?_
 simp -implicitDefEqProofs only[V5,Ab,W_mv,Ad]
 refine QP_.w NA_ (by omega) ?_
 simp -implicitDefEqProofs only[T9,Ac,W_oS,Ab,W_mv,Ad,T.get_set,Ag,Af,Ae,reduceIte,reduceCtorEq, ↓reduceIte,hk0,Ch MG]
 refine Sn_ (c:=c) ht hlen (F:=Eo b o parts) (fun _ h=>h) (s0:=s.cxN cxN) hbd hpc parts.length 0 _ _ _ _ (by omega) (by omega) TF_ (Ext.refl _) rfl rfl (by simp[T.get_set,hk0]) (by simp[T.get_set]) (by simp[T.get_set]) (by simp[T.get_set]) (by simp[T.get_set,tot]) fun n1 tm1 s1 td1 hn1 hT1 hx1 hm1 hnx1 g0 g3=> ?_
 refine Cp_.w hT1 (by omega) ?_
 simp -implicitDefEqProofs only[Ze,Ac,W_on,Ab,W_mv,Ad,Ag,Af,Ae,Ak,g3]
 have hb1:s1.lim≤s1.next:=hx1.bnd hbd
 refine Ok_ hb1 (by omega) h0 ht fun s2 v nb hr x2=> ?_
 obtain⟨rfl,hnew,hown,htok,hlt⟩:=hr
 have hx2:Ext (Eo b o parts) Non (s.cxN cxN) s2:=hx1.step x2 hbd (fun _ _ h=>h.elim) fun _ h=>h.elim
 have hnb:s.next≤nb:=by
  have:s1.next=s.next:=hnx1
  omega
 have hcc:=Mj (q:=(nb+tot parts*1)*1024+1) (Bt (n:=tot parts) (by omega))
 have hok:=Gc (m:=nb+tot parts*1) (sz:=1) (Bt (n:=tot parts) (by omega)) (by decide)
 generalize hC:capU*((nb+tot parts*1)*1024+1)+tot parts=C at *
 refine Ux_.w FQ_ (by omega) ?_
 simp -implicitDefEqProofs only[Vc,Ac,W_oS,Ab,W_mv,Ad,T.get_set,Ag,Af,Ae,reduceIte,reduceCtorEq, ↓reduceIte,g0,Ch MG]
 refine KN_ (c:=c) ht hlen (F:=Eo b o parts) (fun _ h=>h) (s0:=s.cxN cxN) hbd hpc (nb:=nb) (cc:=C) hnb hcc (z:=nb+tot parts) (Nat.le_refl _) parts.length 0 _ _ _ _ (by omega) (by omega) We_ hx2 (by have:=hown.owned;rwa [List.length_replicate]at this) (fun i v e=>by simp[fl]at e) ⟨htok,hlt⟩ (by simp[T.get_set]) (by simp[T.get_set]) (by simp[T.get_set]) (by simp[T.get_set,tot]) fun n3 tm3 s3 td3 hn3 hT3 hx3 hrow hz3 g6=> ?_
 refine Wd_.w hT3 (by omega) ?_
 simp -implicitDefEqProofs only[Up,Ab,W_mv,Ad,g6]
 refine W.end' (rs:=[2]) (vs:=[.slice (some ⟨nb,0,none⟩) (tot parts) C]) Sf_ (.inl VB_) (by omega) Ax_ Hl_ hx3.cx (by simp[T.get_set]) ?_
 have hC':C=capU*((nb+(fl parts).length)*1024+1)+(fl parts).length:=by rw[←hC,Ff,Nat.mul_one]
 refine q _ (.slice (some ⟨nb,0,none⟩) (tot parts) C) nb hx3.cx' ⟨by rw[←hC',Ff],fun i u e=>(hrow i u e).same rfl rfl,by rw[Ff];exact hz3.1,by rw[Ff];exact hz3.2⟩ hnb
theorem Af_ {n:Nat}{s:St}{b o c:Nat}{parts:List (Value×List Nat)}{Q:Value→St→Prop}(hbd:s.lim≤s.next)(hp:Parts s b o parts)(h0:0<tot parts)(ht:tot parts≤1000000)(hlen:parts.length≤4611686018427387904)(hn:13*parts.length+60≤n)
  (q: ∀s1 v,Ext (Eo b o parts) Non s s1→New s s1 v (fl parts)→Q v s1):W (AJ envS (runF envS n) 63 [.slice (some ⟨b,o,none⟩) parts.length c]) s Q:=
 SI hbd hp h0 ht hlen hn fun s1 v _ x h hn=>q s1 v x (h.new (by rw[Ff];omega) hn)
theorem OY:elT envS 43=some (1,24,[.slice none 0 0]):=by kernel_rfl
theorem G6:hasT envS 51=true:=by kernel_rfl
theorem Dp:intK envS 5=some .u8:=by kernel_rfl
def le4 (n:Nat):List Nat:=[n%256,n>>>8%256,n>>>16%256,n>>>24%256]
def gput (l:List Nat):List Nat:=l++le4 (Co 0 l)
theorem Byt.le4 (n:Nat):Byt (le4 n):=fun x hx=>by
 simp -implicitDefEqProofs only[Am.le4,List.mem_cons,List.not_mem_nil,or_false]at hx
 omega
theorem Byt.gput {l:List Nat}(h:Byt l):Byt (gput l):=fun x hx=>by
 rcases List.mem_append.1 hx with hx|hx
 ·exact h x hx
 ·exact Byt.le4 _ x hx
theorem Mm_ {n:Nat}{s:St}{v:Value}{l:List Nat}{Q:Value→St→Prop}(hbd:s.lim≤s.next)(hn:120≤n)(h:Bn s v l)(hl:Byt l)(hz:l.length≤900000)
  (q: ∀s1 w,Ext (BsF v) Non s s1→New s s1 w (gput l)→Q w s1):W (AJ envS (runF envS n) 64 [v]) s Q:=by
 refine JJ_ fun tm h0=> ?_
 have hc:Bn (s.cxN cxN) v l:=h.same rfl rfl
 refine Ne_.w rfl (by omega) ?_
 simp -implicitDefEqProofs only[VY,Ab,W_mv,Ad]
 refine Gr_.w MW_ (by omega) ?_
 simp -implicitDefEqProofs only[UM,Ac,W_on,Ab,W_mv,Ad,T.get_set,Ag,Af,Ae,Ak,reduceIte,reduceCtorEq, ↓reduceIte,h0]
 refine VO (by omega) hc hl (by omega) fun s1 m1 n1 x1=> ?_
 refine Gx_.w IH_ (by omega) ?_
 generalize hS:Co 0 l=S
 simp -implicitDefEqProofs only[Vl,Ac,W_oS,W_on,Ab,W_mv,Ad,T.get_set,Ag,Af,Aq,Ap,Ae,Ak,reduceIte,reduceCtorEq, ↓reduceIte,h0]
 simp -implicitDefEqProofs only[Da G6 Dp,wrap_u8,Hm (k:= .u32) (by decide),Pp (k:= .u32) (by decide),QD (k:= .u32) (by decide)]
 have hb1:s1.lim≤s1.next:=x1.bnd hbd
 refine W.buildS hb1 (r:=u8l (le4 S)) CK (by decide) rfl (Bt (by decide)) fun s2 n2 x2 r2=> ?_
 have hb2:s2.lim≤s2.next:=x2.bnd hb1
 obtain⟨b,o,c,rfl,hv⟩:=hc
 refine W.buildS hb2 (r:=[.slice (some ⟨b,o,none⟩) l.length c, .slice (some ⟨s1.next,0,none⟩) 4 4]) OY (by decide) rfl (Bt (by decide)) fun s3 n3 x3 r3=> ?_
 have hb3:s3.lim≤s3.next:=x3.bnd hb2
 have hx1:Ext (BsF (.slice (some ⟨b,o,none⟩) l.length c)) Non (s.cxN cxN) s1:=x1
 have hx2:=hx1.step x2 hbd (fun _ _ h=>h.elim) fun _ h=>h.elim
 have hx3:=hx2.step x3 hbd (fun _ _ h=>h.elim) fun _ h=>h.elim
 have hBv:Bs s3 (.slice (some ⟨b,o,none⟩) l.length c) l:=(Bn.bs ⟨b,o,c,rfl,hv⟩).ext0 hx3
 have hB4:Bs s3 (.slice (some ⟨s1.next,0,none⟩) 4 4) (le4 S):=(Ah.bn r2 (Bt (by simp[le4]))).ext0 x3
 have hlt:tot [((.slice (some ⟨b,o,none⟩) l.length c:Value),l),(.slice (some ⟨s1.next,0,none⟩) 4 4,le4 S)]=l.length+4:=by simp[tot,le4]
 refine Af_ (parts:=[(.slice (some ⟨b,o,none⟩) l.length c,l),(.slice (some ⟨s1.next,0,none⟩) 4 4,le4 S)]) hb3 ⟨r3.row,fun p hp=> ?_⟩ (by rw[hlt];omega) (by rw[hlt];omega) (by simp) (by simp;omega) fun s4 w x4 hw=> ?_
 ·rcases List.mem_cons.1 hp with rfl|hp
  ·exact hBv
  ·rcases List.mem_cons.1 hp with rfl|hp
   ·exact hB4
   ·cases hp
 have hx4:=hx3.step x4 hbd (fun x hx h=>by
  have hn1:s.next≤s1.next:=x1.nxt
  have hn2:s1.next≤s2.next:=x2.nxt
  have hxl:x<s.lim:=hx
  rcases h with h|⟨p,hp,h⟩
  ·have:=h.1;omega
  ·rcases List.mem_cons.1 hp with rfl|hp
   ·exact h
   ·rcases List.mem_cons.1 hp with rfl|hp
    ·have:s1.next+0≤x:=h.1
     omega
    ·cases hp) fun _ h=>h.elim
 refine W.end' (rs:=[2]) (vs:=[w]) Us_ (.inl MX_) (by omega) VX NX_ hx4.cx (by simp[T.get_set]) ?_
 refine q _ _ hx4.cx' ⟨?_,fun x hx=> ?_⟩
 ·have:=hw.bn.same (s':=s4.cxN s.cx) rfl rfl
  show Bn (s4.cxN s.cx) w (gput l)
  unfold gput
  rw[hS]
  simpa [fl]using this
 ·have h1:=hw.new x hx
  have h2:s.next≤s3.next:=hx3.nxt
  omega
theorem Bs.at {s:St}{v:Value}{l:List Nat}(h:Bs s v l){i:Nat}(hi:i<l.length): ∃b o c,v= .slice (some ⟨b,o,none⟩) l.length c∧At s b (o+i*1) (u8 l[i])∧(∀x,x=b+(o+i*1)→BsF v x):=by
 rcases h with⟨rfl,rfl⟩|⟨b,o,c,rfl,_,_,h3⟩
 ·simp at hi
 ·refine⟨b,o,c,rfl, ?_,fun x hx=>⟨by omega,by omega⟩⟩
  rw[Nat.mul_one]
  exact h3.at (List.getElem?_eq_getElem hi)
section
variable {va vb:Value}{la lb:List Nat}
end
theorem W.cut {E:Env}{t:Nat}{s:St}{v:Value}{l:List Nat}{i j:Nat}{lo hi:Option Value}{Q:Value→St→Prop}(h:Bn s v l)(ht:slN E t=some 1)(hlo:bndV lo 0=some i)(hhi:bndV hi l.length=some j)(hij:i≤j)(hj:j≤l.length)
  (q: ∀v',Bn s v' ((l.take j).drop i)→(∀x,BsF v' x→BsF v x)→Q v' s):W (BW E t v lo hi) s Q:=by
 obtain⟨b,o,c,rfl,h1,h2,h3⟩:=h
 rw[IG ht hlo hhi hij (by omega) h2]
 obtain⟨o',e1,e2,e3,e4,e5⟩:=Bs.sub' hij hj h1 h2 h3
 rw[e1]
 refine q _ ⟨b,o',c-i,rfl,e2,e3,e4⟩ fun x hx=> ?_
 have hlen:((l.take j).drop i).length=j-i:=by rw[List.length_drop,List.length_take];omega
 have h6:b+o'≤x:=hx.1
 have h7:x<b+o'+((l.take j).drop i).length:=hx.2
 rw[hlen]at h7
 rcases e5 with rfl|e5
 ·exact⟨by omega,by omega⟩
 ·rw[hlen]at e5;omega
def GOk (l:List Nat):Prop:=4≤l.length∧gput (l.take (l.length-4))=l
instance (l:List Nat):Decidable (GOk l):=by unfold GOk;infer_instance
theorem LZ (l:List Nat):(gput l).length=l.length+4:=by simp[gput,le4]
def PO:Nat:=BE Try.f110
def TZ:Code:=Try.f110.body.getD .skip
theorem YQ:envS.fn.get 110=some Try.f110:=by kernel_rfl
theorem KX_ {n:Nat}{s:St}{Q:Value→St→Prop}(h: ∀tm,W (runF envS n ⟨110,4,PO,tm,[.code TZ], .run, .normal,none⟩) (s.cxN cxN) fun p s1=>Q p.1 (s1.cxN s.cx)):W (AJ envS (runF envS n) 110 []) s Q:=
 W.call (by kernel_rfl) (by kernel_rfl) YQ (by kernel_rfl) rfl rfl (by simp) (h _)
theorem Pq_:Try.f110.results.toList=[.tmp 0]:=by kernel_rfl
def Qg:List Item:=skim 64 [.code TZ]
def JK:List Item:=skim 64 Qg.tail
theorem OX_:skim 64 Qg.tail=JK:=by kernel_rfl
def NT:List Item:=skim 64 JK.tail
theorem SP_:skim 64 JK.tail=NT:=by kernel_rfl
def Uk (E:Env)(call round:Aa)(tm:T Value):M (T Value):=
 mv (some (.pointer none)) fun v0=>
 setF 0 v0 tm fun tm1=>
 M.pure tm1
theorem Ma_:RegEq 110 4 PO Qg Uk:=⟨by kernel_rfl,fun _ _ _ _ _ _ _ _ _=>by kernel_rfl⟩
def Xo (E:Env)(call round:Aa)(tm:T Value):M (T Value):=
 M.bind (M.on (some (.func (.func 133) #[] #[])) fun f=>M.on (seqO []) fun l=>Bi call round f l) fun v1=>
 M.bind (oS (seqP [(0,(some (.bool true))),(1,(some v1))]) fun ps=>Cn E 167 ps) fun v2=>
 M.bind (oS (some v2) fun a=>kBox a) fun v3=>
 mv (some v3) fun v0=>
 setF 0 v0 tm fun tm1=>
 M.pure tm1
theorem BP_:RegEq 110 4 PO JK Xo:=⟨by kernel_rfl,fun _ _ _ _ _ _ _ _ _=>by kernel_rfl⟩
theorem DN_: ∃k,NT= .code .ret::k:=⟨NT.tail,by kernel_rfl⟩
def Rn:Nat:=BE Try.f133
def Z9:Code:=Try.f133.body.getD .skip
theorem RC:envS.fn.get 133=some Try.f133:=by kernel_rfl
theorem EB_ {n:Nat}{s:St}{Q:Value→St→Prop}(h: ∀tm,W (runF envS n ⟨133,2,Rn,tm,[.code Z9], .run, .normal,none⟩) (s.cxN cxN) fun p s1=>Q p.1 (s1.cxN s.cx)):W (AJ envS (runF envS n) 133 []) s Q:=
 W.call (by kernel_rfl) (by kernel_rfl) RC (by kernel_rfl) rfl rfl (by simp) (h _)
theorem EF_:Try.f133.results.toList=[.cell 0 163]:=by kernel_rfl
def Nz:List Item:=skim 64 [.code Z9]
def Ld:List Item:=skim 64 Nz.tail
theorem QB_:skim 64 Nz.tail=Ld:=by kernel_rfl
def Px:List Item:=skim 64 Ld.tail
theorem Ke_:skim 64 Ld.tail=Px:=by kernel_rfl
def SG (E:Env)(call round:Aa)(tm:T Value):M (T Value):=
 M.bind (BH E 163) fun v0=>
 setF 0 v0 tm fun tm1=>
 M.pure tm1
theorem Of_:RegEq 133 2 Rn Nz SG:=⟨by kernel_rfl,fun _ _ _ _ _ _ _ _ _=>by kernel_rfl⟩
def WU (E:Env)(call round:Aa)(tm:T Value):M (T Value):=
 M.bind (oS (seqP [(0,(some (.int .u32 1779033703))),(1,(some (.int .u32 3144134277))),(2,(some (.int .u32 1013904242))),(3,(some (.int .u32 2773480762))),(4,(some (.int .u32 1359893119))),(5,(some (.int .u32 2600822924))),(6,(some (.int .u32 528734635))),(7,(some (.int .u32 1541459225)))]) fun ps=>Cn E 163 ps) fun v1=>
 M.bind (oS (T.get tm 0) fun a=>oS (some v1) fun b=>Bo E 163 a b) fun _=>
 M.pure tm
theorem Nk_:RegEq 133 2 Rn Ld WU:=⟨by kernel_rfl,fun _ _ _ _ _ _ _ _ _=>by kernel_rfl⟩
theorem OB_: ∃k,Px= .code .ret::k:=⟨Px.tail,by kernel_rfl⟩
def Ds:Nat:=BE Try.f111
abbrev Pn_:Nat:=57
def TC:Code:=Try.f111.body.getD .skip
theorem PT:envS.fn.get 111=some Try.f111:=by kernel_rfl
theorem Rg_ {a0 a1:Value}{n:Nat}{s:St}{Q:Value→St→Prop}(h: ∀tm,T.get tm 0=some a0→T.get tm 1=some a1→W (runF envS n ⟨111,57,Ds,tm,[.code TC], .run, .normal,none⟩) (s.cxN cxN) fun p s1=>Q p.1 (s1.cxN s.cx)):W (AJ envS (runF envS n) 111 [a0,a1]) s Q:=
 W.call (by kernel_rfl) (by kernel_rfl) PT (by kernel_rfl) rfl rfl (by simp) (h _ (by kernel_rfl) (by kernel_rfl))
theorem Aj_:Try.f111.results.toList=[]:=by kernel_rfl
def Qm:List Item:=skim 64 [.code TC]
def K0:List Item:=skim 64 Qm.tail
theorem FM_:skim 64 Qm.tail=K0:=by kernel_rfl
def E3:List Item:=skim 64 (brF K0)
theorem Mb_:skim 64 (brF K0)=E3:=by kernel_rfl
def Gn:List Item:=skim 64 E3.tail
theorem O0:skim 64 E3.tail=Gn:=by kernel_rfl
def M7:List Item:=skim 64 (brT Gn)
theorem Ec_:skim 64 (brT Gn)=M7:=by kernel_rfl
def Pi_:List Item:=skim 64 (brF Gn)
theorem Y7:skim 64 (brF Gn)=Pi_:=by kernel_rfl
def Ma:List Item:=skim 64 M7.tail
theorem Lo_:skim 64 M7.tail=Ma:=by kernel_rfl
def Mg:List Item:=skim 64 Ma.tail
theorem RP_:skim 64 Ma.tail=Mg:=by kernel_rfl
def KU:List Item:=skim 64 Mg.tail
theorem NP_:skim 64 Mg.tail=KU:=by kernel_rfl
def La:List Item:=skim 64 KU.tail
theorem QS_:skim 64 KU.tail=La:=by kernel_rfl
def ID:List Item:=skim 64 La.tail
theorem UA:skim 64 La.tail=ID:=by kernel_rfl
def Kq:List Item:=skim 64 (brT ID)
theorem Bx_:skim 64 (brT ID)=Kq:=by kernel_rfl
theorem Ep_:skim 64 (brF ID)=E3:=by kernel_rfl
theorem Bg_:skim 64 Kq.tail=E3:=by kernel_rfl
def Sf (E:Env)(call round:Aa)(tm:T Value):M (T Value):=
 mv (T.get tm 0) fun v6=>
 M.bind (oS (some v6) fun a=>oS (some (.pointer none)) fun b=>Cl.get (aBin E .eql 145 (.tmp 6) (.const (.pointer none))) a b) fun v7=>
 mv (some v7) fun v8=>
 M.bind (M.chk (isK v8) (M.if (isB v8 false) (oS (T.get tm 0) fun a=>M.pure a) (M.pure undef))) fun v9=>
 M.bind (M.chk (isK v8) (M.if (isB v8 false) (oS (some v9) fun a=>kNil a) (M.pure undef))) fun v10=>
 M.bind (M.chk (isK v8) (M.if (isB v8 false) (oS (some v10) fun a=>kFld E 167 a 0) (M.pure undef))) fun v11=>
 M.bind (M.chk (isK v8) (M.if (isB v8 false) (oS (some v11) fun a=>A5 E 4 a) (M.pure undef))) fun v12=>
 M.bind (M.chk (isK v8) (M.if (isB v8 false) (oS (some v12) fun a=>kUn E.P .not a) (M.pure undef))) fun v13=>
 M.bind (M.on (some v8) fun a=>M.on (some (.bool true)) fun b=>M.on (some v13) fun c=>Cw a b c) fun v14=>
 setF 14 v14 tm fun tm1=>
 M.pure tm1
theorem CX_:RegEq 111 57 Ds Qm Sf:=⟨by kernel_rfl,fun _ _ _ _ _ _ _ _ _=>by kernel_rfl⟩
theorem Bs_:BO K0=some 14:=by kernel_rfl
def KK (E:Env)(call round:Aa)(tm:T Value):M (T Value):=
 mv (T.get tm 1) fun v15=>
 M.bind (oS (seqO [(some v15)]) fun l=>A6 E .len [22] l) fun v16=>
 M.bind (oS (some v16) fun a=>oS (some (.int .i64 0)) fun b=>Cl.get (aBin E .gtr 3 (.tmp 16) (.const (.int .i64 0))) a b) fun v17=>
 setF 17 v17 tm fun tm1=>
 M.pure tm1
theorem Pr:RegEq 111 57 Ds E3 KK:=⟨by kernel_rfl,fun _ _ _ _ _ _ _ _ _=>by kernel_rfl⟩
theorem NB:BO Gn=some 17:=by kernel_rfl
def SW (E:Env)(call round:Aa)(tm:T Value):M (T Value):=
 mv (T.get tm 0) fun v18=>
 M.bind (oS (some v18) fun a=>kNil a) fun v19=>
 M.bind (oS (some v19) fun a=>kFld E 167 a 3) fun v20=>
 M.bind (oS (some v20) fun a=>A5 E 3 a) fun v21=>
 M.bind (oS (some v21) fun a=>oS (some (.int .i64 64)) fun b=>Cl.get (aBin E .rem 3 (.tmp 21) (.const (.int .i64 64))) a b) fun v22=>
 mv (some v22) fun v4=>
 setF 4 v4 tm fun tm1=>
 M.pure tm1
theorem Oe_:RegEq 111 57 Ds M7 SW:=⟨by kernel_rfl,fun _ _ _ _ _ _ _ _ _=>by kernel_rfl⟩
def W9 (E:Env)(call round:Aa)(tm:T Value):M (T Value):=
 mv (T.get tm 0) fun v23=>
 M.bind (oS (some v23) fun a=>kNil a) fun v24=>
 M.bind (oS (some v24) fun a=>kFld E 167 a 2) fun v25=>
 mv (T.get tm 4) fun v26=>
 M.bind (M.on (some v25) fun a=>M.on (onO (some v26) fun v=>some (some v)) fun b=>M.on (some none) fun c=>BW E 165 a b c) fun v27=>
 mv (T.get tm 1) fun v28=>
 M.bind (oS (seqO [(some v27),(some v28)]) fun l=>A6 E .copy [22,22] l) fun v29=>
 mv (some v29) fun v5=>
 setF 5 v5 tm fun tm1=>
 M.pure tm1
theorem AS_:RegEq 111 57 Ds Ma W9:=⟨by kernel_rfl,fun _ _ _ _ _ _ _ _ _=>by kernel_rfl⟩
def Tk (E:Env)(call round:Aa)(tm:T Value):M (T Value):=
 mv (T.get tm 1) fun v30=>
 mv (T.get tm 5) fun v31=>
 M.bind (M.on (some v30) fun a=>M.on (onO (some v31) fun v=>some (some v)) fun b=>M.on (some none) fun c=>BW E 22 a b c) fun v32=>
 mv (some v32) fun v1=>
 setF 1 v1 tm fun tm1=>
 M.pure tm1
theorem Ry_:RegEq 111 57 Ds Mg Tk:=⟨by kernel_rfl,fun _ _ _ _ _ _ _ _ _=>by kernel_rfl⟩
def Zv (E:Env)(call round:Aa)(tm:T Value):M (T Value):=
 mv (T.get tm 0) fun v33=>
 M.bind (oS (some v33) fun a=>kNil a) fun v34=>
 M.bind (oS (some v34) fun a=>kFld E 167 a 3) fun v35=>
 M.bind (oS (some v35) fun a=>A5 E 3 a) fun v36=>
 mv (T.get tm 5) fun v37=>
 M.bind (oS (some v36) fun a=>oS (some v37) fun b=>Cl.get (aBin E .add 3 (.tmp 36) (.tmp 37)) a b) fun v38=>
 M.bind (oS (some v33) fun a=>kNil a) fun v39=>
 M.bind (oS (some v39) fun a=>kFld E 167 a 3) fun v40=>
 M.bind (oS (some v40) fun a=>oS (some v38) fun b=>Bo E 3 a b) fun _=>
 M.pure tm
theorem Rv_:RegEq 111 57 Ds KU Zv:=⟨by kernel_rfl,fun _ _ _ _ _ _ _ _ _=>by kernel_rfl⟩
def Wb (E:Env)(call round:Aa)(tm:T Value):M (T Value):=
 mv (T.get tm 4) fun v41=>
 mv (T.get tm 5) fun v42=>
 M.bind (oS (some v41) fun a=>oS (some v42) fun b=>Cl.get (aBin E .add 3 (.tmp 41) (.tmp 42)) a b) fun v43=>
 M.bind (oS (some v43) fun a=>oS (some (.int .i64 64)) fun b=>Cl.get (aBin E .eql 3 (.tmp 43) (.const (.int .i64 64))) a b) fun v44=>
 setF 44 v44 tm fun tm1=>
 M.pure tm1
theorem KE_:RegEq 111 57 Ds La Wb:=⟨by kernel_rfl,fun _ _ _ _ _ _ _ _ _=>by kernel_rfl⟩
theorem Tf:BO ID=some 44:=by kernel_rfl
def R7 (E:Env)(call round:Aa)(tm:T Value):M ((Rho×T Value)×List OpLog):=
 M.bind (apartO (oS (T.get tm 0) fun a=>M.pure a)) fun p0=>
 M.bind (apartO (oS (T.get tm 0) fun a=>M.pure a)) fun p1=>
 M.bind (apartO (oS (some p1.1) fun a=>kNil a)) fun p2=>
 M.bind (apartO (oS (some p2.1) fun a=>kFld E 167 a 1)) fun p3=>
 M.bind (apartO (oS (some p3.1) fun a=>A5 E 163 a)) fun p4=>
 M.bind (apartO (oS (T.get tm 0) fun a=>M.pure a)) fun p5=>
 M.bind (apartO (oS (some p5.1) fun a=>kNil a)) fun p6=>
 M.bind (apartO (oS (some p6.1) fun a=>kFld E 167 a 2)) fun p7=>
 M.bind (apartO (M.on (some p7.1) fun a=>M.on (some none) fun b=>M.on (some none) fun c=>BW E 165 a b c)) fun p8=>
 M.bind (apartO (M.on (some (.func (.func 134) #[] #[])) fun f=>M.on (seqO [(some p4.1),(some p8.1)]) fun l=>Bi call round f l)) fun p9=>
 M.bind (apartO (oS (some p0.1) fun a=>kNil a)) fun p10=>
 M.bind (apartO (oS (some p10.1) fun a=>kFld E 167 a 1)) fun p11=>
 M.pure (([p11.1,p10.1,p9.1,p8.1,p7.1,p6.1,p5.1,p4.1,p3.1,p2.1,p1.1,p0.1],tm),[p11.2,p10.2,p9.2,p8.2,p7.2,p6.2,p5.2,p4.2,p3.2,p2.2,p1.2,p0.2])
theorem VY_:DrawEq 111 57 Ds Kq [0,0,2,6,14,0,32,96,224,510,1023,2047,4095] R7:=⟨by kernel_rfl,by kernel_rfl,fun _ _ _ _ _ _ _ _ _=>by kernel_rfl⟩
theorem AX_ (E:Env)(call round:Aa)(x45 x46 x47 x48 x49 x50 x51 x52 x53 x54 x55 x56:Value)(tm:T Value)(s:St):BM call round (CH E Ds 57 (hdC Kq)) [x56,x55,x54,x53,x52,x51,x50,x49,x48,x47,x46,x45] tm s=(M.bind (oS (some x56) fun a=>oS (some x54) fun b=>Bo E 163 a b) fun _=>M.pure tm) s:=by kernel_rfl
def B0:Nat:=BE Try.f112
abbrev GY:Nat:=74
def VK:Code:=Try.f112.body.getD .skip
theorem Wo:envS.fn.get 112=some Try.f112:=by kernel_rfl
theorem NW_ {a0:Value}{n:Nat}{s:St}{Q:Value→St→Prop}(h: ∀tm,T.get tm 0=some a0→W (runF envS n ⟨112,74,B0,tm,[.code VK], .run, .normal,none⟩) (s.cxN cxN) fun p s1=>Q p.1 (s1.cxN s.cx)):W (AJ envS (runF envS n) 112 [a0]) s Q:=
 W.call (by kernel_rfl) (by kernel_rfl) Wo (by kernel_rfl) rfl rfl (by simp) (h _ (by kernel_rfl))
theorem HJ_:Try.f112.results.toList=[.cell 2 101]:=by kernel_rfl
def Np:List Item:=skim 64 [.code VK]
def MT:List Item:=skim 64 Np.tail
theorem Oo_:skim 64 Np.tail=MT:=by kernel_rfl
def JR:List Item:=skim 64 MT.tail
theorem Tf_:skim 64 MT.tail=JR:=by kernel_rfl
def K7:List Item:=skim 64 JR.tail
theorem Kj_:skim 64 JR.tail=K7:=by kernel_rfl
def K2:List Item:=skim 64 (brF K7)
theorem HM_:skim 64 (brF K7)=K2:=by kernel_rfl
def Jd:List Item:=skim 64 K2.tail
theorem Ka_:skim 64 K2.tail=Jd:=by kernel_rfl
def Mk:List Item:=skim 64 Jd.tail
theorem DY_:skim 64 Jd.tail=Mk:=by kernel_rfl
def Kw:List Item:=skim 64 Mk.tail
theorem KG_:skim 64 Mk.tail=Kw:=by kernel_rfl
def FM:List Item:=skim 64 Kw.tail
theorem Pk_:skim 64 Kw.tail=FM:=by kernel_rfl
def GL:List Item:=skim 64 FM.tail
theorem Uj:skim 64 FM.tail=GL:=by kernel_rfl
def J5:List Item:=skim 64 (brT GL)
theorem Vu_:skim 64 (brT GL)=J5:=by kernel_rfl
def Iu:List Item:=skim 64 (brF GL)
theorem Fs_:skim 64 (brF GL)=Iu:=by kernel_rfl
def O6:List Item:=skim 64 J5.tail
theorem RW_:skim 64 J5.tail=O6:=by kernel_rfl
def I7:List Item:=skim 64 Iu.tail
theorem SR_:skim 64 Iu.tail=I7:=by kernel_rfl
theorem Fe_:skim 64 O6.tail=FM:=by kernel_rfl
def Gr:List Item:=skim 64 I7.tail
theorem Ej_:skim 64 I7.tail=Gr:=by kernel_rfl
def Gq:List Item:=skim 64 Gr.tail
theorem Xr:skim 64 Gr.tail=Gq:=by kernel_rfl
def Mf:List Item:=skim 64 (brT Gq)
theorem Nb_:skim 64 (brT Gq)=Mf:=by kernel_rfl
def IZ:List Item:=skim 64 (brF Gq)
theorem MH_:skim 64 (brF Gq)=IZ:=by kernel_rfl
def Km:List Item:=skim 64 Mf.tail
theorem UH_:skim 64 Mf.tail=Km:=by kernel_rfl
def PJ:List Item:=skim 64 IZ.tail
theorem Te_:skim 64 IZ.tail=PJ:=by kernel_rfl
def N7:List Item:=skim 64 Km.tail
theorem Ld_:skim 64 Km.tail=N7:=by kernel_rfl
theorem DO_:skim 64 N7.tail=Gr:=by kernel_rfl
def SS (E:Env)(call round:Aa)(tm:T Value):M (T Value):=
 M.bind (BH E 101) fun v2=>
 setF 2 v2 tm fun tm1=>
 M.pure tm1
theorem IM_:RegEq 112 74 B0 Np SS:=⟨by kernel_rfl,fun _ _ _ _ _ _ _ _ _=>by kernel_rfl⟩
def Wg (E:Env)(call round:Aa)(tm:T Value):M (T Value):=
 M.bind (BH E 101) fun v3=>
 setF 3 v3 tm fun tm1=>
 M.pure tm1
theorem NG_:RegEq 112 74 B0 MT Wg:=⟨by kernel_rfl,fun _ _ _ _ _ _ _ _ _=>by kernel_rfl⟩
def Yd (E:Env)(call round:Aa)(tm:T Value):M (T Value):=
 mv (T.get tm 0) fun v9=>
 M.bind (oS (some v9) fun a=>oS (some (.pointer none)) fun b=>Cl.get (aBin E .eql 145 (.tmp 9) (.const (.pointer none))) a b) fun v10=>
 mv (some v10) fun v11=>
 M.bind (M.chk (isK v11) (M.if (isB v11 false) (oS (T.get tm 0) fun a=>M.pure a) (M.pure undef))) fun v12=>
 M.bind (M.chk (isK v11) (M.if (isB v11 false) (oS (some v12) fun a=>kNil a) (M.pure undef))) fun v13=>
 M.bind (M.chk (isK v11) (M.if (isB v11 false) (oS (some v13) fun a=>kFld E 167 a 0) (M.pure undef))) fun v14=>
 M.bind (M.chk (isK v11) (M.if (isB v11 false) (oS (some v14) fun a=>A5 E 4 a) (M.pure undef))) fun v15=>
 M.bind (M.chk (isK v11) (M.if (isB v11 false) (oS (some v15) fun a=>kUn E.P .not a) (M.pure undef))) fun v16=>
 M.bind (M.on (some v11) fun a=>M.on (some (.bool true)) fun b=>M.on (some v16) fun c=>Cw a b c) fun v17=>
 setF 17 v17 tm fun tm1=>
 M.pure tm1
theorem Ev_:RegEq 112 74 B0 JR Yd:=⟨by kernel_rfl,fun _ _ _ _ _ _ _ _ _=>by kernel_rfl⟩
theorem Jl_:BO K7=some 17:=by kernel_rfl
def Y3 (E:Env)(call round:Aa)(tm:T Value):M (T Value):=
 mv (T.get tm 0) fun v19=>
 M.bind (oS (some v19) fun a=>kNil a) fun v20=>
 M.bind (oS (some v20) fun a=>A5 E 167 a) fun v21=>
 M.bind (BH E 167) fun v4=>
 setF 4 v4 tm fun tm1=>
 M.bind (oS (some v4) fun a=>oS (some v21) fun b=>Bo E 167 a b) fun _=>
 M.pure tm1
theorem KO_:RegEq 112 74 B0 K2 Y3:=⟨by kernel_rfl,fun _ _ _ _ _ _ _ _ _=>by kernel_rfl⟩
def Y1 (E:Env)(call round:Aa)(tm:T Value):M (T Value):=
 mv (T.get tm 0) fun v22=>
 M.bind (oS (some v22) fun a=>kNil a) fun v23=>
 M.bind (oS (some v23) fun a=>kFld E 167 a 3) fun v24=>
 M.bind (oS (some v24) fun a=>A5 E 3 a) fun v25=>
 M.bind (oS (some v25) fun a=>oS (some (.int .i64 64)) fun b=>Cl.get (aBin E .rem 3 (.tmp 25) (.const (.int .i64 64))) a b) fun v26=>
 M.bind (oS (some (.int .i64 119)) fun a=>oS (some v26) fun b=>Cl.get (aBin E .sub 3 (.const (.int .i64 119)) (.tmp 26)) a b) fun v27=>
 M.bind (oS (some v27) fun a=>oS (some (.int .i64 64)) fun b=>Cl.get (aBin E .rem 3 (.tmp 27) (.const (.int .i64 64))) a b) fun v28=>
 M.bind (oS (some (.int .i64 1)) fun a=>oS (some v28) fun b=>Cl.get (aBin E .add 3 (.const (.int .i64 1)) (.tmp 28)) a b) fun v29=>
 M.bind (oS (some v29) fun a=>oS (some (.int .i64 80)) fun b=>DX E 22 a b) fun v30=>
 mv (some v30) fun v5=>
 setF 5 v5 tm fun tm1=>
 M.pure tm1
theorem Dg_:RegEq 112 74 B0 Jd Y1:=⟨by kernel_rfl,fun _ _ _ _ _ _ _ _ _=>by kernel_rfl⟩
def Ws (E:Env)(call round:Aa)(tm:T Value):M (T Value):=
 mv (T.get tm 5) fun v31=>
 M.bind (oS (some v31) fun a=>oS (some (.int .i64 0)) fun b=>A9 E 22 a b) fun v32=>
 M.bind (oS (some v32) fun a=>oS (some (.int .u8 128)) fun b=>Bo E 5 a b) fun _=>
 M.pure tm
theorem Ln_:RegEq 112 74 B0 Mk Ws:=⟨by kernel_rfl,fun _ _ _ _ _ _ _ _ _=>by kernel_rfl⟩
def W7 (E:Env)(call round:Aa)(tm:T Value):M (T Value):=
 mv (some (.int .i64 56)) fun v6=>
 setF 6 v6 tm fun tm1=>
 M.pure tm1
theorem CK_:RegEq 112 74 B0 Kw W7:=⟨by kernel_rfl,fun _ _ _ _ _ _ _ _ _=>by kernel_rfl⟩
def OI (E:Env)(call round:Aa)(tm:T Value):M (T Value):=
 mv (T.get tm 6) fun v33=>
 M.bind (oS (some v33) fun a=>oS (some (.int .i64 0)) fun b=>Cl.get (aBin E .geq 3 (.tmp 33) (.const (.int .i64 0))) a b) fun v34=>
 setF 34 v34 tm fun tm1=>
 M.pure tm1
theorem U9:RegEq 112 74 B0 FM OI:=⟨by kernel_rfl,fun _ _ _ _ _ _ _ _ _=>by kernel_rfl⟩
theorem XY:BO GL=some 34:=by kernel_rfl
def Vz (E:Env)(call round:Aa)(tm:T Value):M (T Value):=
 mv (T.get tm 5) fun v37=>
 mv (T.get tm 0) fun v38=>
 M.bind (oS (some v38) fun a=>kNil a) fun v39=>
 M.bind (oS (some v39) fun a=>kFld E 167 a 3) fun v40=>
 M.bind (oS (some v40) fun a=>A5 E 3 a) fun v41=>
 M.bind (oS (some (.int .i64 8)) fun a=>oS (some v41) fun b=>Cl.get (aBin E .mul 3 (.const (.int .i64 8)) (.tmp 41)) a b) fun v42=>
 mv (T.get tm 6) fun v43=>
 M.bind (oS (some v42) fun a=>oS (some v43) fun b=>Cl.get (aBin E .shr 3 (.tmp 42) (.tmp 43)) a b) fun v44=>
 M.bind (oS (some v44) fun a=>Bu E 3 5 a) fun v45=>
 M.bind (oS (seqP [(0,(some v45))]) fun ps=>BX E 22 1 ps) fun v46=>
 M.bind (oS (seqO [(some v37),(some v46)]) fun l=>A6 E .append [22,22] l) fun v47=>
 mv (some v47) fun v5=>
 setF 5 v5 tm fun tm1=>
 M.pure tm1
theorem Lt_:RegEq 112 74 B0 J5 Vz:=⟨by kernel_rfl,fun _ _ _ _ _ _ _ _ _=>by kernel_rfl⟩
def UF (E:Env)(call round:Aa)(tm:T Value):M (T Value):=
 mv (T.get tm 5) fun v48=>
 M.bind (M.on (some (.func (.func 111) #[] #[])) fun f=>M.on (seqO [(T.get tm 4),(some v48)]) fun l=>Bi call round f l) fun v49=>
 M.pure tm
theorem QE_:RegEq 112 74 B0 Iu UF:=⟨by kernel_rfl,fun _ _ _ _ _ _ _ _ _=>by kernel_rfl⟩
def V3 (E:Env)(call round:Aa)(tm:T Value):M (T Value):=
 mv (T.get tm 6) fun v35=>
 M.bind (oS (some v35) fun a=>oS (some (.int .i64 8)) fun b=>Cl.get (aBin E .sub 3 (.tmp 35) (.const (.int .i64 8))) a b) fun v36=>
 mv (some v36) fun v6=>
 setF 6 v6 tm fun tm1=>
 M.pure tm1
theorem Ba_:RegEq 112 74 B0 O6 V3:=⟨by kernel_rfl,fun _ _ _ _ _ _ _ _ _=>by kernel_rfl⟩
def Sv (E:Env)(call round:Aa)(tm:T Value):M (T Value):=
 M.bind (oS (T.get tm 4) fun a=>kFld E 167 a 1) fun v50=>
 M.bind (oS (some v50) fun a=>A5 E 163 a) fun v51=>
 setF 51 v51 tm fun tm1=>
 mv (some (.int .i64 0)) fun v52=>
 setF 52 v52 tm1 fun tm2=>
 M.pure tm2
theorem Ly_:RegEq 112 74 B0 I7 Sv:=⟨by kernel_rfl,fun _ _ _ _ _ _ _ _ _=>by kernel_rfl⟩
def Rf (E:Env)(call round:Aa)(tm:T Value):M (T Value):=
 M.bind (oS (T.get tm 52) fun a=>oS (some (.int .i64 8)) fun b=>Cl.get (aBin E .lss 3 (.tmp 52) (.const (.int .i64 8))) a b) fun v53=>
 setF 53 v53 tm fun tm1=>
 M.pure tm1
theorem TX:RegEq 112 74 B0 Gr Rf:=⟨by kernel_rfl,fun _ _ _ _ _ _ _ _ _=>by kernel_rfl⟩
theorem Zs:BO Gq=some 53:=by kernel_rfl
def Su (E:Env)(call round:Aa)(tm:T Value):M (T Value):=
 mv (T.get tm 52) fun v54=>
 M.bind (oS (T.get tm 51) fun a=>oS (T.get tm 52) fun b=>kIdx E 163 a b) fun v55=>
 mv (some v54) fun v7=>
 setF 7 v7 tm fun tm1=>
 mv (some v55) fun v8=>
 setF 8 v8 tm1 fun tm2=>
 M.pure tm2
theorem Cs_:RegEq 112 74 B0 Mf Su:=⟨by kernel_rfl,fun _ _ _ _ _ _ _ _ _=>by kernel_rfl⟩
def Vx (E:Env)(call round:Aa)(tm:T Value):M (T Value):=
 M.bind (oS (T.get tm 3) fun a=>A5 E 101 a) fun v73=>
 M.bind (oS (T.get tm 2) fun a=>oS (some v73) fun b=>Bo E 101 a b) fun _=>
 M.pure tm
theorem MY_:RegEq 112 74 B0 IZ Vx:=⟨by kernel_rfl,fun _ _ _ _ _ _ _ _ _=>by kernel_rfl⟩
def AE_ (E:Env)(call round:Aa)(tm:T Value):M (T Value):=
 mv (T.get tm 7) fun v56=>
 M.bind (oS (some (.int .i64 4)) fun a=>oS (some v56) fun b=>Cl.get (aBin E .mul 3 (.const (.int .i64 4)) (.tmp 56)) a b) fun v57=>
 M.bind (M.on (T.get tm 3) fun a=>M.on (onO (some v57) fun v=>some (some v)) fun b=>M.on (some none) fun c=>BW E 101 a b c) fun v58=>
 mv (T.get tm 8) fun v59=>
 M.bind (oS (some v59) fun a=>oS (some (.int .u64 24)) fun b=>Cl.get (aBin E .shr 51 (.tmp 59) (.const (.int .u64 24))) a b) fun v60=>
 M.bind (oS (some v60) fun a=>Bu E 51 5 a) fun v61=>
 mv (T.get tm 8) fun v62=>
 M.bind (oS (some v62) fun a=>oS (some (.int .u64 16)) fun b=>Cl.get (aBin E .shr 51 (.tmp 62) (.const (.int .u64 16))) a b) fun v63=>
 M.bind (oS (some v63) fun a=>Bu E 51 5 a) fun v64=>
 mv (T.get tm 8) fun v65=>
 M.bind (oS (some v65) fun a=>oS (some (.int .u64 8)) fun b=>Cl.get (aBin E .shr 51 (.tmp 65) (.const (.int .u64 8))) a b) fun v66=>
 M.bind (oS (some v66) fun a=>Bu E 51 5 a) fun v67=>
 mv (T.get tm 8) fun v68=>
 M.bind (oS (some v68) fun a=>Bu E 51 5 a) fun v69=>
 M.bind (oS (seqP [(0,(some v61)),(1,(some v64)),(2,(some v67)),(3,(some v69))]) fun ps=>BX E 22 4 ps) fun v70=>
 M.bind (oS (seqO [(some v58),(some v70)]) fun l=>A6 E .copy [22,22] l) fun v71=>
 M.pure tm
theorem Gy_:RegEq 112 74 B0 Km AE_:=⟨by kernel_rfl,fun _ _ _ _ _ _ _ _ _=>by kernel_rfl⟩
theorem QJ_: ∃k,PJ= .code .ret::k:=⟨PJ.tail,by kernel_rfl⟩
def R0 (E:Env)(call round:Aa)(tm:T Value):M (T Value):=
 M.bind (oS (T.get tm 52) fun a=>oS (some (.int .i64 1)) fun b=>Cl.get (aBin E .add 3 (.tmp 52) (.const (.int .i64 1))) a b) fun v72=>
 mv (some v72) fun v52=>
 setF 52 v52 tm fun tm1=>
 M.pure tm1
theorem Gu_:RegEq 112 74 B0 N7 R0:=⟨by kernel_rfl,fun _ _ _ _ _ _ _ _ _=>by kernel_rfl⟩
def IK:Nat:=BE Try.f73
def UU:Code:=Try.f73.body.getD .skip
theorem Yw:envS.fn.get 73=some Try.f73:=by kernel_rfl
theorem Lw_ {a0:Value}{n:Nat}{s:St}{Q:Value→St→Prop}(h: ∀tm,T.get tm 0=some a0→W (runF envS n ⟨73,10,IK,tm,[.code UU], .run, .normal,none⟩) (s.cxN cxN) fun p s1=>Q p.1 (s1.cxN s.cx)):W (AJ envS (runF envS n) 73 [a0]) s Q:=
 W.call (by kernel_rfl) (by kernel_rfl) Yw (by kernel_rfl) rfl rfl (by simp) (h _ (by kernel_rfl))
theorem LD_:Try.f73.results.toList=[.cell 2 101]:=by kernel_rfl
def Ol:List Item:=skim 64 [.code UU]
def MQ:List Item:=skim 64 Ol.tail
theorem KQ_:skim 64 Ol.tail=MQ:=by kernel_rfl
def Nd:List Item:=skim 64 MQ.tail
theorem Wt_:skim 64 MQ.tail=Nd:=by kernel_rfl
def Nj:List Item:=skim 64 Nd.tail
theorem DI_:skim 64 Nd.tail=Nj:=by kernel_rfl
def Ov:List Item:=skim 64 Nj.tail
theorem RV_:skim 64 Nj.tail=Ov:=by kernel_rfl
def AG_ (E:Env)(call round:Aa)(tm:T Value):M (T Value):=
 M.bind (BH E 101) fun v2=>
 setF 2 v2 tm fun tm1=>
 M.pure tm1
theorem RQ_:RegEq 73 10 IK Ol AG_:=⟨by kernel_rfl,fun _ _ _ _ _ _ _ _ _=>by kernel_rfl⟩
def T8 (E:Env)(call round:Aa)(tm:T Value):M (T Value):=
 M.bind (M.on (some (.func (.func 110) #[] #[])) fun f=>M.on (seqO []) fun l=>Bi call round f l) fun v4=>
 mv (some v4) fun v3=>
 setF 3 v3 tm fun tm1=>
 M.pure tm1
theorem Pl_:RegEq 73 10 IK MQ T8:=⟨by kernel_rfl,fun _ _ _ _ _ _ _ _ _=>by kernel_rfl⟩
def ZY (E:Env)(call round:Aa)(tm:T Value):M (T Value):=
 mv (T.get tm 3) fun v5=>
 mv (T.get tm 0) fun v6=>
 M.bind (M.on (some (.func (.func 111) #[] #[])) fun f=>M.on (seqO [(some v5),(some v6)]) fun l=>Bi call round f l) fun v7=>
 M.pure tm
theorem CP_:RegEq 73 10 IK Nd ZY:=⟨by kernel_rfl,fun _ _ _ _ _ _ _ _ _=>by kernel_rfl⟩
def Z2 (E:Env)(call round:Aa)(tm:T Value):M (T Value):=
 mv (T.get tm 3) fun v8=>
 M.bind (M.on (some (.func (.func 112) #[] #[])) fun f=>M.on (seqO [(some v8)]) fun l=>Bi call round f l) fun v9=>
 M.bind (oS (T.get tm 2) fun a=>oS (some v9) fun b=>Bo E 101 a b) fun _=>
 M.pure tm
theorem OF_:RegEq 73 10 IK Nj Z2:=⟨by kernel_rfl,fun _ _ _ _ _ _ _ _ _=>by kernel_rfl⟩
theorem Wv_: ∃k,Ov= .code .ret::k:=⟨Ov.tail,by kernel_rfl⟩
def JE:Nat:=BE Try.f32
def W8:Code:=Try.f32.body.getD .skip
theorem VV:envS.fn.get 32=some Try.f32:=by kernel_rfl
theorem TY_ {a0:Value}{n:Nat}{s:St}{Q:Value→St→Prop}(h: ∀tm,T.get tm 0=some a0→W (runF envS n ⟨32,9,JE,tm,[.code W8], .run, .normal,none⟩) (s.cxN cxN) fun p s1=>Q p.1 (s1.cxN s.cx)):W (AJ envS (runF envS n) 32 [a0]) s Q:=
 W.call (by kernel_rfl) (by kernel_rfl) VV (by kernel_rfl) rfl rfl (by simp) (h _ (by kernel_rfl))
theorem Fw_:Try.f32.results.toList=[.cell 2 26]:=by kernel_rfl
def OZ:List Item:=skim 64 [.code W8]
def MP:List Item:=skim 64 OZ.tail
theorem HW_:skim 64 OZ.tail=MP:=by kernel_rfl
def JN:List Item:=skim 64 MP.tail
theorem FW_:skim 64 MP.tail=JN:=by kernel_rfl
def OT:List Item:=skim 64 JN.tail
theorem BD_:skim 64 JN.tail=OT:=by kernel_rfl
def TR (E:Env)(call round:Aa)(tm:T Value):M (T Value):=
 M.bind (BH E 26) fun v2=>
 setF 2 v2 tm fun tm1=>
 M.pure tm1
theorem LA_:RegEq 32 9 JE OZ TR:=⟨by kernel_rfl,fun _ _ _ _ _ _ _ _ _=>by kernel_rfl⟩
def XD (E:Env)(call round:Aa)(tm:T Value):M (T Value):=
 mv (T.get tm 0) fun v4=>
 M.bind (M.on (some (.func (.func 73) #[] #[])) fun f=>M.on (seqO [(some v4)]) fun l=>Bi call round f l) fun v5=>
 M.bind (BH E 101) fun v3=>
 setF 3 v3 tm fun tm1=>
 M.bind (oS (some v3) fun a=>oS (some v5) fun b=>Bo E 101 a b) fun _=>
 M.pure tm1
theorem Ta_:RegEq 32 9 JE MP XD:=⟨by kernel_rfl,fun _ _ _ _ _ _ _ _ _=>by kernel_rfl⟩
def TA (E:Env)(call round:Aa)(tm:T Value):M (T Value):=
 M.bind (M.on (T.get tm 3) fun a=>M.on (some none) fun b=>M.on (onO (some (.int .i64 16)) fun v=>some (some v)) fun c=>BW E 101 a b c) fun v6=>
 M.bind (oS (some v6) fun a=>DY E 26 a) fun v7=>
 M.bind (oS (some v7) fun a=>A5 E 26 a) fun v8=>
 M.bind (oS (T.get tm 2) fun a=>oS (some v8) fun b=>Bo E 26 a b) fun _=>
 M.pure tm
theorem GP_:RegEq 32 9 JE JN TA:=⟨by kernel_rfl,fun _ _ _ _ _ _ _ _ _=>by kernel_rfl⟩
theorem By_: ∃k,OT= .code .ret::k:=⟨OT.tail,by kernel_rfl⟩
structure DS where
 st:Sha.St8
 w:List Nat
 n:Nat
def DS.k (d:DS)(b:List Nat):Nat:=Nat.min (64-d.n%64) b.length
def DS.w' (d:DS)(b:List Nat):List Nat:=d.w.take (d.n%64)++(b.take (d.k b)++d.w.drop (d.n%64+d.k b))
def DS.step (d:DS)(b:List Nat):DS:=⟨if d.n%64+d.k b=64 then Sha.next d.st (fun j=>(d.w' b).getD j 0)else d.st,d.w' b,d.n+d.k b⟩
def DS.write:Nat→DS→List Nat→DS
 |0,d,_=>d
 |f+1,d,b=>if b.length=0 then d else DS.write f (d.step b) (b.drop (d.k b))
structure Dig (s:St)(D:Nat)(d:DS):Prop where
 made:Own s D 0 (.bool true)
 st:Ah s D 1 (st8V d.st).toList
 w:Ah s D 9 (u8l d.w)
 n:Own s D 73 (.int .i64 (d.n:Nat))
 len:d.w.length=64
 byt:Byt d.w
 ok:d.st.Ok
theorem DK (r:Sha.St8):(st8V r).toList.length=8:=rfl
theorem Dig.ext0 {F:Nat→Prop}{s s':St}{D:Nat}{d:DS}(h:Dig s D d)(e:Ext F Non s s'):Dig s' D d:=⟨h.made.ext0 e,h.st.ext0 e,h.w.ext0 e,h.n.ext0 e,h.len,h.byt,h.ok⟩
theorem Dig.same {s s':St}{D:Nat}{d:DS}(h:Dig s D d)(hm:s'.mem=s.mem)(hn:s'.next=s.next):Dig s' D d:=
 ⟨h.made.same hm hn,fun i v e=>(h.st i v e).same hm hn,fun i v e=>(h.w i v e).same hm hn,h.n.same hm hn,h.len,h.byt,h.ok⟩
theorem IG_ {r:Sha.St8}(h:r.Ok):u32s (st8V r).toList=some [r.a,r.b,r.c,r.d,r.e,r.f,r.g,r.h]:=by
 have e: ∀(n:Nat) (l:List Value) (ns:List Nat),n<4294967296→u32s l=some ns→u32s (.int .u32 (n:Int)::l)=some (n::ns):=fun n l ns hn hl=>by
  show(match Value.int .u32 (.ofNat n),u32s l with| .int .u32 (.ofNat n),some ns=>bif Nat.blt n 4294967296 then some (n::ns)else none|_,_=>none)=_
  rw[hl]
  simp -implicitDefEqProofs only[BU hn,cond_true]
 exact e _ _ _ h.a (e _ _ _ h.b (e _ _ _ h.c (e _ _ _ h.d (e _ _ _ h.e (e _ _ _ h.f (e _ _ _ h.g (e _ _ _ h.h rfl)))))))
theorem W.next {s:St}{r:Sha.St8}{b o c:Nat}{l:List Nat}{Q:Value→St→Prop}(hr:r.Ok)(h:Row s b o (u8l l))(hl:l.length=64)(hb:Byt l)
  (q: ∀s1,s1.mem=s.mem→s1.next=s.next→Ext (In b o 64) Non s s1→Q (.agg (st8V (Sha.next r fun j=>l.getD j 0))) s1):W (Ei [.agg (st8V r), .slice (some ⟨b,o,none⟩) 64 c]) s Q:=by
 refine W.on (IG_ hr) (W.chk (by decide) (W.bind ?_))
 have h2:l.length=(u8l l).length:=(Be l).symm
 show W (Am.rdL 64 ⟨b,o,none⟩) s _
 rw[←hl]
 refine W.rdB h fun s1 e1 e2 e3=>W.on (PE hb) ?_
 show W (IH r l st8M) s1 Q
 rw[M6,Kd]
 rw[hl]at e3
 exact W.pure (q s1 e1 e2 e3)
theorem Y5:fldN envS 167 0=some (0,1,false):=by kernel_rfl
theorem NZ:fldN envS 167 1=some (1,8,true):=by kernel_rfl
theorem YF:fldN envS 167 2=some (9,64,true):=by kernel_rfl
theorem KI:fldN envS 167 3=some (73,1,false):=by kernel_rfl
theorem AA_:ptrT envS 145=true:=by kernel_rfl
theorem Xy:tyS envS 4=some (1,false):=by kernel_rfl
theorem H5:tyS envS 3=some (1,false):=by kernel_rfl
theorem Zg:arrN envS 165=some (64,1):=by kernel_rfl
theorem Ik:tyS envS 163=some (8,true):=by kernel_rfl
theorem Bs.srcK {s:St}{v:Value}{l:List Nat}(h:Bs s v l){k:Nat}(hk:k≤l.length): ∃s1,srcL 1 v k s= .some (u8l (l.take k)) s1∧s1.mem=s.mem∧s1.next=s.next∧Ext (BsF v) Non s s1:=by
 rcases h with⟨rfl,rfl⟩|⟨b,o,c,rfl,_,_,h3⟩
 ·simp at hk
  subst hk
  exact⟨s,rfl,rfl,rfl,Ext.refl s⟩
 ·have h4:Row s b o (u8l (l.take k)):=by
   have:=h3.take (n:=k)
   rw[←List.map_take]at this
   exact this
  have hl:(l.take k).length=k:=by rw[List.length_take];omega
  obtain⟨a,s1,e,rfl,h1,h2,h5⟩:=W.rdB (Q:=fun a s1=>a=u8l (l.take k)∧s1.mem=s.mem∧s1.next=s.next∧Ext (In b o (l.take k).length) Non s s1) h4 fun s1 e1 e2 e3=>⟨rfl,e1,e2,e3⟩
  rw[hl]at e h5
  refine⟨s1, ?_,h1,h2, ?_⟩
  ·show Am.rdL (k*1) ⟨b,o,none⟩ s=_
   rw[Nat.mul_one]
   exact e
  ·refine⟨h5.nxt,h5.lim,h5.cx,h5.mem, ?_,h5.wr⟩
   obtain⟨d,p1,p2⟩:=h5.rd
   exact⟨d,p1,fun x hx=>⟨(p2 x hx).1,by have:=(p2 x hx).2;exact⟨this.1,by have:=this.2;omega⟩⟩⟩
theorem DS.k_le (d:DS)(b:List Nat):d.k b≤b.length∧d.n%64+d.k b≤64:=by
 unfold DS.k
 have h1:Nat.min (64-d.n%64) b.length≤64-d.n%64:=Nat.min_le_left _ _
 have h2:Nat.min (64-d.n%64) b.length≤b.length:=Nat.min_le_right _ _
 have h3:d.n%64<64:=Nat.mod_lt _ (by decide)
 exact⟨h2,by omega⟩
theorem DS.w'_len (d:DS)(b:List Nat)(h:d.w.length=64):(d.w' b).length=64:=by
 obtain⟨h1,h2⟩:=d.k_le b
 unfold DS.w'
 rw[List.length_append,List.length_append,List.length_take,List.length_take,List.length_drop,h]
 omega
theorem DS.w'_byt (d:DS)(b:List Nat)(h:Byt d.w)(hb:Byt b):Byt (d.w' b):=fun x hx=>by
 unfold DS.w' at hx
 rcases List.mem_append.1 hx with hx|hx
 ·exact h x (List.mem_of_mem_take hx)
 ·rcases List.mem_append.1 hx with hx|hx
  ·exact hb x (List.mem_of_mem_take hx)
  ·exact h x (List.mem_of_mem_drop hx)
theorem Dig.lay {F:Nat→Prop}{s s2:St}{D:Nat}{d:DS}{b:List Nat}(h:Dig s D d)(x:Ext F (In D (0+9+d.n%64*1) (d.k b*1)) s s2)(r:Ah s2 D (0+9+d.n%64*1) (u8l (b.take (d.k b))))(hb:Byt b):Dig s2 D ⟨d.st,d.w' b,d.n⟩:=by
 obtain⟨h1,h2⟩:=d.k_le b
 have hm:d.n%64<64:=Nat.mod_lt _ (by decide)
 have hkl:(b.take (d.k b)).length=d.k b:=by rw[List.length_take];omega
 refine⟨h.made.ext x fun q=>by have:=q.1;omega,h.st.ext x fun i hi q=> ?_, ?_,h.n.ext x fun q=>by have:=q.2;omega,d.w'_len b h.len,d.w'_byt b h.byt hb,h.ok⟩
 ·have h3:i<8:=hi
  have:=q.1;omega
 ·show Ah s2 D 9 (u8l (d.w' b))
  have e:u8l (d.w' b)=u8l (d.w.take (d.n%64))++(u8l (b.take (d.k b))++u8l (d.w.drop (d.n%64+d.k b))):=by
   unfold DS.w' u8l
   rw[List.map_append,List.map_append]
  have hl1:(u8l (d.w.take (d.n%64))).length=d.n%64:=by rw[Be,List.length_take,h.len];omega
  have hw1:Ah s D 9 (u8l (d.w.take (d.n%64))):=by
   have:=h.w.take (n:=d.n%64)
   rw[←List.map_take]at this
   exact this
  have hw3:Ah s D (9+(d.n%64+d.k b)) (u8l (d.w.drop (d.n%64+d.k b))):=by
   have:=h.w.drop (n:=d.n%64+d.k b)
   rw[←List.map_drop]at this
   exact this
  rw[e]
  refine Ah.append (hw1.ext x fun i hi q=> ?_) (Ah.append ?_ ?_)
  ·rw[hl1]at hi
   have:=q.1;omega
  ·rw[hl1,show 9+d.n%64=0+9+d.n%64*1 by omega]
   exact r
  ·rw[hl1,Be,hkl,Nat.add_assoc]
   refine hw3.ext x fun i hi q=> ?_
   have:=q.2;omega
end Go.Proofs.Ytofanlcjeohcjaa.Am
end
