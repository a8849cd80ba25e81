import Derived.Test.YtofanlcjeohcjaaIMg14
noncomputable section
namespace Go.Proofs.Ytofanlcjeohcjaa.Am
open Go.RowKit
def NT:Nat:=Ar Try.f105
def UP:Code:=Try.f105.body.getD .skip
theorem AA_:envS.fn.get 105=some Try.f105:=by kernel_rfl
theorem Vl_:G1 envS 105 5 NT UP:=λh=>
 aM AA_ (h _ (by kernel_rfl))
theorem AjS_:Try.f105.results.toList=[.tmp 2]:=by kernel_rfl
def UT:List Item:=skim 64 [.code UP]
def Es_:=nx UT
def NF_:=nx Es_
def FY_:Rg:=λE call round tm=>
 mv (some (.int .u32 0)) λv2=>
 setF 2 v2 tm λtm1=>
 M.pure tm1
theorem RQ_:RegEq 105 5 NT UT FY_:={}
def Bi_:Rg:=λE call round tm=>
 mv (T.get tm 0) λv3=>
 cN call round 130 [(some (.int .u32 0)),(some v3)] λv4=>
 mv (some v4) λv2=>
 setF 2 v2 tm λtm1=>
 M.pure tm1
theorem AcX_:RegEq 105 5 NT Es_ Bi_:={}
theorem Aai_: ∃k,NF_= .code .ret::k:=⟨NF_.tail,by kernel_rfl⟩
def Kq:Nat:=Ar Try.f64
def DF_:Code:=Try.f64.body.getD .skip
theorem Ij_:envS.fn.get 64=some Try.f64:=by kernel_rfl
theorem Aiu_:G1 envS 64 21 Kq DF_:=λh=>
 aM Ij_ (h _ (by kernel_rfl))
theorem AdT_:Try.f64.results.toList=[.tmp 2]:=by kernel_rfl
def Wc:List Item:=skim 64 [.code DF_]
def Tq:=nx Wc
def Wm:=nx Tq
def Kb_:=nx Wm
def VQ:Rg:=λE call round tm=>
 mv (some (.slice none 0 0)) λv2=>
 setF 2 v2 tm λtm1=>
 M.pure tm1
theorem PF_:RegEq 64 21 Kq Wc VQ:={}
def LK_:Rg:=λE call round tm=>
 mv (T.get tm 0) λv4=>
 cN call round 105 [(some v4)] λv5=>
 mv (some v5) λv3=>
 setF 3 v3 tm λtm1=>
 M.pure tm1
theorem AgE_:RegEq 64 21 Kq Tq LK_:={}
def Wv:Rg:=λE call round tm=>
 mv (T.get tm 0) λv6=>
 mv (T.get tm 3) λv7=>
 vB E 51 5 (some v7) λv8=>
 mv (T.get tm 3) λv9=>
 bI E .shr 51 (.tmp 9) (.const (.int .u64 8)) (some v9) (some (.int .u64 8)) λv10=>
 vB E 51 5 (some v10) λv11=>
 mv (T.get tm 3) λv12=>
 bI E .shr 51 (.tmp 12) (.const (.int .u64 16)) (some v12) (some (.int .u64 16)) λv13=>
 vB E 51 5 (some v13) λv14=>
 mv (T.get tm 3) λv15=>
 bI E .shr 51 (.tmp 15) (.const (.int .u64 24)) (some v15) (some (.int .u64 24)) λv16=>
 vB E 51 5 (some v16) λv17=>
 M.bind (oS (seqP [(0,(some v8)),(1,(some v11)),(2,(some v14)),(3,(some v17))]) λps=>AU E 22 4 ps) λv18=>
 M.bind (oS (seqP [(0,(some v6)),(1,(some v18))]) λps=>AU E 43 2 ps) λv19=>
 cN call round 63 [(some v19)] λv20=>
 mv (some v20) λv2=>
 setF 2 v2 tm λtm1=>
 M.pure tm1
theorem Rn_:RegEq 64 21 Kq Wm Wv:={}
theorem Ale_: ∃k,Kb_= .code .ret::k:=⟨Kb_.tail,by kernel_rfl⟩
def GJ:Nat:=Ar Try.f81
def X5:Code:=Try.f81.body.getD .skip
theorem LK:envS.fn.get 81=some Try.f81:=by kernel_rfl
theorem VM_:G1 envS 81 23 GJ X5:=λh=>
 aM LK (h _ (by kernel_rfl))
theorem N3:Try.f81.results.toList=[.tmp 2, .tmp 3]:=by kernel_rfl
def GG_:List Item:=skim 64 [.code X5]
def Cy_:=nx GG_
def Jh_:=nx Cy_
def My:=nx Jh_
def EO_:=bt My
def Wt:=bf My
def Y2:=nx EO_
def Ww:=nx Wt
def ZB:Rg:=λE call round tm=>
 mv (some (.slice none 0 0)) λv2=>
 setF 2 v2 tm λtm1=>
 mv (some (.int .i64 0)) λv3=>
 setF 3 v3 tm1 λtm2=>
 M.pure tm2
theorem ZH_:RegEq 81 23 GJ GG_ ZB:={}
def Br_:Rg:=λE call round tm=>
 mv (T.get tm 0) λv5=>
 lN E .len [22] [(some v5)] λv6=>
 bI E .sub 3 (.tmp 6) (.const (.int .i64 4)) (some v6) (some (.int .i64 4)) λv7=>
 mv (some v7) λv4=>
 setF 4 v4 tm λtm1=>
 M.pure tm1
theorem SR_:RegEq 81 23 GJ Cy_ Br_:={}
def RS:Rg:=λE call round tm=>
 mv (T.get tm 4) λv8=>
 bI E .lss 3 (.tmp 8) (.const (.int .i64 0)) (some v8) (some (.int .i64 0)) λv9=>
 mv (some v9) λv10=>
 sK v10 false (oS (T.get tm 0) λa=>M.pure a) λv11=>
 sK v10 false (oS (T.get tm 4) λa=>M.pure a) λv12=>
 sK v10 false (M.on (some v11) λa=>M.on (some none) λb=>M.on (onO (some v12) λv=>some (some v)) λc=>AW E 22 a b c) λv13=>
 sK v10 false (M.on (some (.func (.func 64) #[] #[])) λf=>M.on (seqO [(some v13)]) λl=>Bk call round f l) λv14=>
 sK v10 false (oS (T.get tm 0) λa=>M.pure a) λv15=>
 sK v10 false (M.on (some (.func (.func 116) #[] #[])) λf=>M.on (seqO [(some v14),(some v15)]) λl=>Bk call round f l) λv16=>
 sK v10 false (oS (some v16) λa=>kUn E.P .not a) λv17=>
 M.bind (M.on (some v10) λa=>M.on (some (.bool true)) λb=>M.on (some v17) λc=>A3 a b c) λv18=>
 setF 18 v18 tm λtm1=>
 M.pure tm1
theorem AdH_:RegEq 81 23 GJ Jh_ RS:={}
theorem OW:Ah My=some 18:=by kernel_rfl
def Pa:Rg:=λE call round tm=>
 mv (some (.slice none 0 0)) λv2=>
 setF 2 v2 tm λtm1=>
 mv (some (.int .i64 4)) λv3=>
 setF 3 v3 tm1 λtm2=>
 M.pure tm2
theorem JG_:RegEq 81 23 GJ EO_ Pa:={}
def EU_:Rg:=λE call round tm=>
 mv (T.get tm 0) λv19=>
 mv (T.get tm 4) λv20=>
 M.bind (M.on (some v19) λa=>M.on (some none) λb=>M.on (onO (some v20) λv=>some (some v)) λc=>AW E 22 a b c) λv21=>
 cN call round 117 [(some v21)] λv22=>
 mv (some v22) λv2=>
 setF 2 v2 tm λtm1=>
 mv (some (.int .i64 0)) λv3=>
 setF 3 v3 tm1 λtm2=>
 M.pure tm2
theorem AlC_:RegEq 81 23 GJ Wt EU_:={}
theorem Zl: ∃k,Y2= .code .ret::k:=⟨Y2.tail,by kernel_rfl⟩
theorem RV_: ∃k,Ww= .code .ret::k:=⟨Ww.tail,by kernel_rfl⟩
def B1:Nat:=Ar Try.f63
abbrev Li:Nat:=36
def TO:Code:=Try.f63.body.getD .skip
theorem Sl:envS.fn.get 63=some Try.f63:=by kernel_rfl
theorem AiI_:G1 envS 63 36 B1 TO:=λh=>
 aM Sl (h _ (by kernel_rfl))
theorem Ahh_:Try.f63.results.toList=[.tmp 2]:=by kernel_rfl
def VE:List Item:=skim 64 [.code TO]
def Je_:=nx VE
def Vm:=nx Je_
def JT:=nx Vm
def Rl:=nx JT
def VI:=bt Rl
def ON:=bf Rl
def Ia_:=nx VI
def Lr_:=nx ON
def SY:=nx Ia_
def Jt:=nx Lr_
def Ju_:=nx SY
def P9:=nx Jt
def YK:=bf Ju_
def Zm:=bt P9
def Nu:=bf P9
theorem AdF_:skim 64 YK.tail=JT:=by kernel_rfl
def Cs_:=nx Zm
def Ge_:=nx Nu
def FE_:=nx Cs_
theorem XB_:skim 64 FE_.tail=Jt:=by kernel_rfl
def FJ_:Rg:=λE call round tm=>
 mv (some (.slice none 0 0)) λv2=>
 setF 2 v2 tm λtm1=>
 M.pure tm1
theorem AkO_:RegEq 63 36 B1 VE FJ_:={}
def SL:Rg:=λE call round tm=>
 mv (some (.int .i64 0)) λv3=>
 setF 3 v3 tm λtm1=>
 M.pure tm1
theorem Alr_:RegEq 63 36 B1 Je_ SL:={}
def Z4:Rg:=λE call round tm=>
 mv (T.get tm 0) λv9=>
 setF 9 v9 tm λtm1=>
 lN E .len [43] [(some v9)] λv10=>
 setF 10 v10 tm1 λtm2=>
 mv (some (.int .i64 0)) λv11=>
 setF 11 v11 tm2 λtm3=>
 M.pure tm3
theorem Pd_:RegEq 63 36 B1 Vm Z4:={}
def Rf:Rg:=λE call round tm=>
 bI E .lss 3 (.tmp 11) (.tmp 10) (T.get tm 11) (T.get tm 10) λv12=>
 setF 12 v12 tm λtm1=>
 M.pure tm1
theorem Vp:RegEq 63 36 B1 JT Rf:={}
theorem Ip_:Ah Rl=some 12:=by kernel_rfl
def Do_:Rg:=λE call round tm=>
 iD E 43 (T.get tm 9) (T.get tm 11) λv13=>
 lD E 22 (some v13) λv14=>
 mv (some v14) λv5=>
 setF 5 v5 tm λtm1=>
 M.pure tm1
theorem YY_:RegEq 63 36 B1 VI Do_:={}
def ZE:Rg:=λE call round tm=>
 mv (T.get tm 3) λv23=>
 cN call round 106 [(some (.slice none 0 0)),(some v23)] λv24=>
 mv (some v24) λv6=>
 setF 6 v6 tm λtm1=>
 M.pure tm1
theorem OF_:RegEq 63 36 B1 ON ZE:={}
def Hb_:Rg:=λE call round tm=>
 mv (T.get tm 3) λv15=>
 mv (T.get tm 5) λv16=>
 lN E .len [22] [(some v16)] λv17=>
 bI E .add 3 (.tmp 15) (.tmp 17) (some v15) (some v17) λv18=>
 mv (some v18) λv3=>
 setF 3 v3 tm λtm1=>
 M.pure tm1
theorem AfD_:RegEq 63 36 B1 Ia_ Hb_:={}
def If_:Rg:=λE call round tm=>
 mv (T.get tm 0) λv25=>
 setF 25 v25 tm λtm1=>
 lN E .len [43] [(some v25)] λv26=>
 setF 26 v26 tm1 λtm2=>
 mv (some (.int .i64 0)) λv27=>
 setF 27 v27 tm2 λtm3=>
 M.pure tm3
theorem AdC_:RegEq 63 36 B1 Lr_ If_:={}
def Tz:Rg:=λE call round tm=>
 mv (T.get tm 3) λv19=>
 bI E .lss 3 (.tmp 19) (.const (.int .i64 0)) (some v19) (some (.int .i64 0)) λv20=>
 setF 20 v20 tm λtm1=>
 M.pure tm1
theorem Oe_:RegEq 63 36 B1 SY Tz:={}
def QO:Rg:=λE call round tm=>
 bI E .lss 3 (.tmp 27) (.tmp 26) (T.get tm 27) (T.get tm 26) λv28=>
 setF 28 v28 tm λtm1=>
 M.pure tm1
theorem Tc:RegEq 63 36 B1 Jt QO:={}
theorem AhT_:Ah Ju_=some 20:=by kernel_rfl
theorem Gh_:Ah P9=some 28:=by kernel_rfl
def Vi:Rg:=λE call round tm=>
 bI E .add 3 (.tmp 11) (.const (.int .i64 1)) (T.get tm 11) (some (.int .i64 1)) λv22=>
 mv (some v22) λv11=>
 setF 11 v11 tm λtm1=>
 M.pure tm1
theorem AhS_:RegEq 63 36 B1 YK Vi:={}
def Kj_:Rg:=λE call round tm=>
 iD E 43 (T.get tm 25) (T.get tm 27) λv29=>
 lD E 22 (some v29) λv30=>
 mv (some v30) λv8=>
 setF 8 v8 tm λtm1=>
 M.pure tm1
theorem AlA_:RegEq 63 36 B1 Zm Kj_:={}
def Xt:Rg:=λE call round tm=>
 mv (T.get tm 6) λv35=>
 mv (some v35) λv2=>
 setF 2 v2 tm λtm1=>
 M.pure tm1
theorem RD_:RegEq 63 36 B1 Nu Xt:={}
def Mc_:Rg:=λE call round tm=>
 mv (T.get tm 6) λv31=>
 mv (T.get tm 8) λv32=>
 lN E .append [22,22] [(some v31),(some v32)] λv33=>
 mv (some v33) λv6=>
 setF 6 v6 tm λtm1=>
 M.pure tm1
theorem Ali_:RegEq 63 36 B1 Cs_ Mc_:={}
theorem AgP_: ∃k,Ge_= .code .ret::k:=⟨Ge_.tail,by kernel_rfl⟩
def Mv_:Rg:=λE call round tm=>
 bI E .add 3 (.tmp 27) (.const (.int .i64 1)) (T.get tm 27) (some (.int .i64 1)) λv34=>
 mv (some v34) λv27=>
 setF 27 v27 tm λtm1=>
 M.pure tm1
theorem AaO_:RegEq 63 36 B1 FE_ Mv_:={}
def F8:Nat:=Ar Try.f106
def ZJ:Code:=Try.f106.body.getD .skip
theorem Mn_:envS.fn.get 106=some Try.f106:=by kernel_rfl
theorem AdL_:G2 envS 106 27 F8 ZJ:=λh=>
 aM Mn_ (h _ (by kernel_rfl) (by kernel_rfl))
theorem Abz_:Try.f106.results.toList=[.tmp 4]:=by kernel_rfl
def LH_:List Item:=skim 64 [.code ZJ]
def Fv_:=nx LH_
def Kf_:=nx Fv_
def Mz_:=bf Kf_
def Cw_:=nx Mz_
def QM:=nx Cw_
def Ea_:=bt QM
def Nq:=bf QM
theorem AiX_:skim 64 Ea_.tail=Nq:=by kernel_rfl
def HA_:=nx Nq
def Af_:Rg:=λE call round tm=>
 mv (some (.slice none 0 0)) λv4=>
 setF 4 v4 tm λtm1=>
 M.pure tm1
theorem Qw_:RegEq 106 27 F8 LH_ Af_:={}
def Bx_:Rg:=λE call round tm=>
 mv (T.get tm 1) λv5=>
 bI E .lss 3 (.tmp 5) (.const (.int .i64 0)) (some v5) (some (.int .i64 0)) λv6=>
 setF 6 v6 tm λtm1=>
 M.pure tm1
theorem OK_:RegEq 106 27 F8 Fv_ Bx_:={}
theorem Aed_:Ah Kf_=some 6:=by kernel_rfl
def Tj:Rg:=λE call round tm=>
 mv (T.get tm 1) λv8=>
 mv (T.get tm 0) λv9=>
 lN E .cap [22] [(some v9)] λv10=>
 mv (T.get tm 0) λv11=>
 lN E .len [22] [(some v11)] λv12=>
 bI E .sub 3 (.tmp 10) (.tmp 12) (some v10) (some v12) λv13=>
 bI E .sub 3 (.tmp 8) (.tmp 13) (some v8) (some v13) λv14=>
 mv (some v14) λv1=>
 setF 1 v1 tm λtm1=>
 M.pure tm1
theorem Ps_:RegEq 106 27 F8 Mz_ Tj:={}
def Dv_:Rg:=λE call round tm=>
 mv (T.get tm 1) λv15=>
 bI E .gtr 3 (.tmp 15) (.const (.int .i64 0)) (some v15) (some (.int .i64 0)) λv16=>
 setF 16 v16 tm λtm1=>
 M.pure tm1
theorem YO_:RegEq 106 27 F8 Cw_ Dv_:={}
theorem Aju_:Ah QM=some 16:=by kernel_rfl
def JB_:Rg:=λE call round tm=>
 mv (T.get tm 0) λv17=>
 mv (T.get tm 0) λv18=>
 lN E .cap [22] [(some v18)] λv19=>
 M.bind (M.on (some v17) λa=>M.on (some none) λb=>M.on (onO (some v19) λv=>some (some v)) λc=>AW E 22 a b c) λv20=>
 mv (T.get tm 1) λv21=>
 lN E .append [22,3] [(some v20),(some v21)] λv22=>
 mv (T.get tm 0) λv23=>
 lN E .len [22] [(some v23)] λv24=>
 M.bind (M.on (some v22) λa=>M.on (some none) λb=>M.on (onO (some v24) λv=>some (some v)) λc=>AW E 22 a b c) λv25=>
 mv (some v25) λv0=>
 setF 0 v0 tm λtm1=>
 M.pure tm1
theorem Akv_:RegEq 106 27 F8 Ea_ JB_:={}
def CJ_:Rg:=λE call round tm=>
 mv (T.get tm 0) λv26=>
 mv (some v26) λv4=>
 setF 4 v4 tm λtm1=>
 M.pure tm1
theorem Rq_:RegEq 106 27 F8 Nq CJ_:={}
theorem YX_: ∃k,HA_= .code .ret::k:=⟨HA_.tail,by kernel_rfl⟩
def CY:Nat:=Ar Try.f116
abbrev AcT_:Nat:=26
def Vg:Code:=Try.f116.body.getD .skip
theorem Jy:envS.fn.get 116=some Try.f116:=by kernel_rfl
theorem VF_:G2 envS 116 26 CY Vg:=λh=>
 aM Jy (h _ (by kernel_rfl) (by kernel_rfl))
theorem OM:Try.f116.results.toList=[.tmp 4]:=by kernel_rfl
def Xo:List Item:=skim 64 [.code Vg]
def ST:=nx Xo
def MH:=nx ST
def Iy_:=bt MH
def XY:=bf MH
def Kw_:=nx Iy_
def KI:=nx XY
def Oh:=nx KI
def Dp_:=bt Oh
def LA_:=bf Oh
def PK:=nx Dp_
def TT:=nx LA_
def P0:=nx PK
def Kc_:=bt P0
def WH:=bf P0
def VY:=nx Kc_
theorem SB_:skim 64 WH.tail=KI:=by kernel_rfl
def Lc_:Rg:=λE call round tm=>
 mv (some (.bool false)) λv4=>
 setF 4 v4 tm λtm1=>
 M.pure tm1
theorem AcJ_:RegEq 116 26 CY Xo Lc_:={}
def AD_:Rg:=λE call round tm=>
 mv (T.get tm 0) λv6=>
 lN E .len [22] [(some v6)] λv7=>
 mv (T.get tm 1) λv8=>
 lN E .len [22] [(some v8)] λv9=>
 bI E .neq 3 (.tmp 7) (.tmp 9) (some v7) (some v9) λv10=>
 setF 10 v10 tm λtm1=>
 M.pure tm1
theorem UV_:RegEq 116 26 CY ST AD_:={}
theorem SA:Ah MH=some 10:=by kernel_rfl
def TY:Rg:=λE call round tm=>
 mv (some (.bool false)) λv4=>
 setF 4 v4 tm λtm1=>
 M.pure tm1
theorem AkF_:RegEq 116 26 CY Iy_ TY:={}
def NE_:Rg:=λE call round tm=>
 mv (T.get tm 0) λv11=>
 lN E .len [22] [(some v11)] λv12=>
 setF 12 v12 tm λtm1=>
 mv (some (.int .i64 0)) λv13=>
 setF 13 v13 tm1 λtm2=>
 M.pure tm2
theorem Sc_:RegEq 116 26 CY XY NE_:={}
theorem Aay_: ∃k,Kw_= .code .ret::k:=⟨Kw_.tail,by kernel_rfl⟩
def PL:Rg:=λE call round tm=>
 bI E .lss 3 (.tmp 13) (.tmp 12) (T.get tm 13) (T.get tm 12) λv14=>
 setF 14 v14 tm λtm1=>
 M.pure tm1
theorem Xb:RegEq 116 26 CY KI PL:={}
theorem FK_:Ah Oh=some 14:=by kernel_rfl
def Uu:Rg:=λE call round tm=>
 mv (T.get tm 13) λv15=>
 mv (some v15) λv5=>
 setF 5 v5 tm λtm1=>
 M.pure tm1
theorem Wu_:RegEq 116 26 CY Dp_ Uu:={}
def Hn_:Rg:=λE call round tm=>
 mv (some (.bool true)) λv4=>
 setF 4 v4 tm λtm1=>
 M.pure tm1
theorem Ahu_:RegEq 116 26 CY LA_ Hn_:={}
def V5:Rd:=λE call round tm=>
 PD (T.get tm 0) λp0=>
 PD (T.get tm 5) λp1=>
 ID E 22 (some p0.1) (some p1.1) λp2=>
 LD E 5 (some p2.1) λp3=>
 PD (T.get tm 1) λp4=>
 PD (T.get tm 5) λp5=>
 ID E 22 (some p4.1) (some p5.1) λp6=>
 LD E 5 (some p6.1) λp7=>
 fJ [p7,p6,p5,p4,p3,p2,p1,p0] tm
theorem Ajn_:DrawEq 116 26 CY PK [0,0,3,7,0,0,48,112,255] V5:={}
theorem Vj_ (E:Env)(call round:Ac)(x16 x17 x18 x19 x20 x21 x22 x23:Value)(tm:T Value)(s:St):AH call round (A7 E CY 26 (hdC PK)) [x23,x22,x21,x20,x19,x18,x17,x16] tm s=(M.bind (oS (some x19) λa=>oS (some x23) λb=>Cl.get (aBin E .neq 5 (.tmp 19) (.tmp 23)) a b) λv24=>setT 24 v24 tm λtm1=>M.pure tm1) s:=by kernel_rfl
theorem Qu_: ∃k,TT= .code .ret::k:=⟨TT.tail,by kernel_rfl⟩
theorem XZ:Ah P0=some 24:=by kernel_rfl
def XM:Rg:=λE call round tm=>
 mv (some (.bool false)) λv4=>
 setF 4 v4 tm λtm1=>
 M.pure tm1
theorem VV_:RegEq 116 26 CY Kc_ XM:={}
def ZG:Rg:=λE call round tm=>
 bI E .add 3 (.tmp 13) (.const (.int .i64 1)) (T.get tm 13) (some (.int .i64 1)) λv25=>
 mv (some v25) λv13=>
 setF 13 v13 tm λtm1=>
 M.pure tm1
theorem AjN_:RegEq 116 26 CY WH ZG:={}
theorem Afa_: ∃k,VY= .code .ret::k:=⟨VY.tail,by kernel_rfl⟩
def JW:Nat:=Ar Try.f117
def BO_:Code:=Try.f117.body.getD .skip
theorem PM:envS.fn.get 117=some Try.f117:=by kernel_rfl
theorem OE_:G1 envS 117 8 JW BO_:=λh=>
 aM PM (h _ (by kernel_rfl))
theorem Gp_:Try.f117.results.toList=[.tmp 2]:=by kernel_rfl
def DH_:List Item:=skim 64 [.code BO_]
def U0:=nx DH_
def EC_:=nx U0
def WF:=bf EC_
def CU_:=nx WF
def Bn_:Rg:=λE call round tm=>
 mv (some (.slice none 0 0)) λv2=>
 setF 2 v2 tm λtm1=>
 M.pure tm1
theorem Amf_:RegEq 117 8 JW DH_ Bn_:={}
def Ib_:Rg:=λE call round tm=>
 mv (T.get tm 0) λv3=>
 bI E .eql 22 (.tmp 3) (.const (.slice none 0 0)) (some v3) (some (.slice none 0 0)) λv4=>
 setF 4 v4 tm λtm1=>
 M.pure tm1
theorem Qx_:RegEq 117 8 JW U0 Ib_:={}
theorem AjB_:Ah EC_=some 4:=by kernel_rfl
def GH_:Rg:=λE call round tm=>
 M.bind (oS (seqP []) λps=>AU E 22 0 ps) λv5=>
 mv (T.get tm 0) λv6=>
 lN E .append [22,22] [(some v5),(some v6)] λv7=>
 mv (some v7) λv2=>
 setF 2 v2 tm λtm1=>
 M.pure tm1
theorem Xt_:RegEq 117 8 JW WF GH_:={}
theorem YX: ∃k,CU_= .code .ret::k:=⟨CU_.tail,by kernel_rfl⟩
section
variable {s:St}
def Bn (s:St)(v:Value)(l:List Nat):Prop:= ∃b o c,v= .slice (some ⟨b,o,none⟩) l.length c/\l.length<=c%capU/\B4 c 1=true/\Row s b o (u8l l)
theorem Bn.bs {v:Value}{l:List Nat}(h:Bn s v l):Bs s v l:= .inr h
theorem Bn.ext {F G:Nat->Prop}{s s':St}{v:Value}{l:List Nat}(h:Bn s v l)(e:Ext F G s s')(hG: ∀x,BsF v x-> ¬G x):Bn s' v l:=by
 rcases h.bs.ext e hG with⟨rfl,_⟩|h'
 ·obtain⟨_,_,_,e,_⟩:=h;cases e
 ·exact h'
theorem Bn.ext0 {F:Nat->Prop}{s s':St}{v:Value}{l:List Nat}(h:Bn s v l)(e:Ext F Non s s'):Bn s' v l:=h.ext e λ_ _=>id
def Byt (l:List Nat):Prop:= ∀x∈l,x<256
theorem P1: ∀{l:List Nat},Byt l->u8s (u8l l)=some l
 |[],_=>rfl
 |n::l,h=>by
  have e:=P1 (l:=l) λx hx=>h x (by simp[hx])
  show(match Value.int .u8 (.ofNat n),u8s (u8l l)with| .int .u8 (.ofNat n),some ns=>bif Nat.blt n 256 then some (n::ns)else none|_,_=>none)=_
  rw[e]
  simp -implicitDefEqProofs only[Bq (h n (by simp)),cond_true]
theorem W.rdB {b o:Nat}{l:List Nat}{Q:List Value->St->Prop}(h:Row s b o (u8l l))(q: ∀s1,s1.mem=s.mem->s1.next=s.next->Ext (In b o l.length) Non s s1->Q (u8l l) s1):W (Am.rdL l.length ⟨b,o,none⟩) s Q:=by
 have hl:l.length=(u8l l).length:=(Av l).symm
 rw[hl]
 refine W.rdL h λs1 e1 e2 e3=>q s1 e1 e2 ?_
 rw[Av]at e3
 exact e3
theorem W.more {sum:Nat}{v:Value}{l:List Nat}{Q:Value->St->Prop}(h:Bn s v l)(hl:Byt l)(hz:l.length<=4611686018427387904)(hs:sum<4294967296)
  (q: ∀s1,s1.mem=s.mem->s1.next=s.next->Ext (BsF v) Non s s1->Q (.int .u32 (BX sum l:Nat)) s1):W (DU [.int .u32 (sum:Nat),v]) s Q:=by
 obtain⟨b,o,c,rfl,h1,h2,h3⟩:=h
 refine W.chk (by rw[Bq hs];simpa using hz) (W.bind (W.rdB h3 λs1 e1 e2 e3=>W.on (P1 hl) ?_))
 rw[KZ]
 exact W.pure (q s1 e1 e2 e3)
end
theorem Y1 {n:Nat}{s:St}{v:Value}{l:List Nat}{Q:Value->St->Prop}(hn:10<=n)(h:Bn s v l)(hl:Byt l)(hz:l.length<=4611686018427387904)
  (q: ∀s1,s1.mem=s.mem->s1.next=s.next->Ext (BsF v) Non s s1->Q (.int .u32 (BX 0 l:Nat)) s1):W (Ab envS (runF envS n) 105 [v]) s Q:=by
 refine Vl_ λtm h0=> ?_
 refine RQ_.u ?_
 simp -implicitDefEqProofs only[FY_,RR,SS]
 refine AcX_.u ?_
 simp -implicitDefEqProofs only[Bi_,RR,SS,reduceCtorEq, ↓reduceIte,h0]
 refine W.orc (m:=DU) (by kernel_rfl) ?_
 change W (DU [.int .u32 ((0:Nat):Int),v]) _ _
 refine W.more (s:=s.cxN cxN) h hl hz (by decide) λs1 e1 e2 e3=> ?_
 refine aF (rs:=[2]) (vs:=[.int .u32 (BX 0 l:Nat)]) rfl (.inl Aai_) (by omega) AA_ AjS_ e3.cx (by simp[T.get_set]) ?_
 refine q _ e1 e2 ⟨e3.nxt,e3.lim,rfl,e3.mem,e3.rd,e3.wr⟩
theorem Al:slN envS 22=some 1:=by kernel_rfl
theorem I4:slN envS 43=some 1:=by kernel_rfl
theorem Ck:elT envS 22=some (1,1,[.int .u8 0]):=by kernel_rfl
theorem GF:appT envS 22 22=some (1,1,false,[.int .u8 0]):=by kernel_rfl
theorem TD_:appT envS 22 3=some (1,1,true,[.int .u8 0]):=by kernel_rfl
theorem BW:tyS envS 22=some (1,false):=by kernel_rfl
theorem Cd:tyS envS 5=some (1,false):=by kernel_rfl
theorem GY (n:Nat):rep n [Value.int .u8 0]=List.replicate n (Value.int .u8 0):=by
 induction n with
 |zero=>rfl
 |succ n ih=>
  show [Value.int .u8 0]++rep n [Value.int .u8 0]=_
  rw[ih];rfl
structure Room (s s':St)(N:Nat)(v:Value)(b:Nat):Prop where
 val:v= .slice (some ⟨b,0,none⟩) 0 (capU*((b+N*1)*1024+1)+N)
 new:s.next<=b
 own:Aa s' b 0 (List.replicate N (.int .u8 0))
 tok:T.get s'.mem (b+N)=some (.O (.tok false 1025))
 lt:b+N<s'.next
theorem QR_ {n N:Nat}{s:St}{Q:Value->St->Prop}(hbd:s.lim<=s.next)(hn:20<=n)(hN:0<N)(hN2:N<=1000000)
  (q: ∀s1 v b,Room s s1 N v b->Ext Non Non s s1->Q v s1):W (Ab envS (runF envS n) 106 [.slice none 0 0, .int .i64 (N:Nat)]) s Q:=by
 refine AdL_ λtm h0 h1=> ?_
 refine Qw_.u ?_
 simp -implicitDefEqProofs only[Af_,RR,SS]
 refine OK_.u ?_
 simp -implicitDefEqProofs only[Bx_,RR,SS,Nat.reduceEqDiff, ↓reduceIte,Ak,h1]
 refine aH Aed_ ?_
 refine Ps_.u ?_
 simp -implicitDefEqProofs only[Tj,RR,SS,Nat.reduceEqDiff,reduceCtorEq, ↓reduceIte,Cq,h0,h1,Za Al,AP Al]
 refine YO_.u ?_
 have e1:wrap64 ((N:Int)-wrap64 (((0:Nat):Int)-((0:Nat):Int)))=(N:Nat):=by
  rw[Ax (n:=((0:Nat):Int)-((0:Nat):Int)) (by simp) (by simp),Ax]<;>simp<;>omega
 simp -implicitDefEqProofs only[Dv_,RR,SS, ↓reduceIte,Cr,e1]
 refine aI Aju_ ?_ rfl (by simp[T.get_set,hN])
 refine Akv_.u ?_
 simp -implicitDefEqProofs only[JB_,RR,SS,Nat.reduceEqDiff,reduceCtorEq, ↓reduceIte,h0,Za Al,Aiy_ (lo:=none) (hi:=some (.int .i64 ((0:Nat):Int))) Al rfl rfl,CC]
 refine W.appNilT (s:=s.cxN cxN) hbd (n:=N) (l:=rep N [.int .u8 0]) TD_ (AbA_ (by omega)) hN (by decide) (by decide) (by omega) (by rw[GY];simp) (by rw[GY];simp[oneCell]) λs2 v b hf hT x2=> ?_
 obtain⟨rfl,hnew,hown,hlen,htok,hlt⟩:=hf
 have hc:=FX (q:=(b+N*1)*1024+1) (Az (n:=N) (by omega))
 simp -implicitDefEqProofs only[AP Al,GX (l:=0) (h:=0) (lo:=none) (hi:=some (.int .i64 ((0:Nat):Int))) Al rfl rfl (Nat.le_refl _) (Nat.zero_le _) (Ep (m:=b+N*1) (Az (n:=N) (by omega)) (by decide)), ↓reduceIte,hc,hN]
 refine Rq_.u ?_ AiX_
 simp -implicitDefEqProofs only[CJ_,RR,SS, ↓reduceIte]
 refine aF (rs:=[4]) (vs:=[.slice (some ⟨b,0,none⟩) 0 (capU*((b+N*1)*1024+1)+N)]) rfl (.inl YX_) (by omega) Mn_ Abz_ x2.cx (by simp[T.get_set]) ?_
 exact q _ _ b ⟨rfl,hnew,λi v e=>(hown i v (by rw[GY];exact e)).same rfl rfl,by rw[Nat.mul_one]at hT;exact hT,by rw[Nat.mul_one]at hlt;exact hlt⟩ ⟨x2.nxt,x2.lim,rfl,x2.mem,x2.rd,x2.wr⟩
def tot (l:List (Value×List Nat)):Nat:=(l.map λp=>p.2.length).sum
theorem WP_ {l:List (Value×List Nat)}{i:Nat}{p:Value×List Nat}(h:l[i]?=some p):tot (l.take (i+1))=tot (l.take i)+p.2.length:=by
 unfold tot
 rw[List.take_add_one,h]
 simp
theorem YG {l:List (Value×List Nat)}(i:Nat):tot (l.take i)<=tot l:=by
 unfold tot
 have:(l.map λp=>p.2.length).sum=((l.take i).map λp=>p.2.length).sum+((l.drop i).map λp=>p.2.length).sum:=by
  rw[<-List.sum_append,<-List.map_append,List.take_append_drop]
 omega
def FI (b o:Nat)(l:List (Value×List Nat)):Nat->Prop:=λx=>In b o l.length x\/ ∃p∈l,BsF p.1 x
structure Parts (s:St)(b o:Nat)(l:List (Value×List Nat)):Prop where
 row:Row s b o (l.map (·.1))
 bs: ∀p∈l,Bs s p.1 p.2
theorem Parts.same {s s':St}{b o:Nat}{l:List (Value×List Nat)}(h:Parts s b o l)(hm:s'.mem=s.mem)(hn:s'.next=s.next):Parts s' b o l:=
 ⟨λi v e=>(h.row i v e).same hm hn,λp hp=>(h.bs p hp).same hm hn⟩
theorem Parts.ext0 {F:Nat->Prop}{s s':St}{b o:Nat}{l:List (Value×List Nat)}(h:Parts s b o l)(e:Ext F Non s s'):Parts s' b o l:=⟨h.row.ext0 e,λp hp=>(h.bs p hp).ext0 e⟩
section
variable {b o c:Nat}{parts:List (Value×List Nat)}
theorem Parts.get {s:St}(h:Parts s b o parts){i:Nat}(hi:i<parts.length):At s b (o+i*1) parts[i].1/\Bs s parts[i].1 parts[i].2:=by
 refine⟨?_,h.bs _ (List.getElem_mem hi)⟩
 rw[Nat.mul_one]
 exact h.row i _ (by simp[hi])
theorem Np_ {i:Nat}(hi:i<parts.length):tot (parts.take (i+1))=tot (parts.take i)+parts[i].2.length:=WP_ (List.getElem?_eq_getElem hi)
theorem AlG_ (ht:tot parts<=1000000)(hlen:parts.length<=4611686018427387904){F:Nat->Prop}(hF: ∀x,FI b o parts x->F x){Q:Value×FrameMode->St->Prop}{s0:St}(hb0:s0.lim<=s0.next)(hp:Parts s0 b o parts): ∀(k i n:Nat) (tm:T Value) (s:St) (td:List Item),i+k=parts.length->7*k+7<=n->skim 64 td=JT->Ext F Non s0 s->s.mem=s0.mem->s.next=s0.next->
  T.get tm 0=some (.slice (some ⟨b,o,none⟩) parts.length c)->T.get tm 9=some (.slice (some ⟨b,o,none⟩) parts.length c)->T.get tm 10=some (.int .i64 (parts.length:Nat))->T.get tm 11=some (.int .i64 (i:Nat))->T.get tm 3=some (.int .i64 (tot (parts.take i):Nat))->
  (∀n' tm' s1 td',n<=n'+7*k+2->skim 64 td'=ON->Ext F Non s0 s1->s1.mem=s0.mem->s1.next=s0.next->T.get tm' 0=some (.slice (some ⟨b,o,none⟩) parts.length c)->T.get tm' 3=some (.int .i64 (tot parts:Nat))->W (runF envS n' ⟨63,Li,B1,tm',td', .run, .normal,none⟩) s1 Q)->
  W (runF envS n ⟨63,Li,B1,tm,td, .run, .normal,none⟩) s Q:=by
 intro k
 induction k with
 |zero=>
  intro i n tm s td hi hn hT hx hm hnx h0 h9 h10 h11 h3 q
  refine Vp.u ?_ hT
  simp -implicitDefEqProofs only[Rf,RR,SS,Ak,h10,h11]
  refine aH Ip_ ?_
  have e:tot (parts.take i)=tot parts:=by rw[show i=parts.length by omega,List.take_length]
  rw[e]at h3
  exact q _ _ _ _ (by omega) rfl hx hm hnx (by simp[T.get_set,h0]) (by simp[T.get_set,h3])
 |succ k ih=>
  intro i n tm s td hi hn hT hx hm hnx h0 h9 h10 h11 h3 q
  have hil:i<parts.length:=by omega
  obtain⟨g1,g2⟩:=hp.get hil
  have hlt:=Np_ hil
  have htl:=YG (l:=parts) (i+1)
  refine Vp.u ?_ hT
  simp -implicitDefEqProofs only[Rf,RR,SS,Ak,h10,h11]
  refine aI Ip_ ?_
  refine YY_.u ?_
  simp -implicitDefEqProofs only[Do_,RR,SS,Nat.reduceEqDiff, ↓reduceIte,h9,h11,AL I4 hil]
  refine aB BW (g1.same hm hnx) ?_
  refine AfD_.u ?_
  have ew:wrap64 ((tot (parts.take i):Nat)+(parts[i].2.length:Nat):Int)=(tot (parts.take (i+1)):Nat):=by
   rw[Ax (by omega) (by omega),hlt];simp
  have ei:wrap64 ((i:Nat)+1:Int)=((i+1:Nat):Int):=by
   have:parts.length<=4611686018427387904:=hlen
   rw[Ax (by omega) (by omega)];simp
  have hx1:Ext F Non s0 (s.rdN (b+(o+i*1))):=hx.trans (Ext.rdN (F:=F) s _ λ_=>hF _ (.inl ⟨by omega,by omega⟩)) hb0 (λ_ _ h=>h) λ_ _ h=>h
  simp -implicitDefEqProofs only[Hb_,RR,SS,Nat.reduceEqDiff, ↓reduceIte,Aw,h3,Bs.len (s:=s.rdN (b+(o+i*1))) (g2.same hm hnx) Al,ew]
  refine Oe_.u ?_
  simp -implicitDefEqProofs only[Tz,RR,SS, ↓reduceIte,Ak]
  refine aH AhT_ ?_
  refine AhS_.u ?_
  simp -implicitDefEqProofs only[Vi,RR,SS,Nat.reduceEqDiff, ↓reduceIte,Aw,h11,ei]
  exact ih (i+1) _ _ _ _ (by omega) (by omega) AdF_ hx1 hm hnx (by simp[T.get_set,h0]) (by simp[T.get_set,h9]) (by simp[T.get_set,h10]) (by simp[T.get_set]) (by simp[T.get_set]) λn' tm' s1 td' e=>q n' tm' s1 td' (by omega)
end
section
variable {b o c:Nat}{parts:List (Value×List Nat)}
def fl (l:List (Value×List Nat)):List Nat:=(l.map (·.2)).flatten
theorem FG (l:List (Value×List Nat)):(fl l).length=tot l:=by
 unfold fl tot
 rw[List.length_flatten,List.map_map]
 rfl
theorem SE_ {l:List (Value×List Nat)}{i:Nat}(h:i<l.length):fl (l.take (i+1))=fl (l.take i)++l[i].2:=by
 unfold fl
 rw[List.take_add_one,List.getElem?_eq_getElem h,List.map_append,List.flatten_append]
 simp
theorem AfS_ (ht:tot parts<=1000000)(hlen:parts.length<=4611686018427387904){F:Nat->Prop}(hF: ∀x,FI b o parts x->F x){Q:Value×FrameMode->St->Prop}{s0:St}(hb0:s0.lim<=s0.next)(hp:Parts s0 b o parts){nb cc:Nat}(hnb:s0.next<=nb)(hcc:cc%capU=tot parts){z:Nat}{ce:Cell}(hz:nb+tot parts<=z): ∀(k i n:Nat) (tm:T Value) (s:St) (td:List Item),i+k=parts.length->6*k+6<=n->skim 64 td=Jt->Ext F Non s0 s->An s nb 0 (tot parts)->Aa s nb 0 (u8l (fl (parts.take i)))->(T.get s.mem z=some ce/\z<s.next)->
  T.get tm 25=some (.slice (some ⟨b,o,none⟩) parts.length c)->T.get tm 26=some (.int .i64 (parts.length:Nat))->T.get tm 27=some (.int .i64 (i:Nat))->T.get tm 6=some (.slice (some ⟨nb,0,none⟩) (tot (parts.take i)) cc)->
  (∀n' tm' s1 td',n<=n'+6*k+2->skim 64 td'=Nu->Ext F Non s0 s1->Aa s1 nb 0 (u8l (fl parts))->(T.get s1.mem z=some ce/\z<s1.next)->T.get tm' 6=some (.slice (some ⟨nb,0,none⟩) (tot parts) cc)->W (runF envS n' ⟨63,Li,B1,tm',td', .run, .normal,none⟩) s1 Q)->
  W (runF envS n ⟨63,Li,B1,tm,td, .run, .normal,none⟩) s Q:=by
 intro k
 induction k with
 |zero=>
  intro i n tm s td hi hn hT hx hown hrow hce h25 h26 h27 h6 q
  refine Tc.u ?_ hT
  simp -implicitDefEqProofs only[QO,RR,SS,Ak,h26,h27]
  refine aH Gh_ ?_
  have e:parts.take i=parts:=by rw[show i=parts.length by omega,List.take_length]
  rw[e]at h6 hrow
  exact q _ _ _ _ (by omega) rfl hx hrow hce (by simp[T.get_set,h6])
 |succ k ih=>
  intro i n tm s td hi hn hT hx hown hrow hce h25 h26 h27 h6 q
  have hil:i<parts.length:=by omega
  obtain⟨g1,g2⟩:=(hp.ext0 hx).get hil
  have hlt:=Np_ hil
  have htl:=YG (l:=parts) (i+1)
  refine Tc.u ?_ hT
  simp -implicitDefEqProofs only[QO,RR,SS,Ak,h26,h27]
  refine aI Gh_ ?_
  refine AlA_.u ?_
  simp -implicitDefEqProofs only[Kj_,RR,SS,Nat.reduceEqDiff, ↓reduceIte,h25,h27,AL I4 hil]
  refine aB BW g1 ?_
  have hx1:Ext F Non s0 (s.rdN (b+(o+i*1))):=hx.trans (Ext.rdN (F:=F) s _ λ_=>hF _ (.inl ⟨by omega,by omega⟩)) hb0 (λ_ _ h=>h) λ_ _ h=>h
  refine Ali_.u ?_
  simp -implicitDefEqProofs only[Mc_,RR,SS,Nat.reduceEqDiff, ↓reduceIte,h6,CC]
  refine W.appIn (s:=s.rdN (b+(o+i*1))) GF (g2.same (s':=s.rdN (b+(o+i*1))) rfl rfl).src.g (by rw[hcc];omega) (by rw[Av,Nat.mul_one]) (Bx _) (λj hj=> ?_) λs2 n2 x2 r2=> ?_
  ·obtain⟨u,hu⟩:=hown (tot (parts.take i)+j) (by omega)
   exact⟨u,by rw[show 0+tot (parts.take i)*1+j=0+(tot (parts.take i)+j) by omega];exact hu⟩
  have ei:=eiW (i:=i) (by omega)
  have hx2:Ext F Non s0 s2:=hx1.step x2 hb0 (λl hl h=>by
   rcases h with h|h
   ·exact hF _ (.inr ⟨_,List.getElem_mem hil,h⟩)
   ·exact absurd h.1 (by omega)) λl h=>by have:=h.1;omega
  have el:parts[i].2.length*1=(u8l parts[i].2).length:=by rw[Av,Nat.mul_one]
  rw[el]at x2
  have hown2:An s2 nb 0 (tot parts):=An.ext (s:=s.rdN (b+(o+i*1))) (λj hj=>let ⟨u,hu⟩:=hown j hj;⟨u,hu.same rfl rfl⟩) x2 r2
  have hrow2:Aa s2 nb 0 (u8l (fl (parts.take (i+1)))):=by
   rw[SE_ hil]
   unfold u8l
   rw[List.map_append]
   refine Aa.append (Aa.ext (s:=s.rdN (b+(o+i*1))) (λj v e=>(hrow j v e).same rfl rfl) x2 λj hj=> ?_) ?_
   ·rw[Av,FG]at hj
    intro h
    have:=h.1
    omega
   ·rw[Av,FG]
    rw[Nat.mul_one]at r2
    exact r2
  refine AaO_.u ?_
  simp -implicitDefEqProofs only[Mv_,RR,SS,Nat.reduceEqDiff, ↓reduceIte,Aw,h27,ei]
  exact ih (i+1) _ _ _ _ (by omega) (by omega) XB_ hx2 hown2 hrow2 ⟨by rw[x2.mem z hce.2 λh=>by have h1:=h.2;rw[Av]at h1;omega];exact hce.1,Nat.lt_of_lt_of_le hce.2 x2.nxt⟩ (by simp[T.get_set,h25]) (by simp[T.get_set,h26]) (by simp[T.get_set]) (by simp[T.get_set,hlt]) λn' tm' s1 td' e=>q n' tm' s1 td' (by omega)
end
structure New (s s':St)(v:Value)(l:List Nat):Prop where
 bn:Bn s' v l
 new: ∀x,BsF v x->s.next<=x
theorem Bn.same {s s':St}{v:Value}{l:List Nat}(h:Bn s v l)(hm:s'.mem=s.mem)(hn:s'.next=s.next):Bn s' v l:=by
 obtain⟨b,o,c,h0,h1,h2,h3⟩:=h
 exact⟨b,o,c,h0,h1,h2,λi v e=>(h3 i v e).same hm hn⟩
structure MkG (s:St)(v:Value)(l:List Nat)(b:Nat):Prop where
 val:v= .slice (some ⟨b,0,none⟩) l.length (capU*((b+l.length)*1024+1)+l.length)
 own:Aa s b 0 (u8l l)
 tok:T.get s.mem (b+l.length)=some (.O (.tok false 1025))
 lt:b+l.length<s.next
theorem MkG.same {s s':St}{v:Value}{l:List Nat}{b:Nat}(h:MkG s v l b)(hm:s'.mem=s.mem)(hn:s'.next=s.next):MkG s' v l b:=
 ⟨h.val,λi u e=>(h.own i u e).same hm hn,by rw[hm];exact h.tok,by rw[hn];exact h.lt⟩
theorem MkG.ext {F G:Nat->Prop}{s s':St}{v:Value}{l:List Nat}{b:Nat}(h:MkG s v l b)(e:Ext F G s s')(hG: ∀x,In b 0 (l.length+1) x-> ¬G x):MkG s' v l b:=
 ⟨h.val,λi u q=>(h.own i u q).ext e (hG _ ⟨by omega,by have:=(List.getElem?_eq_some_iff.1 q).1;rw[Av]at this;omega⟩),by rw[e.mem _ h.lt (hG _ ⟨by omega,by omega⟩)];exact h.tok,Nat.lt_of_lt_of_le h.lt e.nxt⟩
theorem MkG.bn {s:St}{v:Value}{l:List Nat}{b:Nat}(h:MkG s v l b)(hl:l.length<=1073741824):Bn s v l:=
 ⟨b,0,_,h.val,by rw[FX (Az hl)];exact Nat.le_refl _,Ep (Az hl) (by decide),h.own.row⟩
theorem MkG.new {s0 s:St}{v:Value}{l:List Nat}{b:Nat}(h:MkG s v l b)(hl:l.length<=1073741824)(hb:s0.next<=b):New s0 s v l:=
 ⟨h.bn hl,λx hx=>by rw[h.val]at hx;have:=hx.1;omega⟩
theorem Pe_ {n:Nat}{s:St}{b o c:Nat}{parts:List (Value×List Nat)}{Q:Value->St->Prop}(hbd:s.lim<=s.next)(hp:Parts s b o parts)(h0:0<tot parts)(ht:tot parts<=1000000)(hlen:parts.length<=4611686018427387904)(hn:13*parts.length+60<=n)
  (q: ∀s1 v nb,Ext (FI b o parts) Non s s1->MkG s1 v (fl parts) nb->s.next<=nb->Q v s1):W (Ab envS (runF envS n) 63 [.slice (some ⟨b,o,none⟩) parts.length c]) s Q:=by
 refine AiI_ λtm hk0=> ?_
 have hpc:Parts (s.cxN cxN) b o parts:=hp.same rfl rfl
 refine AkO_.u ?_
 simp -implicitDefEqProofs only[FJ_,RR,SS]
 refine Alr_.u ?_
 simp -implicitDefEqProofs only[SL,RR,SS]
 refine Pd_.u ?_
 simp -implicitDefEqProofs only[Z4,RR,SS,reduceCtorEq, ↓reduceIte,hk0,AP I4]
 refine AlG_ (c:=c) ht hlen (F:=FI b o parts) (λ_ h=>h) (s0:=s.cxN cxN) hbd hpc parts.length 0 _ _ _ _ (by omega) (by omega) rfl (Ext.refl _) rfl rfl (by simp[T.get_set,hk0]) (by simp[T.get_set]) (by simp[T.get_set]) (by simp[T.get_set]) (by simp[T.get_set,tot]) λn1 tm1 s1 td1 hn1 hT1 hx1 hm1 hnx1 g0 g3=> ?_
 refine OF_.u ?_ hT1
 simp -implicitDefEqProofs only[ZE,RR,SS,g3]
 have hb1:s1.lim<=s1.next:=hx1.bnd hbd
 refine QR_ hb1 (by omega) h0 ht λs2 v nb hr x2=> ?_
 obtain⟨rfl,hnew,hown,htok,hlt⟩:=hr
 have hx2:Ext (FI b o parts) Non (s.cxN cxN) s2:=hx1.step x2 hbd (λ_ _ h=>h.elim) λ_ h=>h.elim
 have hnb:s.next<=nb:=by
  have:s1.next=s.next:=hnx1
  omega
 have hcc:=FX (q:=(nb+tot parts*1)*1024+1) (Az (n:=tot parts) (by omega))
 have hok:=Ep (m:=nb+tot parts*1) (sz:=1) (Az (n:=tot parts) (by omega)) (by decide)
 generalize hC:capU*((nb+tot parts*1)*1024+1)+tot parts=C at *
 refine AdC_.u ?_
 simp -implicitDefEqProofs only[If_,RR,SS,reduceCtorEq, ↓reduceIte,g0,AP I4]
 refine AfS_ (c:=c) ht hlen (F:=FI b o parts) (λ_ h=>h) (s0:=s.cxN cxN) hbd hpc (nb:=nb) (cc:=C) hnb hcc (z:=nb+tot parts) (Nat.le_refl _) parts.length 0 _ _ _ _ (by omega) (by omega) rfl hx2 (by have:=hown.owned;rwa [List.length_replicate]at this) (λi v e=>by simp[fl]at e) ⟨htok,hlt⟩ (by simp[T.get_set]) (by simp[T.get_set]) (by simp[T.get_set]) (by simp[T.get_set,tot]) λn3 tm3 s3 td3 hn3 hT3 hx3 hrow hz3 g6=> ?_
 refine RD_.u ?_ hT3
 simp -implicitDefEqProofs only[Xt,RR,SS,g6]
 refine aF (rs:=[2]) (vs:=[.slice (some ⟨nb,0,none⟩) (tot parts) C]) rfl (.inl AgP_) (by omega) Sl Ahh_ hx3.cx (by simp[T.get_set]) ?_
 have hC':C=capU*((nb+(fl parts).length)*1024+1)+(fl parts).length:=by rw[<-hC,FG,Nat.mul_one]
 refine q _ (.slice (some ⟨nb,0,none⟩) (tot parts) C) nb hx3.cx' ⟨by rw[<-hC',FG],λi u e=>(hrow i u e).same rfl rfl,by rw[FG];exact hz3.1,by rw[FG];exact hz3.2⟩ hnb
theorem Sx_ {n:Nat}{s:St}{b o c:Nat}{parts:List (Value×List Nat)}{Q:Value->St->Prop}(hbd:s.lim<=s.next)(hp:Parts s b o parts)(h0:0<tot parts)(ht:tot parts<=1000000)(hlen:parts.length<=4611686018427387904)(hn:13*parts.length+60<=n)
  (q: ∀s1 v,Ext (FI b o parts) Non s s1->New s s1 v (fl parts)->Q v s1):W (Ab envS (runF envS n) 63 [.slice (some ⟨b,o,none⟩) parts.length c]) s Q:=
 Pe_ hbd hp h0 ht hlen hn λs1 v _ x h hn=>q s1 v x (h.new (by rw[FG];omega) hn)
theorem Akw_:elT envS 43=some (1,24,[.slice none 0 0]):=by kernel_rfl
theorem Gg:hasT envS 51=true:=by kernel_rfl
theorem Dy:intK envS 5=some .u8:=by kernel_rfl
def le4 (n:Nat):List Nat:=[n%256,n>>>8%256,n>>>16%256,n>>>24%256]
def gput (l:List Nat):List Nat:=l++le4 (BX 0 l)
theorem Byt.le4 (n:Nat):Byt (le4 n):=λx hx=>by
 simp -implicitDefEqProofs only[Am.le4,List.mem_cons,List.not_mem_nil,or_false]at hx
 omega
theorem Byt.gput {l:List Nat}(h:Byt l):Byt (gput l):=λx hx=>by
 rcases List.mem_append.1 hx with hx|hx
 ·exact h x hx
 ·exact Byt.le4 _ x hx
theorem Rt_ {n:Nat}{s:St}{v:Value}{l:List Nat}{Q:Value->St->Prop}(hbd:s.lim<=s.next)(hn:120<=n)(h:Bn s v l)(hl:Byt l)(hz:l.length<=900000)
  (q: ∀s1 w,Ext (BsF v) Non s s1->New s s1 w (gput l)->Q w s1):W (Ab envS (runF envS n) 64 [v]) s Q:=by
 refine Aiu_ λtm h0=> ?_
 have hc:Bn (s.cxN cxN) v l:=h.same rfl rfl
 refine PF_.u ?_
 simp -implicitDefEqProofs only[VQ,RR,SS]
 refine AgE_.u ?_
 simp -implicitDefEqProofs only[LK_,RR,SS,reduceCtorEq, ↓reduceIte,h0]
 refine Y1 (by omega) hc hl (by omega) λs1 m1 n1 x1=> ?_
 refine Rn_.u ?_
 generalize hS:BX 0 l=S
 simp -implicitDefEqProofs only[Wv,RR,SS,reduceCtorEq, ↓reduceIte,h0]
 simp -implicitDefEqProofs only[Cu Gg Dy,wrap_u8,Gt (k:= .u32) (by decide),Qk (k:= .u32) (by decide),PE (k:= .u32) (by decide)]
 have hb1:s1.lim<=s1.next:=x1.bnd hbd
 refine aK hb1 (r:=u8l (le4 S)) Ck (by decide) rfl (Az (by decide)) λs2 n2 x2 r2=> ?_
 have hb2:s2.lim<=s2.next:=x2.bnd hb1
 obtain⟨b,o,c,rfl,hv⟩:=hc
 refine aK hb2 (r:=[.slice (some ⟨b,o,none⟩) l.length c, .slice (some ⟨s1.next,0,none⟩) 4 4]) Akw_ (by decide) rfl (Az (by decide)) λs3 n3 x3 r3=> ?_
 have hb3:s3.lim<=s3.next:=x3.bnd hb2
 have hx1:Ext (BsF (.slice (some ⟨b,o,none⟩) l.length c)) Non (s.cxN cxN) s1:=x1
 have hx2:=hx1.step x2 hbd (λ_ _ h=>h.elim) λ_ h=>h.elim
 have hx3:=hx2.step x3 hbd (λ_ _ h=>h.elim) λ_ h=>h.elim
 have hBv:Bs s3 (.slice (some ⟨b,o,none⟩) l.length c) l:=(Bn.bs ⟨b,o,c,rfl,hv⟩).ext0 hx3
 have hB4:Bs s3 (.slice (some ⟨s1.next,0,none⟩) 4 4) (le4 S):=(Aa.bn r2 (Az (by simp[le4]))).ext0 x3
 have hlt:tot [((.slice (some ⟨b,o,none⟩) l.length c:Value),l),(.slice (some ⟨s1.next,0,none⟩) 4 4,le4 S)]=l.length+4:=by simp[tot,le4]
 refine Sx_ (parts:=[(.slice (some ⟨b,o,none⟩) l.length c,l),(.slice (some ⟨s1.next,0,none⟩) 4 4,le4 S)]) hb3 ⟨r3.row,λp hp=> ?_⟩ (by rw[hlt];omega) (by rw[hlt];omega) (by simp) (by simp;omega) λs4 w x4 hw=> ?_
 ·rcases List.mem_cons.1 hp with rfl|hp
  ·exact hBv
  ·rcases List.mem_cons.1 hp with rfl|hp
   ·exact hB4
   ·cases hp
 have hx4:=hx3.step x4 hbd (λx hx h=>by
  have hn1:s.next<=s1.next:=x1.nxt
  have hn2:s1.next<=s2.next:=x2.nxt
  have hxl:x<s.lim:=hx
  rcases h with h|⟨p,hp,h⟩
  ·have:=h.1;omega
  ·rcases List.mem_cons.1 hp with rfl|hp
   ·exact h
   ·rcases List.mem_cons.1 hp with rfl|hp
    ·have:s1.next+0<=x:=h.1
     omega
    ·cases hp) λ_ h=>h.elim
 refine aF (rs:=[2]) (vs:=[w]) rfl (.inl Ale_) (by omega) Ij_ AdT_ hx4.cx (by simp[T.get_set]) ?_
 refine q _ _ hx4.cx' ⟨?_,λx hx=> ?_⟩
 ·have:=hw.bn.same (s':=s4.cxN s.cx) rfl rfl
  show Bn (s4.cxN s.cx) w (gput l)
  unfold gput
  rw[hS]
  simpa [fl]using this
 ·have h1:=hw.new x hx
  have h2:s.next<=s3.next:=hx3.nxt
  omega
theorem Bs.at {s:St}{v:Value}{l:List Nat}(h:Bs s v l){i:Nat}(hi:i<l.length): ∃b o c,v= .slice (some ⟨b,o,none⟩) l.length c/\At s b (o+i*1) (u8 l[i])/\(∀x,x=b+(o+i*1)->BsF v x):=by
 rcases h with⟨rfl,rfl⟩|⟨b,o,c,rfl,_,_,h3⟩
 ·simp at hi
 ·refine⟨b,o,c,rfl, ?_,λx hx=>⟨by omega,by omega⟩⟩
  rw[Nat.mul_one]
  exact h3.at (List.getElem?_eq_getElem hi)
section
variable {va vb:Value}{la lb:List Nat}
theorem Akh_ {F:Nat->Prop}(hFa: ∀x,BsF va x->F x)(hFb: ∀x,BsF vb x->F x){Q:Value×FrameMode->St->Prop}{s0:St}(hb0:s0.lim<=s0.next)(ha:Bs s0 va la)(hb:Bs s0 vb lb)(hlen:la.length=lb.length)(hz:la.length<=4611686018427387904)(hcx:s0.cx= .cx none (some []))(q: ∀s1,Ext F Non s0 s1->s1.mem=s0.mem->s1.next=s0.next->Q (.bool (decide (la=lb)), .run) s1):
  ∀(k i n:Nat) (tm:T Value) (s:St) (td:List Item),i+k=la.length->7*k+20<=n->skim 64 td=KI->Ext F Non s0 s->s.mem=s0.mem->s.next=s0.next->la.take i=lb.take i->
  T.get tm 0=some va->T.get tm 1=some vb->T.get tm 12=some (.int .i64 (la.length:Nat))->T.get tm 13=some (.int .i64 (i:Nat))->
  W (runF envS n ⟨116,AcT_,CY,tm,td, .run, .normal,none⟩) s Q:=by
 intro k
 induction k with
 |zero=>
  intro i n tm s td hi hn hT hx hm hnx heq h0 h1 h12 h13
  refine Xb.u ?_ hT
  simp -implicitDefEqProofs only[PL,RR,SS,Ak,h12,h13]
  refine aH FK_ ?_
  refine Ahu_.u ?_
  simp -implicitDefEqProofs only[Hn_,RR,SS]
  have e:la=lb:=by
   rw[show i=la.length by omega,List.take_length,hlen,List.take_length]at heq
   exact heq
  refine aF (rs:=[4]) (vs:=[.bool true]) rfl (.inl Qu_) (by omega) Jy OM (hx.cx.trans hcx) (by simp[T.get_set]) ?_
  have:=q s hx hm hnx
  rw[decide_eq_true e]at this
  exact this
 |succ k ih=>
  intro i n tm s td hi hn hT hx hm hnx heq h0 h1 h12 h13
  have hia:i<la.length:=by omega
  have hib:i<lb.length:=by omega
  obtain⟨ba,oa,ca,rfl,ga,fa⟩:=ha.at hia
  obtain⟨bb,ob,cb,rfl,gb,fb⟩:=hb.at hib
  refine Xb.u ?_ hT
  simp -implicitDefEqProofs only[PL,RR,SS,Ak,h12,h13]
  refine aI FK_ ?_
  refine Wu_.u ?_
  simp -implicitDefEqProofs only[Uu,RR,SS,Nat.reduceEqDiff, ↓reduceIte,h13]
  refine Ajn_.u ?_
  simp -implicitDefEqProofs only[V5,RR,T.get_set,Nat.reduceEqDiff, ↓reduceIte,h0,h1,AJ,Ag]
  rw[W_dq λs Q=>AL (s:=s) Al hia Q]
  refine aC Cd (ga.same hm hnx) λrd1 hr1=> ?_
  simp -implicitDefEqProofs only[Ag]
  rw[W_dq λs Q=>AL (s:=s) Al hib Q]
  refine aC Cd (gb.same hm hnx) λrd2 hr2=> ?_
  rw[AK]
  refine⟨CI (by simp) (by simp), ?_⟩
  refine aJ (Vj_ _ _ _ _ _ _ _ _ _ _ _ _ _) ?_
  simp -implicitDefEqProofs only[SS,AbE_]
  generalize hs':(⟨(dSt s.mem s.next).mem,(dSt s.mem s.next).next,s.lim,_,_,s.cx⟩:St)=s'
  have hx':Ext F Non s0 s':=by
   rw[<-hs']
   refine hx.trans (Ext.draw (F:=F) (Nat.le_refl _) (λ_ _=>rfl) (by simp) (by
    simp -implicitDefEqProofs only[List.mem_cons,List.not_mem_nil,or_false]
    rintro m (rfl|rfl|rfl|rfl|rfl|rfl|rfl|rfl) x hx _<;>first|(exact hFa _ (fa _ (hr1 _ hx)))|(exact hFb _ (fb _ (hr2 _ hx)))|(cases hx))) hb0 (λ_ _ h=>h) λ_ _ h=>h
  have hm':s'.mem=s0.mem:=by rw[<-hs'];exact hm
  have hn':s'.next=s0.next:=by rw[<-hs'];exact hnx
  by_cases he:la[i]=lb[i]
  ·refine aH XZ ?_ rfl (by simp[T.get_set,he])
   refine AjN_.u ?_
   have ei:=eiW (i:=i) (by omega)
   simp -implicitDefEqProofs only[ZG,RR,SS,Nat.reduceEqDiff, ↓reduceIte,Aw,h13,ei]
   refine ih (i+1) _ _ _ _ (by omega) (by omega) SB_ hx' hm' hn' ?_ (by simp[T.get_set,h0]) (by simp[T.get_set,h1]) (by simp[T.get_set,h12]) (by simp[T.get_set])
   rw[List.take_add_one,List.take_add_one,heq,List.getElem?_eq_getElem hia,List.getElem?_eq_getElem hib,he]
  ·refine aI XZ ?_ rfl (by simp[T.get_set,he])
   refine VV_.u ?_
   simp -implicitDefEqProofs only[XM,RR,SS]
   have e:la≠lb:=by
    intro e
    subst e
    exact he rfl
   refine aF (rs:=[4]) (vs:=[.bool false]) rfl (.inl Afa_) (by omega) Jy OM (hx'.cx.trans hcx) (by simp[T.get_set]) ?_
   have:=q s' hx' hm' hn'
   rw[decide_eq_false e]at this
   exact this
theorem Afd_ {n:Nat}{s:St}{Q:Value->St->Prop}(hbd:s.lim<=s.next)(ha:Bs s va la)(hb:Bs s vb lb)(hz:la.length<=4611686018427387904)(hn:7*la.length+40<=n)
  (q: ∀s1,Ext (λx=>BsF va x\/BsF vb x) Non s s1->s1.mem=s.mem->s1.next=s.next->Q (.bool (decide (la=lb))) s1):W (Ab envS (runF envS n) 116 [va,vb]) s Q:=by
 refine VF_ λtm h0 h1=> ?_
 have ha':Bs (s.cxN cxN) va la:=ha.same rfl rfl
 have hb':Bs (s.cxN cxN) vb lb:=hb.same rfl rfl
 refine AcJ_.u ?_
 simp -implicitDefEqProofs only[Lc_,RR,SS]
 refine UV_.u ?_
 simp -implicitDefEqProofs only[AD_,RR,SS,Nat.reduceEqDiff,reduceCtorEq, ↓reduceIte,CQ,h0,h1,ha'.len Al,hb'.len Al]
 by_cases hlen:la.length=lb.length
 ·refine aH SA ?_ rfl (by simp[T.get_set,hlen])
  refine Sc_.u ?_
  simp -implicitDefEqProofs only[NE_,RR,SS,reduceCtorEq, ↓reduceIte,h0,ha'.len Al]
  exact Akh_ (s0:=s.cxN cxN) (F:=λx=>BsF va x\/BsF vb x) (λ_ h=> .inl h) (λ_ h=> .inr h) hbd ha' hb' hlen hz rfl (λs1 x1 m1 n1=>q _ x1.cx' m1 n1) la.length 0 _ _ _ _ (by omega) (by omega) rfl (Ext.refl _) rfl rfl (by simp) (by simp[T.get_set,h0]) (by simp[T.get_set,h1]) (by simp[T.get_set]) (by simp[T.get_set])
 ·refine aI SA ?_
  refine AkF_.u ?_
  simp -implicitDefEqProofs only[TY,RR,SS]
  have e:la≠lb:=λe=>hlen (by rw[e])
  refine aF (rs:=[4]) (vs:=[.bool false]) rfl (.inl Aay_) (by omega) Jy OM rfl (by simp[T.get_set]) ?_
  have:=q _ (Ext.refl s) rfl rfl
  rw[decide_eq_false e]at this
  exact this
end
theorem Fresh1.toNew {s s':St}{v:Value}{b:Nat}{l:List Nat}(h:Fresh1 s s' 1 l.length (u8l l) v b)(hl:l.length<capU):New s s' v l:=by
 obtain⟨rfl,hnew,hown,_,_,_⟩:=h
 refine⟨⟨b,0,_,rfl,by rw[FX hl];exact Nat.le_refl _,Ep hl (by decide),hown.row⟩,λx hx=> ?_⟩
 have:b+0<=x:=hx.1
 omega
theorem NQ_ {n:Nat}{s:St}{v:Value}{l:List Nat}{Q:Value->St->Prop}(hbd:s.lim<=s.next)(h:Bn s v l)(hz:l.length<=1000000)(hn:30<=n)
  (q: ∀s1 w,Ext (BsF v) Non s s1->New s s1 w l->(0<l.length-> ∃nb,MkG s1 w l nb/\s.next<=nb)->Q w s1):W (Ab envS (runF envS n) 117 [v]) s Q:=by
 refine OE_ λtm h0=> ?_
 have hc:Bn (s.cxN cxN) v l:=h.same rfl rfl
 refine Amf_.u ?_
 simp -implicitDefEqProofs only[Bn_,RR,SS]
 refine Qx_.u ?_
 obtain⟨b,o,c,rfl,hv⟩:=hc
 simp -implicitDefEqProofs only[Ib_,RR,SS,reduceCtorEq, ↓reduceIte,h0,Uq Al]
 refine aH AjB_ ?_
 refine Xt_.u ?_
 simp -implicitDefEqProofs only[GH_,RR,SS,reduceCtorEq, ↓reduceIte,h0]
 refine aK (s:=s.cxN cxN) hbd (r:=[]) Ck (by decide) rfl (Az (by decide)) λs1 n1 x1 r1=> ?_
 have hb1:s1.lim<=s1.next:=x1.bnd hbd
 have hx1:Ext (BsF (.slice (some ⟨b,o,none⟩) l.length c)) Non (s.cxN cxN) s1:=x1.weak hbd (λ_ _ h=>h.elim) λ_ _ h=>h
 have hv1:Bs s1 (.slice (some ⟨b,o,none⟩) l.length c) l:=(Bn.bs ⟨b,o,c,rfl,hv⟩).ext0 hx1
 rw[CC]
 by_cases hl:0<l.length
 ·refine W.appEmpT hb1 GF hv1.src.g hl (by decide) (by decide) (by omega) (by rw[Av,Nat.mul_one]) (Bx _) λs2 w nb hf hT x2=> ?_
  have hx2:=hx1.step x2 hbd (λ_ _ h=>h) λ_ h=>h.elim
  refine aF (rs:=[2]) (vs:=[w]) rfl (.inl YX) (by omega) PM Gp_ hx2.cx (by simp[T.get_set]) ?_
  have hN:=hf.toNew (Az (by omega))
  have h2:s.next<=s1.next:=hx1.nxt
  refine q _ _ hx2.cx' ⟨hN.bn.same rfl rfl,λx hx=> ?_⟩ λ_=>⟨nb,⟨?_,λi u e=>(hf.own i u e).same rfl rfl,by rw[Nat.mul_one]at hT;exact hT,by have:=hf.lt;rw[Nat.mul_one]at this;exact this⟩,Nat.le_trans h2 hf.new⟩
  ·have h1:=hN.new x hx
   omega
  ·have:=hf.val
   rw[Nat.mul_one]at this
   exact this
 ·have h0l:l=[]:=List.eq_nil_of_length_eq_zero (by omega)
  subst h0l
  refine W.appIn (s:=s1) (n:=0) (len:=0) (c:=0) (l:=[]) GF hv1.src.g (by simp) rfl rfl (λi hi=>absurd hi (by omega)) λs2 n2 x2 r2=> ?_
  have hx2:=hx1.step x2 hbd (λ_ _ h=>by
   rcases h with h|h
   ·exact h
   ·have h3:=h.1;have h4:=h.2;omega) λl h=>by have h3:=h.1;have h4:=h.2;omega
  refine aF (rs:=[2]) (vs:=[.slice (some ⟨s.next,0,none⟩) (0+0) 0]) rfl (.inl YX) (by omega) PM Gp_ hx2.cx (by simp[T.get_set];rfl) ?_
  refine q _ _ hx2.cx' ⟨⟨s.next,0,0,rfl,by simp,D4 (by unfold capU;decide),λi v e=>by simp at e⟩,λx hx=> ?_⟩ λh=>absurd h hl
  have h3:s.next+0<=x:=hx.1
  have h4:x<s.next+0+(0+0):=hx.2
  omega
theorem W.cut {E:Env}{t:Nat}{s:St}{v:Value}{l:List Nat}{i j:Nat}{lo hi:Option Value}{Q:Value->St->Prop}(h:Bn s v l)(ht:slN E t=some 1)(hlo:bndV lo 0=some i)(hhi:bndV hi l.length=some j)(hij:i<=j)(hj:j<=l.length)
  (q: ∀v',Bn s v' ((l.take j).drop i)->(∀x,BsF v' x->BsF v x)->Q v' s):W (AW E t v lo hi) s Q:=by
 obtain⟨b,o,c,rfl,h1,h2,h3⟩:=h
 rw[GX ht hlo hhi hij (by omega) h2]
 obtain⟨o',e1,e2,e3,e4,e5⟩:=Bs.sub' hij hj h1 h2 h3
 rw[e1]
 refine q _ ⟨b,o',c-i,rfl,e2,e3,e4⟩ λx hx=> ?_
 have hlen:((l.take j).drop i).length=j-i:=by rw[List.length_drop,List.length_take];omega
 have h6:b+o'<=x:=hx.1
 have h7:x<b+o'+((l.take j).drop i).length:=hx.2
 rw[hlen]at h7
 rcases e5 with rfl|e5
 ·exact⟨by omega,by omega⟩
 ·rw[hlen]at e5;omega
def GOk (l:List Nat):Prop:=4<=l.length/\gput (l.take (l.length-4))=l
instance (l:List Nat):Decidable (GOk l):=by unfold GOk;infer_instance
theorem Nw (l:List Nat):(gput l).length=l.length+4:=by simp[gput,le4]
theorem OA_ {n:Nat}{s:St}{v:Value}{l:List Nat}{Q:Value->St->Prop}(hbd:s.lim<=s.next)(h:Bn s v l)(hb:Byt l)(hz:l.length<=900000)(hn:7*l.length+200<=n)
  (q1:GOk l-> ∀s1 w,Ext (BsF v) Non s s1->New s s1 w (l.take (l.length-4))->(4<l.length-> ∃nb,MkG s1 w (l.take (l.length-4)) nb/\s.next<=nb)->Q (.tuple #[w, .int .i64 0]) s1) (q2: ¬GOk l-> ∀s1,Ext (BsF v) Non s s1->Q (.tuple #[.slice none 0 0, .int .i64 4]) s1):W (Ab envS (runF envS n) 81 [v]) s Q:=by
 refine VM_ λtm h0=> ?_
 have hc:Bn (s.cxN cxN) v l:=h.same rfl rfl
 refine ZH_.u ?_
 simp -implicitDefEqProofs only[ZB,RR,SS]
 refine SR_.u ?_
 simp -implicitDefEqProofs only[Br_,RR,SS,reduceCtorEq, ↓reduceIte,Cq,h0,hc.bs.len Al]
 refine AdH_.u ?_
 by_cases h4:4<=l.length
 ·have ek:wrap64 ((l.length:Nat)-4:Int)=((l.length-4:Nat):Int):=by
   rw[Ax (by omega) (by omega)];omega
  have ed:decide (((l.length-4:Nat):Int)<0)=false:=by simp
  simp -implicitDefEqProofs only[RS,RR,SS,reduceCtorEq, ↓reduceIte,Ak,h0,ek,ed]
  have hcut:(l.take (l.length-4)).drop 0=l.take (l.length-4):=rfl
  refine W.cut hc Al (i:=0) (j:=l.length-4) rfl rfl (Nat.zero_le _) (by omega) λv1 hv1 hF1=> ?_
  rw[hcut]at hv1
  have hB1:Byt (l.take (l.length-4)):=λx hx=>hb x (List.mem_of_mem_take hx)
  have hl1:(l.take (l.length-4)).length=l.length-4:=by rw[List.length_take];omega
  refine Rt_ (s:=s.cxN cxN) hbd (by omega) hv1 hB1 (by omega) λs1 w1 x1 hw1=> ?_
  have hb1:s1.lim<=s1.next:=x1.bnd hbd
  have hx1:Ext (BsF v) Non (s.cxN cxN) s1:=x1.weak hbd (λx _ hx=>hF1 x hx) λ_ _ h=>h
  refine Afd_ hb1 hw1.bn.bs (hc.ext0 hx1).bs (by rw[Nw];omega) (by rw[Nw];omega) λs2 x2 m2 n2=> ?_
  have hx2:Ext (BsF v) Non (s.cxN cxN) s2:=hx1.step x2 hbd (λx hx h=>by
   rcases h with h|h
   ·have h5:s.next<=x:=hw1.new x h
    have h6:x<s.lim:=hx
    omega
   ·exact h) λ_ h=>h.elim
  have hb2:s2.lim<=s2.next:=hx2.bnd hbd
  simp -implicitDefEqProofs only[D5]
  by_cases hg:gput (l.take (l.length-4))=l
  ·refine aH OW ?_ rfl (by simp[T.get_set,hg])
   refine AlC_.u ?_
   simp -implicitDefEqProofs only[EU_,RR,SS,Nat.reduceEqDiff,reduceCtorEq, ↓reduceIte,h0]
   refine W.cut (hc.ext0 hx2) Al (i:=0) (j:=l.length-4) rfl rfl (Nat.zero_le _) (by omega) λv3 hv3 hF3=> ?_
   rw[hcut]at hv3
   refine NQ_ hb2 hv3 (by omega) (by omega) λs3 w x3 hw3 hm3=> ?_
   have hx3:Ext (BsF v) Non (s.cxN cxN) s3:=hx2.step x3 hbd (λx _ hx=>hF3 x hx) λ_ h=>h.elim
   refine aF (rs:=[2,3]) (vs:=[w, .int .i64 0]) rfl (.inl RV_) (by omega) LK N3 hx3.cx (by simp[T.get_set]) ?_
   have h6:s.next<=s2.next:=hx2.nxt
   refine q1 ⟨h4,hg⟩ _ w hx3.cx' ⟨hw3.bn.same rfl rfl,λx hx=> ?_⟩ λh=> ?_
   ·have h5:=hw3.new x hx
    omega
   ·obtain⟨nb,g1,g2⟩:=hm3 (by rw[hl1];omega)
    exact⟨nb,g1.same rfl rfl,Nat.le_trans h6 g2⟩
  ·refine aI OW ?_ rfl (by simp[T.get_set,hg])
   refine JG_.u ?_
   simp -implicitDefEqProofs only[Pa,RR,SS]
   refine aF (rs:=[2,3]) (vs:=[.slice none 0 0, .int .i64 4]) rfl (.inl Zl) (by omega) LK N3 hx2.cx (by simp[T.get_set]) ?_
   exact q2 (λh=>hg h.2) _ hx2.cx'
 ·have ed:decide (wrap64 ((l.length:Nat)-4:Int)<0)=true:=by
   rw[Ax (by omega) (by omega)];simp;omega
  simp -implicitDefEqProofs only[RS,RR,SS,reduceCtorEq, ↓reduceIte,Ak,h0,ed]
  refine aI OW ?_
  refine JG_.u ?_
  simp -implicitDefEqProofs only[Pa,RR,SS]
  refine aF (rs:=[2,3]) (vs:=[.slice none 0 0, .int .i64 4]) rfl (.inl Zl) (by omega) LK N3 rfl (by simp[T.get_set]) ?_
  exact q2 (λh=>h4 h.1) _ (Ext.refl s)
def Pm:Nat:=Ar Try.f110
def GX_:Code:=Try.f110.body.getD .skip
theorem Fm_:envS.fn.get 110=some Try.f110:=by kernel_rfl
theorem Alb_:G0 envS 110 4 Pm GX_:=λh=>
 aM Fm_ (h _)
theorem Yi_:Try.f110.results.toList=[.tmp 0]:=by kernel_rfl
def CL_:List Item:=skim 64 [.code GX_]
def IW_:=nx CL_
def BJ_:=nx IW_
def Z3:Rg:=λE call round tm=>
 mv (some (.pointer none)) λv0=>
 setF 0 v0 tm λtm1=>
 M.pure tm1
theorem Afm_:RegEq 110 4 Pm CL_ Z3:={}
def MD_:Rg:=λE call round tm=>
 cN call round 133 [] λv1=>
 M.bind (oS (seqP [(0,(some (.bool true))),(1,(some v1))]) λps=>Bj E 167 ps) λv2=>
 M.bind (oS (some v2) λa=>kBox a) λv3=>
 mv (some v3) λv0=>
 setF 0 v0 tm λtm1=>
 M.pure tm1
theorem UX_:RegEq 110 4 Pm IW_ MD_:={}
theorem Ua_: ∃k,BJ_= .code .ret::k:=⟨BJ_.tail,by kernel_rfl⟩
def OS:Nat:=Ar Try.f133
def GD_:Code:=Try.f133.body.getD .skip
theorem Id_:envS.fn.get 133=some Try.f133:=by kernel_rfl
theorem Td_:G0 envS 133 2 OS GD_:=λh=>
 aM Id_ (h _)
theorem Aec_:Try.f133.results.toList=[.cell 0 163]:=by kernel_rfl
def MF_:List Item:=skim 64 [.code GD_]
def Zb:=nx MF_
def WY:=nx Zb
def Ws:Rg:=λE call round tm=>
 M.bind (AI E 163) λv0=>
 setF 0 v0 tm λtm1=>
 M.pure tm1
theorem Qc_:RegEq 133 2 OS MF_ Ws:={}
def Fy_:Rg:=λE call round tm=>
 M.bind (oS (seqP [(0,(some (.int .u32 1779033703))),(1,(some (.int .u32 3144134277))),(2,(some (.int .u32 1013904242))),(3,(some (.int .u32 2773480762))),(4,(some (.int .u32 1359893119))),(5,(some (.int .u32 2600822924))),(6,(some (.int .u32 528734635))),(7,(some (.int .u32 1541459225)))]) λps=>Bj E 163 ps) λv1=>
 M.bind (oS (T.get tm 0) λa=>oS (some v1) λb=>Ao E 163 a b) λ_=>
 M.pure tm
theorem Pf_:RegEq 133 2 OS Zb Fy_:={}
theorem ZN_: ∃k,WY= .code .ret::k:=⟨WY.tail,by kernel_rfl⟩
def DE:Nat:=Ar Try.f111
abbrev WJ_:Nat:=57
def La_:Code:=Try.f111.body.getD .skip
theorem QN:envS.fn.get 111=some Try.f111:=by kernel_rfl
theorem Afy_:G2 envS 111 57 DE La_:=λh=>
 aM QN (h _ (by kernel_rfl) (by kernel_rfl))
theorem WO:Try.f111.results.toList=[]:=by kernel_rfl
def FN_:List Item:=skim 64 [.code La_]
def AP_:=nx FN_
def If:=bf AP_
def OX:=nx If
def Df_:=bt OX
def Amw_:=bf OX
def IQ_:=nx Df_
def VV:=nx IQ_
def Jj_:=nx VV
def Bq_:=nx Jj_
def QC:=nx Bq_
def O0:=bt QC
theorem Ze_:skim 64 (brF QC)=If:=by kernel_rfl
theorem Ama_:skim 64 O0.tail=If:=by kernel_rfl
def WD:Rg:=λE call round tm=>
 mv (T.get tm 0) λv6=>
 bI E .eql 145 (.tmp 6) (.const (.pointer none)) (some v6) (some (.pointer none)) λv7=>
 mv (some v7) λv8=>
 sK v8 false (oS (T.get tm 0) λa=>M.pure a) λv9=>
 sK v8 false (oS (some v9) λa=>kNil a) λv10=>
 sK v8 false (oS (some v10) λa=>kFld E 167 a 0) λv11=>
 sK v8 false (oS (some v11) λa=>A5 E 4 a) λv12=>
 sK v8 false (oS (some v12) λa=>kUn E.P .not a) λv13=>
 M.bind (M.on (some v8) λa=>M.on (some (.bool true)) λb=>M.on (some v13) λc=>A3 a b c) λv14=>
 setF 14 v14 tm λtm1=>
 M.pure tm1
theorem AeB_:RegEq 111 57 DE FN_ WD:={}
theorem St_:Ah AP_=some 14:=by kernel_rfl
def Ks:Rg:=λE call round tm=>
 mv (T.get tm 1) λv15=>
 lN E .len [22] [(some v15)] λv16=>
 bI E .gtr 3 (.tmp 16) (.const (.int .i64 0)) (some v16) (some (.int .i64 0)) λv17=>
 setF 17 v17 tm λtm1=>
 M.pure tm1
theorem Ql:RegEq 111 57 DE If Ks:={}
theorem Pd:Ah OX=some 17:=by kernel_rfl
def Zo:Rg:=λE call round tm=>
 mv (T.get tm 0) λv18=>
 M.bind (oS (some v18) λa=>kNil a) λv19=>
 fD E 167 3 (some v19) λv20=>
 lD E 3 (some v20) λv21=>
 bI E .rem 3 (.tmp 21) (.const (.int .i64 64)) (some v21) (some (.int .i64 64)) λv22=>
 mv (some v22) λv4=>
 setF 4 v4 tm λtm1=>
 M.pure tm1
theorem NM_:RegEq 111 57 DE Df_ Zo:={}
def ZK:Rg:=λE call round tm=>
 mv (T.get tm 0) λv23=>
 M.bind (oS (some v23) λa=>kNil a) λv24=>
 fD E 167 2 (some v24) λv25=>
 mv (T.get tm 4) λv26=>
 M.bind (M.on (some v25) λa=>M.on (onO (some v26) λv=>some (some v)) λb=>M.on (some none) λc=>AW E 165 a b c) λv27=>
 mv (T.get tm 1) λv28=>
 lN E .copy [22,22] [(some v27),(some v28)] λv29=>
 mv (some v29) λv5=>
 setF 5 v5 tm λtm1=>
 M.pure tm1
theorem Akz_:RegEq 111 57 DE IQ_ ZK:={}
def CH_:Rg:=λE call round tm=>
 mv (T.get tm 1) λv30=>
 mv (T.get tm 5) λv31=>
 M.bind (M.on (some v30) λa=>M.on (onO (some v31) λv=>some (some v)) λb=>M.on (some none) λc=>AW E 22 a b c) λv32=>
 mv (some v32) λv1=>
 setF 1 v1 tm λtm1=>
 M.pure tm1
theorem Sv_:RegEq 111 57 DE VV CH_:={}
def Bs_:Rg:=λE call round tm=>
 mv (T.get tm 0) λv33=>
 M.bind (oS (some v33) λa=>kNil a) λv34=>
 fD E 167 3 (some v34) λv35=>
 lD E 3 (some v35) λv36=>
 mv (T.get tm 5) λv37=>
 bI E .add 3 (.tmp 36) (.tmp 37) (some v36) (some v37) λv38=>
 M.bind (oS (some v33) λa=>kNil a) λv39=>
 fD E 167 3 (some v39) λv40=>
 M.bind (oS (some v40) λa=>oS (some v38) λb=>Ao E 3 a b) λ_=>
 M.pure tm
theorem Wz_:RegEq 111 57 DE Jj_ Bs_:={}
def Ny_:Rg:=λE call round tm=>
 mv (T.get tm 4) λv41=>
 mv (T.get tm 5) λv42=>
 bI E .add 3 (.tmp 41) (.tmp 42) (some v41) (some v42) λv43=>
 bI E .eql 3 (.tmp 43) (.const (.int .i64 64)) (some v43) (some (.int .i64 64)) λv44=>
 setF 44 v44 tm λtm1=>
 M.pure tm1
theorem YP_:RegEq 111 57 DE Bq_ Ny_:={}
theorem DL_:Ah QC=some 44:=by kernel_rfl
def X2:Rd:=λE call round tm=>
 PD (T.get tm 0) λp0=>
 PD (T.get tm 0) λp1=>
 M.bind (apartO (oS (some p1.1) λa=>kNil a)) λp2=>
 FD E 167 1 (some p2.1) λp3=>
 LD E 163 (some p3.1) λp4=>
 PD (T.get tm 0) λp5=>
 M.bind (apartO (oS (some p5.1) λa=>kNil a)) λp6=>
 FD E 167 2 (some p6.1) λp7=>
 M.bind (apartO (M.on (some p7.1) λa=>M.on (some none) λb=>M.on (some none) λc=>AW E 165 a b c)) λp8=>
 CN call round 134 [(some p4.1),(some p8.1)] λp9=>
 M.bind (apartO (oS (some p0.1) λa=>kNil a)) λp10=>
 FD E 167 1 (some p10.1) λp11=>
 fJ [p11,p10,p9,p8,p7,p6,p5,p4,p3,p2,p1,p0] tm
theorem RX_:DrawEq 111 57 DE O0 [0,0,2,6,14,0,32,96,224,510,1023,2047,4095] X2:={}
theorem AbN_ (E:Env)(call round:Ac)(x45 x46 x47 x48 x49 x50 x51 x52 x53 x54 x55 x56:Value)(tm:T Value)(s:St):AH call round (A7 E DE 57 (hdC O0)) [x56,x55,x54,x53,x52,x51,x50,x49,x48,x47,x46,x45] tm s=(M.bind (oS (some x56) λa=>oS (some x54) λb=>Ao E 163 a b) λ_=>M.pure tm) s:=by kernel_rfl
def BC:Nat:=Ar Try.f112
abbrev GH:Nat:=74
def Ks_:Code:=Try.f112.body.getD .skip
theorem Cg_:envS.fn.get 112=some Try.f112:=by kernel_rfl
theorem Abc_:G1 envS 112 74 BC Ks_:=λh=>
 aM Cg_ (h _ (by kernel_rfl))
theorem AgD_:Try.f112.results.toList=[.cell 2 101]:=by kernel_rfl
def Dy_:List Item:=skim 64 [.code Ks_]
def AG_:=nx Dy_
def Ac_:=nx AG_
def Bk_:=nx Ac_
def WM:=bf Bk_
def Ot:=nx WM
def DO_:=nx Ot
def Vh:=nx DO_
def Jr:=nx Vh
def Rc:=nx Jr
def Mw_:=bt Rc
def Rt:=bf Rc
def Zt:=nx Mw_
def NN:=nx Rt
theorem Pm_:skim 64 Zt.tail=Jr:=by kernel_rfl
def Ln:=nx NN
def Q4:=nx Ln
def UW:=bt Q4
def Pv:=bf Q4
def Zn:=nx UW
def Ki_:=nx Pv
def JS_:=nx Zn
theorem Qo_:skim 64 JS_.tail=Ln:=by kernel_rfl
def Uk:Rg:=λE call round tm=>
 M.bind (AI E 101) λv2=>
 setF 2 v2 tm λtm1=>
 M.pure tm1
theorem Abv_:RegEq 112 74 BC Dy_ Uk:={}
def Ja_:Rg:=λE call round tm=>
 M.bind (AI E 101) λv3=>
 setF 3 v3 tm λtm1=>
 M.pure tm1
theorem Qd_:RegEq 112 74 BC AG_ Ja_:={}
def ME_:Rg:=λE call round tm=>
 mv (T.get tm 0) λv9=>
 bI E .eql 145 (.tmp 9) (.const (.pointer none)) (some v9) (some (.pointer none)) λv10=>
 mv (some v10) λv11=>
 sK v11 false (oS (T.get tm 0) λa=>M.pure a) λv12=>
 sK v11 false (oS (some v12) λa=>kNil a) λv13=>
 sK v11 false (oS (some v13) λa=>kFld E 167 a 0) λv14=>
 sK v11 false (oS (some v14) λa=>A5 E 4 a) λv15=>
 sK v11 false (oS (some v15) λa=>kUn E.P .not a) λv16=>
 M.bind (M.on (some v11) λa=>M.on (some (.bool true)) λb=>M.on (some v16) λc=>A3 a b c) λv17=>
 setF 17 v17 tm λtm1=>
 M.pure tm1
theorem ON_:RegEq 112 74 BC Ac_ ME_:={}
theorem Xo_:Ah Bk_=some 17:=by kernel_rfl
def JI_:Rg:=λE call round tm=>
 mv (T.get tm 0) λv19=>
 M.bind (oS (some v19) λa=>kNil a) λv20=>
 lD E 167 (some v20) λv21=>
 M.bind (AI E 167) λv4=>
 setF 4 v4 tm λtm1=>
 M.bind (oS (some v4) λa=>oS (some v21) λb=>Ao E 167 a b) λ_=>
 M.pure tm1
theorem Tn_:RegEq 112 74 BC WM JI_:={}
def Vk:Rg:=λE call round tm=>
 mv (T.get tm 0) λv22=>
 M.bind (oS (some v22) λa=>kNil a) λv23=>
 fD E 167 3 (some v23) λv24=>
 lD E 3 (some v24) λv25=>
 bI E .rem 3 (.tmp 25) (.const (.int .i64 64)) (some v25) (some (.int .i64 64)) λv26=>
 bI E .sub 3 (.const (.int .i64 119)) (.tmp 26) (some (.int .i64 119)) (some v26) λv27=>
 bI E .rem 3 (.tmp 27) (.const (.int .i64 64)) (some v27) (some (.int .i64 64)) λv28=>
 bI E .add 3 (.const (.int .i64 1)) (.tmp 28) (some (.int .i64 1)) (some v28) λv29=>
 M.bind (oS (some v29) λa=>oS (some (.int .i64 80)) λb=>Ee E 22 a b) λv30=>
 mv (some v30) λv5=>
 setF 5 v5 tm λtm1=>
 M.pure tm1
theorem YR_:RegEq 112 74 BC Ot Vk:={}
def Fx_:Rg:=λE call round tm=>
 mv (T.get tm 5) λv31=>
 iD E 22 (some v31) (some (.int .i64 0)) λv32=>
 M.bind (oS (some v32) λa=>oS (some (.int .u8 128)) λb=>Ao E 5 a b) λ_=>
 M.pure tm
theorem Afo_:RegEq 112 74 BC DO_ Fx_:={}
def DR_:Rg:=λE call round tm=>
 mv (some (.int .i64 56)) λv6=>
 setF 6 v6 tm λtm1=>
 M.pure tm1
theorem ZE_:RegEq 112 74 BC Vh DR_:={}
def Ri:Rg:=λE call round tm=>
 mv (T.get tm 6) λv33=>
 bI E .geq 3 (.tmp 33) (.const (.int .i64 0)) (some v33) (some (.int .i64 0)) λv34=>
 setF 34 v34 tm λtm1=>
 M.pure tm1
theorem Y5:RegEq 112 74 BC Jr Ri:={}
theorem YU:Ah Rc=some 34:=by kernel_rfl
def Zi:Rg:=λE call round tm=>
 mv (T.get tm 5) λv37=>
 mv (T.get tm 0) λv38=>
 M.bind (oS (some v38) λa=>kNil a) λv39=>
 fD E 167 3 (some v39) λv40=>
 lD E 3 (some v40) λv41=>
 bI E .mul 3 (.const (.int .i64 8)) (.tmp 41) (some (.int .i64 8)) (some v41) λv42=>
 mv (T.get tm 6) λv43=>
 bI E .shr 3 (.tmp 42) (.tmp 43) (some v42) (some v43) λv44=>
 vB E 3 5 (some v44) λv45=>
 M.bind (oS (seqP [(0,(some v45))]) λps=>AU E 22 1 ps) λv46=>
 lN E .append [22,22] [(some v37),(some v46)] λv47=>
 mv (some v47) λv5=>
 setF 5 v5 tm λtm1=>
 M.pure tm1
theorem Ub_:RegEq 112 74 BC Mw_ Zi:={}
def U9:Rg:=λE call round tm=>
 mv (T.get tm 5) λv48=>
 cN call round 111 [(T.get tm 4),(some v48)] λv49=>
 M.pure tm
theorem Wl_:RegEq 112 74 BC Rt U9:={}
def Yf:Rg:=λE call round tm=>
 mv (T.get tm 6) λv35=>
 bI E .sub 3 (.tmp 35) (.const (.int .i64 8)) (some v35) (some (.int .i64 8)) λv36=>
 mv (some v36) λv6=>
 setF 6 v6 tm λtm1=>
 M.pure tm1
theorem AeJ_:RegEq 112 74 BC Zt Yf:={}
def VU:Rg:=λE call round tm=>
 fD E 167 1 (T.get tm 4) λv50=>
 lD E 163 (some v50) λv51=>
 setF 51 v51 tm λtm1=>
 mv (some (.int .i64 0)) λv52=>
 setF 52 v52 tm1 λtm2=>
 M.pure tm2
theorem OL_:RegEq 112 74 BC NN VU:={}
def Ou:Rg:=λE call round tm=>
 bI E .lss 3 (.tmp 52) (.const (.int .i64 8)) (T.get tm 52) (some (.int .i64 8)) λv53=>
 setF 53 v53 tm λtm1=>
 M.pure tm1
theorem Iw_:RegEq 112 74 BC Ln Ou:={}
theorem Az_:Ah Q4=some 53:=by kernel_rfl
def U3:Rg:=λE call round tm=>
 mv (T.get tm 52) λv54=>
 M.bind (oS (T.get tm 51) λa=>oS (T.get tm 52) λb=>kIdx E 163 a b) λv55=>
 mv (some v54) λv7=>
 setF 7 v7 tm λtm1=>
 mv (some v55) λv8=>
 setF 8 v8 tm1 λtm2=>
 M.pure tm2
theorem OC_:RegEq 112 74 BC UW U3:={}
def KN_:Rg:=λE call round tm=>
 lD E 101 (T.get tm 3) λv73=>
 M.bind (oS (T.get tm 2) λa=>oS (some v73) λb=>Ao E 101 a b) λ_=>
 M.pure tm
theorem AdB_:RegEq 112 74 BC Pv KN_:={}
def Wf:Rg:=λE call round tm=>
 mv (T.get tm 7) λv56=>
 bI E .mul 3 (.const (.int .i64 4)) (.tmp 56) (some (.int .i64 4)) (some v56) λv57=>
 M.bind (M.on (T.get tm 3) λa=>M.on (onO (some v57) λv=>some (some v)) λb=>M.on (some none) λc=>AW E 101 a b c) λv58=>
 mv (T.get tm 8) λv59=>
 bI E .shr 51 (.tmp 59) (.const (.int .u64 24)) (some v59) (some (.int .u64 24)) λv60=>
 vB E 51 5 (some v60) λv61=>
 mv (T.get tm 8) λv62=>
 bI E .shr 51 (.tmp 62) (.const (.int .u64 16)) (some v62) (some (.int .u64 16)) λv63=>
 vB E 51 5 (some v63) λv64=>
 mv (T.get tm 8) λv65=>
 bI E .shr 51 (.tmp 65) (.const (.int .u64 8)) (some v65) (some (.int .u64 8)) λv66=>
 vB E 51 5 (some v66) λv67=>
 mv (T.get tm 8) λv68=>
 vB E 51 5 (some v68) λv69=>
 M.bind (oS (seqP [(0,(some v61)),(1,(some v64)),(2,(some v67)),(3,(some v69))]) λps=>AU E 22 4 ps) λv70=>
 lN E .copy [22,22] [(some v58),(some v70)] λv71=>
 M.pure tm
theorem Ro_:RegEq 112 74 BC Zn Wf:={}
theorem OQ_: ∃k,Ki_= .code .ret::k:=⟨Ki_.tail,by kernel_rfl⟩
def Uh:Rg:=λE call round tm=>
 bI E .add 3 (.tmp 52) (.const (.int .i64 1)) (T.get tm 52) (some (.int .i64 1)) λv72=>
 mv (some v72) λv52=>
 setF 52 v52 tm λtm1=>
 M.pure tm1
theorem Aim_:RegEq 112 74 BC JS_ Uh:={}
def Hh:Nat:=Ar Try.f73
def IN_:Code:=Try.f73.body.getD .skip
theorem Xx:envS.fn.get 73=some Try.f73:=by kernel_rfl
theorem AdO_:G1 envS 73 10 Hh IN_:=λh=>
 aM Xx (h _ (by kernel_rfl))
theorem PN_:Try.f73.results.toList=[.cell 2 101]:=by kernel_rfl
def Jz_:List Item:=skim 64 [.code IN_]
def HP_:=nx Jz_
def HZ_:=nx HP_
def Nj_:=nx HZ_
def U2:=nx Nj_
def MQ_:Rg:=λE call round tm=>
 M.bind (AI E 101) λv2=>
 setF 2 v2 tm λtm1=>
 M.pure tm1
theorem Alx_:RegEq 73 10 Hh Jz_ MQ_:={}
def EH_:Rg:=λE call round tm=>
 cN call round 110 [] λv4=>
 mv (some v4) λv3=>
 setF 3 v3 tm λtm1=>
 M.pure tm1
theorem Acp_:RegEq 73 10 Hh HP_ EH_:={}
def KE_:Rg:=λE call round tm=>
 mv (T.get tm 3) λv5=>
 mv (T.get tm 0) λv6=>
 cN call round 111 [(some v5),(some v6)] λv7=>
 M.pure tm
theorem XL_:RegEq 73 10 Hh HZ_ KE_:={}
def X8:Rg:=λE call round tm=>
 mv (T.get tm 3) λv8=>
 cN call round 112 [(some v8)] λv9=>
 M.bind (oS (T.get tm 2) λa=>oS (some v9) λb=>Ao E 101 a b) λ_=>
 M.pure tm
theorem Ahe_:RegEq 73 10 Hh Nj_ X8:={}
theorem Zf_: ∃k,U2= .code .ret::k:=⟨U2.tail,by kernel_rfl⟩
def KF:Nat:=Ar Try.f32
def Ul:Code:=Try.f32.body.getD .skip
theorem WA:envS.fn.get 32=some Try.f32:=by kernel_rfl
theorem RN_:G1 envS 32 9 KF Ul:=λh=>
 aM WA (h _ (by kernel_rfl))
theorem AiB_:Try.f32.results.toList=[.cell 2 26]:=by kernel_rfl
def X6:List Item:=skim 64 [.code Ul]
def Mf_:=nx X6
def UX:=nx Mf_
def UO:=nx UX
def Ys:Rg:=λE call round tm=>
 M.bind (AI E 26) λv2=>
 setF 2 v2 tm λtm1=>
 M.pure tm1
theorem Yo_:RegEq 32 9 KF X6 Ys:={}
def Dr_:Rg:=λE call round tm=>
 mv (T.get tm 0) λv4=>
 cN call round 73 [(some v4)] λv5=>
 M.bind (AI E 101) λv3=>
 setF 3 v3 tm λtm1=>
 M.bind (oS (some v3) λa=>oS (some v5) λb=>Ao E 101 a b) λ_=>
 M.pure tm1
theorem Vo_:RegEq 32 9 KF Mf_ Dr_:={}
def YW:Rg:=λE call round tm=>
 M.bind (M.on (T.get tm 3) λa=>M.on (some none) λb=>M.on (onO (some (.int .i64 16)) λv=>some (some v)) λc=>AW E 101 a b c) λv6=>
 M.bind (oS (some v6) λa=>Dd E 26 a) λv7=>
 lD E 26 (some v7) λv8=>
 M.bind (oS (T.get tm 2) λa=>oS (some v8) λb=>Ao E 26 a b) λ_=>
 M.pure tm
theorem AlV_:RegEq 32 9 KF UX YW:={}
theorem UR_: ∃k,UO= .code .ret::k:=⟨UO.tail,by kernel_rfl⟩
structure DS where
 st:Sha.St8
 w:List Nat
 n:Nat
def DS.k (d:DS)(b:List Nat):Nat:=Nat.min (64-d.n%64) b.length
def DS.w' (d:DS)(b:List Nat):List Nat:=d.w.take (d.n%64)++(b.take (d.k b)++d.w.drop (d.n%64+d.k b))
def DS.step (d:DS)(b:List Nat):DS:=⟨if d.n%64+d.k b=64 then Sha.next d.st (λj=>(d.w' b).getD j 0)else d.st,d.w' b,d.n+d.k b⟩
def DS.write:Nat->DS->List Nat->DS
 |0,d,_=>d
 |f+1,d,b=>if b.length=0 then d else DS.write f (d.step b) (b.drop (d.k b))
structure Dig (s:St)(D:Nat)(d:DS):Prop where
 made:Own s D 0 (.bool true)
 st:Aa s D 1 (st8V d.st).toList
 w:Aa s D 9 (u8l d.w)
 n:Own s D 73 (.int .i64 (d.n:Nat))
 len:d.w.length=64
 byt:Byt d.w
 ok:d.st.Ok
theorem Dt (r:Sha.St8):(st8V r).toList.length=8:=rfl
theorem Dig.ext0 {F:Nat->Prop}{s s':St}{D:Nat}{d:DS}(h:Dig s D d)(e:Ext F Non s s'):Dig s' D d:=⟨h.made.ext0 e,h.st.ext0 e,h.w.ext0 e,h.n.ext0 e,h.len,h.byt,h.ok⟩
theorem Dig.same {s s':St}{D:Nat}{d:DS}(h:Dig s D d)(hm:s'.mem=s.mem)(hn:s'.next=s.next):Dig s' D d:=
 ⟨h.made.same hm hn,λi v e=>(h.st i v e).same hm hn,λi v e=>(h.w i v e).same hm hn,h.n.same hm hn,h.len,h.byt,h.ok⟩
theorem QC_ {r:Sha.St8}(h:r.Ok):u32s (st8V r).toList=some [r.a,r.b,r.c,r.d,r.e,r.f,r.g,r.h]:=by
 have e: ∀(n:Nat) (l:List Value) (ns:List Nat),n<4294967296->u32s l=some ns->u32s (.int .u32 (n:Int)::l)=some (n::ns):=λn l ns hn hl=>by
  show(match Value.int .u32 (.ofNat n),u32s l with| .int .u32 (.ofNat n),some ns=>bif Nat.blt n 4294967296 then some (n::ns)else none|_,_=>none)=_
  rw[hl]
  simp -implicitDefEqProofs only[Bq hn,cond_true]
 exact e _ _ _ h.a (e _ _ _ h.b (e _ _ _ h.c (e _ _ _ h.d (e _ _ _ h.e (e _ _ _ h.f (e _ _ _ h.g (e _ _ _ h.h rfl)))))))
theorem W.next {s:St}{r:Sha.St8}{b o c:Nat}{l:List Nat}{Q:Value->St->Prop}(hr:r.Ok)(h:Row s b o (u8l l))(hl:l.length=64)(hb:Byt l)
  (q: ∀s1,s1.mem=s.mem->s1.next=s.next->Ext (In b o 64) Non s s1->Q (.agg (st8V (Sha.next r λj=>l.getD j 0))) s1):W (Ey [.agg (st8V r), .slice (some ⟨b,o,none⟩) 64 c]) s Q:=by
 refine W.on (QC_ hr) (W.chk (by decide) (W.bind ?_))
 have h2:l.length=(u8l l).length:=(Av l).symm
 show W (Am.rdL 64 ⟨b,o,none⟩) s _
 rw[<-hl]
 refine W.rdB h λs1 e1 e2 e3=>W.on (P1 hb) ?_
 show W (Ip r l st8M) s1 Q
 rw[KB,Ll]
 rw[hl]at e3
 exact W.pure (q s1 e1 e2 e3)
