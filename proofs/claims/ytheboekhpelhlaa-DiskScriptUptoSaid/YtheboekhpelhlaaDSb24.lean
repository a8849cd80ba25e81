import Derived.Test.YtheboekhpelhlaaDSb23
noncomputable section
namespace Go.Proofs.Ytheboekhpelhlaa.Am
open Go.RowKit
def Cy:Nat:=Ao Try.f4
abbrev P6:Nat:=51
def Lw_:Code:=Try.f4.body.getD .skip
theorem Nb:envS.fn.get 4=some Try.f4:=X
theorem AcT_:G1 envS 4 51 Cy Lw_:=λh=>
 aL Nb (h _ X)
theorem Jm_:Try.f4.results.toList=[.tmp 2]:=X
def Iw_:List Item:=skim 64 [.code Lw_]
def Eq_:=nx Iw_
def Xm:=nx Eq_
def Jp:=nx Xm
def Ra:=nx Jp
def Mv:=bt Ra
def N0:=bf Ra
def Ch_:=nx Mv
def Ov:=nx N0
def QT:=nx Ch_
def QS_:=bt QT
def Va:=bf QT
def HP_:=nx QS_
theorem UZ_:skim 64 Va.tail=Jp:=X
def Cr_:Rg:=λE u r t=>
 sV 2 (.bool false) t
theorem AbJ_:RegEq 4 51 Cy Iw_ Cr_:={}
def Vm:Rg:=λE u r t=>
 sV 3 (.int .i64 0) t
theorem Abi_:RegEq 4 51 Cy Eq_ Vm:={}
def SC_:Rg:=λE u r t=>
 sV 4 (.int .i64 0) t
theorem Xb_:RegEq 4 51 Cy Xm SC_:={}
def HQ:Rg:=λE u r t=>
 mG t 4 λv5=>
 mG t 0 λv6=>
 lL E 22 v6 λv7=>
 bT E .lss 3 5 7 v5 v7 λv8=>
 mv (some v8) λv9=>
 sK v9 true (pG t 4) λv10=>
 sK v9 true (oS (some v10) λa=>oS (some (.int .i64 41)) λb=>Cl.get (aBin E .lss 3 (.tmp 10) (.const (.int .i64 41))) a b) λv11=>
 ae v9 v11 (.bool false) λv12=>
 sF 12 v12 t
theorem GR_:RegEq 4 51 Cy Jp HQ:={}
theorem Kv:Ad Ra=some 12:=X
def XB:RdW:=λE call round tm=>
 PD (T.get tm 3) λp0=>
 PD (T.get tm 0) λp1=>
 PD (T.get tm 4) λp2=>
 ID E 22 (some p1.1) (some p2.1) λp3=>
 FD E 36 4 (some p3.1) λp4=>
 LD E 32 (some p4.1) λp5=>
 LN E .len [32] [(some p5.1)] λp6=>
 BI E .add 3 (.tmp 15) (.tmp 21) (some p0.1) (some p6.1) λp7=>
 PD (T.get tm 0) λp8=>
 PD (T.get tm 4) λp9=>
 ID E 22 (some p8.1) (some p9.1) λp10=>
 FD E 36 2 (some p10.1) λp11=>
 LD E 9 (some p11.1) λp12=>
 LN E .len [9] [(some p12.1)] λp13=>
 BI E .add 3 (.tmp 22) (.tmp 28) (some p7.1) (some p13.1) λp14=>
 PD (T.get tm 0) λp15=>
 PD (T.get tm 4) λp16=>
 ID E 22 (some p15.1) (some p16.1) λp17=>
 FD E 36 3 (some p17.1) λp18=>
 LD E 9 (some p18.1) λp19=>
 LN E .len [9] [(some p19.1)] λp20=>
 BI E .add 3 (.tmp 29) (.tmp 35) (some p14.1) (some p20.1) λp21=>
 fJ [p21,p20,p19,p18,p17,p16,p15,p14,p13,p12,p11,p10,p9,p8,p7,p6,p5,p4,p3,p2,p1,p0] tm
theorem ZZ_:DrawEq 4 51 Cy Mv [0,0,0,6,14,30,62,127,0,0,768,1792,3840,7936,16383,0,0,98304,229376,491520,1015808,2097151,4194303] XB:={}
theorem UT_ (E:Env)(call round:Ag)(x15 x16 x17 x18 x19 x20 x21 x22 x23 x24 x25 x26 x27 x28 x29 x30 x31 x32 x33 x34 x35 x36:Value)(tm:T Value)(s:St):AB call round (AP E Cy 51 (hdC Mv)) [x36,x35,x34,x33,x32,x31,x30,x29,x28,x27,x26,x25,x24,x23,x22,x21,x20,x19,x18,x17,x16,x15] tm s=(M.bind (oS (some x36) λa=>M.pure a) λv3=>setT 3 v3 tm λtm1=>M.pure tm1) s:=X
def OU:Rg:=λE u r t=>
 mG t 0 λv44=>
 lL E 22 v44 λv45=>
 ac E .gtr 45 40 (some v45) λv46=>
 mv (some v46) λv47=>
 sK v47 false (pG t 3) λv48=>
 sK v47 false (oS (some v48) λa=>oS (some (.int .i64 4000)) λb=>Cl.get (aBin E .gtr 3 (.tmp 48) (.const (.int .i64 4000))) a b) λv49=>
 ae v47 (.bool true) v49 λv50=>
 sV 2 v50 t
theorem Apg_:RegEq 4 51 Cy N0 OU:={}
def Ts:Rg:=λE u r t=>
 mG t 0 λv37=>
 mG t 4 λv38=>
 iD E 22 (some v37) (some v38) λv39=>
 fD E 36 5 (some v39) λv40=>
 lD E 34 (some v40) λv41=>
 lL E 34 v41 λv42=>
 ac E .gtr 42 30 (some v42) λv43=>
 sF 43 v43 t
theorem Aga_:RegEq 4 51 Cy Ch_ Ts:={}
theorem Aby_: ∃k,Ov= .code .ret::k:=⟨Ov.tail,X⟩
theorem As_:Ad QT=some 43:=X
def Y2:Rg:=λE u r t=>
 sV 2 (.bool true) t
theorem TZ_:RegEq 4 51 Cy QS_ Y2:={}
def JB_:Rg:=λE u r t=>
 mG t 4 λv13=>
 ac E .add 13 1 (some v13) λv14=>
 sV 4 v14 t
theorem Afb_:RegEq 4 51 Cy Va JB_:={}
theorem Aoy_: ∃k,HP_= .code .ret::k:=⟨HP_.tail,X⟩
def BY:Nat:=Ao Try.f9
def Dt_:Code:=Try.f9.body.getD .skip
theorem Em:envS.fn.get 9=some Try.f9:=X
theorem ZE_:G3 envS 9 60 BY Dt_:=λh=>
 aL Em (h _ X X X)
theorem EJ:Try.f9.results.toList=[.tmp 6]:=X
def Ha_:List Item:=skim 64 [.code Dt_]
def Zx:=nx Ha_
def Rc_:=nx Zx
def SP:=nx Rc_
def RC_:=bt SP
def Dz_:=bf SP
def E4:=nx RC_
def Rp:=nx Dz_
def MW_:=bt Rp
def EH_:=bf Rp
theorem AmK_:skim 64 MW_.tail=E4:=X
def Pk:=nx EH_
def XT:=bt Pk
def Hg_:=bf Pk
theorem Afx_:skim 64 XT.tail=E4:=X
def Sh:=nx Hg_
def Vb:=bt Sh
def FU_:=bf Sh
theorem Abu_:skim 64 Vb.tail=E4:=X
def NF:=nx FU_
def Cx_:=bt NF
def VG:=bf NF
theorem AqN_:skim 64 Cx_.tail=E4:=X
def Me:=nx VG
def X8:=bt Me
def OH_:=bf Me
theorem WK_:skim 64 X8.tail=E4:=X
def Qw:=nx OH_
def Iy_:=bt Qw
def Pn_:=bf Qw
theorem Tu_:skim 64 Iy_.tail=E4:=X
def CJ_:=nx Pn_
def Lx_:Rg:=λE u r t=>
 M.bind (oS (T.get t 1) λa=>kBox a) λv4=>
 setF 4 v4 t λt1=>
 sV 6 (.int .i64 0) t1
theorem Agm_:RegEq 9 60 BY Ha_ Lx_:={}
def Fk_:Rg:=λE u r t=>
 fD E 36 0 (T.get t 4) λv7=>
 lD E 3 (some v7) λv8=>
 sF 8 v8 t
theorem AlA_:RegEq 9 60 BY Zx Fk_:={}
def Ir_:Rg:=λE u r t=>
 ac E .eql 8 3 (T.get t 8) λv10=>
 sV 9 v10 t
theorem AmP_:RegEq 9 60 BY Rc_ Ir_:={}
theorem BA_:Ad SP=some 9:=X
def Fq_:Rg:=λE u r t=>
 mG t 0 λv11=>
 fD E 36 2 (T.get t 4) λv12=>
 lD E 9 (some v12) λv13=>
 cN u r 22 [(some v11),(some v13)] λv14=>
 sV 6 v14 t
theorem TC_:RegEq 9 60 BY RC_ Fq_:={}
def Mc_:Rg:=λE u r t=>
 ac E .eql 8 4 (T.get t 8) λv16=>
 sV 15 v16 t
theorem Aio_:RegEq 9 60 BY Dz_ Mc_:={}
theorem FI: ∃k,E4= .code .ret::k:=⟨E4.tail,X⟩
theorem Er_:Ad Rp=some 15:=X
def HN_:Rg:=λE u r t=>
 mG t 0 λv17=>
 fD E 36 2 (T.get t 4) λv18=>
 lD E 9 (some v18) λv19=>
 fD E 36 3 (T.get t 4) λv20=>
 lD E 9 (some v20) λv21=>
 cN u r 23 [(some v17),(some v19),(some v21)] λv22=>
 sV 6 v22 t
theorem Zb_:RegEq 9 60 BY MW_ HN_:={}
def US:Rg:=λE u r t=>
 ac E .eql 8 5 (T.get t 8) λv24=>
 sV 23 v24 t
theorem TI_:RegEq 9 60 BY EH_ US:={}
theorem UX:Ad Pk=some 23:=X
def ZK:Rg:=λE u r t=>
 mG t 0 λv25=>
 fD E 36 2 (T.get t 4) λv26=>
 lD E 9 (some v26) λv27=>
 cN u r 24 [(some v25),(some v27)] λv28=>
 sV 6 v28 t
theorem AfY_:RegEq 9 60 BY XT ZK:={}
def X6:Rg:=λE u r t=>
 ac E .eql 8 6 (T.get t 8) λv30=>
 sV 29 v30 t
theorem ApB_:RegEq 9 60 BY Hg_ X6:={}
theorem Wa:Ad Sh=some 29:=X
def V9:Rg:=λE u r t=>
 mG t 0 λv31=>
 fD E 36 1 (T.get t 4) λv32=>
 lD E 3 (some v32) λv33=>
 cN u r 25 [(some v31),(some v33)] λv34=>
 sV 6 v34 t
theorem AkO_:RegEq 9 60 BY Vb V9:={}
def Mx_:Rg:=λE u r t=>
 ac E .eql 8 7 (T.get t 8) λv36=>
 sV 35 v36 t
theorem Agz_:RegEq 9 60 BY FU_ Mx_:={}
theorem YI:Ad NF=some 35:=X
def Gd_:Rg:=λE u r t=>
 mG t 0 λv37=>
 fD E 36 5 (T.get t 4) λv38=>
 lD E 34 (some v38) λv39=>
 cN u r 26 [(some v37),(some v39)] λv40=>
 sV 6 v40 t
theorem WO_:RegEq 9 60 BY Cx_ Gd_:={}
def Qt_:Rg:=λE u r t=>
 ac E .eql 8 8 (T.get t 8) λv42=>
 sV 41 v42 t
theorem Aim_:RegEq 9 60 BY VG Qt_:={}
theorem Qc_:Ad Me=some 41:=X
def Om_:Rg:=λE u r t=>
 mG t 0 λv43=>
 fD E 36 2 (T.get t 4) λv44=>
 lD E 9 (some v44) λv45=>
 fD E 36 1 (T.get t 4) λv46=>
 lD E 3 (some v46) λv47=>
 cN u r 27 [(some v43),(some v45),(some v47)] λv48=>
 sV 6 v48 t
theorem Vj_:RegEq 9 60 BY X8 Om_:={}
def VK:Rg:=λE u r t=>
 ac E .eql 8 9 (T.get t 8) λv50=>
 sV 49 v50 t
theorem Aeg_:RegEq 9 60 BY OH_ VK:={}
theorem Xe:Ad Qw=some 49:=X
def AE_:Rg:=λE u r t=>
 mG t 0 λv51=>
 fD E 36 1 (T.get t 4) λv52=>
 lD E 3 (some v52) λv53=>
 cN u r 21 [(some v51),(some v53)] λv54=>
 sV 6 v54 t
theorem AiW_:RegEq 9 60 BY Iy_ AE_:={}
def TJ:Rg:=λE u r t=>
 mG t 0 λv55=>
 fD E 36 2 (T.get t 4) λv56=>
 lD E 9 (some v56) λv57=>
 mG t 2 λv58=>
 cN u r 19 [(some v55),(some v57),(some v58)] λv59=>
 sV 6 v59 t
theorem SY_:RegEq 9 60 BY Pn_ TJ:={}
theorem AaV_: ∃k,CJ_= .code .ret::k:=⟨CJ_.tail,X⟩
def BO:Nat:=Ao Try.f10
def Ng_:Code:=Try.f10.body.getD .skip
theorem El:envS.fn.get 10=some Try.f10:=X
theorem AfT_:G2 envS 10 59 BO Ng_:=λh=>
 aL El (h _ X X)
theorem Fi:Try.f10.results.toList=[.tmp 4]:=X
def JW_:List Item:=skim 64 [.code Ng_]
def Eb_:=nx JW_
def Hj_:=nx Eb_
def Ml:=nx Hj_
def Tq:=bt Ml
def RO_:=bf Ml
def EK:=nx Tq
def Ps:=nx RO_
def YA:=bt Ps
def Fg_:=bf Ps
theorem AgL_:skim 64 YA.tail=EK:=X
def Mx:=nx Fg_
def ZQ:=bt Mx
def S3:=bf Mx
theorem Adz_:skim 64 ZQ.tail=EK:=X
def MI:=nx S3
def Jq_:=bt MI
def Ve:=bf MI
theorem AlR_:skim 64 Jq_.tail=EK:=X
def Sg:=nx Ve
def XZ:=bt Sg
def X1:=bf Sg
theorem Ani_:skim 64 XZ.tail=EK:=X
def Rc:=nx X1
def Ji_:=bt Rc
def BJ_:=bf Rc
theorem AqS_:skim 64 Ji_.tail=EK:=X
def NP:=nx BJ_
def ZH:=bt NP
def S4:=bf NP
theorem Yc_:skim 64 ZH.tail=EK:=X
def Pu_:=nx S4
def AD_:Rg:=λE u r t=>
 M.bind (oS (T.get t 1) λa=>kBox a) λv3=>
 setF 3 v3 t λt1=>
 sV 4 (.int .i64 0) t1
theorem Ahn_:RegEq 10 59 BO JW_ AD_:={}
def Dc_:Rg:=λE u r t=>
 fD E 36 0 (T.get t 3) λv5=>
 lD E 3 (some v5) λv6=>
 sF 6 v6 t
theorem AeB_:RegEq 10 59 BO Eb_ Dc_:={}
def Ip_:Rg:=λE u r t=>
 ac E .eql 6 3 (T.get t 6) λv8=>
 sV 7 v8 t
theorem AhR_:RegEq 10 59 BO Hj_ Ip_:={}
theorem Lf_:Ad Ml=some 7:=X
def Uj:Rg:=λE u r t=>
 mG t 0 λv9=>
 fD E 36 2 (T.get t 3) λv10=>
 lD E 9 (some v10) λv11=>
 cN u r 28 [(some v9),(some v11)] λv12=>
 sV 4 v12 t
theorem UV_:RegEq 10 59 BO Tq Uj:={}
def BM_:Rg:=λE u r t=>
 ac E .eql 6 4 (T.get t 6) λv14=>
 sV 13 v14 t
theorem AeL_:RegEq 10 59 BO RO_ BM_:={}
theorem Gp: ∃k,EK= .code .ret::k:=⟨EK.tail,X⟩
theorem Bb_:Ad Ps=some 13:=X
def W5:Rg:=λE u r t=>
 mG t 0 λv15=>
 fD E 36 2 (T.get t 3) λv16=>
 lD E 9 (some v16) λv17=>
 fD E 36 3 (T.get t 3) λv18=>
 lD E 9 (some v18) λv19=>
 cN u r 29 [(some v15),(some v17),(some v19)] λv20=>
 sV 4 v20 t
theorem Aki_:RegEq 10 59 BO YA W5:={}
def SF_:Rg:=λE u r t=>
 ac E .eql 6 5 (T.get t 6) λv22=>
 sV 21 v22 t
theorem AcN_:RegEq 10 59 BO Fg_ SF_:={}
theorem Yb:Ad Mx=some 21:=X
def Ys:Rg:=λE u r t=>
 mG t 0 λv23=>
 fD E 36 2 (T.get t 3) λv24=>
 lD E 9 (some v24) λv25=>
 cN u r 30 [(some v23),(some v25)] λv26=>
 sV 4 v26 t
theorem ZM_:RegEq 10 59 BO ZQ Ys:={}
def SE_:Rg:=λE u r t=>
 ac E .eql 6 6 (T.get t 6) λv28=>
 sV 27 v28 t
theorem AlX_:RegEq 10 59 BO S3 SE_:={}
theorem MQ_:Ad MI=some 27:=X
def ID_:Rg:=λE u r t=>
 mG t 0 λv29=>
 fD E 36 1 (T.get t 3) λv30=>
 lD E 3 (some v30) λv31=>
 cN u r 31 [(some v29),(some v31)] λv32=>
 sV 4 v32 t
theorem Aqw_:RegEq 10 59 BO Jq_ ID_:={}
def BL_:Rg:=λE u r t=>
 ac E .eql 6 7 (T.get t 6) λv34=>
 sV 33 v34 t
theorem Anh_:RegEq 10 59 BO Ve BL_:={}
theorem ZN:Ad Sg=some 33:=X
def CS_:Rg:=λE u r t=>
 mG t 0 λv35=>
 fD E 36 5 (T.get t 3) λv36=>
 lD E 34 (some v36) λv37=>
 cN u r 32 [(some v35),(some v37)] λv38=>
 sV 4 v38 t
theorem Aom_:RegEq 10 59 BO XZ CS_:={}
def Do_:Rg:=λE u r t=>
 ac E .eql 6 8 (T.get t 6) λv40=>
 sV 39 v40 t
theorem Acz_:RegEq 10 59 BO X1 Do_:={}
theorem LT_:Ad Rc=some 39:=X
def CG_:Rg:=λE u r t=>
 mG t 0 λv41=>
 fD E 36 2 (T.get t 3) λv42=>
 lD E 9 (some v42) λv43=>
 fD E 36 1 (T.get t 3) λv44=>
 lD E 3 (some v44) λv45=>
 cN u r 33 [(some v41),(some v43),(some v45)] λv46=>
 sV 4 v46 t
theorem TB_:RegEq 10 59 BO Ji_ CG_:={}
def OG_:Rg:=λE u r t=>
 ac E .eql 6 9 (T.get t 6) λv48=>
 sV 47 v48 t
theorem AnF_:RegEq 10 59 BO BJ_ OG_:={}
theorem Ij_:Ad NP=some 47:=X
def UF:Rg:=λE u r t=>
 mG t 0 λv49=>
 fD E 36 1 (T.get t 3) λv50=>
 lD E 3 (some v50) λv51=>
 cN u r 34 [(some v49),(some v51)] λv52=>
 sV 4 v52 t
theorem Anu_:RegEq 10 59 BO ZH UF:={}
def XC:Rg:=λE u r t=>
 mG t 0 λv53=>
 fD E 36 2 (T.get t 3) λv54=>
 lD E 9 (some v54) λv55=>
 fD E 36 4 (T.get t 3) λv56=>
 lD E 32 (some v56) λv57=>
 cN u r 35 [(some v53),(some v55),(some v57)] λv58=>
 sV 4 v58 t
theorem Xe_:RegEq 10 59 BO S4 XC:={}
theorem Xp_: ∃k,Pu_= .code .ret::k:=⟨Pu_.tail,X⟩
def Cm:Nat:=Ao Try.f14
abbrev HW_:Nat:=104
def XI:Code:=Try.f14.body.getD .skip
theorem VX:envS.fn.get 14=some Try.f14:=X
theorem AhG_:G3 envS 14 104 Cm XI:=λh=>
 aL VX (h _ X X X)
theorem Ahs_:Try.f14.results.toList=[.tmp 6]:=X
def RU_:List Item:=skim 64 [.code XI]
def Sa:=nx RU_
def Tv:=nx Sa
def Hq_:=bf Tv
def Lp:=nx Hq_
def OW:=nx Lp
def QF_:=bt OW
def Vf:=bf OW
def Un:=nx QF_
def EJ_:=nx Vf
def MF_:=nx Un
def LV:=nx MF_
def BP_:=nx LV
def IP_:=bf BP_
def Jx_:=nx IP_
theorem Afl_:skim 64 Jx_.tail=Lp:=X
def SV:Rg:=λE u r t=>
 sV 6 (.bool false) t
theorem Aou_:RegEq 14 104 Cm RU_ SV:={}
def NU_:RdW:=λE call round tm=>
 PD (T.get tm 0) λp0=>
 CN call round 37 [(some p0.1)] λp1=>
 PD (T.get tm 1) λp2=>
 M.bind (apartO (oS (some p2.1) λa=>kNil a)) λp3=>
 FD E 60 5 (some p3.1) λp4=>
 LD E 4 (some p4.1) λp5=>
 M.bind (apartO (oS (some p5.1) λa=>kUn E.P .not a)) λp6=>
 BI E .neq 4 (.tmp 14) (.tmp 19) (some p1.1) (some p6.1) λp7=>
 PD (some p7.1) λp8=>
 SK p8.1 false (oS (T.get tm 0) λa=>M.pure a) λp9=>
 SK p8.1 false (M.on (some (.func (.func 38) #[] #[])) λf=>M.on (seqO [(some p9.1)]) λl=>AU call round f l) λp10=>
 SK p8.1 false (oS (T.get tm 1) λa=>M.pure a) λp11=>
 SK p8.1 false (oS (some p11.1) λa=>kNil a) λp12=>
 SK p8.1 false (oS (some p12.1) λa=>kFld E 60 a 2) λp13=>
 SK p8.1 false (oS (some p13.1) λa=>Bd E 3 a) λp14=>
 SK p8.1 false (oS (some p10.1) λa=>oS (some p14.1) λb=>Cl.get (aBin E .neq 3 (.tmp 23) (.tmp 27)) a b) λp15=>
 M.bind (apartO (M.on (some p8.1) λa=>M.on (some (.bool true)) λb=>M.on (some p15.1) λc=>Au a b c)) λp16=>
 PD (some p16.1) λp17=>
 SK p17.1 false (oS (T.get tm 0) λa=>M.pure a) λp18=>
 SK p17.1 false (M.on (some (.func (.func 20) #[] #[])) λf=>M.on (seqO [(some p18.1)]) λl=>AU call round f l) λp19=>
 SK p17.1 false (oS (T.get tm 1) λa=>M.pure a) λp20=>
 SK p17.1 false (M.on (some (.func (.func 39) #[] #[])) λf=>M.on (seqO [(some p20.1)]) λl=>AU call round f l) λp21=>
 SK p17.1 false (oS (some p19.1) λa=>oS (some p21.1) λb=>Cl.get (aBin E .neq 3 (.tmp 32) (.tmp 34)) a b) λp22=>
 M.bind (apartO (M.on (some p17.1) λa=>M.on (some (.bool true)) λb=>M.on (some p22.1) λc=>Au a b c)) λp23=>
 PD (some p23.1) λp24=>
 SK p24.1 false (oS (T.get tm 0) λa=>M.pure a) λp25=>
 SK p24.1 false (oS (T.get tm 2) λa=>M.pure a) λp26=>
 SK p24.1 false (M.on (some (.func (.func 41) #[] #[])) λf=>M.on (seqO [(some p25.1),(some p26.1)]) λl=>AU call round f l) λp27=>
 SK p24.1 false (oS (T.get tm 1) λa=>M.pure a) λp28=>
 SK p24.1 false (oS (T.get tm 2) λa=>M.pure a) λp29=>
 SK p24.1 false (M.on (some (.func (.func 42) #[] #[])) λf=>M.on (seqO [(some p28.1),(some p29.1)]) λl=>AU call round f l) λp30=>
 SK p24.1 false (M.on (some (.func (.func 40) #[] #[])) λf=>M.on (seqO [(some p27.1),(some p30.1)]) λl=>AU call round f l) λp31=>
 SK p24.1 false (oS (some p31.1) λa=>kUn E.P .not a) λp32=>
 M.bind (apartO (M.on (some p24.1) λa=>M.on (some (.bool true)) λb=>M.on (some p32.1) λc=>Au a b c)) λp33=>
 PD (some p33.1) λp34=>
 SK p34.1 false (oS (T.get tm 0) λa=>M.pure a) λp35=>
 SK p34.1 false (M.on (some (.func (.func 41) #[] #[])) λf=>M.on (seqO [(some p35.1),(some (.string {data:= #[]}))]) λl=>AU call round f l) λp36=>
 SK p34.1 false (oS (T.get tm 1) λa=>M.pure a) λp37=>
 SK p34.1 false (M.on (some (.func (.func 42) #[] #[])) λf=>M.on (seqO [(some p37.1),(some (.string {data:= #[]}))]) λl=>AU call round f l) λp38=>
 SK p34.1 false (M.on (some (.func (.func 40) #[] #[])) λf=>M.on (seqO [(some p36.1),(some p38.1)]) λl=>AU call round f l) λp39=>
 SK p34.1 false (oS (some p39.1) λa=>kUn E.P .not a) λp40=>
 fJ [p40,p39,p38,p37,p36,p35,p34,p33,p32,p31,p30,p29,p28,p27,p26,p25,p24,p23,p22,p21,p20,p19,p18,p17,p16,p15,p14,p13,p12,p11,p10,p9,p8,p7,p6,p5,p4,p3,p2,p1,p0] tm
theorem ZV_:DrawEq 14 104 Cm Sa [0,1,0,4,12,28,60,127,255,511,1023,511,2559,6655,14847,32767,65535,131071,262143,524287,262143,2097151,4194303,8388607,16777215,33554431,33554431,134217727,33554431,33554431,1073741823,2147483647,4294967295,8589934591,17179869183,34359738367,68719476735,34359738367,274877906943,549755813887,1099511627775,2199023255551] NU_:={}
theorem Abj_ (E:Env)(call round:Ag)(x13 x14 x15 x16 x17 x18 x19 x20 x21 x22 x23 x24 x25 x26 x27 x28 x29 x30 x31 x32 x33 x34 x35 x36 x37 x38 x39 x40 x41 x42 x43 x44 x45 x46 x47 x48 x49 x50 x51 x52 x53:Value)(tm:T Value)(s:St):AB call round (AP E Cm 104 (hdC Sa)) [x53,x52,x51,x50,x49,x48,x47,x46,x45,x44,x43,x42,x41,x40,x39,x38,x37,x36,x35,x34,x33,x32,x31,x30,x29,x28,x27,x26,x25,x24,x23,x22,x21,x20,x19,x18,x17,x16,x15,x14,x13] tm s=(M.bind (M.on (some x47) λa=>M.on (some (.bool true)) λb=>M.on (some x53) λc=>Au a b c) λv54=>setT 54 v54 tm λtm1=>M.pure tm1) s:=X
theorem Aef_:Ad Tv=some 54:=X
def ZT:Rg:=λE u r t=>
 sV 7 (.int .i64 0) t
theorem AlK_:RegEq 14 104 Cm Hq_ ZT:={}
def Sk:Rg:=λE u r t=>
 mG t 7 λv55=>
 mG t 1 λv56=>
 kN v56 λv57=>
 fD E 60 0 (some v57) λv58=>
 lD E 58 (some v58) λv59=>
 lL E 58 v59 λv60=>
 bT E .lss 3 55 60 v55 v60 λv61=>
 sF 61 v61 t
theorem Kp_:RegEq 14 104 Cm Lp Sk:={}
theorem PC_:Ad OW=some 61:=X
def IY_:Rg:=λE u r t=>
 mG t 1 λv64=>
 kN v64 λv65=>
 fD E 60 0 (some v65) λv66=>
 lD E 58 (some v66) λv67=>
 mG t 7 λv68=>
 iD E 58 (some v67) (some v68) λv69=>
 fD E 69 0 (some v69) λv70=>
 lD E 9 (some v70) λv71=>
 sV 8 v71 t
theorem AnG_:RegEq 14 104 Cm QF_ IY_:={}
def Ym:Rg:=λE u r t=>
 sV 6 (.bool true) t
theorem AcZ_:RegEq 14 104 Cm Vf Ym:={}
def Qo_:Rg:=λE u r t=>
 mG t 0 λv73=>
 mG t 8 λv74=>
 cN u r 43 [(some v73),(some v74)] λv75=>
 mv (some v75) λv72=>
 eX 0 (some v72) λv76=>
 eX 1 (some v72) λv77=>
 mv (some v76) λv9=>
 setF 9 v9 t λt1=>
 sV 10 v77 t1
theorem AfM_:RegEq 14 104 Cm Un Qo_:={}
theorem Xo_: ∃k,EJ_= .code .ret::k:=⟨EJ_.tail,X⟩
def Rt:Rg:=λE u r t=>
 mG t 1 λv79=>
 mG t 8 λv80=>
 cN u r 44 [(some v79),(some v80)] λv81=>
 mv (some v81) λv78=>
 eX 0 (some v78) λv82=>
 eX 1 (some v78) λv83=>
 mv (some v82) λv11=>
 setF 11 v11 t λt1=>
 sV 12 v83 t1
theorem VV:RegEq 14 104 Cm MF_ Rt:={}
def Ub:Rg:=λE u r t=>
 mG t 10 λv84=>
 mG t 12 λv85=>
 bT E .neq 26 84 85 v84 v85 λv86=>
 mv (some v86) λv87=>
 sK v87 false (pG t 9) λv88=>
 sK v87 false (pG t 11) λv89=>
 sK v87 false (M.on (some (.func (.func 36) #[] #[])) λf=>M.on (seqO [(some v88),(some v89)]) λl=>AU u r f l) λv90=>
 sK v87 false (oS (some v90) λa=>kUn E.P .not a) λv91=>
 ae v87 (.bool true) v91 λv92=>
 mv (some v92) λv93=>
 sK v93 false (pG t 0) λv94=>
 sK v93 false (pG t 8) λv95=>
 sK v93 false (M.on (some (.func (.func 15) #[] #[])) λf=>M.on (seqO [(some v94),(some v95)]) λl=>AU u r f l) λv96=>
 sK v93 false (pG t 1) λv97=>
 sK v93 false (pG t 8) λv98=>
 sK v93 false (M.on (some (.func (.func 16) #[] #[])) λf=>M.on (seqO [(some v97),(some v98)]) λl=>AU u r f l) λv99=>
 sK v93 false (oS (some v96) λa=>oS (some v99) λb=>Cl.get (aBin E .neq 3 (.tmp 96) (.tmp 99)) a b) λv100=>
 ae v93 (.bool true) v100 λv101=>
 sF 101 v101 t
theorem XX_:RegEq 14 104 Cm LV Ub:={}
theorem AqE_:Ad BP_=some 101:=X
def Oa_:Rg:=λE u r t=>
 mG t 9 λv102=>
 cN u r 13 [(some v102)] λv103=>
 M.pure t
theorem AbL_:RegEq 14 104 Cm IP_ Oa_:={}
def WG:Rg:=λE u r t=>
 mG t 7 λv62=>
 ac E .add 62 1 (some v62) λv63=>
 sV 7 v63 t
theorem AjG_:RegEq 14 104 Cm Jx_ WG:={}
def Bo:Nat:=Ao Try.f3
abbrev IZ:Nat:=120
def Ik_:Code:=Try.f3.body.getD .skip
theorem J9:envS.fn.get 3=some Try.f3:=X
theorem AfC_:G3 envS 3 120 Bo Ik_:=λh=>
 aL J9 (h _ X X X)
theorem O4:Try.f3.results.toList=[.tmp 6]:=X
def XE:List Item:=skim 64 [.code Ik_]
def IL_:=nx XE
def Lb:=nx IL_
def PE_:=bt Lb
def ZY:=bf Lb
def Ay_:=nx PE_
def Cb_:=nx ZY
def Ih_:=nx Cb_
def ZW:=nx Ih_
def S1:=bf ZW
def Pz:=nx S1
def QQ_:=bt Pz
def Os_:=bf Pz
def W6:=nx QQ_
def Xb:=nx Os_
def Dj_:=bf Xb
def Ks:=nx Dj_
def OT:=nx Ks
def YB:=bt OT
def W7:=bf OT
def IR_:=nx YB
def Wo:=nx W7
def Ko:=nx IR_
def Mt:=nx Ko
def Cg_:=nx Mt
def Au_:=bf Cg_
def Ot_:=nx Au_
def Ri:=nx Ot_
def BF_:=bf Ri
theorem AlP_:skim 64 BF_.tail=Ks:=X
def WQ:Rg:=λE u r t=>
 sV 6 (.bool false) t
theorem AlY_:RegEq 3 120 Bo XE WQ:={}
def Ll_:Rg:=λE u r t=>
 mG t 1 λv16=>
 cN u r 4 [(some v16)] λv17=>
 mv (some v17) λv18=>
 sK v18 false (pG t 2) λv19=>
 sK v18 false (oS (seqO [(some v19)]) λl=>AH E .len [9] l) λv20=>
 sK v18 false (oS (some v20) λa=>oS (some (.int .i64 100)) λb=>Cl.get (aBin E .gtr 3 (.tmp 20) (.const (.int .i64 100))) a b) λv21=>
 ae v18 (.bool true) v21 λv22=>
 mv (some v22) λv23=>
 sK v23 false (pG t 0) λv24=>
 sK v23 false (oS (some v24) λa=>oS (some (.int .i64 5000)) λb=>Cl.get (aBin E .gtr 3 (.tmp 24) (.const (.int .i64 5000))) a b) λv25=>
 ae v23 (.bool true) v25 λv26=>
 sF 26 v26 t
theorem Adt_:RegEq 3 120 Bo IL_ Ll_:={}
theorem Xq:Ad Lb=some 26:=X
def Hp_:Rg:=λE u r t=>
 cN u r 5 [] λv27=>
 sV 6 v27 t
theorem Xw_:RegEq 3 120 Bo PE_ Hp_:={}
def FI_:Rg:=λE u r t=>
 mG t 0 λv29=>
 cN u r 6 [(some v29)] λv30=>
 mv (some v30) λv28=>
 eX 0 (some v28) λv31=>
 eX 1 (some v28) λv32=>
 mv (some v31) λv7=>
 setF 7 v7 t λt1=>
 sV 8 v32 t1
theorem AjV_:RegEq 3 120 Bo ZY FI_:={}
theorem Tz_: ∃k,Ay_= .code .ret::k:=⟨Ay_.tail,X⟩
def Ql:Rg:=λE u r t=>
 mG t 0 λv34=>
 cN u r 7 [(some v34)] λv35=>
 mv (some v35) λv33=>
 eX 0 (some v33) λv36=>
 eX 1 (some v33) λv37=>
 mv (some v36) λv9=>
 setF 9 v9 t λt1=>
 sV 10 v37 t1
theorem S6:RegEq 3 120 Bo Cb_ Ql:={}
def Qs:Rg:=λE u r t=>
 mG t 8 λv38=>
 mG t 10 λv39=>
 bT E .neq 26 38 39 v38 v39 λv40=>
 sF 40 v40 t
theorem We:RegEq 3 120 Bo Ih_ Qs:={}
theorem SZ:Ad ZW=some 40:=X
def Oi:Rg:=λE u r t=>
 mG t 9 λv41=>
 ab E .eql 29 41 (.pointer none) (some v41) λv42=>
 sF 42 v42 t
theorem CY_:RegEq 3 120 Bo S1 Oi:={}
theorem ME_:Ad Pz=some 42:=X
def Qm_:Rg:=λE u r t=>
 mG t 7 λv43=>
 ab E .eql 25 43 (.pointer none) (some v43) λv44=>
 mv (some v44) λv45=>
 sK v45 true (M.on (some (.func (.func 5) #[] #[])) λf=>M.on (seqO []) λl=>AU u r f l) λv46=>
 ae v45 v46 (.bool false) λv47=>
 sV 6 v47 t
theorem UR_:RegEq 3 120 Bo QQ_ Qm_:={}
def Rv_:Rg:=λE u r t=>
 mG t 7 λv48=>
 ab E .eql 25 48 (.pointer none) (some v48) λv49=>
 sF 49 v49 t
theorem SK_:RegEq 3 120 Bo Os_ Rv_:={}
theorem Aec_: ∃k,W6= .code .ret::k:=⟨W6.tail,X⟩
theorem AaG_:Ad Xb=some 49:=X
def Wn:Rg:=λE u r t=>
 sV 11 (.int .i64 0) t
theorem AcR_:RegEq 3 120 Bo Dj_ Wn:={}
def P0:Rg:=λE u r t=>
 mG t 11 λv50=>
 mG t 1 λv51=>
 lL E 22 v51 λv52=>
 bT E .lss 3 50 52 v50 v52 λv53=>
 sF 53 v53 t
theorem Y9:RegEq 3 120 Bo Ks P0:={}
theorem U8:Ad OT=some 53:=X
def MN_:Rg:=λE u r t=>
 mG t 1 λv56=>
 mG t 11 λv57=>
 iD E 22 (some v56) (some v57) λv58=>
 fD E 36 4 (some v58) λv59=>
 lD E 32 (some v59) λv60=>
 cN u r 8 [(some v60)] λv61=>
 sV 12 v61 t
theorem Yf_:RegEq 3 120 Bo YB MN_:={}
def CA_:Rg:=λE u r t=>
 cN u r 5 [] λv119=>
 sV 6 v119 t
theorem AaN_:RegEq 3 120 Bo W7 CA_:={}
def GY_:Rg:=λE u r t=>
 M.bind (oS (seqP []) λps=>BU E 34 0 ps) λv62=>
 mG t 1 λv63=>
 mG t 11 λv64=>
 iD E 22 (some v63) (some v64) λv65=>
 fD E 36 5 (some v65) λv66=>
 lD E 34 (some v66) λv67=>
 lN E .append [34,34] [(some v62),(some v67)] λv68=>
 sV 13 v68 t
theorem AjJ_:RegEq 3 120 Bo IR_ GY_:={}
theorem WQ_: ∃k,Wo= .code .ret::k:=⟨Wo.tail,X⟩
def If_:RdW:=λE call round tm=>
 PD (T.get tm 7) λp0=>
 PD (T.get tm 1) λp1=>
 PD (T.get tm 11) λp2=>
 ID E 22 (some p1.1) (some p2.1) λp3=>
 LD E 36 (some p3.1) λp4=>
 PD (T.get tm 12) λp5=>
 CN call round 9 [(some p0.1),(some p4.1),(some p5.1)] λp6=>
 PD (T.get tm 9) λp7=>
 PD (T.get tm 1) λp8=>
 PD (T.get tm 11) λp9=>
 ID E 22 (some p8.1) (some p9.1) λp10=>
 LD E 36 (some p10.1) λp11=>
 CN call round 10 [(some p7.1),(some p11.1)] λp12=>
 PD (some p6.1) λp13=>
 setT 14 p13.1 tm λtm1=>
 fJ [p13,p12,p11,p10,p9,p8,p7,p6,p5,p4,p3,p2,p1,p0] tm1
theorem VC_:DrawEq 3 120 Bo Ko [0,0,0,6,14,0,63,0,0,0,768,1792,4095,8191,16383] If_:={}
theorem UP_ (E:Env)(call round:Ag)(x69 x70 x71 x72 x73 x74 x75 x76 x77 x78 x79 x80 x81 x14:Value)(tm:T Value)(s:St):AB call round (AP E Bo 120 (hdC Ko)) [x14,x81,x80,x79,x78,x77,x76,x75,x74,x73,x72,x71,x70,x69] tm s=(M.bind (oS (some x81) λa=>M.pure a) λv15=>setT 15 v15 tm λtm1=>M.pure tm1) s:=X
def Bw_:Rg:=λE u r t=>
 mG t 14 λv82=>
 mG t 15 λv83=>
 bT E .neq 26 82 83 v82 v83 λv84=>
 mv (some v84) λv85=>
 sK v85 false (pG t 12) λv86=>
 sK v85 false (pG t 1) λv87=>
 sK v85 false (pG t 11) λv88=>
 sK v85 false (oS (some v87) λa=>oS (some v88) λb=>B8 E 22 a b) λv89=>
 sK v85 false (oS (some v89) λa=>kFld E 36 a 4) λv90=>
 sK v85 false (oS (some v90) λa=>Bd E 32 a) λv91=>
 sK v85 false (M.on (some (.func (.func 11) #[] #[])) λf=>M.on (seqO [(some v86),(some v91)]) λl=>AU u r f l) λv92=>
 sK v85 false (oS (some v92) λa=>kUn E.P .not a) λv93=>
 ae v85 (.bool true) v93 λv94=>
 mv (some v94) λv95=>
 sK v95 false (pG t 13) λv96=>
 sK v95 false (pG t 1) λv97=>
 sK v95 false (pG t 11) λv98=>
 sK v95 false (oS (some v97) λa=>oS (some v98) λb=>B8 E 22 a b) λv99=>
 sK v95 false (oS (some v99) λa=>kFld E 36 a 5) λv100=>
 sK v95 false (oS (some v100) λa=>Bd E 34 a) λv101=>
 sK v95 false (M.on (some (.func (.func 12) #[] #[])) λf=>M.on (seqO [(some v96),(some v101)]) λl=>AU u r f l) λv102=>
 sK v95 false (oS (some v102) λa=>kUn E.P .not a) λv103=>
 ae v95 (.bool true) v103 λv104=>
 sF 104 v104 t
theorem Aml_:RegEq 3 120 Bo Mt Bw_:={}
theorem Aii_:Ad Cg_=some 104:=X
def Y5:Rg:=λE u r t=>
 mG t 12 λv105=>
 cN u r 13 [(some v105)] λv106=>
 M.pure t
theorem Xz_:RegEq 3 120 Bo Au_ Y5:={}
def IW_:Rg:=λE u r t=>
 mG t 7 λv107=>
 mG t 9 λv108=>
 mG t 2 λv109=>
 cN u r 14 [(some v107),(some v108),(some v109)] λv110=>
 M.bind (oS (some v110) λa=>kUn E.P .not a) λv111=>
 mv (some v111) λv112=>
 sK v112 false (pG t 7) λv113=>
 sK v112 false (M.on (some (.func (.func 15) #[] #[])) λf=>M.on (seqO [(some v113),(some (.string {data:= #[122,122,122]}))]) λl=>AU u r f l) λv114=>
 sK v112 false (pG t 9) λv115=>
 sK v112 false (M.on (some (.func (.func 16) #[] #[])) λf=>M.on (seqO [(some v115),(some (.string {data:= #[122,122,122]}))]) λl=>AU u r f l) λv116=>
 sK v112 false (oS (some v114) λa=>oS (some v116) λb=>Cl.get (aBin E .neq 3 (.tmp 114) (.tmp 116)) a b) λv117=>
 ae v112 (.bool true) v117 λv118=>
 sF 118 v118 t
theorem Zx_:RegEq 3 120 Bo Ot_ IW_:={}
theorem UI_:Ad Ri=some 118:=X
def BN_:Rg:=λE u r t=>
 mG t 11 λv54=>
 ac E .add 54 1 (some v54) λv55=>
 sV 11 v55 t
theorem Xi_:RegEq 3 120 Bo BF_ BN_:={}
def Dq:Nat:=Ao Try.f8
abbrev NF_:Nat:=31
def Ds_:Code:=Try.f8.body.getD .skip
theorem Am_:envS.fn.get 8=some Try.f8:=X
theorem AdO_:G1 envS 8 31 Dq Ds_:=λh=>
 aL Am_ (h _ X)
theorem Amk_:Try.f8.results.toList=[.tmp 2]:=X
def II_:List Item:=skim 64 [.code Ds_]
def Hc_:=nx II_
def Mh_:=nx Hc_
def Nl_:=nx Mh_
def JJ:=nx Nl_
def SM:=nx JJ
def Ma_:=bt SM
def MB:=bf SM
def XJ:=nx Ma_
def YY:=nx MB
theorem Abd_:skim 64 XJ.tail=JJ:=X
def Ie_:Rg:=λE u r t=>
 sV 2 (.slice none 0 0) t
theorem AbA_:RegEq 8 31 Dq II_ Ie_:={}
def CR_:Rg:=λE u r t=>
 mG t 0 λv5=>
 lL E 32 v5 λv6=>
 ac E .add 6 3 (some v6) λv7=>
 M.bind (oS (some v7) λa=>oS (some v7) λb=>Ez E 32 a b) λv8=>
 sV 3 v8 t
theorem AgU_:RegEq 8 31 Dq Hc_ CR_:={}
def Tr:Rg:=λE u r t=>
 mG t 3 λv9=>
 mG t 0 λv10=>
 lN E .copy [32,32] [(some v9),(some v10)] λv11=>
 M.pure t
theorem AbE_:RegEq 8 31 Dq Mh_ Tr:={}
def VF:Rg:=λE u r t=>
 mG t 0 λv12=>
 lL E 32 v12 λv13=>
 sV 4 v13 t
theorem Apc_:RegEq 8 31 Dq Nl_ VF:={}
def Ma:Rg:=λE u r t=>
 mG t 4 λv14=>
 mG t 3 λv15=>
 lL E 32 v15 λv16=>
 bT E .lss 3 14 16 v14 v16 λv17=>
 sF 17 v17 t
theorem Mi_:RegEq 8 31 Dq JJ Ma:={}
theorem Sv_:Ad SM=some 17:=X
def Kz_:Rg:=λE u r t=>
 mG t 3 λv20=>
 mG t 4 λv21=>
 mG t 4 λv22=>
 ac E .rem 22 90 (some v22) λv23=>
 bM E .add 3 (.int .i64 160) 23 (some v23) λv24=>
 vB E 3 5 (some v24) λv25=>
 iD E 32 (some v20) (some v21) λv26=>
 ag E 5 (some v26) (some v25) λ_=>
 M.pure t
theorem AoL_:RegEq 8 31 Dq Ma_ Kz_:={}
def Zm:Rg:=λE u r t=>
 mG t 3 λv27=>
 mG t 0 λv28=>
 lL E 32 v28 λv29=>
 M.bind (M.on (some v27) λa=>M.on (some none) λb=>M.on (onO (some v29) λv=>some (some v)) λc=>AZ E 32 a b c) λv30=>
 sV 2 v30 t
theorem Anl_:RegEq 8 31 Dq MB Zm:={}
def Cs_:Rg:=λE u r t=>
 mG t 4 λv18=>
 ac E .add 18 1 (some v18) λv19=>
 sV 4 v19 t
theorem Agi_:RegEq 8 31 Dq XJ Cs_:={}
theorem Abg_: ∃k,YY= .code .ret::k:=⟨YY.tail,X⟩
def Jw:Nat:=Ao Try.f11
def HC_:Code:=Try.f11.body.getD .skip
theorem Vl:envS.fn.get 11=some Try.f11:=X
theorem AjT_:G2 envS 11 23 Jw HC_:=λh=>
 aL Vl (h _ X X)
theorem AaM_:Try.f11.results.toList=[.tmp 4]:=X
def Gf_:List Item:=skim 64 [.code HC_]
def N4:=nx Gf_
def CZ_:=nx N4
def Gj_:Rg:=λE u r t=>
 sV 4 (.bool false) t
theorem AgS_:RegEq 11 23 Jw Gf_ Gj_:={}
def JH_:RdW:=λE call round tm=>
 PD (T.get tm 0) λp0=>
 LN E .len [32] [(some p0.1)] λp1=>
 PD (T.get tm 1) λp2=>
 LN E .len [32] [(some p2.1)] λp3=>
 BI E .eql 3 (.tmp 6) (.tmp 8) (some p1.1) (some p3.1) λp4=>
 PD (some p4.1) λp5=>
 SK p5.1 true (oS (T.get tm 0) λa=>M.pure a) λp6=>
 SK p5.1 true (oS (T.get tm 0) λa=>M.pure a) λp7=>
 SK p5.1 true (oS (seqO [(some p7.1)]) λl=>AH E .cap [32] l) λp8=>
 SK p5.1 true (M.on (some p6.1) λa=>M.on (some none) λb=>M.on (onO (some p8.1) λv=>some (some v)) λc=>AZ E 32 a b c) λp9=>
 SK p5.1 true (oS (T.get tm 1) λa=>M.pure a) λp10=>
 SK p5.1 true (M.on (some (.func (.func 8) #[] #[])) λf=>M.on (seqO [(some p10.1)]) λl=>AU call round f l) λp11=>
 SK p5.1 true (oS (T.get tm 1) λa=>M.pure a) λp12=>
 SK p5.1 true (oS (seqO [(some p12.1)]) λl=>AH E .len [32] l) λp13=>
 SK p5.1 true (oS (some p13.1) λa=>oS (some (.int .i64 3)) λb=>Cl.get (aBin E .add 3 (.tmp 18) (.const (.int .i64 3))) a b) λp14=>
 SK p5.1 true (M.on (some p11.1) λa=>M.on (some none) λb=>M.on (onO (some p14.1) λv=>some (some v)) λc=>AZ E 32 a b c) λp15=>
 SK p5.1 true (M.on (some (.func (.func 36) #[] #[])) λf=>M.on (seqO [(some p9.1),(some p15.1)]) λl=>AU call round f l) λp16=>
 M.bind (apartO (M.on (some p5.1) λa=>M.on (some p16.1) λb=>M.on (some (.bool false)) λc=>Au a b c)) λp17=>
 fJ [p17,p16,p15,p14,p13,p12,p11,p10,p9,p8,p7,p6,p5,p4,p3,p2,p1,p0] tm
theorem Ajk_:DrawEq 11 23 Jw N4 [0,1,0,4,15,31,63,63,191,511,63,1087,63,4159,12351,31807,65535,131071,262143] JH_:={}
theorem AiK_ (E:Env)(call round:Ag)(x5 x6 x7 x8 x9 x10 x11 x12 x13 x14 x15 x16 x17 x18 x19 x20 x21 x22:Value)(tm:T Value)(s:St):AB call round (AP E Jw 23 (hdC N4)) [x22,x21,x20,x19,x18,x17,x16,x15,x14,x13,x12,x11,x10,x9,x8,x7,x6,x5] tm s=(M.bind (oS (some x22) λa=>M.pure a) λv4=>setT 4 v4 tm λtm1=>M.pure tm1) s:=X
theorem AfL_: ∃k,CZ_= .code .ret::k:=⟨CZ_.tail,X⟩
def Dy:Nat:=Ao Try.f40
abbrev Ari_:Nat:=26
def Zb:Code:=Try.f40.body.getD .skip
theorem OF_:envS.fn.get 40=some Try.f40:=X
theorem AkJ_:G2 envS 40 26 Dy Zb:=λh=>
 aL OF_ (h _ X X)
theorem Amx_:Try.f40.results.toList=[.tmp 4]:=X
def Xx:List Item:=skim 64 [.code Zb]
def WM:=nx Xx
def IO_:=nx WM
def Ld_:=bf IO_
def Kj:=nx Ld_
def Rz:=nx Kj
def Ms:=bt Rz
def FO_:=bf Rz
def QV_:=nx Ms
def FC_:=nx FO_
def U4:=bf QV_
theorem Zj_:skim 64 U4.tail=Kj:=X
def VC:Rg:=λE u r t=>
 sV 4 (.bool false) t
theorem AoD_:RegEq 40 26 Dy Xx VC:={}
def Qk_:Rg:=λE u r t=>
 mG t 0 λv6=>
 lL E 66 v6 λv7=>
 mG t 1 λv8=>
 lL E 66 v8 λv9=>
 bT E .neq 3 7 9 v7 v9 λv10=>
 sF 10 v10 t
theorem SZ_:RegEq 40 26 Dy WM Qk_:={}
theorem App_:Ad IO_=some 10:=X
def DN_:Rg:=λE u r t=>
 sV 5 (.int .i64 0) t
theorem ApL_:RegEq 40 26 Dy Ld_ DN_:={}
def Ng:Rg:=λE u r t=>
 mG t 5 λv11=>
 mG t 0 λv12=>
 lL E 66 v12 λv13=>
 bT E .lss 3 11 13 v11 v13 λv14=>
 sF 14 v14 t
theorem Yl:RegEq 40 26 Dy Kj Ng:={}
theorem Rr_:Ad Rz=some 14:=X
def NQ_:RdW:=λE call round tm=>
 PD (T.get tm 0) λp0=>
 PD (T.get tm 5) λp1=>
 ID E 66 (some p0.1) (some p1.1) λp2=>
 LD E 9 (some p2.1) λp3=>
 PD (T.get tm 1) λp4=>
 PD (T.get tm 5) λp5=>
 ID E 66 (some p4.1) (some p5.1) λp6=>
 LD E 9 (some p6.1) λp7=>
 fJ [p7,p6,p5,p4,p3,p2,p1,p0] tm
theorem AoF_:DrawEq 40 26 Dy Ms [0,0,3,7,0,0,48,112,255] NQ_:={}
theorem Aoz_ (E:Env)(call round:Ag)(x17 x18 x19 x20 x21 x22 x23 x24:Value)(tm:T Value)(s:St):AB call round (AP E Dy 26 (hdC Ms)) [x24,x23,x22,x21,x20,x19,x18,x17] tm s=(M.bind (oS (some x20) λa=>oS (some x24) λb=>Cl.get (aBin E .neq 9 (.tmp 20) (.tmp 24)) a b) λv25=>setT 25 v25 tm λtm1=>M.pure tm1) s:=X
def GI_:Rg:=λE u r t=>
 sV 4 (.bool true) t
theorem Agc_:RegEq 40 26 Dy FO_ GI_:={}
theorem Amb_:Ad QV_=some 25:=X
theorem YE_: ∃k,FC_= .code .ret::k:=⟨FC_.tail,X⟩
def So_:Rg:=λE u r t=>
 mG t 5 λv15=>
 ac E .add 15 1 (some v15) λv16=>
 sV 5 v16 t
theorem AbN_:RegEq 40 26 Dy U4 So_:={}
def DB:Nat:=Ao Try.f12
abbrev AcV_:Nat:=26
def KZ_:Code:=Try.f12.body.getD .skip
theorem T9:envS.fn.get 12=some Try.f12:=X
theorem AaY_:G2 envS 12 26 DB KZ_:=λh=>
 aL T9 (h _ X X)
theorem Acs_:Try.f12.results.toList=[.tmp 4]:=X
def JX_:List Item:=skim 64 [.code KZ_]
def DV_:=nx JX_
def VN:=nx DV_
def Xk:=bf VN
def Jq:=nx Xk
def MD:=nx Jq
def Rn:=bt MD
def T7:=bf MD
def Ag_:=nx Rn
def IJ_:=nx T7
def MU_:=bf Ag_
theorem AnU_:skim 64 MU_.tail=Jq:=X
def QA_:Rg:=λE u r t=>
 sV 4 (.bool false) t
theorem Arm_:RegEq 12 26 DB JX_ QA_:={}
def AR_:Rg:=λE u r t=>
 mG t 0 λv6=>
 lL E 34 v6 λv7=>
 mG t 1 λv8=>
 lL E 34 v8 λv9=>
 bT E .neq 3 7 9 v7 v9 λv10=>
 sF 10 v10 t
theorem YI_:RegEq 12 26 DB DV_ AR_:={}
theorem Apr_:Ad VN=some 10:=X
def Pe_:Rg:=λE u r t=>
 sV 5 (.int .i64 0) t
theorem Aoh_:RegEq 12 26 DB Xk Pe_:={}
def QP:Rg:=λE u r t=>
 mG t 5 λv11=>
 mG t 0 λv12=>
 lL E 34 v12 λv13=>
 bT E .lss 3 11 13 v11 v13 λv14=>
 sF 14 v14 t
theorem Fu_:RegEq 12 26 DB Jq QP:={}
theorem MC_:Ad MD=some 14:=X
def EF_:RdW:=λE call round tm=>
 PD (T.get tm 0) λp0=>
 PD (T.get tm 5) λp1=>
 ID E 34 (some p0.1) (some p1.1) λp2=>
 LD E 3 (some p2.1) λp3=>
 PD (T.get tm 1) λp4=>
 PD (T.get tm 5) λp5=>
 ID E 34 (some p4.1) (some p5.1) λp6=>
 LD E 3 (some p6.1) λp7=>
 fJ [p7,p6,p5,p4,p3,p2,p1,p0] tm
theorem Yp_:DrawEq 12 26 DB Rn [0,0,3,7,0,0,48,112,255] EF_:={}
theorem AnC_ (E:Env)(call round:Ag)(x17 x18 x19 x20 x21 x22 x23 x24:Value)(tm:T Value)(s:St):AB call round (AP E DB 26 (hdC Rn)) [x24,x23,x22,x21,x20,x19,x18,x17] tm s=(M.bind (oS (some x20) λa=>oS (some x24) λb=>Cl.get (aBin E .neq 3 (.tmp 20) (.tmp 24)) a b) λv25=>setT 25 v25 tm λtm1=>M.pure tm1) s:=X
def Ti:Rg:=λE u r t=>
 sV 4 (.bool true) t
theorem XB_:RegEq 12 26 DB T7 Ti:={}
theorem ArF_:Ad Ag_=some 25:=X
theorem Uq_: ∃k,IJ_= .code .ret::k:=⟨IJ_.tail,X⟩
def Vz:Rg:=λE u r t=>
 mG t 5 λv15=>
 ac E .add 15 1 (some v15) λv16=>
 sV 5 v16 t
theorem Wx_:RegEq 12 26 DB MU_ Vz:={}
theorem ArD_:intK envS 5=some .u8:=X
theorem Q2 (call round:Ag)(f:Nat)(l:List Value):AU call round (.func (.func f) #[] #[]) l=call f l:=by
 show call f ([]++(l++[]))=_
 rw[List.append_nil,List.nil_append]
section
variable {α:Type}
theorem Ja (m:M α):M.chk true m=m:=rfl
theorem if_t (x y:M α):aT true x y=x:=rfl
end
theorem AcW_:N2 envS 32=true:=X
theorem Zh_:D3 envS 9=true:=X
theorem Apd_ (s:St):Ce envS 32 9 (.slice none 0 0) s= .some (.string (txt [])) s:=X
theorem W.strA {v:Value}{l:List Nat}{s:St}{Q:Value->St->Prop}(h:Bs s v l)(q: ∀s1,s1.mem=s.mem->s1.next=s.next->Ext (BsF v) Non s s1->Q (.string (txt l)) s1):W (Ce envS 32 9 v) s Q:=by
 rcases h with⟨rfl,rfl⟩|⟨b,o,c,rfl,h1,h2,h3⟩
 ·exact a7 (Apd_ s) (q s rfl rfl (Ext.refl _))
 ·exact W.str (.inr ⟨b,o,c,rfl,h1,h2,h3⟩) (.inr ⟨b,o,c,rfl⟩) AcW_ Zh_ q
theorem VA {va vb:Value}{l:List Nat}{n:Nat}{s:St}{Q:Value->St->Prop}(hbd:s.lim<=s.next)(ha:Bs s va l)(hb:Bs s vb l)(hn:20<=n)
  (q: ∀s1,Ext (λx=>BsF va x\/BsF vb x) Non s s1->s1.mem=s.mem->s1.next=s.next->Q (.bool true) s1):W (Ac envS (runF envS n) 36 [va,vb]) s Q:=by
 refine Aap_ λtm h0 h1=> ?_
 have ha':Bs (s.cxN cxN) va l:=ha.same rfl rfl
 have hb':Bs (s.cxN cxN) vb l:=hb.same rfl rfl
 refine Agw_.u ?_
 simp only[Mm_,RR,SS]
 refine WB_.u ?_
 simp only[Gg_,RR,SS,Nat.reduceEqDiff,reduceCtorEq, ↓reduceIte,h0,h1]
 refine W.strA ha' λsa ma na xa=> ?_
 refine W.strA (hb'.same ma na) λsb mb nb xb=> ?_
 have hx:Ext (λx=>BsF va x\/BsF vb x) Non (s.cxN cxN) sb:=(xa.weak hbd (λ_ _ h=> .inl h) λ_ _ h=>h).step xb hbd (λ_ _ h=> .inr h) λ_ h=>h.elim
 simp only[IV,beq_self_eq_true]
 refine aB (rs:=[4]) (vs:=[.bool true]) rfl (.inl AaH_) J TH Ug_ hx.cx Y ?_
 exact q _ hx.cx' (mb.trans ma) (nb.trans na)
theorem Ai.set {F:Nat->Prop}{s s':St}{b o i:Nat}{l:List Value}{v:Value}(h:Ai s b o l)(e:Ext F (In b (o+i) 1) s s')(k:Own s' b (o+i) v):Ai s' b o (l.set i v):=λj u hj=>by
 rw[List.getElem?_set]at hj
 by_cases hij:i=j
 ·subst hij
  rw[if_pos rfl]at hj
  split at hj
  ·cases hj
   exact k
  ·cases hj
 ·rw[if_neg hij]at hj
  exact(h j u hj).ext e λhx=>hij (by have h1:=hx.1;have h2:=hx.2;omega)
theorem AkG_ {U q n:Nat}(hU:16777216<U)(hq:0<q):Nat.ble (U*q+n) 16777216=false:=by
 have h1:U*1<=U*q:=Nat.mul_le_mul_left _ hq
 cases e:Nat.ble (U*q+n) 16777216 with
 |false=>rfl
 |true=>
  have:=Nat.le_of_ble_eq_true e
  omega
theorem AeT_ {a:Addr}{n c:Nat}(h:Nat.ble c 16777216=false):Gc [.slice (some a) n c]=Ex a n c:=by
 show Bool.rec (motive:=λ_=>M Value) (Ex a n c) (Ev a n c) (Nat.ble c 16777216)=_
 rw[h]
theorem Ahf_ {a:Addr}{n c:Nat}(h:Nat.ble c 16777216=true):Gc [.slice (some a) n c]=Ev a n c:=by
 show Bool.rec (motive:=λ_=>M Value) (Ex a n c) (Ev a n c) (Nat.ble c 16777216)=_
 rw[h]
theorem Anz_ {v:Value}{l:List Nat}{nb n:Nat}{s:St}{Q:Value->St->Prop}(hbd:s.lim<=s.next)(h:MkG s v l nb)(h0:0<l.length)(hl:l.length<=16777216)
  (q: ∀s1,Ext (In nb 0 (l.length+1)) (In nb 0 (l.length+1)) s s1->Q (.tuple #[]) s1):W (Ac envS (runF envS n) 13 [v]) s Q:=by
 refine W.orc (m:=Gc) X ?_
 rw[h.val,AeT_ (AkG_ (U:=capU) al J)]
 show W (Ex ⟨nb,0,none⟩ l.length (capU*((nb+l.length)*1024+1)+l.length)) s Q
 have hlt:l.length<capU:=BD J
 obtain⟨hd,hm⟩:=enc (q:=(nb+l.length)*1024+1) hlt
 obtain⟨hd2,hm2⟩:=enc2 (m:=nb+l.length) (sz:=1) al
 unfold Ex
 refine W.chk ?_ (W.bind ?_)
 ·show(Nat.blt 0 l.length&&Nat.ble l.length 16777216&&Nat.beq ((capU*((nb+l.length)*1024+1)+l.length)%capU) l.length&&Nat.beq ((capU*((nb+l.length)*1024+1)+l.length)/capU%1024) 1)=true
  rw[hm,hd,hm2,Bz h0,Nat.ble_eq_true_of_le hl,Nat.beq_refl]
  rfl
 have hr:Row s nb 0 (u8l l):=h.own.row
 have hle:(u8l l).length=l.length:=Br l
 rw[<-hle]
 refine W.rdL hr λs1 m1 n1 x1=>W.chk ?_ (W.bind ?_)
 ·rw[List.all_eq_true]
  intro x hx
  obtain⟨y,_,rfl⟩:=List.mem_map.1 hx
  rfl
 rw[hle]at x1 ⊢
 show W (Am.rdC ((capU*((nb+l.length)*1024+1)+l.length)/capU/1024)) s1 _
 rw[hd,hd2]
 refine W.rdC (c:= .O (.tok false 1025)) (by rw[m1];exact h.tok) (by rw[n1];exact h.lt) ?_
 show W (M.chk (Nat.beq 1025 1025) (M.bind (Am.wrC ((capU*((nb+l.length)*1024+1)+l.length)/capU/1024) (.O (.tok true 1))) λ_=>M.bind (Cg l.length (Nat.add nb 0)) λ_=>M.pure (.tuple #[]))) _ Q
 rw[hd,hd2]
 refine W.chk rfl (W.bind (W.wrC (by show nb+l.length<s1.next;rw[n1];exact h.lt) (W.bind ?_)))
 generalize hs3:((s1.rdN (nb+l.length)).wrN (nb+l.length) (.O (.tok true 1)))=s3
 have xa:Ext (In nb 0 (l.length+1)) (In nb 0 (l.length+1)) s s1:=x1.weak hbd (λy _ h=>⟨h.1,by have:=h.2;omega⟩) λ_ _ h=>h.elim
 have hn1:s1.next=s.next:=n1
 have x3:Ext (In nb 0 (l.length+1)) (In nb 0 (l.length+1)) s s3:=by
  rw[<-hs3]
  refine(xa.trans (Ext.rdN (F:=In nb 0 (l.length+1)) (G:=Non) s1 _ λ_=>⟨J,J⟩) hbd (λ_ _ h=>h) λ_ _ h=>h.elim).trans (Ext.wrN (F:=In nb 0 (l.length+1)) _ _ _ (⟨J,J⟩:In nb 0 (l.length+1) (nb+l.length))) hbd (λ_ _ h=>h) λ_ _ h=>h
 have n3:s3.next=s.next:=by rw[<-hs3];exact hn1
 have hll:=h.lt
 obtain⟨s4,e4,n4,x4⟩:=LM l.length (nb+0) s3 (x3.bnd hbd) J
 refine a7 e4 (W.pure (q s4 (x3.trans x4 hbd (λ_ _ h=>h.elim) λy _ h=>⟨h.1,by have:=h.2;omega⟩)))
theorem AmC_ {L:Nat}{l:List Nat}{m n:Nat}{s:St}{Q:Value->St->Prop}(hbd:s.lim<=s.next)(h:Ai s L 0 (u8l l))(h0:0<l.length)(hl:l.length<=1000000)(hm:m<=l.length)
  (q: ∀s1,Ext (In L 0 l.length) (In L 0 l.length) s s1->Q (.tuple #[]) s1):W (Ac envS (runF envS n) 13 [.slice (some ⟨L,0,none⟩) m l.length]) s Q:=by
 refine W.orc (m:=Gc) X ?_
 rw[Ahf_ (Nat.ble_eq_true_of_le J)]
 show W (Ev ⟨L,0,none⟩ m l.length) s Q
 unfold Ev
 refine W.chk ?_ (W.bind ?_)
 ·show(Nat.blt 0 l.length&&Nat.ble l.length 16777216&&Nat.ble m l.length)=true
  rw[Bz h0,Nat.ble_eq_true_of_le (show l.length<=16777216 by omega),Nat.ble_eq_true_of_le hm]
  rfl
 have hr:Row s L 0 (u8l l):=h.row
 have hle:(u8l l).length=l.length:=Br l
 rw[<-hle]
 refine W.rdL hr λs1 m1 n1 x1=>W.chk ?_ (W.bind ?_)
 ·rw[List.all_eq_true]
  intro x hx
  obtain⟨y,_,rfl⟩:=List.mem_map.1 hx
  rfl
 rw[hle]at x1 ⊢
 obtain⟨y,t,rfl⟩: ∃y t,l=y::t:=by
  cases l with
  |nil=>cases h0
  |cons y t=>exact⟨y,t,rfl⟩
 have hc:=h 0 (u8 y) rfl
 show W (Am.rdC (L+0)) s1 _
 refine W.rdC (c:= .C L (u8 y)) (by rw[m1];exact hc.2) (by rw[n1];exact hc.1) ?_
 refine W.chk rfl (W.bind ?_)
 have xa:Ext (In L 0 (y::t).length) (In L 0 (y::t).length) s (s1.rdN (L+0)):=(x1.weak hbd (λ_ _ h=>h) λ_ _ h=>h.elim).trans (Ext.rdN (F:=In L 0 (y::t).length) (G:=Non) s1 _ λ_=>⟨J,by show L+0<L+0+(y::t).length;omega⟩) hbd (λ_ _ h=>h) λ_ _ h=>h.elim
 have hlt:L+(y::t).length<=(s1.rdN (L+0)).next:=by
  have h1:=(h t.length (u8l (y::t))[t.length] (List.getElem?_eq_getElem (by rw[Br];simp))).1
  have h2:(s1.rdN (L+0)).next=s.next:=n1
  rw[h2,List.length_cons]
  omega
 obtain⟨s4,e4,n4,x4⟩:=LM (y::t).length (L+0) (s1.rdN (L+0)) (xa.bnd hbd) J
 refine a7 e4 (W.pure (q s4 (xa.trans x4 hbd (λ_ _ h=>h.elim) λz _ h=>⟨h.1,by have:=h.2;omega⟩)))
theorem Abq_ {n n0:Nat}{x:Value}{r:List Nat}{s:St}{Q:Value->St->Prop}(hb:s.lim<=s.next)(h:BsO s x r n0)(hr:r.length<=1000000)(q: ∀s1,Ext Any (λy=>n0<=y) s s1->Q (.tuple #[]) s1):W (Ac envS (runF envS n) 13 [x]) s Q:=by
 rcases h with⟨rfl,rfl⟩|⟨nb,h,h0,h1⟩
 ·refine W.orc (m:=Gc) X ?_
  show W (M.pure (.tuple #[])) s Q
  exact W.pure (q s (Ext.refl _))
 ·exact Anz_ hb h h0 J λs1 x1=>q s1 (x1.weak hb (λ_ _ _=>trivial) λy _ hy=>by have:=hy.1;omega)
def BF (b:List Nat):List Nat:=b++[160+b.length%90,160+(b.length+1)%90,160+(b.length+2)%90]
theorem DD (b:List Nat):(BF b).length=b.length+3:=by simp[BF]
def J2 (l:List Nat)(i:Nat):Nat->List Nat
 |0=>l
 |k+1=>J2 (l.set i (160+i%90)) (i+1) k
theorem AiJ_ (b:List Nat):J2 (b++[0,0,0]) b.length 3=BF b:=by
 simp only[J2,BF]
 rw[List.set_append_right _ _ J,List.set_append_right _ _ J,List.set_append_right _ _ J]
 simp[show b.length+1+1-b.length=2 by omega]
theorem Tg_:hasT envS 3=true:=X
theorem AgV_ {E:Env}{t:Nat}{s:St}{xo yo:Operand}{m:Nat}(Q:Value->St->Prop):W (Cl.get (aBin E .rem t xo yo) (.int .i64 (m:Nat)) (.int .i64 90)) s Q=Q (.int .i64 (m%90:Nat)) s:=AK_ (n:=90) al Q
theorem ApJ_ {L N:Nat}{s0:St}{w:Value}{Q:Value×FrameMode->St->Prop}(hb0:s0.lim<=s0.next)(hL:s0.next<=L)(hN:N<=1000000): ∀(k i n:Nat) (l:List Nat) (tm:T Value) (s:St) (td:List Item),i+k=N->l.length=N->5*k+10<=n->skim 64 td=JJ->Ext Any Non s0 s->Ai s L 0 (u8l l)->
  T.get tm 0=some w->T.get tm 3=some (.slice (some ⟨L,0,none⟩) N N)->T.get tm 4=some (.int .i64 (i:Nat))->
  (∀n' tm' s1 td',5<=n'->skim 64 td'=MB->Ext Any Non s0 s1->Ai s1 L 0 (u8l (J2 l i k))->T.get tm' 0=some w->T.get tm' 3=some (.slice (some ⟨L,0,none⟩) N N)->W (runF envS n' ⟨8,NF_,Dq,tm',td', .run, .normal,none⟩) s1 Q)->
  W (runF envS n ⟨8,NF_,Dq,tm,td, .run, .normal,none⟩) s Q:=by
 intro k
 induction k with
 |zero=>
  intro i n l tm s td hi hl hn hT hx ho h0 h3 h4 q
  refine Mi_.u ?_ hT
  simp only[Ma,RR,SS,Ap,h3,h4,Bt Bp]
  refine aG Sv_ ?_
  exact q _ _ _ _ J rfl hx ho (an h0) (an h3)
 |succ k ih=>
  intro i n l tm s td hi hl hn hT hx ho h0 h3 h4 q
  refine Mi_.u ?_ hT
  simp only[Ma,RR,SS,Ap,h3,h4,Bt Bp]
  refine aJ Sv_ ?_
  refine AoL_.u ?_
  have e1:wrap64 ((160:Int)+((i%90:Nat):Int))=((160+i%90:Nat):Int):=by
   rw[Bh J J];simp
  simp only[Kz_,RR,SS,Nat.reduceEqDiff, ↓reduceIte,AY,h3,h4,AgV_,e1,ApC_ Tg_ ArD_,wrap_u8,AA Bp (show i<N by omega)]
  have e2:(160+i%90)%256=160+i%90:=J
  rw[e2]
  have hO:Own s L (0+i*1) (u8 l[i]):=by
   rw[Nat.mul_one]
   exact ho i _ (by rw[List.getElem?_map,List.getElem?_eq_getElem J];rfl)
  refine aI H1 rfl hO λs1 n1 x1 o1=> ?_
  have ho1:Ai s1 L 0 (u8l (l.set i (160+i%90))):=by
   have:=Ai.set (o:=0) (i:=i) ho (by rw[Nat.mul_one]at x1;exact x1) (by rw[Nat.mul_one]at o1;exact o1)
   unfold u8l
   rw[List.map_set]
   exact this
  refine Agi_.u ?_
  have e3:wrap64 ((i:Nat)+1:Int)=((i+1:Nat):Int):=by
   rw[Bh J J];simp
  simp only[Cs_,RR,SS,Nat.reduceEqDiff, ↓reduceIte,AY,h4,e3]
  exact ih (i+1) _ _ _ _ _ J (by rw[List.length_set];exact hl) J Abd_ (hx.thenW x1 hb0 hL) ho1 (an h0) (an h3) Y λn' tm' s2 td'=>q n' tm' s2 td'
theorem JI_ {v:Value}{b:List Nat}{n:Nat}{s:St}{Q:Value->St->Prop}(hbd:s.lim<=s.next)(hb:Bs s v b)(hz:b.length<=100000)(hn:60<=n)
  (q: ∀s1,Ext Any Non s s1->Ai s1 s.next 0 (u8l (BF b))->s.next+b.length+3<=s1.next->Q (.slice (some ⟨s.next,0,none⟩) b.length (b.length+3)) s1):W (Ac envS (runF envS n) 8 [v]) s Q:=by
 refine AdO_ λtm h0=> ?_
 have hb0:(s.cxN cxN).lim<=(s.cxN cxN).next:=hbd
 have hb':Bs (s.cxN cxN) v b:=hb.same rfl rfl
 refine AbA_.u ?_
 simp only[Ie_,RR,SS]
 refine AgU_.u ?_
 simp only[CR_,RR,SS,reduceCtorEq, ↓reduceIte,h0]
 rw[hb'.len Bp]
 have e1:wrap64 (((b.length:Nat):Int)+3)=((b.length+3:Nat):Int):=by
  rw[Bh J J];simp
 simp only[AY,e1]
 refine W.mkSl WA (Nat.le_refl _) J λsa na xa oa=> ?_
 rw[Kx]at oa na
 rw[List.length_replicate]at na
 have na':sa.next=s.next+(b.length+3)+1:=na
 have oa':Ai sa s.next 0 (List.replicate (b.length+3) (.int .u8 0)):=oa
 have y1:Ext Any Non (s.cxN cxN) sa:=(Ext.refl _).then0 xa hb0
 refine AbE_.u ?_
 simp only[Tr,RR,SS,reduceCtorEq, ↓reduceIte,h0]
 have hsrc:=(hb'.ext0 xa).src
 obtain⟨p,c,rfl⟩:=hb.sl
 refine W.copy (k:=b.length) (l:=u8l b) WA (by show b.length=min (b.length+3) b.length;omega) hsrc.2 (by rw[Br,Nat.mul_one]) (FF _) (λi hi=> ?_) λsb nb xb ob=> ?_
 ·exact⟨_,oa' i (.int .u8 0) (by rw[List.getElem?_replicate,if_pos J])⟩
 have nb':sb.next=sa.next:=nb
 have hob:Ai sb s.next 0 (u8l (b++[0,0,0])):=by
  unfold u8l
  rw[List.map_append]
  refine Ai.append ob λi u e=> ?_
  have hi:i<3:=(List.getElem?_eq_some_iff.1 e).1
  have hu:u= .int .u8 0:=by
   match i,hi,e with
   |0,_,e=>cases e;rfl
   |1,_,e=>cases e;rfl
   |2,_,e=>cases e;rfl
  subst hu
  rw[List.length_map]
  refine Own.ext (s:=sa) ?_ xb λh=>by have h2:_<s.next+0+b.length*1:=h.2;omega
  have:=oa' (b.length+i) (.int .u8 0) (by rw[List.getElem?_replicate,if_pos J])
  rwa [show 0+b.length+i=0+(b.length+i) by omega]
 have y2:Ext Any Non (s.cxN cxN) sb:=y1.trans xb hb0 (λ_ _ _=>trivial) λy hy h=>by
  have h1:s.next+0<=y:=h.1
  have h2:y<s.next:=hy
  omega
 refine Apc_.u ?_
 simp only[VF,RR,SS,reduceCtorEq, ↓reduceIte,h0,Bt Bp]
 refine ApJ_ (L:=s.next) (N:=b.length+3) (w:= .slice p b.length c) (s0:=s.cxN cxN) hb0 (Nat.le_refl _) J 3 b.length _ (b++[0,0,0]) _ sb _ J am J rfl y2 hob (an h0) Y Y λn1 tm1 s1 td1 hn1 hT1 y3 ho g0 g3=> ?_
 refine Anl_.u ?_ hT1
 simp only[Zm,RR,SS,g0,g3,Bt Bp]
 rw[CW (l:=0) (h:=b.length) Bp rfl rfl (Nat.zero_le _) (by rw[Nat.mod_eq_of_lt (BD J)];omega) (Eg (BD J))]
 rw[if_pos (by rw[Nat.mod_eq_of_lt (BD J)];omega)]
 refine aB (rs:=[2]) (vs:=[.slice (some ⟨s.next,0,none⟩) b.length (b.length+3)]) rfl (.inl Abg_) J Am_ Amk_ y3.cx Y ?_
 rw[AiJ_]at ho
 refine q _ y3.cx' (λi u e=>(ho i u e).same rfl rfl) ?_
 have hl:(u8l (BF b)).length=b.length+3:=by rw[Br,DD]
 have:=(ho (b.length+2) _ (List.getElem?_eq_getElem (by rw[hl];omega))).1
 show s.next+b.length+3<=s1.next
 omega
theorem Arz_ {E:Env}{t:Nat}{s:St}{sz n c:Nat}{a:Addr}(h:slN E t=some sz)(hc:c<capU)(Q:Value->St->Prop):W (AH E .cap [t] [.slice (some a) n c]) s Q=Q (.int .i64 (c:Nat)) s:=by
 obtain⟨i,e,ie,h1,h2,h3,h4⟩:=GU h
 refine As ?_
 show aCap E t (.slice (some a) n c) s=_
 unfold aCap
 rw[AO (show ti E t s= .some i s by unfold ti;rw[h1];rfl)]
 simp only[h2]
 rw[Bz hc]
 show pN c s=_
 unfold pN
 rw[Ar]
 rfl
theorem AhU_ {v:Value}{b:List Nat}{L n:Nat}{s:St}{Q:Value->St->Prop}(hbd:s.lim<=s.next)(hb:Bs s v b)(hz:b.length<=100000)(hL:Row s L 0 (u8l (BF b)))(hn:100<=n)
  (q: ∀s1,Ext Any Non s s1->Q (.bool true) s1):W (Ac envS (runF envS n) 11 [.slice (some ⟨L,0,none⟩) b.length (b.length+3),v]) s Q:=by
 refine AjT_ λtm h0 h1=> ?_
 have hb0:(s.cxN cxN).lim<=(s.cxN cxN).next:=hbd
 refine AgS_.u ?_
 simp only[Gj_,RR,SS]
 refine Ajk_.u ?_
 have hU:b.length+3<capU:=BD J
 have hmod:(b.length+3)%capU=b.length+3:=Nat.mod_eq_of_lt hU
 have e1:wrap64 (((b.length:Nat):Int)+3)=((b.length+3:Nat):Int):=by
  rw[Bh J J];simp
 have hlen: ∀(s:St) (Q:Value->St->Prop),W (AH envS .len [32] [v]) s Q=Q (.int .i64 (b.length:Nat)) s:=λs Q=>by
  obtain⟨p,c,rfl⟩:=hb.sl
  exact Bt Bp Q
 simp only[JH_,RR,T.get_set,Nat.reduceEqDiff, ↓reduceIte,h0,h1,Aa,Cb,A0,A3,AW,Q2,Aj]
 rw[W_dq λs Q=>Bt Bp Q]
 simp only[Aj]
 rw[W_dq hlen]
 simp only[Aj]
 rw[W_dq λs Q=>BJ _ _]
 simp only[decide_true,Bk,MX,Ja,if_t,Aj]
 rw[W_dq λs Q=>Arz_ Bp hU Q]
 simp only[Aj]
 rw[W_dq λs Q=>CW (s:=s) (l:=0) (h:=b.length+3) Bp rfl rfl (Nat.zero_le _) (by rw[hmod];exact Nat.le_refl _) (Eg hU) Q]
 rw[if_pos (by rw[hmod];omega)]
 simp only[Aj]
 refine aO (JI_ (s:=oSt s.mem s.next) (Nat.le_refl _) (hb.same rfl rfl) hz J λs1 x1 o1 l1=>⟨_,x1,λrd1 hr1=> ?_⟩)
 simp only[Aj]
 rw[W_dq hlen]
 simp only[Aj]
 rw[W_dq λs Q=>AY (s:=s) _ _,e1]
 rw[W_dq λs Q=>CW (s:=s) (l:=0) (h:=b.length+3) Bp rfl rfl (Nat.zero_le _) (by rw[hmod];exact Nat.le_refl _) (Eg hU) Q]
 rw[if_pos (by rw[hmod];omega)]
 have o1':Ai s1 s.next 0 (u8l (BF b)):=o1
 have hsub: ∀(s2:St) (B:Nat),Row s2 B 0 (u8l (BF b))->Bs s2 (.slice (some ⟨B,0+0*1,none⟩) (b.length+3-0) (b.length+3-0)) (BF b):=λs2 B h=> .inr ⟨B,0,b.length+3,by rw[DD,Nat.zero_mul,Nat.sub_zero],by rw[hmod,DD];exact Nat.le_refl _,Eg hU,h⟩
 refine aO (VA (s:=oSt s1.mem s1.next) (Nat.le_refl _) (hsub _ L λi u e=>((((hL i u e).same (s':=oSt s.mem s.next) rfl rfl).ext0 x1).same rfl rfl)) (hsub _ s.next λi u e=>((o1' i u e).same (s':=oSt s1.mem s1.next) rfl rfl).at') J λs2 x2 m2 n2=>⟨_,x2,λrd2 hr2=> ?_⟩)
 rw[W_dq λs Q=>Df (s:=s) _ _ _ _]
 simp only[reduceIte,AI]
 have hn1:s.next<=s1.next:=x1.nxt
 have hn2:s2.next=s1.next:=n2
 refine⟨CP ?_, ?_⟩
 ·simp only[List.reverse_cons,List.reverse_nil,List.nil_append,List.cons_append,allP,BS,List.take,Cu]
  simp+contextual [hn2]
  exact .inl rfl
 ·refine aK (AiK_ ..) ?_
  simp only[SS]
  generalize hs3:(⟨(dSt s2.mem s2.next).mem,(dSt s2.mem s2.next).next,(s.cxN cxN).lim,_,_,(s.cxN cxN).cx⟩:St)=s3
  have hx:Ext Any Non (s.cxN cxN) s3:=by
   rw[<-hs3]
   refine Ext.draw (by show s.next<=s2.next;omega) (λx hx=> ?_) ?_ λ_ _ _ _ _=>trivial
   ·have e2:T.get s1.mem x=T.get s.mem x:=x1.mem x hx id
    have e3:T.get s2.mem x=T.get s1.mem x:=x2.mem x (by show x<s1.next;exact Nat.lt_of_lt_of_le hx hn1) id
    exact e3.trans e2
   ·simp
  refine aB (rs:=[4]) (vs:=[.bool true]) rfl (.inl AfL_) J Vl AaM_ hx.cx Y ?_
  exact q _ hx.cx'
