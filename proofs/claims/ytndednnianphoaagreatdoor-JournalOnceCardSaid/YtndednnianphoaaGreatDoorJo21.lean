import Derived.Test.YtndednnianphoaaGreatDoorJo20
noncomputable section
namespace Go.Proofs.YtndednnianphoaaGreatDoor.Am
open Go.RowKit
def LY:Nat:=Ar Tryz.f44
def Va:Code:=Tryz.f44.body.getD .skip
theorem UW:envS.fn.get 44=some Tryz.f44:=by kernel_rfl
theorem ML_:G1 envS 44 23 LY Va:=λh=>
 aI UW (h _ (by kernel_rfl))
theorem Kt_:Tryz.f44.results.toList=[.tmp 2]:=by kernel_rfl
def Ai_:List Item:=skim 64 [.code Va]
def U4:=nx Ai_
def DO_:=nx U4
def Aw_:Rg:=λE call round tm=>
 M.bind (oS (T.get tm 0) λa=>kBox a) λv1=>
 setF 1 v1 tm λtm1=>
 mv (some (.slice none 0 0)) λv2=>
 setF 2 v2 tm1 λtm2=>
 M.pure tm2
theorem Wh_:RegEq 44 23 LY Ai_ Aw_:={}
def Ua:Rg:=λE call round tm=>
 fD E 90 0 (T.get tm 1) λv3=>
 lD E 3 (some v3) λv4=>
 vB E 3 5 (some v4) λv5=>
 fD E 90 1 (T.get tm 1) λv6=>
 lD E 3 (some v6) λv7=>
 bI E .shr 3 (.tmp 7) (.const (.int .u64 24)) (some v7) (some (.int .u64 24)) λv8=>
 vB E 3 5 (some v8) λv9=>
 fD E 90 1 (T.get tm 1) λv10=>
 lD E 3 (some v10) λv11=>
 bI E .shr 3 (.tmp 11) (.const (.int .u64 16)) (some v11) (some (.int .u64 16)) λv12=>
 vB E 3 5 (some v12) λv13=>
 fD E 90 1 (T.get tm 1) λv14=>
 lD E 3 (some v14) λv15=>
 bI E .shr 3 (.tmp 15) (.const (.int .u64 8)) (some v15) (some (.int .u64 8)) λv16=>
 vB E 3 5 (some v16) λv17=>
 fD E 90 1 (T.get tm 1) λv18=>
 lD E 3 (some v18) λv19=>
 vB E 3 5 (some v19) λv20=>
 M.bind (oS (seqP [(0,(some v5)),(1,(some v9)),(2,(some v13)),(3,(some v17)),(4,(some v20))]) λps=>BY E 23 5 ps) λv21=>
 cN call round 53 [(some v21)] λv22=>
 mv (some v22) λv2=>
 setF 2 v2 tm λtm1=>
 M.pure tm1
theorem Qn_:RegEq 44 23 LY U4 Ua:={}
theorem Vi_: ∃k,DO_= .code .ret::k:=⟨DO_.tail,by kernel_rfl⟩
def Pf:Nat:=Ar Tryz.f40
def Wu:Code:=Tryz.f40.body.getD .skip
theorem Zq:envS.fn.get 40=some Tryz.f40:=by kernel_rfl
theorem Mg_:G1 envS 40 4 Pf Wu:=λh=>
 aI Zq (h _ (by kernel_rfl))
theorem Ur_:Tryz.f40.results.toList=[.tmp 2]:=by kernel_rfl
def Ud:List Item:=skim 64 [.code Wu]
def CT_:=nx Ud
def Ev_:=nx CT_
def TM:Rg:=λE call round tm=>
 M.bind (oS (T.get tm 0) λa=>kBox a) λv1=>
 setF 1 v1 tm λtm1=>
 mv (some .nilFunc) λv2=>
 setF 2 v2 tm1 λtm2=>
 M.pure tm2
theorem NV_:RegEq 40 4 Pf Ud TM:={}
def Ac_:Rg:=λE call round tm=>
 M.bind (oS (seqO []) λa=>oS (seqO [(T.get tm 1)]) λb=>M.pure (.func (.func 64) a.toArray b.toArray)) λv3=>
 mv (some v3) λv2=>
 setF 2 v2 tm λtm1=>
 M.pure tm1
theorem Kx_:RegEq 40 4 Pf CT_ Ac_:={}
theorem WH_: ∃k,Ev_= .code .ret::k:=⟨Ev_.tail,by kernel_rfl⟩
def CU:Nat:=Ar Tryz.f64
abbrev Pl:Nat:=65
def Xp:Code:=Tryz.f64.body.getD .skip
theorem Gu_:envS.fn.get 64=some Tryz.f64:=by kernel_rfl
theorem Te_:G2 envS 64 65 CU Xp:=λh=>
 aI Gu_ (h _ (by kernel_rfl) (by kernel_rfl))
theorem Mi_:Tryz.f64.results.toList=[]:=by kernel_rfl
def I2:List Item:=skim 64 [.code Xp]
def Qa:=nx I2
def SD:=bt Qa
def Or_:=bf Qa
def Fj_:=nx SD
def Az_:=nx Fj_
def HR:=bf Az_
def XQ:=nx HR
def Cb_:=nx XQ
def CQ_:=bf Cb_
theorem WQ_:skim 64 CQ_.tail=I2:=by kernel_rfl
def PI:Rg:=λE call round tm=>
 lD E 23 (T.get tm 1) λv6=>
 lN E .len [23] [(some v6)] λv7=>
 bI E .geq 3 (.tmp 7) (.const (.int .i64 9)) (some v7) (some (.int .i64 9)) λv8=>
 setF 8 v8 tm λtm1=>
 M.pure tm1
theorem Xr:RegEq 64 65 CU I2 PI:={}
theorem Du_:Ak Qa=some 8:=by kernel_rfl
def Tf:Rg:=λE call round tm=>
 lD E 23 (T.get tm 1) λv10=>
 M.bind (M.on (some v10) λa=>M.on (some none) λb=>M.on (onO (some (.int .i64 9)) λv=>some (some v)) λc=>Bz E 23 a b c) λv11=>
 cN call round 22 [(some v11)] λv12=>
 mv (some v12) λv9=>
 eX 0 (some v9) λv13=>
 eX 1 (some v9) λv14=>
 mv (some v13) λv3=>
 setF 3 v3 tm λtm1=>
 mv (some v14) λv4=>
 setF 4 v4 tm1 λtm2=>
 M.pure tm2
theorem Uz_:RegEq 64 65 CU SD Tf:={}
def S8:Rg:=λE call round tm=>
 mv (T.get tm 4) λv15=>
 bI E .neq 29 (.tmp 15) (.const (.int .i64 0)) (some v15) (some (.int .i64 0)) λv16=>
 setF 16 v16 tm λtm1=>
 M.pure tm1
theorem Jy_:RegEq 64 65 CU Fj_ S8:={}
theorem AaB_:Ak Az_=some 16:=by kernel_rfl
def GT_:RdW:=λE call round tm=>
 PD (T.get tm 3) λp0=>
 ID E 23 (some p0.1) (some (.int .i64 0)) λp1=>
 LD E 5 (some p1.1) λp2=>
 VB E 5 3 (some p2.1) λp3=>
 PD (T.get tm 3) λp4=>
 ID E 23 (some p4.1) (some (.int .i64 1)) λp5=>
 LD E 5 (some p5.1) λp6=>
 VB E 5 3 (some p6.1) λp7=>
 BI E .shl 3 (.tmp 24) (.const (.int .u64 24)) (some p7.1) (some (.int .u64 24)) λp8=>
 PD (T.get tm 3) λp9=>
 ID E 23 (some p9.1) (some (.int .i64 2)) λp10=>
 LD E 5 (some p10.1) λp11=>
 VB E 5 3 (some p11.1) λp12=>
 BI E .shl 3 (.tmp 29) (.const (.int .u64 16)) (some p12.1) (some (.int .u64 16)) λp13=>
 BI E .or 3 (.tmp 25) (.tmp 30) (some p8.1) (some p13.1) λp14=>
 PD (T.get tm 3) λp15=>
 ID E 23 (some p15.1) (some (.int .i64 3)) λp16=>
 LD E 5 (some p16.1) λp17=>
 VB E 5 3 (some p17.1) λp18=>
 BI E .shl 3 (.tmp 35) (.const (.int .u64 8)) (some p18.1) (some (.int .u64 8)) λp19=>
 BI E .or 3 (.tmp 31) (.tmp 36) (some p14.1) (some p19.1) λp20=>
 PD (T.get tm 3) λp21=>
 ID E 23 (some p21.1) (some (.int .i64 4)) λp22=>
 LD E 5 (some p22.1) λp23=>
 VB E 5 3 (some p23.1) λp24=>
 BI E .or 3 (.tmp 37) (.tmp 41) (some p20.1) (some p24.1) λp25=>
 M.bind (apartO (oS (seqP [(0,(some p3.1)),(1,(some p25.1))]) λps=>BP E 90 ps)) λp26=>
 M.bind (apartO (Ce E 90)) λp27=>
 setT 5 p27.1 tm λtm1=>
 fJ [p27,p26,p25,p24,p23,p22,p21,p20,p19,p18,p17,p16,p15,p14,p13,p12,p11,p10,p9,p8,p7,p6,p5,p4,p3,p2,p1,p0] tm1
theorem Vl_:DrawEq 64 65 CU HR [0,1,3,7,0,16,48,112,240,0,512,1536,3584,7680,16368,0,32768,98304,229376,491520,1048560,0,2097152,6291456,14680064,33554416,67108863,0,268435455] GT_:={}
theorem Yo_ (E:Env)(call round:Ah)(x17 x18 x19 x20 x21 x22 x23 x24 x25 x26 x27 x28 x29 x30 x31 x32 x33 x34 x35 x36 x37 x38 x39 x40 x41 x42 x43 x5:Value)(tm:T Value)(s:St):AH call round (Bg E CU 65 (hdC HR)) [x5,x43,x42,x41,x40,x39,x38,x37,x36,x35,x34,x33,x32,x31,x30,x29,x28,x27,x26,x25,x24,x23,x22,x21,x20,x19,x18,x17] tm s=(M.bind (oS (some x5) λa=>oS (some x43) λb=>AB E 90 a b) λ_=>M.pure tm) s:=by kernel_rfl
def VU:Rg:=λE call round tm=>
 fD E 90 0 (T.get tm 5) λv44=>
 lD E 3 (some v44) λv45=>
 bI E .lss 3 (.tmp 45) (.const (.int .i64 1)) (some v45) (some (.int .i64 1)) λv46=>
 mv (some v46) λv47=>
 sK v47 false (oS (T.get tm 5) λa=>kFld E 90 a 0) λv48=>
 sK v47 false (oS (some v48) λa=>AQ E 3 a) λv49=>
 sK v47 false (oS (some v49) λa=>oS (some (.int .i64 2)) λb=>Cl.get (aBin E .gtr 3 (.tmp 49) (.const (.int .i64 2))) a b) λv50=>
 M.bind (M.on (some v47) λa=>M.on (some (.bool true)) λb=>M.on (some v50) λc=>Aw a b c) λv51=>
 mv (some v51) λv52=>
 sK v52 false (oS (T.get tm 5) λa=>kFld E 90 a 1) λv53=>
 sK v52 false (oS (some v53) λa=>AQ E 3 a) λv54=>
 sK v52 false (oS (some v54) λa=>oS (some (.int .i64 2147483647)) λb=>Cl.get (aBin E .gtr 3 (.tmp 54) (.const (.int .i64 2147483647))) a b) λv55=>
 M.bind (M.on (some v52) λa=>M.on (some (.bool true)) λb=>M.on (some v55) λc=>Aw a b c) λv56=>
 mv (some v56) λv57=>
 sK v57 false (oS (T.get tm 0) λa=>M.pure a) λv58=>
 sK v57 false (oS (T.get tm 5) λa=>AQ E 90 a) λv59=>
 sK v57 false (M.on (some v58) λf=>M.on (seqO [(some v59)]) λl=>Be call round f l) λv60=>
 sK v57 false (oS (some v60) λa=>kUn E.P .not a) λv61=>
 M.bind (M.on (some v57) λa=>M.on (some (.bool true)) λb=>M.on (some v61) λc=>Aw a b c) λv62=>
 setF 62 v62 tm λtm1=>
 M.pure tm1
theorem Oi_:RegEq 64 65 CU XQ VU:={}
theorem Jo_:Ak Cb_=some 62:=by kernel_rfl
def Ez_:Rg:=λE call round tm=>
 lD E 23 (T.get tm 1) λv63=>
 M.bind (M.on (some v63) λa=>M.on (onO (some (.int .i64 9)) λv=>some (some v)) λb=>M.on (some none) λc=>Bz E 23 a b c) λv64=>
 M.bind (oS (T.get tm 1) λa=>oS (some v64) λb=>AB E 23 a b) λ_=>
 M.pure tm
theorem Adb_:RegEq 64 65 CU CQ_ Ez_:={}
def Hl:Nat:=Ar Tryz.f41
def Fc_:Code:=Tryz.f41.body.getD .skip
theorem OG:envS.fn.get 41=some Tryz.f41:=by kernel_rfl
theorem TV_:G2 envS 41 13 Hl Fc_:=λh=>
 aI OG (h _ (by kernel_rfl) (by kernel_rfl))
theorem Yt:Tryz.f41.results.toList=[.tmp 4]:=by kernel_rfl
def GO_:List Item:=skim 64 [.code Fc_]
def Rn:=nx GO_
def Mc:=nx Rn
def QH:=bt Mc
def Xv:=bf Mc
def BM_:=nx QH
def VG:=nx Xv
def V8:Rg:=λE call round tm=>
 mv (some (.pointer none)) λv4=>
 setF 4 v4 tm λtm1=>
 M.pure tm1
theorem Md_:RegEq 41 13 Hl GO_ V8:={}
def XW:Rg:=λE call round tm=>
 mv (T.get tm 1) λv5=>
 bI E .eql 3 (.tmp 5) (.const (.int .i64 1)) (some v5) (some (.int .i64 1)) λv6=>
 setF 6 v6 tm λtm1=>
 M.pure tm1
theorem QM_:RegEq 41 13 Hl Rn XW:={}
theorem YO:Ak Mc=some 6:=by kernel_rfl
def EC_:Rg:=λE call round tm=>
 mv (T.get tm 0) λv7=>
 M.bind (oS (some v7) λa=>kNil a) λv8=>
 fD E 68 2 (some v8) λv9=>
 mv (some v9) λv4=>
 setF 4 v4 tm λtm1=>
 M.pure tm1
theorem Tg_:RegEq 41 13 Hl QH EC_:={}
def Zw:Rg:=λE call round tm=>
 mv (T.get tm 0) λv10=>
 M.bind (oS (some v10) λa=>kNil a) λv11=>
 fD E 68 3 (some v11) λv12=>
 mv (some v12) λv4=>
 setF 4 v4 tm λtm1=>
 M.pure tm1
theorem Uw_:RegEq 41 13 Hl Xv Zw:={}
theorem LV_: ∃k,BM_= .code .ret::k:=⟨BM_.tail,by kernel_rfl⟩
theorem Kk_: ∃k,VG= .code .ret::k:=⟨VG.tail,by kernel_rfl⟩
def BX:Nat:=Ar Tryz.f38
abbrev Lh:Nat:=47
def T0:Code:=Tryz.f38.body.getD .skip
theorem Yh:envS.fn.get 38=some Tryz.f38:=by kernel_rfl
theorem Pr_:G1 envS 38 47 BX T0:=λh=>
 aI Yh (h _ (by kernel_rfl))
theorem Acu_:Tryz.f38.results.toList=[.tmp 2]:=by kernel_rfl
def Es_:List Item:=skim 64 [.code T0]
def TP:=nx Es_
def RD:=nx TP
def J9:=nx RD
def Nk:=nx J9
def Ub:=bt Nk
def IQ:=bf Nk
def R9:=nx Ub
def BO_:=nx IQ
def Fa_:=nx R9
def Gs_:=nx BO_
def XH:=nx Fa_
def Mk:=nx XH
def V9:=bt Mk
def Ll:=bf Mk
theorem Zy_:skim 64 V9.tail=Ll:=by kernel_rfl
theorem Jj_:skim 64 Ll.tail=J9:=by kernel_rfl
def Qz:Rg:=λE call round tm=>
 mv (some (.slice none 0 0)) λv2=>
 setF 2 v2 tm λtm1=>
 M.pure tm1
theorem RF_:RegEq 38 47 BX Es_ Qz:={}
def Dk_:Rg:=λE call round tm=>
 mv (some (.slice none 0 0)) λv3=>
 setF 3 v3 tm λtm1=>
 M.pure tm1
theorem Acb_:RegEq 38 47 BX TP Dk_:={}
def Hm_:Rg:=λE call round tm=>
 mv (T.get tm 0) λv9=>
 cN call round 18 [(some v9),(some (.string {data:= #[106,111,117,114,110,97,108,46]}))] λv10=>
 setF 10 v10 tm λtm1=>
 lN E .len [41] [(some v10)] λv11=>
 setF 11 v11 tm1 λtm2=>
 mv (some (.int .i64 0)) λv12=>
 setF 12 v12 tm2 λtm3=>
 M.pure tm3
theorem Ny_:RegEq 38 47 BX RD Hm_:={}
def N1:Rg:=λE call round tm=>
 bI E .lss 3 (.tmp 12) (.tmp 11) (T.get tm 12) (T.get tm 11) λv13=>
 setF 13 v13 tm λtm1=>
 M.pure tm1
theorem AZ_:RegEq 38 47 BX J9 N1:={}
theorem ZL:Ak Nk=some 13:=by kernel_rfl
def RI:Rg:=λE call round tm=>
 iD E 41 (T.get tm 10) (T.get tm 12) λv14=>
 lD E 9 (some v14) λv15=>
 mv (some v15) λv5=>
 setF 5 v5 tm λtm1=>
 M.pure tm1
theorem Vw_:RegEq 38 47 BX Ub RI:={}
def U2:Rg:=λE call round tm=>
 mv (T.get tm 3) λv44=>
 cN call round 62 [(some v44)] λv45=>
 M.pure tm
theorem QW_:RegEq 38 47 BX IQ U2:={}
def Ff_:Rg:=λE call round tm=>
 mv (T.get tm 5) λv16=>
 cN call round 60 [(some v16),(some (.string {data:= #[106,111,117,114,110,97,108,46]}))] λv17=>
 mv (some v17) λv6=>
 setF 6 v6 tm λtm1=>
 M.pure tm1
theorem Ni_:RegEq 38 47 BX R9 Ff_:={}
def YH:Rg:=λE call round tm=>
 mv (T.get tm 3) λv46=>
 mv (some v46) λv2=>
 setF 2 v2 tm λtm1=>
 M.pure tm1
theorem ZJ_:RegEq 38 47 BX BO_ YH:={}
def AF_:Rg:=λE call round tm=>
 mv (T.get tm 6) λv19=>
 cN call round 61 [(some v19)] λv20=>
 mv (some v20) λv18=>
 eX 0 (some v18) λv21=>
 eX 1 (some v18) λv22=>
 mv (some v21) λv7=>
 setF 7 v7 tm λtm1=>
 mv (some v22) λv8=>
 setF 8 v8 tm1 λtm2=>
 M.pure tm2
theorem XQ_:RegEq 38 47 BX Fa_ AF_:={}
theorem Pl_: ∃k,Gs_= .code .ret::k:=⟨Gs_.tail,by kernel_rfl⟩
def XE:Rg:=λE call round tm=>
 mv (T.get tm 8) λv23=>
 bI E .eql 108 (.tmp 23) (.const .nilIface) (some v23) (some .nilIface) λv24=>
 mv (some v24) λv25=>
 sK v25 true (oS (T.get tm 7) λa=>M.pure a) λv26=>
 sK v25 true (oS (some v26) λa=>oS (some (.int .i64 1)) λb=>Cl.get (aBin E .geq 3 (.tmp 26) (.const (.int .i64 1))) a b) λv27=>
 M.bind (M.on (some v25) λa=>M.on (some v27) λb=>M.on (some (.bool false)) λc=>Aw a b c) λv28=>
 mv (some v28) λv29=>
 sK v29 true (oS (T.get tm 7) λa=>M.pure a) λv30=>
 sK v29 true (oS (some v30) λa=>oS (some (.int .i64 2147483647)) λb=>Cl.get (aBin E .leq 3 (.tmp 30) (.const (.int .i64 2147483647))) a b) λv31=>
 M.bind (M.on (some v29) λa=>M.on (some v31) λb=>M.on (some (.bool false)) λc=>Aw a b c) λv32=>
 mv (some v32) λv33=>
 sK v33 true (oS (T.get tm 7) λa=>M.pure a) λv34=>
 sK v33 true (M.on (some (.func (.func 39) #[] #[])) λf=>M.on (seqO [(some v34)]) λl=>Be call round f l) λv35=>
 sK v33 true (oS (T.get tm 6) λa=>M.pure a) λv36=>
 sK v33 true (oS (some v35) λa=>oS (some v36) λb=>Cl.get (aBin E .eql 9 (.tmp 35) (.tmp 36)) a b) λv37=>
 M.bind (M.on (some v33) λa=>M.on (some v37) λb=>M.on (some (.bool false)) λc=>Aw a b c) λv38=>
 setF 38 v38 tm λtm1=>
 M.pure tm1
theorem Jq_:RegEq 38 47 BX XH XE:={}
theorem Tk_:Ak Mk=some 38:=by kernel_rfl
def HW_:Rg:=λE call round tm=>
 mv (T.get tm 3) λv39=>
 mv (T.get tm 7) λv40=>
 M.bind (oS (seqP [(0,(some v40))]) λps=>BY E 63 1 ps) λv41=>
 lN E .append [63,63] [(some v39),(some v41)] λv42=>
 mv (some v42) λv3=>
 setF 3 v3 tm λtm1=>
 M.pure tm1
theorem XR_:RegEq 38 47 BX V9 HW_:={}
def Tp:Rg:=λE call round tm=>
 bI E .add 3 (.tmp 12) (.const (.int .i64 1)) (T.get tm 12) (some (.int .i64 1)) λv43=>
 mv (some v43) λv12=>
 setF 12 v12 tm λtm1=>
 M.pure tm1
theorem NN_:RegEq 38 47 BX Ll Tp:={}
def AD:Nat:=Ar Tryz.f13
abbrev Dy:Nat:=110
def T4:Code:=Tryz.f13.body.getD .skip
theorem HB_:envS.fn.get 13=some Tryz.f13:=by kernel_rfl
theorem Ug_:G1 envS 13 110 AD T4:=λh=>
 aI HB_ (h _ (by kernel_rfl))
theorem Sh_:Tryz.f13.results.toList=[.tmp 2, .tmp 3]:=by kernel_rfl
def Ze:List Item:=skim 64 [.code T4]
def RP:=nx Ze
def Dh_:=nx RP
def HJ_:=nx Dh_
def If_:=bf HJ_
def GV_:=nx If_
def Sf:=nx GV_
def XY:=nx Sf
def J0:=nx XY
def Lv:=nx J0
def WK:=bt Lv
def J8:=bf Lv
def AW_:=nx WK
def SO:=nx J8
def Cw_:=nx AW_
def OO:=bf SO
def VK:=nx Cw_
def H6:=nx OO
def DH_:=bf VK
def MT:=nx H6
def E6:=nx DH_
def NK:=nx MT
def Jr:Code:=asC E6
def Kg:Code:=bdC E6
theorem AaV_:rfP E6=some (50,[51],Jr,Kg):=by kernel_rfl
theorem Sn_:Gj_ E6=[.code Jr, .beginRound, .code Kg]:=by kernel_rfl
def Xi:=nx E6
def M4:List Item:=skim 64 (Gj_ E6)
def QQ:=bt NK
def EL_:=bf NK
def X9:=nx Xi
def KT:=nx M4
def Lj:=nx QQ
def JI:=nx EL_
theorem AcI_:skim 64 X9.tail=J0:=by kernel_rfl
def S9:=nx KT
def MJ:=nx JI
def Ma:=nx S9
def Ha_:=bt MJ
def Tc:=bf MJ
def Ks_:=nx Ma
def Z0:=nx Ha_
def K3:=nx Tc
def S1:=nx Z0
def PK:=nx S1
def FP_:=bt PK
def DY_:=bf PK
def Pz:=nx FP_
theorem XN_:skim 64 DY_.tail=JI:=by kernel_rfl
def Bf_:Rg:=λE call round tm=>
 mv (some (.pointer none)) λv2=>
 setF 2 v2 tm λtm1=>
 mv (some (.int .i64 0)) λv3=>
 setF 3 v3 tm1 λtm2=>
 M.pure tm2
theorem MM_:RegEq 13 110 AD Ze Bf_:={}
def Bg_:Rg:=λE call round tm=>
 mv (T.get tm 0) λv20=>
 cN call round 21 [(some v20),(some (.string {data:= #[]}))] λv21=>
 mv (some v21) λv19=>
 eX 0 (some v19) λv22=>
 eX 1 (some v19) λv23=>
 mv (some v22) λv4=>
 mv (some v23) λv5=>
 setF 5 v5 tm λtm1=>
 M.pure tm1
theorem Za_:RegEq 13 110 AD RP Bg_:={}
def EA_:Rg:=λE call round tm=>
 mv (T.get tm 5) λv24=>
 bI E .eql 29 (.tmp 24) (.const (.int .i64 1)) (some v24) (some (.int .i64 1)) λv25=>
 setF 25 v25 tm λtm1=>
 M.pure tm1
theorem AaI_:RegEq 13 110 AD Dh_ EA_:={}
theorem UZ_:Ak HJ_=some 25:=by kernel_rfl
def EF_:Rg:=λE call round tm=>
 mv (T.get tm 0) λv27=>
 M.bind (oS (seqP [(0,(some v27))]) λps=>BP E 68 ps) λv28=>
 M.bind (oS (some v28) λa=>kBox a) λv29=>
 M.bind (Ce E 26) λv6=>
 setF 6 v6 tm λtm1=>
 M.bind (oS (some v6) λa=>oS (some v29) λb=>AB E 26 a b) λ_=>
 M.pure tm1
theorem JV_:RegEq 13 110 AD If_ EF_:={}
def ZS:Rg:=λE call round tm=>
 mv (T.get tm 0) λv30=>
 cN call round 38 [(some v30)] λv31=>
 mv (some v31) λv7=>
 setF 7 v7 tm λtm1=>
 M.pure tm1
theorem MO_:RegEq 13 110 AD GV_ ZS:={}
def SX:Rg:=λE call round tm=>
 mv (some (.int .i64 1)) λv8=>
 setF 8 v8 tm λtm1=>
 M.pure tm1
theorem AaW_:RegEq 13 110 AD Sf SX:={}
def Gy_:Rg:=λE call round tm=>
 mv (T.get tm 7) λv32=>
 setF 32 v32 tm λtm1=>
 lN E .len [63] [(some v32)] λv33=>
 setF 33 v33 tm1 λtm2=>
 mv (some (.int .i64 0)) λv34=>
 setF 34 v34 tm2 λtm3=>
 M.pure tm3
theorem WA_:RegEq 13 110 AD XY Gy_:={}
def NR:Rg:=λE call round tm=>
 bI E .lss 3 (.tmp 34) (.tmp 33) (T.get tm 34) (T.get tm 33) λv35=>
 setF 35 v35 tm λtm1=>
 M.pure tm1
theorem As_:RegEq 13 110 AD J0 NR:={}
theorem CA_:Ak Lv=some 35:=by kernel_rfl
def S0:Rg:=λE call round tm=>
 iD E 63 (T.get tm 32) (T.get tm 34) λv36=>
 lD E 3 (some v36) λv37=>
 mv (some v37) λv10=>
 setF 10 v10 tm λtm1=>
 M.pure tm1
theorem AbI_:RegEq 13 110 AD WK S0:={}
def Bm_:Rg:=λE call round tm=>
 mv (T.get tm 8) λv67=>
 bI E .gtr 3 (.tmp 67) (.const (.int .i64 2147483647)) (some v67) (some (.int .i64 2147483647)) λv68=>
 setF 68 v68 tm λtm1=>
 M.pure tm1
theorem Qc_:RegEq 13 110 AD J8 Bm_:={}
def YE:Rg:=λE call round tm=>
 mv (T.get tm 0) λv39=>
 mv (T.get tm 10) λv40=>
 cN call round 39 [(some v40)] λv41=>
 bI E .add 9 (.const (.string {data:= #[106,111,117,114,110,97,108,46]})) (.tmp 41) (some (.string {data:= #[106,111,117,114,110,97,108,46]})) (some v41) λv42=>
 cN call round 21 [(some v39),(some v42)] λv43=>
 mv (some v43) λv38=>
 eX 0 (some v38) λv44=>
 eX 1 (some v38) λv45=>
 mv (some v44) λv11=>
 setF 11 v11 tm λtm1=>
 mv (some v45) λv12=>
 setF 12 v12 tm1 λtm2=>
 M.pure tm2
theorem NC_:RegEq 13 110 AD AW_ YE:={}
theorem Va_:Ak SO=some 68:=by kernel_rfl
def Ch_:Rg:=λE call round tm=>
 mv (T.get tm 12) λv46=>
 bI E .neq 29 (.tmp 46) (.const (.int .i64 0)) (some v46) (some (.int .i64 0)) λv47=>
 setF 47 v47 tm λtm1=>
 M.pure tm1
theorem KH_:RegEq 13 110 AD Cw_ Ch_:={}
def Vi:RdW:=λE call round tm=>
 LD E 26 (T.get tm 6) λp0=>
 PD (T.get tm 8) λp1=>
 CN call round 39 [(some p1.1)] λp2=>
 BI E .add 9 (.const (.string {data:= #[106,111,117,114,110,97,108,46]})) (.tmp 71) (some (.string {data:= #[106,111,117,114,110,97,108,46]})) (some p2.1) λp3=>
 M.bind (apartO (oS (some p0.1) λa=>kNil a)) λp4=>
 FD E 68 1 (some p4.1) λp5=>
 fJ [p5,p4,p3,p2,p1,p0] tm
theorem KL_:DrawEq 13 110 AD OO [0,0,2,6,15,31,63] Vi:={}
theorem VO_ (E:Env)(call round:Ah)(x69 x70 x71 x72 x73 x74:Value)(tm:T Value)(s:St):AH call round (Bg E AD 110 (hdC OO)) [x74,x73,x72,x71,x70,x69] tm s=(M.bind (oS (some x74) λa=>oS (some x72) λb=>AB E 9 a b) λ_=>M.pure tm) s:=by kernel_rfl
theorem NG_:Ak VK=some 47:=by kernel_rfl
def Yj:RdW:=λE call round tm=>
 LD E 26 (T.get tm 6) λp0=>
 LD E 26 (T.get tm 6) λp1=>
 M.bind (apartO (oS (some p1.1) λa=>kNil a)) λp2=>
 FD E 68 2 (some p2.1) λp3=>
 LD E 3 (some p3.1) λp4=>
 M.bind (apartO (oS (seqP [(0,(some (.int .i64 1))),(1,(some p4.1))]) λps=>BP E 90 ps)) λp5=>
 CN call round 44 [(some p5.1)] λp6=>
 LD E 26 (T.get tm 6) λp7=>
 M.bind (apartO (oS (some p7.1) λa=>kNil a)) λp8=>
 FD E 68 3 (some p8.1) λp9=>
 LD E 3 (some p9.1) λp10=>
 M.bind (apartO (oS (seqP [(0,(some (.int .i64 2))),(1,(some p10.1))]) λps=>BP E 90 ps)) λp11=>
 CN call round 44 [(some p11.1)] λp12=>
 M.bind (apartO (oS (seqP [(0,(some p6.1)),(1,(some p12.1))]) λps=>BY E 114 2 ps)) λp13=>
 CN call round 43 [(some p13.1)] λp14=>
 CN call round 42 [(some p0.1),(some p14.1)] λp15=>
 fJ [p15,p14,p13,p12,p11,p10,p9,p8,p7,p6,p5,p4,p3,p2,p1,p0] tm
theorem Nb_:DrawEq 13 110 AD H6 [0,0,2,6,14,30,62,0,128,384,896,1920,4094,8190,16382,32767,65535] Yj:={}
theorem Jx_ (E:Env)(call round:Ah)(x75 x76 x77 x78 x79 x80 x81 x82 x83 x84 x85 x86 x87 x88 x89 x90:Value)(tm:T Value)(s:St):AH call round (Bg E AD 110 (hdC H6)) [x90,x89,x88,x87,x86,x85,x84,x83,x82,x81,x80,x79,x78,x77,x76,x75] tm s=(M.bind (oS (some x90) λa=>M.pure a) λv15=>setT 15 v15 tm λtm1=>M.pure tm1) s:=by kernel_rfl
def Uv:Rg:=λE call round tm=>
 mv (T.get tm 11) λv49=>
 cN call round 40 [(some v49)] λv50=>
 setF 50 v50 tm λtm1=>
 M.pure tm1
theorem Op_:RegEq 13 110 AD DH_ Uv:={}
def Nh:Rg:=λE call round tm=>
 mv (T.get tm 15) λv91=>
 bI E .neq 29 (.tmp 91) (.const (.int .i64 0)) (some v91) (some (.int .i64 0)) λv92=>
 setF 92 v92 tm λtm1=>
 M.pure tm1
theorem UY_:RegEq 13 110 AD MT Nh:={}
theorem WX:Ak NK=some 92:=by kernel_rfl
def Hc_:Rg:=λE call round tm=>
 mv (T.get tm 10) λv64=>
 bI E .add 3 (.tmp 64) (.const (.int .i64 1)) (some v64) (some (.int .i64 1)) λv65=>
 mv (some v65) λv8=>
 setF 8 v8 tm λtm1=>
 M.pure tm1
theorem RM_:RegEq 13 110 AD Xi Hc_:={}
def UQ:Rg:=λE call round tm=>
 M.bind (Ce E 90) λv13=>
 setF 13 v13 tm λtm1=>
 M.bind (oS (some v13) λa=>oS (T.get tm1 51) λb=>AB E 90 a b) λ_=>
 M.pure tm1
theorem Uj_:RegEq 13 110 AD M4 UQ:={}
def DK_:Rg:=λE call round tm=>
 mv (T.get tm 15) λv93=>
 mv (some (.pointer none)) λv2=>
 setF 2 v2 tm λtm1=>
 mv (some v93) λv3=>
 setF 3 v3 tm1 λtm2=>
 M.pure tm2
theorem VB_:RegEq 13 110 AD QQ DK_:={}
def Ve:Rg:=λE call round tm=>
 mv (T.get tm 7) λv94=>
 setF 94 v94 tm λtm1=>
 lN E .len [63] [(some v94)] λv95=>
 setF 95 v95 tm1 λtm2=>
 mv (some (.int .i64 0)) λv96=>
 setF 96 v96 tm2 λtm3=>
 M.pure tm3
theorem JW_:RegEq 13 110 AD EL_ Ve:={}
def RW:Rg:=λE call round tm=>
 bI E .add 3 (.tmp 34) (.const (.int .i64 1)) (T.get tm 34) (some (.int .i64 1)) λv66=>
 mv (some v66) λv34=>
 setF 34 v34 tm λtm1=>
 M.pure tm1
theorem OW_:RegEq 13 110 AD X9 RW:={}
theorem IQ_:KT= .beginRound::KT.tail:=by kernel_rfl
theorem Rs_: ∃k,Lj= .code .ret::k:=⟨Lj.tail,by kernel_rfl⟩
def Md:Rg:=λE call round tm=>
 bI E .lss 3 (.tmp 96) (.tmp 95) (T.get tm 96) (T.get tm 95) λv97=>
 setF 97 v97 tm λtm1=>
 M.pure tm1
theorem WR:RegEq 13 110 AD JI Md:={}
def RZ:Rg:=λE call round tm=>
 lD E 26 (T.get tm 6) λv52=>
 fD E 90 0 (T.get tm 13) λv53=>
 lD E 3 (some v53) λv54=>
 cN call round 41 [(some v52),(some v54)] λv55=>
 mv (some v55) λv14=>
 setF 14 v14 tm λtm1=>
 M.pure tm1
theorem LE_:RegEq 13 110 AD S9 RZ:={}
theorem TG:Ak MJ=some 97:=by kernel_rfl
def VQ:RdW:=λE call round tm=>
 PD (T.get tm 14) λp0=>
 PD (T.get tm 14) λp1=>
 M.bind (apartO (oS (some p1.1) λa=>kNil a)) λp2=>
 LD E 3 (some p2.1) λp3=>
 FD E 90 1 (T.get tm 13) λp4=>
 LD E 3 (some p4.1) λp5=>
 LN E .max [3,3] [(some p3.1),(some p5.1)] λp6=>
 M.bind (apartO (oS (some p0.1) λa=>kNil a)) λp7=>
 fJ [p7,p6,p5,p4,p3,p2,p1,p0] tm
theorem Ku_:DrawEq 13 110 AD Ma [0,0,2,6,0,16,62,127,255] VQ:={}
theorem Acn_ (E:Env)(call round:Ah)(x56 x57 x58 x59 x60 x61 x62 x63:Value)(tm:T Value)(s:St):AH call round (Bg E AD 110 (hdC Ma)) [x63,x62,x61,x60,x59,x58,x57,x56] tm s=(M.bind (oS (some x63) λa=>oS (some x62) λb=>AB E 3 a b) λ_=>M.pure tm) s:=by kernel_rfl
def XN:Rg:=λE call round tm=>
 iD E 63 (T.get tm 94) (T.get tm 96) λv98=>
 lD E 3 (some v98) λv99=>
 mv (some v99) λv17=>
 setF 17 v17 tm λtm1=>
 M.pure tm1
theorem Adl_:RegEq 13 110 AD Ha_ XN:={}
def Cs_:Rg:=λE call round tm=>
 lD E 26 (T.get tm 6) λv109=>
 mv (some v109) λv2=>
 setF 2 v2 tm λtm1=>
 mv (some (.int .i64 0)) λv3=>
 setF 3 v3 tm1 λtm2=>
 M.pure tm2
theorem Abx_:RegEq 13 110 AD Tc Cs_:={}
def Dx_:Rg:=λE call round tm=>
 mv (T.get tm 0) λv100=>
 mv (T.get tm 17) λv101=>
 cN call round 39 [(some v101)] λv102=>
 bI E .add 9 (.const (.string {data:= #[106,111,117,114,110,97,108,46]})) (.tmp 102) (some (.string {data:= #[106,111,117,114,110,97,108,46]})) (some v102) λv103=>
 cN call round 45 [(some v100),(some v103)] λv104=>
 mv (some v104) λv18=>
 setF 18 v18 tm λtm1=>
 M.pure tm1
theorem Rt_:RegEq 13 110 AD Z0 Dx_:={}
theorem Nc_: ∃k,K3= .code .ret::k:=⟨K3.tail,by kernel_rfl⟩
def O7:Rg:=λE call round tm=>
 mv (T.get tm 18) λv105=>
 bI E .neq 29 (.tmp 105) (.const (.int .i64 0)) (some v105) (some (.int .i64 0)) λv106=>
 setF 106 v106 tm λtm1=>
 M.pure tm1
theorem SR:RegEq 13 110 AD S1 O7:={}
theorem UU:Ak PK=some 106:=by kernel_rfl
def ZC:Rg:=λE call round tm=>
 mv (T.get tm 18) λv107=>
 mv (some (.pointer none)) λv2=>
 setF 2 v2 tm λtm1=>
 mv (some v107) λv3=>
 setF 3 v3 tm1 λtm2=>
 M.pure tm2
theorem Ke_:RegEq 13 110 AD FP_ ZC:={}
def Er_:Rg:=λE call round tm=>
 bI E .add 3 (.tmp 96) (.const (.int .i64 1)) (T.get tm 96) (some (.int .i64 1)) λv108=>
 mv (some v108) λv96=>
 setF 96 v96 tm λtm1=>
 M.pure tm1
theorem Vf_:RegEq 13 110 AD DY_ Er_:={}
theorem MU_: ∃k,Pz= .code .ret::k:=⟨Pz.tail,by kernel_rfl⟩
def Er:Nat:=Ar Tryz.f42
def GN_:Code:=Tryz.f42.body.getD .skip
theorem IP:envS.fn.get 42=some Tryz.f42:=by kernel_rfl
theorem Om_:G2 envS 42 28 Er GN_:=λh=>
 aI IP (h _ (by kernel_rfl) (by kernel_rfl))
theorem MX:Tryz.f42.results.toList=[.tmp 4]:=by kernel_rfl
def Xa:List Item:=skim 64 [.code GN_]
def OX:=nx Xa
def Qs:=nx OX
def PJ:=nx Qs
def Zo:=bt PJ
def MZ:=bf PJ
def Uj:=nx Zo
def HV_:=nx MZ
def Zl:Rg:=λE call round tm=>
 mv (some (.int .i64 0)) λv4=>
 setF 4 v4 tm λtm1=>
 M.pure tm1
theorem Ace_:RegEq 42 28 Er Xa Zl:={}
def SJ:RdW:=λE call round tm=>
 PD (T.get tm 0) λp0=>
 M.bind (apartO (oS (some p0.1) λa=>kNil a)) λp1=>
 FD E 68 0 (some p1.1) λp2=>
 LD E 25 (some p2.1) λp3=>
 PD (T.get tm 0) λp4=>
 M.bind (apartO (oS (some p4.1) λa=>kNil a)) λp5=>
 FD E 68 1 (some p5.1) λp6=>
 LD E 9 (some p6.1) λp7=>
 PD (T.get tm 1) λp8=>
 CN call round 11 [(some p3.1),(some p7.1),(some p8.1)] λp9=>
 fJ [p9,p8,p7,p6,p5,p4,p3,p2,p1,p0] tm
theorem NS_:DrawEq 42 28 Er OX [0,1,3,7,0,16,48,112,0,511,1023] SJ:={}
theorem Vr (E:Env)(call round:Ah)(x6 x7 x8 x9 x10 x11 x12 x13 x14 x15:Value)(tm:T Value)(s:St):AH call round (Bg E Er 28 (hdC OX)) [x15,x14,x13,x12,x11,x10,x9,x8,x7,x6] tm s=(M.bind (oS (some x15) λa=>M.pure a) λv5=>setT 5 v5 tm λtm1=>M.pure tm1) s:=by kernel_rfl
def NV:Rg:=λE call round tm=>
 mv (T.get tm 5) λv16=>
 bI E .neq 29 (.tmp 16) (.const (.int .i64 0)) (some v16) (some (.int .i64 0)) λv17=>
 setF 17 v17 tm λtm1=>
 M.pure tm1
theorem CY_:RegEq 42 28 Er Qs NV:={}
theorem Vu:Ak PJ=some 17:=by kernel_rfl
def DZ_:Rg:=λE call round tm=>
 mv (T.get tm 5) λv18=>
 mv (some v18) λv4=>
 setF 4 v4 tm λtm1=>
 M.pure tm1
theorem Add_:RegEq 42 28 Er Zo DZ_:={}
def Gg_:RdW:=λE call round tm=>
 PD (T.get tm 0) λp0=>
 M.bind (apartO (oS (some p0.1) λa=>kNil a)) λp1=>
 FD E 68 0 (some p1.1) λp2=>
 LD E 25 (some p2.1) λp3=>
 PD (T.get tm 0) λp4=>
 M.bind (apartO (oS (some p4.1) λa=>kNil a)) λp5=>
 FD E 68 1 (some p5.1) λp6=>
 LD E 9 (some p6.1) λp7=>
 CN call round 12 [(some p3.1),(some p7.1)] λp8=>
 fJ [p8,p7,p6,p5,p4,p3,p2,p1,p0] tm
theorem Ne_:DrawEq 42 28 Er MZ [0,1,3,7,0,16,48,112,255,511] Gg_:={}
theorem RA (E:Env)(call round:Ah)(x19 x20 x21 x22 x23 x24 x25 x26 x27:Value)(tm:T Value)(s:St):AH call round (Bg E Er 28 (hdC MZ)) [x27,x26,x25,x24,x23,x22,x21,x20,x19] tm s=(M.bind (oS (some x27) λa=>M.pure a) λv4=>setT 4 v4 tm λtm1=>M.pure tm1) s:=by kernel_rfl
theorem YE_: ∃k,Uj= .code .ret::k:=⟨Uj.tail,by kernel_rfl⟩
theorem Yl: ∃k,HV_= .code .ret::k:=⟨HV_.tail,by kernel_rfl⟩
def Pe:Nat:=Ar Tryz.f30
def Xw:Code:=Tryz.f30.body.getD .skip
theorem DU_:envS.fn.get 30=some Tryz.f30:=by kernel_rfl
theorem IW_:G1 envS 30 12 Pe Xw:=λh=>
 aI DU_ (h _ (by kernel_rfl))
theorem YA_:Tryz.f30.results.toList=[.tmp 2]:=by kernel_rfl
def Fr_:List Item:=skim 64 [.code Xw]
def BQ_:=nx Fr_
def X2:=nx BQ_
def SN:Rg:=λE call round tm=>
 mv (some (.bool false)) λv2=>
 setF 2 v2 tm λtm1=>
 M.pure tm1
theorem Pg_:RegEq 30 12 Pe Fr_ SN:={}
def WP:Rg:=λE call round tm=>
 mv (T.get tm 0) λv3=>
 bI E .eql 26 (.tmp 3) (.const (.pointer none)) (some v3) (some (.pointer none)) λv4=>
 mv (some v4) λv5=>
 sK v5 false (oS (T.get tm 0) λa=>M.pure a) λv6=>
 sK v5 false (oS (some v6) λa=>kNil a) λv7=>
 sK v5 false (oS (some v7) λa=>kFld E 68 a 0) λv8=>
 sK v5 false (oS (some v8) λa=>AQ E 25 a) λv9=>
 sK v5 false (oS (some v9) λa=>oS (some (.pointer none)) λb=>Cl.get (aBin E .eql 25 (.tmp 9) (.const (.pointer none))) a b) λv10=>
 M.bind (M.on (some v5) λa=>M.on (some (.bool true)) λb=>M.on (some v10) λc=>Aw a b c) λv11=>
 mv (some v11) λv2=>
 setF 2 v2 tm λtm1=>
 M.pure tm1
theorem LA_:RegEq 30 12 Pe BQ_ WP:={}
theorem JZ_: ∃k,X2= .code .ret::k:=⟨X2.tail,by kernel_rfl⟩
def Dq:Nat:=Ar Tryz.f31
def Ty:Code:=Tryz.f31.body.getD .skip
theorem Li:envS.fn.get 31=some Tryz.f31:=by kernel_rfl
theorem AbY_:G3 envS 31 40 Dq Ty:=λh=>
 aI Li (h _ (by kernel_rfl) (by kernel_rfl) (by kernel_rfl))
theorem Ax_:Tryz.f31.results.toList=[.tmp 6, .tmp 7]:=by kernel_rfl
def Wl:List Item:=skim 64 [.code Ty]
def Bi_:=nx Wl
def AB_:=nx Bi_
def Xt:=bf AB_
def At_:=nx Xt
def Eq_:=bf At_
def Tv:=nx Eq_
def Py:=nx Tv
def Bc_:=bt Py
def Ey_:=bf Py
def Fv_:=nx Bc_
def SL:=nx Ey_
def Rw:=nx Fv_
def Fh_:=nx SL
def Ue:Rg:=λE call round tm=>
 mv (some (.int .i64 0)) λv6=>
 setF 6 v6 tm λtm1=>
 mv (some (.int .i64 0)) λv7=>
 setF 7 v7 tm1 λtm2=>
 M.pure tm2
theorem Acc_:RegEq 31 40 Dq Wl Ue:={}
def CL_:Rg:=λE call round tm=>
 mv (T.get tm 0) λv10=>
 cN call round 27 [(some v10)] λv11=>
 mv (some v11) λv9=>
 setF 9 v9 tm λtm1=>
 M.pure tm1
theorem Lp_:RegEq 31 40 Dq Bi_ CL_:={}
theorem US_:Ak AB_=some 9:=by kernel_rfl
def US:Rg:=λE call round tm=>
 mv (T.get tm 2) λv13=>
 M.bind (oS (some v13) λa=>kNil a) λv14=>
 lD E 3 (some v14) λv15=>
 bI E .eql 3 (.tmp 15) (.const (.int .i64 2147483647)) (some v15) (some (.int .i64 2147483647)) λv16=>
 mv (some v16) λv12=>
 setF 12 v12 tm λtm1=>
 M.pure tm1
theorem JA_:RegEq 31 40 Dq Xt US:={}
theorem ZS_:Ak At_=some 12:=by kernel_rfl
def QR:Rg:=λE call round tm=>
 mv (T.get tm 0) λv17=>
 mv (T.get tm 1) λv18=>
 mv (T.get tm 2) λv19=>
 M.bind (oS (some v19) λa=>kNil a) λv20=>
 lD E 3 (some v20) λv21=>
 bI E .add 3 (.tmp 21) (.const (.int .i64 1)) (some v21) (some (.int .i64 1)) λv22=>
 M.bind (oS (seqP [(0,(some v18)),(1,(some v22))]) λps=>BP E 90 ps) λv23=>
 cN call round 44 [(some v23)] λv24=>
 cN call round 42 [(some v17),(some v24)] λv25=>
 mv (some v25) λv8=>
 setF 8 v8 tm λtm1=>
 M.pure tm1
theorem Abg_:RegEq 31 40 Dq Eq_ QR:={}
def LM:Rg:=λE call round tm=>
 mv (T.get tm 8) λv26=>
 bI E .neq 29 (.tmp 26) (.const (.int .i64 0)) (some v26) (some (.int .i64 0)) λv27=>
 setF 27 v27 tm λtm1=>
 M.pure tm1
theorem Ct_:RegEq 31 40 Dq Tv LM:={}
theorem R7:Ak Py=some 27:=by kernel_rfl
def WF:Rg:=λE call round tm=>
 mv (T.get tm 0) λv28=>
 M.bind (oS (some v28) λa=>kNil a) λv29=>
 fD E 68 4 (some v29) λv30=>
 M.bind (oS (some v30) λa=>oS (some (.bool true)) λb=>AB E 4 a b) λ_=>
 M.pure tm
theorem Rh_:RegEq 31 40 Dq Bc_ WF:={}
def Us:Rg:=λE call round tm=>
 mv (T.get tm 2) λv32=>
 M.bind (oS (some v32) λa=>kNil a) λv33=>
 lD E 3 (some v33) λv34=>
 bI E .add 3 (.tmp 34) (.const (.int .i64 1)) (some v34) (some (.int .i64 1)) λv35=>
 M.bind (oS (some v32) λa=>kNil a) λv36=>
 M.bind (oS (some v36) λa=>oS (some v35) λb=>AB E 3 a b) λ_=>
 M.pure tm
theorem SY_:RegEq 31 40 Dq Ey_ Us:={}
def HD_:Rg:=λE call round tm=>
 mv (T.get tm 8) λv31=>
 mv (some (.int .i64 0)) λv6=>
 setF 6 v6 tm λtm1=>
 mv (some v31) λv7=>
 setF 7 v7 tm1 λtm2=>
 M.pure tm2
theorem YG_:RegEq 31 40 Dq Fv_ HD_:={}
def Vk:Rg:=λE call round tm=>
 mv (T.get tm 2) λv37=>
 M.bind (oS (some v37) λa=>kNil a) λv38=>
 lD E 3 (some v38) λv39=>
 mv (some v39) λv6=>
 setF 6 v6 tm λtm1=>
 mv (some (.int .i64 0)) λv7=>
 setF 7 v7 tm1 λtm2=>
 M.pure tm2
theorem Vt_:RegEq 31 40 Dq SL Vk:={}
theorem Wc_: ∃k,Rw= .code .ret::k:=⟨Rw.tail,by kernel_rfl⟩
theorem WI_: ∃k,Fh_= .code .ret::k:=⟨Fh_.tail,by kernel_rfl⟩
def IM:Nat:=Ar Tryz.f8
def Ra:Code:=Tryz.f8.body.getD .skip
theorem K2:envS.fn.get 8=some Tryz.f8:=by kernel_rfl
theorem Ph_:G1 envS 8 13 IM Ra:=λh=>
 aI K2 (h _ (by kernel_rfl))
theorem ZP:Tryz.f8.results.toList=[.tmp 2, .tmp 3]:=by kernel_rfl
def Sl:List Item:=skim 64 [.code Ra]
def V4:=nx Sl
def CO_:=nx V4
def Wz:=bf CO_
def W8:=nx Wz
def Q7:Rg:=λE call round tm=>
 mv (some (.int .i64 0)) λv2=>
 setF 2 v2 tm λtm1=>
 mv (some (.int .i64 0)) λv3=>
 setF 3 v3 tm1 λtm2=>
 M.pure tm2
theorem Qp_:RegEq 8 13 IM Sl Q7:={}
def XM:Rg:=λE call round tm=>
 mv (T.get tm 0) λv4=>
 cN call round 30 [(some v4)] λv5=>
 setF 5 v5 tm λtm1=>
 M.pure tm1
theorem Sa_:RegEq 8 13 IM V4 XM:={}
theorem Rm_:Ak CO_=some 5:=by kernel_rfl
def Vq:Rg:=λE call round tm=>
 mv (T.get tm 0) λv6=>
 mv (T.get tm 0) λv7=>
 M.bind (oS (some v7) λa=>kNil a) λv8=>
 fD E 68 2 (some v8) λv9=>
 cN call round 31 [(some v6),(some (.int .i64 1)),(some v9)] λv10=>
 eX 0 (some v10) λv11=>
 eX 1 (some v10) λv12=>
 mv (some v11) λv2=>
 setF 2 v2 tm λtm1=>
 mv (some v12) λv3=>
 setF 3 v3 tm1 λtm2=>
 M.pure tm2
theorem Kc_:RegEq 8 13 IM Wz Vq:={}
theorem Ym: ∃k,W8= .code .ret::k:=⟨W8.tail,by kernel_rfl⟩
def IJ:Nat:=Ar Tryz.f9
def Rx:Code:=Tryz.f9.body.getD .skip
theorem Np:envS.fn.get 9=some Tryz.f9:=by kernel_rfl
theorem WM_:G1 envS 9 13 IJ Rx:=λh=>
 aI Np (h _ (by kernel_rfl))
theorem V2:Tryz.f9.results.toList=[.tmp 2, .tmp 3]:=by kernel_rfl
def Gh_:List Item:=skim 64 [.code Rx]
def Bn_:=nx Gh_
def RE:=nx Bn_
def Bd_:=bf RE
def Gq_:=nx Bd_
def Bl_:Rg:=λE call round tm=>
 mv (some (.int .i64 0)) λv2=>
 setF 2 v2 tm λtm1=>
 mv (some (.int .i64 0)) λv3=>
 setF 3 v3 tm1 λtm2=>
 M.pure tm2
theorem YW_:RegEq 9 13 IJ Gh_ Bl_:={}
def YM:Rg:=λE call round tm=>
 mv (T.get tm 0) λv4=>
 cN call round 30 [(some v4)] λv5=>
 setF 5 v5 tm λtm1=>
 M.pure tm1
theorem Mc_:RegEq 9 13 IJ Bn_ YM:={}
theorem Jh_:Ak RE=some 5:=by kernel_rfl
def ZE:Rg:=λE call round tm=>
 mv (T.get tm 0) λv6=>
 mv (T.get tm 0) λv7=>
 M.bind (oS (some v7) λa=>kNil a) λv8=>
 fD E 68 3 (some v8) λv9=>
 cN call round 31 [(some v6),(some (.int .i64 2)),(some v9)] λv10=>
 eX 0 (some v10) λv11=>
 eX 1 (some v10) λv12=>
 mv (some v11) λv2=>
 setF 2 v2 tm λtm1=>
 mv (some v12) λv3=>
 setF 3 v3 tm1 λtm2=>
 M.pure tm2
theorem Pi_:RegEq 9 13 IJ Bd_ ZE:={}
theorem Y5: ∃k,Gq_= .code .ret::k:=⟨Gq_.tail,by kernel_rfl⟩
def Ix:Nat:=Ar Tryz.f10
def XZ:Code:=Tryz.f10.body.getD .skip
theorem Gn_:envS.fn.get 10=some Tryz.f10:=by kernel_rfl
theorem LC_:G1 envS 10 18 Ix XZ:=λh=>
 aI Gn_ (h _ (by kernel_rfl))
theorem Kj_:Tryz.f10.results.toList=[.tmp 2, .tmp 3]:=by kernel_rfl
def WB:List Item:=skim 64 [.code XZ]
def SY:=nx WB
def AH_:=nx SY
def Nv:=bf AH_
def AP_:=nx Nv
def Ig_:Rg:=λE call round tm=>
 mv (some (.int .i64 0)) λv2=>
 setF 2 v2 tm λtm1=>
 mv (some (.int .i64 0)) λv3=>
 setF 3 v3 tm1 λtm2=>
 M.pure tm2
theorem UT_:RegEq 10 18 Ix WB Ig_:={}
def Tn:Rg:=λE call round tm=>
 mv (T.get tm 0) λv4=>
 cN call round 30 [(some v4)] λv5=>
 mv (some v5) λv6=>
 sK v6 false (oS (T.get tm 0) λa=>M.pure a) λv7=>
 sK v6 false (M.on (some (.func (.func 27) #[] #[])) λf=>M.on (seqO [(some v7)]) λl=>Be call round f l) λv8=>
 M.bind (M.on (some v6) λa=>M.on (some (.bool true)) λb=>M.on (some v8) λc=>Aw a b c) λv9=>
 setF 9 v9 tm λtm1=>
 M.pure tm1
theorem AcL_:RegEq 10 18 Ix SY Tn:={}
theorem YD_:Ak AH_=some 9:=by kernel_rfl
def AK_:RdW:=λE call round tm=>
 PD (T.get tm 0) λp0=>
 M.bind (apartO (oS (some p0.1) λa=>kNil a)) λp1=>
 FD E 68 2 (some p1.1) λp2=>
 LD E 3 (some p2.1) λp3=>
 PD (T.get tm 0) λp4=>
 M.bind (apartO (oS (some p4.1) λa=>kNil a)) λp5=>
 FD E 68 3 (some p5.1) λp6=>
 LD E 3 (some p6.1) λp7=>
 PD (some p3.1) λp8=>
 setT 2 p8.1 tm λtm1=>
 fJ [p8,p7,p6,p5,p4,p3,p2,p1,p0] tm1
theorem Od_:DrawEq 10 18 Ix Nv [0,1,3,7,0,16,48,112,15,511] AK_:={}
theorem Mu_ (E:Env)(call round:Ah)(x10 x11 x12 x13 x14 x15 x16 x17 x2:Value)(tm:T Value)(s:St):AH call round (Bg E Ix 18 (hdC Nv)) [x2,x17,x16,x15,x14,x13,x12,x11,x10] tm s=(M.bind (oS (some x17) λa=>M.pure a) λv3=>setT 3 v3 tm λtm1=>M.pure tm1) s:=by kernel_rfl
theorem AbN_: ∃k,AP_= .code .ret::k:=⟨AP_.tail,by kernel_rfl⟩
def MO:Nat:=Ar Tryz.f27
def Hd_:Code:=Tryz.f27.body.getD .skip
theorem OW:envS.fn.get 27=some Tryz.f27:=by kernel_rfl
theorem VT:G1 envS 27 20 MO Hd_:=λh=>
 aI OW (h _ (by kernel_rfl))
theorem RK:Tryz.f27.results.toList=[.tmp 2]:=by kernel_rfl
def BS_:List Item:=skim 64 [.code Hd_]
def S3:=nx BS_
def Yv:=nx S3
def Qb:Rg:=λE call round tm=>
 mv (some (.bool false)) λv2=>
 setF 2 v2 tm λtm1=>
 M.pure tm1
theorem TH:RegEq 27 20 MO BS_ Qb:={}
def Lu:Rg:=λE call round tm=>
 mv (T.get tm 0) λv3=>
 cN call round 30 [(some v3)] λv4=>
 M.bind (oS (some v4) λa=>kUn E.P .not a) λv5=>
 mv (some v5) λv6=>
 sK v6 true (oS (T.get tm 0) λa=>M.pure a) λv7=>
 sK v6 true (oS (some v7) λa=>kNil a) λv8=>
 sK v6 true (oS (some v8) λa=>kFld E 68 a 4) λv9=>
 sK v6 true (oS (some v9) λa=>AQ E 4 a) λv10=>
 sK v6 true (oS (some v10) λa=>M.pure a) λv11=>
 sK v11 false (oS (T.get tm 0) λa=>M.pure a) λv12=>
 sK v11 false (oS (some v12) λa=>kNil a) λv13=>
 sK v11 false (oS (some v13) λa=>kFld E 68 a 0) λv14=>
 sK v11 false (oS (some v14) λa=>AQ E 25 a) λv15=>
 sK v11 false (M.on (some (.func (.func 28) #[] #[])) λf=>M.on (seqO [(some v15)]) λl=>Be call round f l) λv16=>
 sK v11 false (oS (some v16) λa=>kUn E.P .not a) λv17=>
 sK v6 true (M.on (some v11) λa=>M.on (some (.bool true)) λb=>M.on (some v17) λc=>Aw a b c) λv18=>
 M.bind (M.on (some v6) λa=>M.on (some v18) λb=>M.on (some (.bool false)) λc=>Aw a b c) λv19=>
 mv (some v19) λv2=>
 setF 2 v2 tm λtm1=>
 M.pure tm1
theorem Bq_:RegEq 27 20 MO S3 Lu:={}
theorem YZ: ∃k,Yv= .code .ret::k:=⟨Yv.tail,by kernel_rfl⟩
def LC:Nat:=Ar Tryz.f62
def Yo:Code:=Tryz.f62.body.getD .skip
theorem LK:envS.fn.get 62=some Tryz.f62:=by kernel_rfl
theorem Ei_:G1 envS 62 11 LC Yo:=λh=>
 aI LK (h _ (by kernel_rfl))
theorem QX:Tryz.f62.results.toList=[]:=by kernel_rfl
def Ts:List Item:=skim 64 [.code Yo]
def Bk_:=nx Ts
def YI_:=nx Bk_
def No:Rg:=λE call round tm=>
 mv (T.get tm 0) λv3=>
 lN E .len [63] [(some v3)] λv4=>
 mv (some v4) λv2=>
 setF 2 v2 tm λtm1=>
 M.pure tm1
theorem T8:RegEq 62 11 LC Ts No:={}
def Nn:Rg:=λE call round tm=>
 mv (T.get tm 0) λv5=>
 mv (T.get tm 2) λv6=>
 mv (T.get tm 2) λv7=>
 vB E 3 113 (some v7) λv8=>
 cN call round 79 [(some v8)] λv9=>
 cN call round 78 [(some v5),(some (.int .i64 0)),(some v6),(some v9)] λv10=>
 M.pure tm
theorem Um:RegEq 62 11 LC Bk_ Nn:={}
def F6:Nat:=Ar Tryz.f78
def Vp:Code:=Tryz.f78.body.getD .skip
theorem My:envS.fn.get 78=some Tryz.f78:=by kernel_rfl
theorem AI_:G4 envS 78 134 F6 Vp:=λh=>
 aI My (h _ (by kernel_rfl) (by kernel_rfl) (by kernel_rfl) (by kernel_rfl))
theorem ZU:Tryz.f78.results.toList=[]:=by kernel_rfl
def Ef_:List Item:=skim 64 [.code Vp]
def CV_:=nx Ef_
def ZQ:=nx CV_
def Vn:=nx ZQ
def YI:=nx Vn
def Zg:=bt YI
def QK:=nx Zg
def M7:Rg:=λE call round tm=>
 mv (some (.bool true)) λv8=>
 setF 8 v8 tm λtm1=>
 M.pure tm1
theorem Gi_:RegEq 78 134 F6 Ef_ M7:={}
def PX:Rg:=λE call round tm=>
 mv (some (.bool true)) λv9=>
 setF 9 v9 tm λtm1=>
 M.pure tm1
theorem HU_:RegEq 78 134 F6 CV_ PX:={}
def Lp:Rg:=λE call round tm=>
 mv (T.get tm 2) λv19=>
 mv (T.get tm 1) λv20=>
 bI E .sub 3 (.tmp 19) (.tmp 20) (some v19) (some v20) λv21=>
 mv (some v21) λv10=>
 setF 10 v10 tm λtm1=>
 M.pure tm1
theorem Ux:RegEq 78 134 F6 ZQ Lp:={}
def Oc:Rg:=λE call round tm=>
 mv (T.get tm 10) λv22=>
 bI E .leq 3 (.tmp 22) (.const (.int .i64 12)) (some v22) (some (.int .i64 12)) λv23=>
 setF 23 v23 tm λtm1=>
 M.pure tm1
theorem WJ:RegEq 78 134 F6 Vn Oc:={}
theorem Rk:Ak YI=some 23:=by kernel_rfl
def Lg:Rg:=λE call round tm=>
 mv (T.get tm 0) λv24=>
 mv (T.get tm 1) λv25=>
 mv (T.get tm 2) λv26=>
 cN call round 90 [(some v24),(some v25),(some v26)] λv27=>
 M.pure tm
theorem QO:RegEq 78 134 F6 Zg Lg:={}
theorem XT: ∃k,QK= .code .ret::k:=⟨QK.tail,by kernel_rfl⟩
def Cr:Nat:=Ar Tryz.f90
abbrev PL:Nat:=49
def FA_:Code:=Tryz.f90.body.getD .skip
theorem Pw:envS.fn.get 90=some Tryz.f90:=by kernel_rfl
theorem W9:G3 envS 90 49 Cr FA_:=λh=>
 aI Pw (h _ (by kernel_rfl) (by kernel_rfl) (by kernel_rfl))
theorem SZ:Tryz.f90.results.toList=[]:=by kernel_rfl
def Ed_:List Item:=skim 64 [.code FA_]
def IX:=nx Ed_
def PT:=nx IX
def EO_:=bt PT
def JC_:=bf PT
def Iy:=nx EO_
def Pr:=nx Iy
def P1:=bt Pr
def OQ:=bf Pr
def El_:=nx P1
theorem AaD_:skim 64 OQ.tail=IX:=by kernel_rfl
theorem Rw_:skim 64 El_.tail=Iy:=by kernel_rfl
def L8:Rg:=λE call round tm=>
 mv (T.get tm 1) λv8=>
 bI E .add 3 (.tmp 8) (.const (.int .i64 1)) (some v8) (some (.int .i64 1)) λv9=>
 mv (some v9) λv6=>
 setF 6 v6 tm λtm1=>
 M.pure tm1
theorem Ga_:RegEq 90 49 Cr Ed_ L8:={}
def Ko:Rg:=λE call round tm=>
 mv (T.get tm 6) λv10=>
 mv (T.get tm 2) λv11=>
 bI E .lss 3 (.tmp 10) (.tmp 11) (some v10) (some v11) λv12=>
 setF 12 v12 tm λtm1=>
 M.pure tm1
theorem OU:RegEq 90 49 Cr IX Ko:={}
theorem OS:Ak PT=some 12:=by kernel_rfl
def X6:Rg:=λE call round tm=>
 mv (T.get tm 6) λv15=>
 mv (some v15) λv7=>
 setF 7 v7 tm λtm1=>
 M.pure tm1
theorem Jf_:RegEq 90 49 Cr EO_ X6:={}
def NL:RdW:=λE call round tm=>
 PD (T.get tm 7) λp0=>
 PD (T.get tm 1) λp1=>
 BI E .gtr 3 (.tmp 16) (.tmp 17) (some p0.1) (some p1.1) λp2=>
 PD (some p2.1) λp3=>
 SK p3.1 true (oS (T.get tm 0) λa=>M.pure a) λp4=>
 SK p3.1 true (oS (T.get tm 7) λa=>M.pure a) λp5=>
 SK p3.1 true (oS (some p4.1) λa=>oS (some p5.1) λb=>BT E 63 a b) λp6=>
 SK p3.1 true (oS (some p6.1) λa=>AQ E 3 a) λp7=>
 SK p3.1 true (oS (T.get tm 0) λa=>M.pure a) λp8=>
 SK p3.1 true (oS (T.get tm 7) λa=>M.pure a) λp9=>
 SK p3.1 true (oS (some p9.1) λa=>oS (some (.int .i64 1)) λb=>Cl.get (aBin E .sub 3 (.tmp 25) (.const (.int .i64 1))) a b) λp10=>
 SK p3.1 true (oS (some p8.1) λa=>oS (some p10.1) λb=>BT E 63 a b) λp11=>
 SK p3.1 true (oS (some p11.1) λa=>AQ E 3 a) λp12=>
 SK p3.1 true (M.on (some (.func (.func 96) #[] #[])) λf=>M.on (seqO [(some p7.1),(some p12.1)]) λl=>Be call round f l) λp13=>
 fJ [p13,p12,p11,p10,p9,p8,p7,p6,p5,p4,p3,p2,p1,p0] tm
theorem Bx_:DrawEq 90 49 Cr Iy [0,0,3,7,15,15,63,127,15,15,527,1807,3855,8191,16383] NL:={}
theorem Am_ (E:Env)(call round:Ah)(x16 x17 x18 x19 x20 x21 x22 x23 x24 x25 x26 x27 x28 x29:Value)(tm:T Value)(s:St):AH call round (Bg E Cr 49 (hdC Iy)) [x29,x28,x27,x26,x25,x24,x23,x22,x21,x20,x19,x18,x17,x16] tm s=(M.bind (M.on (some x19) λa=>M.on (some x29) λb=>M.on (some (.bool false)) λc=>Aw a b c) λv30=>setT 30 v30 tm λtm1=>M.pure tm1) s:=by kernel_rfl
theorem MY:Ak Pr=some 30:=by kernel_rfl
def WQ:RdW:=λE call round tm=>
 PD (T.get tm 0) λp0=>
 PD (T.get tm 7) λp1=>
 PD (T.get tm 0) λp2=>
 PD (T.get tm 7) λp3=>
 BI E .sub 3 (.tmp 36) (.const (.int .i64 1)) (some p3.1) (some (.int .i64 1)) λp4=>
 PD (T.get tm 0) λp5=>
 PD (T.get tm 7) λp6=>
 BI E .sub 3 (.tmp 39) (.const (.int .i64 1)) (some p6.1) (some (.int .i64 1)) λp7=>
 ID E 63 (some p5.1) (some p7.1) λp8=>
 LD E 3 (some p8.1) λp9=>
 PD (T.get tm 0) λp10=>
 PD (T.get tm 7) λp11=>
 ID E 63 (some p10.1) (some p11.1) λp12=>
 LD E 3 (some p12.1) λp13=>
 ID E 63 (some p0.1) (some p1.1) λp14=>
 M.bind (apartO (oS (some p14.1) λa=>oS (some p9.1) λb=>AB E 3 a b)) λp15=>
 ID E 63 (some p2.1) (some p4.1) λp16=>
 M.pure (([p16.1,p14.1,p13.1,p12.1,p11.1,p10.1,p9.1,p8.1,p7.1,p6.1,p5.1,p4.1,p3.1,p2.1,p1.1,p0.1],tm),[p16.2,p15.2,p14.2,p13.2,p12.2,p11.2,p10.2,p9.2,p8.2,p7.2,p6.2,p5.2,p4.2,p3.2,p2.2,p1.2,p0.2])
theorem Pt_:DrawEq 90 49 Cr P1 [0,0,0,0,8,0,0,64,224,480,0,0,3072,7168,16355,32739,65535,131071] WQ:={}
theorem LY_ (E:Env)(call round:Ah)(x33 x34 x35 x36 x37 x38 x39 x40 x41 x42 x43 x44 x45 x46 x47 x48:Value)(tm:T Value)(s:St):AH call round (Bg E Cr 49 (hdC P1)) [x48,x47,x46,x45,x44,x43,x42,x41,x40,x39,x38,x37,x36,x35,x34,x33] tm s=(M.bind (oS (some x48) λa=>oS (some x46) λb=>AB E 3 a b) λ_=>M.pure tm) s:=by kernel_rfl
def Et_:Rg:=λE call round tm=>
 mv (T.get tm 6) λv13=>
 bI E .add 3 (.tmp 13) (.const (.int .i64 1)) (some v13) (some (.int .i64 1)) λv14=>
 mv (some v14) λv6=>
 setF 6 v6 tm λtm1=>
 M.pure tm1
theorem Ld_:RegEq 90 49 Cr OQ Et_:={}
def Gt_:Rg:=λE call round tm=>
 mv (T.get tm 7) λv31=>
 bI E .sub 3 (.tmp 31) (.const (.int .i64 1)) (some v31) (some (.int .i64 1)) λv32=>
 mv (some v32) λv7=>
 setF 7 v7 tm λtm1=>
 M.pure tm1
theorem RN_:RegEq 90 49 Cr El_ Gt_:={}
