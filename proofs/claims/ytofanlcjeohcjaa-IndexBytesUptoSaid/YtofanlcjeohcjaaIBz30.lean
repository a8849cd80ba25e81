import Derived.Test.YtofanlcjeohcjaaIBz29
noncomputable section
namespace Go.Proofs.Ytofanlcjeohcjaa.Am
open Go.RowKit
def C3:Nat:=Ao Try.f48
abbrev Rx:Nat:=27
def Ut_:Code:=Try.f48.body.getD .skip
theorem M3:envS.fn.get 48=some Try.f48:=X
theorem AkF_:G1 envS 48 27 C3 Ut_:=λh=>
 aK M3 (h _ X)
theorem RV_:Try.f48.results.toList=[.tmp 2]:=X
def Ta:List Item:=skim 64 [.code Ut_]
def XH:=nx Ta
def JJ:=nx XH
def Y1:=bt JJ
def EW_:=bf JJ
def Lp_:=nx Y1
def Li_:=nx EW_
def KP:=nx Li_
def Mu:=nx KP
def SJ_:=bt Mu
def Ow:=bf Mu
def Zt:=nx SJ_
def Jb_:=nx Ow
def GE_:=nx Zt
theorem Axp_:skim 64 GE_.tail=KP:=X
def YL:Rg:=λE u r t=>
 sV 2 (.string {data:= #[]}) t
theorem AfG_:RegEq 48 27 C3 Ta YL:={}
def Dg_:Rg:=λE u r t=>
 mG t 0 λv5=>
 bN E .lss 5 1 (some v5) λv6=>
 mv (some v6) λv7=>
 sK v7 false (pG t 0) λv8=>
 sK v7 false (oS (some v8) λa=>oS (some (.int .i64 999999)) λb=>Cl.get (aBin E .gtr 3 (.tmp 8) (.const (.int .i64 999999))) a b) λv9=>
 ae v7 (.bool true) v9 λv10=>
 ac 10 v10 t
theorem AbJ_:RegEq 48 27 C3 XH Dg_:={}
theorem Dt_:Aj JJ=some 10:=X
def Xm:Rg:=λE u r t=>
 sV 2 (.string {data:= #[]}) t
theorem AjF_:RegEq 48 27 C3 Y1 Xm:={}
def Aj_:Rg:=λE u r t=>
 sV 3 (.string {data:= #[]}) t
theorem Arg_:RegEq 48 27 C3 EW_ Aj_:={}
theorem YS_: ∃k,Lp_= .code .ret::k:=⟨Lp_.tail,X⟩
def WC:Rg:=λE u r t=>
 sV 4 (.int .i64 0) t
theorem Ard_:RegEq 48 27 C3 Li_ WC:={}
def Ny:Rg:=λE u r t=>
 mG t 4 λv11=>
 bN E .lss 11 6 (some v11) λv12=>
 ac 12 v12 t
theorem Pf_:RegEq 48 27 C3 KP Ny:={}
theorem Xc:Aj Mu=some 12:=X
def AF_:Rg:=λE u r t=>
 mG t 0 λv15=>
 bN E .rem 15 10 (some v15) λv16=>
 bM E .add 3 (.int .i64 48) 16 (some v16) λv17=>
 vB E 3 5 (some v17) λv18=>
 M.bind (oS (seqP [(0,(some v18))]) λps=>BS E 22 1 ps) λv19=>
 vB E 22 9 (some v19) λv20=>
 mG t 3 λv21=>
 bT E .add 9 20 21 v20 v21 λv22=>
 sV 3 v22 t
theorem Akk_:RegEq 48 27 C3 SJ_ AF_:={}
def Ut:Rg:=λE u r t=>
 mG t 3 λv25=>
 bM E .add 9 (.string {data:= #[112,97,99,107,47]}) 25 (some v25) λv26=>
 sV 2 v26 t
theorem AkO_:RegEq 48 27 C3 Ow Ut:={}
def IC_:Rg:=λE u r t=>
 mG t 0 λv23=>
 bN E .quo 23 10 (some v23) λv24=>
 sV 0 v24 t
theorem Awq_:RegEq 48 27 C3 Zt IC_:={}
theorem AsB_: ∃k,Jb_= .code .ret::k:=⟨Jb_.tail,X⟩
def Yc:Rg:=λE u r t=>
 mG t 4 λv13=>
 bN E .add 13 1 (some v13) λv14=>
 sV 4 v14 t
theorem Aut_:RegEq 48 27 C3 GE_ Yc:={}
def CT:Nat:=Ao Try.f42
abbrev Mi:Nat:=30
def LQ_:Code:=Try.f42.body.getD .skip
theorem Kp:envS.fn.get 42=some Try.f42:=X
theorem ApB_:G1 envS 42 30 CT LQ_:=λh=>
 aK Kp (h _ X)
theorem ND:Try.f42.results.toList=[.tmp 2, .tmp 3]:=X
def II_:List Item:=skim 64 [.code LQ_]
def DB_:=nx II_
def Mx:=nx DB_
def NY_:=bt Mx
def Ox_:=bf Mx
def Cb_:=nx NY_
def OI_:=nx Ox_
def JX:=nx OI_
def Q0:=nx JX
def KT_:=bt Q0
def PL:=bf Q0
def Mp_:=nx KT_
def Je:=nx PL
theorem ZT_:skim 64 Mp_.tail=JX:=X
def KV_:=bt Je
def Mx_:=bf Je
def Dl_:=nx KV_
def TF_:=nx Mx_
def KI_:Rg:=λE u r t=>
 mv (some (.int .i64 0)) λv2=>
 setF 2 v2 t λt1=>
 sV 3 (.bool false) t1
theorem Afa_:RegEq 42 30 CT II_ KI_:={}
def Ua:Rg:=λE u r t=>
 mG t 0 λv6=>
 lL E 9 v6 λv7=>
 bN E .neq 7 11 (some v7) λv8=>
 ac 8 v8 t
theorem Aoi_:RegEq 42 30 CT DB_ Ua:={}
theorem Vc_:Aj Mx=some 8:=X
def BM_:Rg:=λE u r t=>
 mv (some (.int .i64 0)) λv2=>
 setF 2 v2 t λt1=>
 sV 3 (.bool false) t1
theorem AjZ_:RegEq 42 30 CT NY_ BM_:={}
def Mq_:Rg:=λE u r t=>
 sV 4 (.int .i64 0) t
theorem ApC_:RegEq 42 30 CT Ox_ Mq_:={}
theorem AcH_: ∃k,Cb_= .code .ret::k:=⟨Cb_.tail,X⟩
def Tf:Rg:=λE u r t=>
 sV 5 (.int .i64 5) t
theorem Ww_:RegEq 42 30 CT OI_ Tf:={}
def M0:Rg:=λE u r t=>
 mG t 5 λv9=>
 bN E .lss 9 11 (some v9) λv10=>
 ac 10 v10 t
theorem Js_:RegEq 42 30 CT JX M0:={}
theorem VT_:Aj Q0=some 10:=X
def GX_:Rg:=λE u r t=>
 mG t 4 λv13=>
 bM E .mul 3 (.int .i64 10) 13 (some v13) λv14=>
 mG t 0 λv15=>
 mG t 5 λv16=>
 M.bind (oS (some v15) λa=>oS (some v16) λb=>kIdx E 9 a b) λv17=>
 vB E 5 3 (some v17) λv18=>
 bT E .add 3 14 18 v14 v18 λv19=>
 bN E .sub 19 48 (some v19) λv20=>
 sV 4 v20 t
theorem YY_:RegEq 42 30 CT KT_ GX_:={}
def Ip_:Rg:=λE u r t=>
 mG t 4 λv21=>
 bN E .lss 21 1 (some v21) λv22=>
 mv (some v22) λv23=>
 sK v23 false (pG t 4) λv24=>
 sK v23 false (M.on (some (.func (.func 48) #[] #[])) λf=>M.on (seqO [(some v24)]) λl=>Ba u r f l) λv25=>
 sK v23 false (pG t 0) λv26=>
 sK v23 false (oS (some v25) λa=>oS (some v26) λb=>Cl.get (aBin E .neq 9 (.tmp 25) (.tmp 26)) a b) λv27=>
 ae v23 (.bool true) v27 λv28=>
 ac 28 v28 t
theorem Aet_:RegEq 42 30 CT PL Ip_:={}
def Pz_:Rg:=λE u r t=>
 mG t 5 λv11=>
 bN E .add 11 1 (some v11) λv12=>
 sV 5 v12 t
theorem AbX_:RegEq 42 30 CT Mp_ Pz_:={}
theorem Sf_:Aj Je=some 28:=X
def SW:Rg:=λE u r t=>
 mv (some (.int .i64 0)) λv2=>
 setF 2 v2 t λt1=>
 sV 3 (.bool false) t1
theorem Aki_:RegEq 42 30 CT KV_ SW:={}
def VC:Rg:=λE u r t=>
 mG t 4 λv29=>
 mv (some v29) λv2=>
 setF 2 v2 t λt1=>
 sV 3 (.bool true) t1
theorem AiL_:RegEq 42 30 CT Mx_ VC:={}
theorem Agl_: ∃k,Dl_= .code .ret::k:=⟨Dl_.tail,X⟩
theorem AmX_: ∃k,TF_= .code .ret::k:=⟨TF_.tail,X⟩
def EK:Nat:=Ao Try.f96
abbrev Acx_:Nat:=20
def Rc_:Code:=Try.f96.body.getD .skip
theorem Ls_:envS.fn.get 96=some Try.f96:=X
theorem YF_:G1 envS 96 20 EK Rc_:=λh=>
 aK Ls_ (h _ X)
theorem Aom_:Try.f96.results.toList=[.tmp 2]:=X
def XX:List Item:=skim 64 [.code Rc_]
def VD:=nx XX
def Vo_:=nx VD
def I7:=nx Vo_
def L0:=nx I7
def Fb_:=bt L0
def Ed_:=bf L0
def Z0:=nx Fb_
def GS_:=nx Ed_
theorem WK_:skim 64 Z0.tail=I7:=X
def JF_:Rg:=λE u r t=>
 sV 2 (.int .i64 0) t
theorem Aws_:RegEq 96 20 EK XX JF_:={}
def Hc_:Rg:=λE u r t=>
 sV 3 (.int .i64 0) t
theorem YV_:RegEq 96 20 EK VD Hc_:={}
def BZ_:Rg:=λE u r t=>
 sV 4 (.int .i64 0) t
theorem Ach_:RegEq 96 20 EK Vo_ BZ_:={}
def Rq:Rg:=λE u r t=>
 mG t 4 λv5=>
 mG t 0 λv6=>
 lL E 55 v6 λv7=>
 bT E .lss 3 5 7 v5 v7 λv8=>
 ac 8 v8 t
theorem By_:RegEq 96 20 EK I7 Rq:={}
theorem Dk_:Aj L0=some 8:=X
def FM_:Rg:=λE u r t=>
 mG t 3 λv11=>
 mG t 0 λv12=>
 mG t 4 λv13=>
 iD E 55 (some v12) (some v13) λv14=>
 fD E 85 2 (some v14) λv15=>
 lD E 36 (some v15) λv16=>
 lL E 36 v16 λv17=>
 bT E .add 3 11 17 v11 v17 λv18=>
 sV 3 v18 t
theorem Ajm_:RegEq 96 20 EK Fb_ FM_:={}
def AQ_:Rg:=λE u r t=>
 mG t 3 λv19=>
 sV 2 v19 t
theorem AwF_:RegEq 96 20 EK Ed_ AQ_:={}
def EE_:Rg:=λE u r t=>
 mG t 4 λv9=>
 bN E .add 9 1 (some v9) λv10=>
 sV 4 v10 t
theorem Aol_:RegEq 96 20 EK Z0 EE_:={}
theorem AoI_: ∃k,GS_= .code .ret::k:=⟨GS_.tail,X⟩
def C0:Nat:=Ao Try.f97
abbrev Ob:Nat:=48
def Uu_:Code:=Try.f97.body.getD .skip
theorem Lh:envS.fn.get 97=some Try.f97:=X
theorem Axa_:G1 envS 97 48 C0 Uu_:=λh=>
 aK Lh (h _ X)
theorem L9:Try.f97.results.toList=[.tmp 2]:=X
def Oo_:List Item:=skim 64 [.code Uu_]
def Jo_:=nx Oo_
def KC:=nx Jo_
def KS_:=bt KC
def XS:=bf KC
def Oe_:=nx KS_
def Lu:=nx XS
def P5:=nx Lu
def Dw_:=bt P5
def Ht_:=bf P5
def VF_:=nx Dw_
def Og_:=nx Ht_
def J5:=nx VF_
def Ks_:=bt J5
def SX_:=bf J5
def UY_:=nx Ks_
theorem Arw_:skim 64 SX_.tail=Lu:=X
def Mj_:Rg:=λE u r t=>
 M.bind (oS (T.get t 0) λa=>kBox a) λv1=>
 setF 1 v1 t λt1=>
 sV 2 (.bool false) t1
theorem Abs_:RegEq 97 48 C0 Oo_ Mj_:={}
def IG_:Rg:=λE u r t=>
 fD E 85 0 (T.get t 1) λv5=>
 lD E 3 (some v5) λv6=>
 bN E .lss 6 1 (some v6) λv7=>
 mv (some v7) λv8=>
 sK v8 false (oS (T.get t 1) λa=>kFld E 85 a 0) λv9=>
 sK v8 false (oS (some v9) λa=>AE E 3 a) λv10=>
 sK v8 false (oS (some v10) λa=>oS (some (.int .i64 999999)) λb=>Cl.get (aBin E .gtr 3 (.tmp 10) (.const (.int .i64 999999))) a b) λv11=>
 ae v8 (.bool true) v11 λv12=>
 mv (some v12) λv13=>
 sK v13 false (oS (T.get t 1) λa=>kFld E 85 a 1) λv14=>
 sK v13 false (oS (some v14) λa=>AE E 3 a) λv15=>
 sK v13 false (oS (some v15) λa=>oS (some (.int .i64 0)) λb=>Cl.get (aBin E .lss 3 (.tmp 15) (.const (.int .i64 0))) a b) λv16=>
 ae v13 (.bool true) v16 λv17=>
 mv (some v17) λv18=>
 sK v18 false (oS (T.get t 1) λa=>kFld E 85 a 1) λv19=>
 sK v18 false (oS (some v19) λa=>AE E 3 a) λv20=>
 sK v18 false (oS (some v20) λa=>oS (some (.int .i64 65536)) λb=>Cl.get (aBin E .gtr 3 (.tmp 20) (.const (.int .i64 65536))) a b) λv21=>
 ae v18 (.bool true) v21 λv22=>
 ac 22 v22 t
theorem Aea_:RegEq 97 48 C0 Jo_ IG_:={}
theorem U5:Aj KC=some 22:=X
def Lg_:Rg:=λE u r t=>
 sV 2 (.bool false) t
theorem ArL_:RegEq 97 48 C0 KS_ Lg_:={}
def VM_:Rg:=λE u r t=>
 sV 3 (.int .i64 0) t
theorem AsS_:RegEq 97 48 C0 XS VM_:={}
theorem AvN_: ∃k,Oe_= .code .ret::k:=⟨Oe_.tail,X⟩
def Pz:Rg:=λE u r t=>
 mG t 3 λv23=>
 fD E 85 2 (T.get t 1) λv24=>
 lD E 36 (some v24) λv25=>
 lL E 36 v25 λv26=>
 bT E .lss 3 23 26 v23 v26 λv27=>
 ac 27 v27 t
theorem ZY:RegEq 97 48 C0 Lu Pz:={}
theorem OR_:Aj P5=some 27:=X
def Jd_:Rg:=λE u r t=>
 fD E 85 2 (T.get t 1) λv30=>
 lD E 36 (some v30) λv31=>
 mG t 3 λv32=>
 iD E 36 (some v31) (some v32) λv33=>
 lD E 35 (some v33) λv34=>
 M.bind (A6 E 35) λv4=>
 setF 4 v4 t λt1=>
 sT E 35 (some v4) (some v34) λ_=>
 M.pure t1
theorem Aww_:RegEq 97 48 C0 Dw_ Jd_:={}
def Sc_:Rg:=λE u r t=>
 sV 2 (.bool true) t
theorem Ahg_:RegEq 97 48 C0 Ht_ Sc_:={}
def QN_:Rg:=λE u r t=>
 fD E 35 1 (T.get t 4) λv35=>
 lD E 3 (some v35) λv36=>
 bN E .lss 36 0 (some v36) λv37=>
 mv (some v37) λv38=>
 sK v38 false (oS (T.get t 4) λa=>kFld E 35 a 2) λv39=>
 sK v38 false (oS (some v39) λa=>AE E 3 a) λv40=>
 sK v38 false (oS (some v40) λa=>oS (some (.int .i64 1)) λb=>Cl.get (aBin E .lss 3 (.tmp 40) (.const (.int .i64 1))) a b) λv41=>
 ae v38 (.bool true) v41 λv42=>
 mv (some v42) λv43=>
 sK v43 false (oS (T.get t 4) λa=>kFld E 35 a 2) λv44=>
 sK v43 false (oS (some v44) λa=>AE E 3 a) λv45=>
 sK v43 false (oS (some v45) λa=>oS (some (.int .i64 1024)) λb=>Cl.get (aBin E .gtr 3 (.tmp 45) (.const (.int .i64 1024))) a b) λv46=>
 ae v43 (.bool true) v46 λv47=>
 ac 47 v47 t
theorem Alx_:RegEq 97 48 C0 VF_ QN_:={}
theorem Ale_: ∃k,Og_= .code .ret::k:=⟨Og_.tail,X⟩
theorem Xp:Aj J5=some 47:=X
def TX:Rg:=λE u r t=>
 sV 2 (.bool false) t
theorem Aku_:RegEq 97 48 C0 Ks_ TX:={}
def Vq_:Rg:=λE u r t=>
 mG t 3 λv28=>
 bN E .add 28 1 (some v28) λv29=>
 sV 3 v29 t
theorem AdV_:RegEq 97 48 C0 SX_ Vq_:={}
theorem Afu_: ∃k,UY_= .code .ret::k:=⟨UY_.tail,X⟩
def CU:Nat:=Ao Try.f98
abbrev Pl_:Nat:=46
def Y2:Code:=Try.f98.body.getD .skip
theorem RO:envS.fn.get 98=some Try.f98:=X
theorem AsV_:G1 envS 98 46 CU Y2:=λh=>
 aK RO (h _ X)
theorem Bx_:Try.f98.results.toList=[.tmp 2]:=X
def Tw_:List Item:=skim 64 [.code Y2]
def Ca_:=nx Tw_
def WJ:=nx Ca_
def IS:=nx WJ
def Qt:=nx IS
def AZ_:=bt Qt
def Hs_:=bf Qt
def L4:=nx AZ_
def Pp_:=nx Hs_
def Kf:=nx L4
def Wm:=bt Kf
def OJ:=bf Kf
def Kb_:=nx Wm
def Xe:=nx OJ
theorem Aqu_:skim 64 Xe.tail=IS:=X
def MO_:Rg:=λE u r t=>
 M.bind (oS (T.get t 0) λa=>kBox a) λv1=>
 setF 1 v1 t λt1=>
 sV 2 (.bool false) t1
theorem AxI_:RegEq 98 46 CU Tw_ MO_:={}
def V6:Rg:=λE u r t=>
 sV 3 (.int .i64 0) t
theorem Aif_:RegEq 98 46 CU Ca_ V6:={}
def OJ_:Rg:=λE u r t=>
 sV 4 (.int .i64 0) t
theorem Aok_:RegEq 98 46 CU WJ OJ_:={}
def Qw:Rg:=λE u r t=>
 mG t 4 λv6=>
 fD E 85 2 (T.get t 1) λv7=>
 lD E 36 (some v7) λv8=>
 lL E 36 v8 λv9=>
 bT E .lss 3 6 9 v6 v9 λv10=>
 ac 10 v10 t
theorem WY:RegEq 98 46 CU IS Qw:={}
theorem Wj:Aj Qt=some 10:=X
def AR_:Rg:=λE u r t=>
 fD E 85 2 (T.get t 1) λv13=>
 lD E 36 (some v13) λv14=>
 mG t 4 λv15=>
 iD E 36 (some v14) (some v15) λv16=>
 lD E 35 (some v16) λv17=>
 M.bind (A6 E 35) λv5=>
 setF 5 v5 t λt1=>
 sT E 35 (some v5) (some v17) λ_=>
 M.pure t1
theorem AcX_:RegEq 98 46 CU AZ_ AR_:={}
def Rw_:Rg:=λE u r t=>
 sV 2 (.bool true) t
theorem Xd_:RegEq 98 46 CU Hs_ Rw_:={}
def Re_:RdW:=λE call round tm=>
 FD E 35 1 (T.get tm 5) λp0=>
 LD E 3 (some p0.1) λp1=>
 PD (T.get tm 3) λp2=>
 BI E .lss 3 (.tmp 19) (.tmp 20) (some p1.1) (some p2.1) λp3=>
 PD (some p3.1) λp4=>
 SK p4.1 false (oS (T.get tm 5) λa=>kFld E 35 a 1) λp5=>
 SK p4.1 false (oS (some p5.1) λa=>AE E 3 a) λp6=>
 SK p4.1 false (oS (T.get tm 1) λa=>kFld E 85 a 1) λp7=>
 SK p4.1 false (oS (some p7.1) λa=>AE E 3 a) λp8=>
 SK p4.1 false (oS (some p6.1) λa=>oS (some p8.1) λb=>Cl.get (aBin E .gtr 3 (.tmp 24) (.tmp 26)) a b) λp9=>
 M.bind (apartO (M.on (some p4.1) λa=>M.on (some (.bool true)) λb=>M.on (some p9.1) λc=>Ay a b c)) λp10=>
 PD (some p10.1) λp11=>
 SK p11.1 false (oS (T.get tm 5) λa=>kFld E 35 a 1) λp12=>
 SK p11.1 false (oS (some p12.1) λa=>AE E 3 a) λp13=>
 SK p11.1 false (oS (T.get tm 5) λa=>kFld E 35 a 2) λp14=>
 SK p11.1 false (oS (some p14.1) λa=>AE E 3 a) λp15=>
 SK p11.1 false (M.on (some (.func (.func 21) #[] #[])) λf=>M.on (seqO [(some p15.1)]) λl=>Ba call round f l) λp16=>
 SK p11.1 false (oS (some p13.1) λa=>oS (some p16.1) λb=>Cl.get (aBin E .add 3 (.tmp 31) (.tmp 34)) a b) λp17=>
 SK p11.1 false (oS (T.get tm 1) λa=>kFld E 85 a 1) λp18=>
 SK p11.1 false (oS (some p18.1) λa=>AE E 3 a) λp19=>
 SK p11.1 false (oS (some p17.1) λa=>oS (some p19.1) λb=>Cl.get (aBin E .gtr 3 (.tmp 35) (.tmp 37)) a b) λp20=>
 fJ [p20,p19,p18,p17,p16,p15,p14,p13,p12,p11,p10,p9,p8,p7,p6,p5,p4,p3,p2,p1,p0] tm
theorem ArI_:DrawEq 98 46 CU L4 [0,1,0,7,15,31,63,31,159,511,1023,2047,4095,8191,4095,20479,53247,131071,4095,266239,1048575,2097151] Re_:={}
theorem Ps (E:Env)(call round:Ai)(x18 x19 x20 x21 x22 x23 x24 x25 x26 x27 x28 x29 x30 x31 x32 x33 x34 x35 x36 x37 x38:Value)(tm:T Value)(s:St):AK call round (A5 E CU 46 (hdC L4)) [x38,x37,x36,x35,x34,x33,x32,x31,x30,x29,x28,x27,x26,x25,x24,x23,x22,x21,x20,x19,x18] tm s=(M.bind (M.on (some x29) λa=>M.on (some (.bool true)) λb=>M.on (some x38) λc=>Ay a b c) λv39=>setT 39 v39 tm λtm1=>M.pure tm1) s:=X
theorem Atj_: ∃k,Pp_= .code .ret::k:=⟨Pp_.tail,X⟩
theorem Ib_:Aj Kf=some 39:=X
def VL_:Rg:=λE u r t=>
 sV 2 (.bool false) t
theorem AbY_:RegEq 98 46 CU Wm VL_:={}
def Fm_:RdW:=λE call round tm=>
 FD E 35 1 (T.get tm 5) λp0=>
 LD E 3 (some p0.1) λp1=>
 FD E 35 2 (T.get tm 5) λp2=>
 LD E 3 (some p2.1) λp3=>
 CN call round 21 [(some p3.1)] λp4=>
 BI E .add 3 (.tmp 41) (.tmp 44) (some p1.1) (some p4.1) λp5=>
 fJ [p5,p4,p3,p2,p1,p0] tm
theorem Auw_:DrawEq 98 46 CU OJ [0,1,0,4,12,31,63] Fm_:={}
theorem Auo_ (E:Env)(call round:Ai)(x40 x41 x42 x43 x44 x45:Value)(tm:T Value)(s:St):AK call round (A5 E CU 46 (hdC OJ)) [x45,x44,x43,x42,x41,x40] tm s=(M.bind (oS (some x45) λa=>M.pure a) λv3=>setT 3 v3 tm λtm1=>M.pure tm1) s:=X
theorem AwL_: ∃k,Kb_= .code .ret::k:=⟨Kb_.tail,X⟩
def Uh_:Rg:=λE u r t=>
 mG t 4 λv11=>
 bN E .add 11 1 (some v11) λv12=>
 sV 4 v12 t
theorem Wx_:RegEq 98 46 CU Xe Uh_:={}
def Cd:Nat:=Ao Try.f44
abbrev Lr:Nat:=55
def NL_:Code:=Try.f44.body.getD .skip
theorem Iv:envS.fn.get 44=some Try.f44:=X
theorem AwO_:G1 envS 44 55 Cd NL_:=λh=>
 aK Iv (h _ X)
theorem Ji:Try.f44.results.toList=[.tmp 2]:=X
def AT_:List Item:=skim 64 [.code NL_]
def SH:=nx AT_
def JF:=nx SH
def SS_:=bt JF
def Bg_:=bf JF
def Cl_:=nx SS_
def Kb:=nx Bg_
def Rl:=nx Kb
def Gu_:=bt Rl
def Hy_:=bf Rl
def Nr:=nx Gu_
def Ly:=nx Hy_
def NF_:=bt Nr
def SF:=bf Nr
def Sp:=nx Ly
def WT:=nx NF_
theorem AkT_:skim 64 SF.tail=Kb:=X
def Qu:=bt Sp
def Uw_:=bf Sp
def IW:=nx Qu
def QV_:=nx Uw_
def Kp_:=bt IW
def Jt_:=bf IW
def Uo_:=nx Kp_
theorem AjY_:skim 64 Jt_.tail=Ly:=X
def RA_:Rg:=λE u r t=>
 sV 2 (.int .i64 0) t
theorem AvK_:RegEq 44 55 Cd AT_ RA_:={}
def LN_:Rg:=λE u r t=>
 mG t 0 λv5=>
 lL E 55 v5 λv6=>
 bN E .gtr 6 500 (some v6) λv7=>
 mv (some v7) λv8=>
 sK v8 false (pG t 0) λv9=>
 sK v8 false (M.on (some (.func (.func 96) #[] #[])) λf=>M.on (seqO [(some v9)]) λl=>Ba u r f l) λv10=>
 sK v8 false (oS (some v10) λa=>oS (some (.int .i64 20000)) λb=>Cl.get (aBin E .gtr 3 (.tmp 10) (.const (.int .i64 20000))) a b) λv11=>
 ae v8 (.bool true) v11 λv12=>
 ac 12 v12 t
theorem Aho_:RegEq 44 55 Cd SH LN_:={}
theorem Yw:Aj JF=some 12:=X
def NH_:Rg:=λE u r t=>
 sV 2 (.int .i64 3) t
theorem AlQ_:RegEq 44 55 Cd SS_ NH_:={}
def As_:Rg:=λE u r t=>
 sV 3 (.int .i64 0) t
theorem Aor_:RegEq 44 55 Cd Bg_ As_:={}
theorem Ann_: ∃k,Cl_= .code .ret::k:=⟨Cl_.tail,X⟩
def Nj:Rg:=λE u r t=>
 mG t 3 λv13=>
 mG t 0 λv14=>
 lL E 55 v14 λv15=>
 bT E .lss 3 13 15 v13 v15 λv16=>
 ac 16 v16 t
theorem VZ:RegEq 44 55 Cd Kb Nj:={}
theorem Ww:Aj Rl=some 16:=X
def Nc_:Rg:=λE u r t=>
 mG t 0 λv19=>
 mG t 3 λv20=>
 iD E 55 (some v19) (some v20) λv21=>
 lD E 85 (some v21) λv22=>
 cN u r 97 [(some v22)] λv23=>
 M.bind (oS (some v23) λa=>kUn E.P .not a) λv24=>
 ac 24 v24 t
theorem Axu_:RegEq 44 55 Cd Gu_ Nc_:={}
def Px_:Rg:=λE u r t=>
 sV 4 (.int .i64 0) t
theorem Acr_:RegEq 44 55 Cd Hy_ Px_:={}
theorem WH:Aj Nr=some 24:=X
def N1:Rg:=λE u r t=>
 mG t 4 λv25=>
 mG t 0 λv26=>
 lL E 55 v26 λv27=>
 bT E .lss 3 25 27 v25 v27 λv28=>
 ac 28 v28 t
theorem Gg_:RegEq 44 55 Cd Ly N1:={}
def Cg_:Rg:=λE u r t=>
 sV 2 (.int .i64 5) t
theorem AbM_:RegEq 44 55 Cd NF_ Cg_:={}
def Tz_:Rg:=λE u r t=>
 mG t 3 λv17=>
 bN E .add 17 1 (some v17) λv18=>
 sV 3 v18 t
theorem AcK_:RegEq 44 55 Cd SF Tz_:={}
theorem Cm_:Aj Sp=some 28:=X
theorem AoU_: ∃k,WT= .code .ret::k:=⟨WT.tail,X⟩
def LR_:RdW:=λE call round tm=>
 PD (T.get tm 4) λp0=>
 BI E .gtr 3 (.tmp 31) (.const (.int .i64 0)) (some p0.1) (some (.int .i64 0)) λp1=>
 PD (some p1.1) λp2=>
 SK p2.1 true (oS (T.get tm 0) λa=>M.pure a) λp3=>
 SK p2.1 true (oS (T.get tm 4) λa=>M.pure a) λp4=>
 SK p2.1 true (oS (some p3.1) λa=>oS (some p4.1) λb=>BJ E 55 a b) λp5=>
 SK p2.1 true (oS (some p5.1) λa=>kFld E 85 a 0) λp6=>
 SK p2.1 true (oS (some p6.1) λa=>AE E 3 a) λp7=>
 SK p2.1 true (oS (T.get tm 0) λa=>M.pure a) λp8=>
 SK p2.1 true (oS (T.get tm 4) λa=>M.pure a) λp9=>
 SK p2.1 true (oS (some p9.1) λa=>oS (some (.int .i64 1)) λb=>Cl.get (aBin E .sub 3 (.tmp 40) (.const (.int .i64 1))) a b) λp10=>
 SK p2.1 true (oS (some p8.1) λa=>oS (some p10.1) λb=>BJ E 55 a b) λp11=>
 SK p2.1 true (oS (some p11.1) λa=>kFld E 85 a 0) λp12=>
 SK p2.1 true (oS (some p12.1) λa=>AE E 3 a) λp13=>
 SK p2.1 true (oS (some p7.1) λa=>oS (some p13.1) λb=>Cl.get (aBin E .leq 3 (.tmp 38) (.tmp 44)) a b) λp14=>
 M.bind (apartO (M.on (some p2.1) λa=>M.on (some p14.1) λb=>M.on (some (.bool false)) λc=>Ay a b c)) λp15=>
 PD (some p15.1) λp16=>
 SK p16.1 false (oS (T.get tm 0) λa=>M.pure a) λp17=>
 SK p16.1 false (oS (T.get tm 4) λa=>M.pure a) λp18=>
 SK p16.1 false (oS (some p17.1) λa=>oS (some p18.1) λb=>BJ E 55 a b) λp19=>
 SK p16.1 false (oS (some p19.1) λa=>AE E 85 a) λp20=>
 SK p16.1 false (M.on (some (.func (.func 98) #[] #[])) λf=>M.on (seqO [(some p20.1)]) λl=>Ba call round f l) λp21=>
 SK p16.1 false (oS (some p21.1) λa=>kUn E.P .not a) λp22=>
 fJ [p22,p21,p20,p19,p18,p17,p16,p15,p14,p13,p12,p11,p10,p9,p8,p7,p6,p5,p4,p3,p2,p1,p0] tm
theorem AvJ_:DrawEq 44 55 Cd Qu [0,1,3,7,7,31,63,127,7,7,519,1799,3847,7943,16383,32767,65535,131071,131071,524287,1048575,2097151,4194303,8388607] LR_:={}
theorem M6 (E:Env)(call round:Ai)(x31 x32 x33 x34 x35 x36 x37 x38 x39 x40 x41 x42 x43 x44 x45 x46 x47 x48 x49 x50 x51 x52 x53:Value)(tm:T Value)(s:St):AK call round (A5 E Cd 55 (hdC Qu)) [x53,x52,x51,x50,x49,x48,x47,x46,x45,x44,x43,x42,x41,x40,x39,x38,x37,x36,x35,x34,x33,x32,x31] tm s=(M.bind (M.on (some x47) λa=>M.on (some (.bool true)) λb=>M.on (some x53) λc=>Ay a b c) λv54=>setT 54 v54 tm λtm1=>M.pure tm1) s:=X
def Vm_:Rg:=λE u r t=>
 sV 2 (.int .i64 0) t
theorem AiE_:RegEq 44 55 Cd Uw_ Vm_:={}
theorem VI:Aj IW=some 54:=X
theorem Ash_: ∃k,QV_= .code .ret::k:=⟨QV_.tail,X⟩
def X0:Rg:=λE u r t=>
 sV 2 (.int .i64 2) t
theorem AeH_:RegEq 44 55 Cd Kp_ X0:={}
def Wd_:Rg:=λE u r t=>
 mG t 4 λv29=>
 bN E .add 29 1 (some v29) λv30=>
 sV 4 v30 t
theorem AeT_:RegEq 44 55 Cd Jt_ Wd_:={}
theorem AoO_: ∃k,Uo_= .code .ret::k:=⟨Uo_.tail,X⟩
def BK:Nat:=Ao Try.f38
abbrev JI:Nat:=83
def Wc:Code:=Try.f38.body.getD .skip
theorem No:envS.fn.get 38=some Try.f38:=X
theorem AkD_:G1 envS 38 83 BK Wc:=λh=>
 aK No (h _ X)
theorem YF:Try.f38.results.toList=[.tmp 2, .tmp 3]:=X
def Yd:List Item:=skim 64 [.code Wc]
def QI_:=nx Yd
def LO_:=nx QI_
def Ro:=nx LO_
def VA:=bt Ro
def GT_:=bf Ro
def SR:=nx VA
def Hw_:=nx GT_
def PU_:=nx Hw_
def Lz:=nx PU_
def OW:=nx Lz
def Wu:=bt OW
def R4:=bf OW
def Nb_:=nx Wu
def Ie_:=nx R4
def XY:=nx Nb_
def Yf:=nx XY
def IP:=nx Yf
def NR:=nx IP
def NA_:=bt NR
def Ox:=bf NR
def Bu_:=nx NA_
theorem AfL_:skim 64 Ox.tail=Lz:=X
def Uq:=nx Bu_
def XB:=nx Uq
def Zu:=nx XB
theorem Afd_:skim 64 Zu.tail=IP:=X
def MZ_:Rg:=λE u r t=>
 mv (some (.slice none 0 0)) λv2=>
 setF 2 v2 t λt1=>
 sV 3 (.int .i64 0) t1
theorem Aka_:RegEq 38 83 BK Yd MZ_:={}
def Rh_:Rg:=λE u r t=>
 mG t 0 λv9=>
 cN u r 44 [(some v9)] λv10=>
 sV 4 v10 t
theorem Aoc_:RegEq 38 83 BK QI_ Rh_:={}
def GN_:Rg:=λE u r t=>
 mG t 4 λv11=>
 bC E .neq 27 11 (.int .i64 0) (some v11) λv12=>
 ac 12 v12 t
theorem AxP_:RegEq 38 83 BK LO_ GN_:={}
theorem VB_:Aj Ro=some 12:=X
def SU:Rg:=λE u r t=>
 mG t 4 λv13=>
 mv (some (.slice none 0 0)) λv2=>
 setF 2 v2 t λt1=>
 sV 3 v13 t1
theorem AwK_:RegEq 38 83 BK VA SU:={}
def Mk_:Rg:=λE u r t=>
 M.bind (oS (seqP []) λps=>Br E 111 ps) λv14=>
 M.bind (oS (some v14) λa=>kBox a) λv15=>
 sV 5 v15 t
theorem Aua_:RegEq 38 83 BK GT_ Mk_:={}
theorem AbH_: ∃k,SR= .code .ret::k:=⟨SR.tail,X⟩
def AM_:Rg:=λE u r t=>
 mG t 5 λv16=>
 mG t 0 λv17=>
 lL E 55 v17 λv18=>
 cN u r 79 [(some v16),(some v18)] λv19=>
 M.pure t
theorem AnM_:RegEq 38 83 BK Hw_ AM_:={}
def T8:Rg:=λE u r t=>
 sV 6 (.int .i64 0) t
theorem Afx_:RegEq 38 83 BK PU_ T8:={}
def Pk:Rg:=λE u r t=>
 mG t 6 λv20=>
 mG t 0 λv21=>
 lL E 55 v21 λv22=>
 bT E .lss 3 20 22 v20 v22 λv23=>
 ac 23 v23 t
theorem DU_:RegEq 38 83 BK Lz Pk:={}
theorem Td_:Aj OW=some 23:=X
def Xy:Rg:=λE u r t=>
 mG t 5 λv26=>
 mG t 0 λv27=>
 mG t 6 λv28=>
 iD E 55 (some v27) (some v28) λv29=>
 fD E 85 0 (some v29) λv30=>
 lD E 3 (some v30) λv31=>
 cN u r 79 [(some v26),(some v31)] λv32=>
 M.pure t
theorem Adu_:RegEq 38 83 BK Wu Xy:={}
def Z3:Rg:=λE u r t=>
 mG t 5 λv78=>
 kN v78 λv79=>
 fD E 111 0 (some v79) λv80=>
 lD E 22 (some v80) λv81=>
 cN u r 67 [(some v81)] λv82=>
 mv (some v82) λv2=>
 setF 2 v2 t λt1=>
 sV 3 (.int .i64 0) t1
theorem AnZ_:RegEq 38 83 BK R4 Z3:={}
def Dy_:Rg:=λE u r t=>
 mG t 5 λv33=>
 mG t 0 λv34=>
 mG t 6 λv35=>
 iD E 55 (some v34) (some v35) λv36=>
 fD E 85 1 (some v36) λv37=>
 lD E 3 (some v37) λv38=>
 cN u r 79 [(some v33),(some v38)] λv39=>
 M.pure t
theorem AoN_:RegEq 38 83 BK Nb_ Dy_:={}
theorem AiW_: ∃k,Ie_= .code .ret::k:=⟨Ie_.tail,X⟩
def Uc_:Rg:=λE u r t=>
 mG t 5 λv40=>
 mG t 0 λv41=>
 mG t 6 λv42=>
 iD E 55 (some v41) (some v42) λv43=>
 fD E 85 2 (some v43) λv44=>
 lD E 36 (some v44) λv45=>
 lL E 36 v45 λv46=>
 cN u r 79 [(some v40),(some v46)] λv47=>
 M.pure t
theorem Ais_:RegEq 38 83 BK XY Uc_:={}
def HA_:Rg:=λE u r t=>
 sV 7 (.int .i64 0) t
theorem Avj_:RegEq 38 83 BK Yf HA_:={}
def Pq:Rg:=λE u r t=>
 mG t 7 λv48=>
 mG t 0 λv49=>
 mG t 6 λv50=>
 iD E 55 (some v49) (some v50) λv51=>
 fD E 85 2 (some v51) λv52=>
 lD E 36 (some v52) λv53=>
 lL E 36 v53 λv54=>
 bT E .lss 3 48 54 v48 v54 λv55=>
 ac 55 v55 t
theorem Yb:RegEq 38 83 BK IP Pq:={}
theorem EX_:Aj NR=some 55:=X
def CN_:Rg:=λE u r t=>
 mG t 0 λv58=>
 mG t 6 λv59=>
 iD E 55 (some v58) (some v59) λv60=>
 fD E 85 2 (some v60) λv61=>
 lD E 36 (some v61) λv62=>
 mG t 7 λv63=>
 iD E 36 (some v62) (some v63) λv64=>
 lD E 35 (some v64) λv65=>
 M.bind (A6 E 35) λv8=>
 setF 8 v8 t λt1=>
 sT E 35 (some v8) (some v65) λ_=>
 M.pure t1
theorem AqH_:RegEq 38 83 BK NA_ CN_:={}
def DG_:Rg:=λE u r t=>
 mG t 6 λv24=>
 bN E .add 24 1 (some v24) λv25=>
 sV 6 v25 t
theorem Auy_:RegEq 38 83 BK Ox DG_:={}
def Tr_:Rg:=λE u r t=>
 mG t 5 λv66=>
 fD E 35 0 (T.get t 8) λv67=>
 lD E 26 (some v67) λv68=>
 cN u r 80 [(some v66),(some v68)] λv69=>
 M.pure t
theorem AlN_:RegEq 38 83 BK Bu_ Tr_:={}
def LY_:Rg:=λE u r t=>
 mG t 5 λv70=>
 fD E 35 1 (T.get t 8) λv71=>
 lD E 3 (some v71) λv72=>
 cN u r 79 [(some v70),(some v72)] λv73=>
 M.pure t
theorem AmB_:RegEq 38 83 BK Uq LY_:={}
def VG_:Rg:=λE u r t=>
 mG t 5 λv74=>
 fD E 35 2 (T.get t 8) λv75=>
 lD E 3 (some v75) λv76=>
 cN u r 79 [(some v74),(some v76)] λv77=>
 M.pure t
theorem ZP_:RegEq 38 83 BK XB VG_:={}
def QO_:Rg:=λE u r t=>
 mG t 7 λv56=>
 bN E .add 56 1 (some v56) λv57=>
 sV 7 v57 t
theorem Xt_:RegEq 38 83 BK Zu QO_:={}
def Bl:Nat:=Ao Try.f40
abbrev GB:Nat:=89
def Es_:Code:=Try.f40.body.getD .skip
theorem Kl:envS.fn.get 40=some Try.f40:=X
theorem Abh_:G1 envS 40 89 Bl Es_:=λh=>
 aK Kl (h _ X)
theorem L3:Try.f40.results.toList=[.tmp 2, .tmp 3]:=X
def Wz:List Item:=skim 64 [.code Es_]
def VL:=nx Wz
def Sv:=nx VL
def Q1:=nx Sv
def ZL:=bt Q1
def Cr_:=bf Q1
def UO_:=nx ZL
def YV:=nx Cr_
def Xo:=nx YV
def Uq_:=nx Xo
def K6:=nx Uq_
def PC:=nx K6
def UY:=bt PC
def RY:=bf PC
def IV_:=nx UY
def GY_:=nx RY
def Bz_:=nx IV_
def LM:=nx GY_
def I6:=nx Bz_
def Sd_:=bt LM
def GU_:=bf LM
def Oj:=nx I6
def Ai_:=nx Sd_
def VI_:=nx GU_
def BO_:=bt Oj
def Nw:=bf Oj
def VO_:=nx BO_
def Nw_:=nx Nw
def Go_:=nx VO_
theorem Ajx_:skim 64 Nw_.tail=K6:=X
def SE:=nx Go_
def YG:=nx SE
theorem AoM_:skim 64 YG.tail=I6:=X
def SM:Rg:=λE u r t=>
 mv (some (.slice none 0 0)) λv2=>
 setF 2 v2 t λt1=>
 sV 3 (.int .i64 0) t1
theorem AiO_:RegEq 40 89 Bl Wz SM:={}
def UK_:Rg:=λE u r t=>
 mG t 0 λv16=>
 cN u r 87 [(some v16)] λv17=>
 mv (some v17) λv15=>
 eX 0 (some v15) λv18=>
 eX 1 (some v15) λv19=>
 mv (some v18) λv4=>
 setF 4 v4 t λt1=>
 sV 5 v19 t1
theorem Afq_:RegEq 40 89 Bl VL UK_:={}
def NQ:Rg:=λE u r t=>
 mG t 5 λv20=>
 bC E .neq 27 20 (.int .i64 0) (some v20) λv21=>
 ac 21 v21 t
theorem Fl_:RegEq 40 89 Bl Sv NQ:={}
theorem RM_:Aj Q1=some 21:=X
def Md_:Rg:=λE u r t=>
 mv (some (.slice none 0 0)) λv2=>
 setF 2 v2 t λt1=>
 sV 3 (.int .i64 4) t1
theorem AdT_:RegEq 40 89 Bl ZL Md_:={}
def KF_:Rg:=λE u r t=>
 mG t 4 λv22=>
 cN u r 88 [(some v22)] λv23=>
 sV 6 v23 t
theorem AgZ_:RegEq 40 89 Bl Cr_ KF_:={}
theorem Amz_: ∃k,UO_= .code .ret::k:=⟨UO_.tail,X⟩
def UX_:Rg:=λE u r t=>
 sV 7 (.slice none 0 0) t
theorem AhX_:RegEq 40 89 Bl YV UX_:={}
def Oq_:Rg:=λE u r t=>
 mG t 6 λv24=>
 cN u r 89 [(some v24),(some (.int .i64 500))] λv25=>
 sV 8 v25 t
theorem Ajg_:RegEq 40 89 Bl Xo Oq_:={}
def Si_:Rg:=λE u r t=>
 sV 9 (.int .i64 0) t
theorem AkE_:RegEq 40 89 Bl Uq_ Si_:={}
def Nl:Rg:=λE u r t=>
 mG t 9 λv26=>
 mG t 8 λv27=>
 bT E .lss 3 26 27 v26 v27 λv28=>
 mv (some v28) λv29=>
 sK v29 true (pG t 6) λv30=>
 sK v29 true (oS (some v30) λa=>kNil a) λv31=>
 sK v29 true (oS (some v31) λa=>kFld E 122 a 2) λv32=>
 sK v29 true (oS (some v32) λa=>kFld E 116 a 0) λv33=>
 sK v29 true (oS (some v33) λa=>AE E 27 a) λv34=>
 sK v29 true (oS (some v34) λa=>oS (some (.int .i64 0)) λb=>Cl.get (aBin E .eql 27 (.tmp 34) (.const (.int .i64 0))) a b) λv35=>
 ae v29 v35 (.bool false) λv36=>
 ac 36 v36 t
theorem Sh_:RegEq 40 89 Bl K6 Nl:={}
theorem Si:Aj PC=some 36:=X
def IP_:Rg:=λE u r t=>
 mG t 6 λv39=>
 cN u r 90 [(some v39),(some (.int .i64 1)),(some (.int .i64 999999))] λv40=>
 mG t 6 λv41=>
 cN u r 90 [(some v41),(some (.int .i64 0)),(some (.int .i64 65536))] λv42=>
 M.bind (oS (seqP [(0,(some v40)),(1,(some v42))]) λps=>Br E 85 ps) λv43=>
 M.bind (A6 E 85) λv10=>
 setF 10 v10 t λt1=>
 sT E 85 (some v10) (some v43) λ_=>
 M.pure t1
theorem Aow_:RegEq 40 89 Bl UY IP_:={}
def HB_:Rg:=λE u r t=>
 mG t 6 λv78=>
 cN u r 92 [(some v78)] λv79=>
 M.bind (A6 E 116) λv14=>
 setF 14 v14 t λt1=>
 sT E 116 (some v14) (some v79) λ_=>
 M.pure t1
theorem Aul_:RegEq 40 89 Bl RY HB_:={}
def UL:Rg:=λE u r t=>
 mG t 6 λv44=>
 cN u r 89 [(some v44),(some (.int .i64 20000))] λv45=>
 sV 11 v45 t
theorem Aej_:RegEq 40 89 Bl IV_ UL:={}
def Vn:Rg:=λE u r t=>
 fD E 116 0 (T.get t 14) λv80=>
 lD E 27 (some v80) λv81=>
 bC E .neq 27 81 (.int .i64 0) (some v81) λv82=>
 mv (some v82) λv83=>
 sK v83 false (pG t 7) λv84=>
 sK v83 false (M.on (some (.func (.func 44) #[] #[])) λf=>M.on (seqO [(some v84)]) λl=>Ba u r f l) λv85=>
 sK v83 false (oS (some v85) λa=>oS (some (.int .i64 0)) λb=>Cl.get (aBin E .neq 27 (.tmp 85) (.const (.int .i64 0))) a b) λv86=>
 ae v83 (.bool true) v86 λv87=>
 ac 87 v87 t
theorem Arl_:RegEq 40 89 Bl GY_ Vn:={}
def Tb:Rg:=λE u r t=>
 sV 12 (.int .i64 0) t
theorem AcM_:RegEq 40 89 Bl Bz_ Tb:={}
theorem JI_:Aj LM=some 87:=X
def OE:Rg:=λE u r t=>
 mG t 12 λv46=>
 mG t 11 λv47=>
 bT E .lss 3 46 47 v46 v47 λv48=>
 mv (some v48) λv49=>
 sK v49 true (pG t 6) λv50=>
 sK v49 true (oS (some v50) λa=>kNil a) λv51=>
 sK v49 true (oS (some v51) λa=>kFld E 122 a 2) λv52=>
 sK v49 true (oS (some v52) λa=>kFld E 116 a 0) λv53=>
 sK v49 true (oS (some v53) λa=>AE E 27 a) λv54=>
 sK v49 true (oS (some v54) λa=>oS (some (.int .i64 0)) λb=>Cl.get (aBin E .eql 27 (.tmp 54) (.const (.int .i64 0))) a b) λv55=>
 ae v49 v55 (.bool false) λv56=>
 ac 56 v56 t
theorem X6:RegEq 40 89 Bl I6 OE:={}
def Ek_:Rg:=λE u r t=>
 mv (some (.slice none 0 0)) λv2=>
 setF 2 v2 t λt1=>
 sV 3 (.int .i64 4) t1
theorem Akn_:RegEq 40 89 Bl Sd_ Ek_:={}
def Mo_:Rg:=λE u r t=>
 mG t 7 λv88=>
 mv (some v88) λv2=>
 setF 2 v2 t λt1=>
 sV 3 (.int .i64 0) t1
theorem ZY_:RegEq 40 89 Bl GU_ Mo_:={}
theorem O3:Aj Oj=some 56:=X
theorem YK_: ∃k,Ai_= .code .ret::k:=⟨Ai_.tail,X⟩
theorem XH_: ∃k,VI_= .code .ret::k:=⟨VI_.tail,X⟩
def Z1:Rg:=λE u r t=>
 mG t 6 λv59=>
 cN u r 91 [(some v59)] λv60=>
 M.bind (oS (seqP [(0,(some v60))]) λps=>Br E 35 ps) λv61=>
 M.bind (A6 E 35) λv13=>
 setF 13 v13 t λt1=>
 sT E 35 (some v13) (some v61) λ_=>
 M.pure t1
theorem Zb_:RegEq 40 89 Bl BO_ Z1:={}
def Gj_:Rg:=λE u r t=>
 mG t 7 λv74=>
 lD E 85 (T.get t 10) λv75=>
 M.bind (oS (seqP [(0,(some v75))]) λps=>BS E 55 1 ps) λv76=>
 lN E .append [55,55] [(some v74),(some v76)] λv77=>
 sV 7 v77 t
theorem AuB_:RegEq 40 89 Bl Nw Gj_:={}
def FN_:Rg:=λE u r t=>
 mG t 6 λv62=>
 cN u r 90 [(some v62),(some (.int .i64 0)),(some (.int .i64 2147483647))] λv63=>
 fD E 35 1 (T.get t 13) λv64=>
 sT E 3 (some v64) (some v63) λ_=>
 M.pure t
theorem AnP_:RegEq 40 89 Bl VO_ FN_:={}
def Xw:Rg:=λE u r t=>
 mG t 9 λv37=>
 bN E .add 37 1 (some v37) λv38=>
 sV 9 v38 t
theorem AdE_:RegEq 40 89 Bl Nw_ Xw:={}
def Rd_:Rg:=λE u r t=>
 mG t 6 λv65=>
 cN u r 90 [(some v65),(some (.int .i64 1)),(some (.int .i64 1024))] λv66=>
 fD E 35 2 (T.get t 13) λv67=>
 sT E 3 (some v67) (some v66) λ_=>
 M.pure t
theorem Zv_:RegEq 40 89 Bl Go_ Rd_:={}
def BP_:Rg:=λE u r t=>
 fD E 85 2 (T.get t 10) λv68=>
 lD E 36 (some v68) λv69=>
 lD E 35 (T.get t 13) λv70=>
 M.bind (oS (seqP [(0,(some v70))]) λps=>BS E 36 1 ps) λv71=>
 lN E .append [36,36] [(some v69),(some v71)] λv72=>
 fD E 85 2 (T.get t 10) λv73=>
 sT E 36 (some v73) (some v72) λ_=>
 M.pure t
theorem AgQ_:RegEq 40 89 Bl SE BP_:={}
def EI_:Rg:=λE u r t=>
 mG t 12 λv57=>
 bN E .add 57 1 (some v57) λv58=>
 sV 12 v58 t
theorem Yu_:RegEq 40 89 Bl YG EI_:={}
section
variable {v:Value}{ps:List PkI}{Q:Value×FrameMode->St->Prop}{s0:St}
theorem Acf_ (hb0:s0.lim<=s0.next)(hr:PkR s0 v ps)(hz:Ar ps<=1000000000)(hcx:s0.cx=cxN)(hps:ps.length<=1000000000)(q: ∀s1,Ext Any Non s0 s1->Q (.int .i64 (Ar ps:Nat), .run) s1):
  ∀(k i n:Nat) (tm:T Value) (s:St) (td:List Item),i+k=ps.length->10*k+30<=n->skim 64 td=I7->Ext Any Non s0 s->
  T.get tm 0=some v->T.get tm 3=some (.int .i64 (Ar (ps.take i):Nat))->T.get tm 4=some (.int .i64 (i:Nat))->
  W (runF envS n ⟨96,Acx_,EK,tm,td, .run, .normal,none⟩) s Q:=by
 intro k
 induction k with
 |zero=>
  intro i n tm s td hi hn hT hx h0 h3 h4
  rw[show i=ps.length by omega,List.take_length]at h3
  refine By_.u ?_ hT
  simp only[Rq,RR,SS,Nat.reduceEqDiff,reduceCtorEq, ↓reduceIte,h0,h4]
  rw[hr.len]
  simp only[SS,Nat.reduceEqDiff,reduceCtorEq, ↓reduceIte,Ad,Ah,Ab,Ae,Ak,An,Al,Ag]
  refine aE Dk_ ?_
  refine AwF_.u ?_
  simp only[AQ_,RR,SS,Nat.reduceEqDiff,reduceCtorEq, ↓reduceIte,h3]
  exact aB (rs:=[2]) (vs:=[.int .i64 (Ar ps:Nat)]) rfl (.inl AoI_) J Ls_ Aom_ (hx.cx.trans hcx) Y (q s hx)
 |succ k ih=>
  intro i n tm s td hi hn hT hx h0 h3 h4
  have hil:i<ps.length:=J
  obtain⟨b,o,c,ev,ga,gh,g16,_,_⟩:=(hr.ext0 hx).at hil
  have ht1:=JR hil
  have ht2:=QG (ps:=ps) (i+1)
  refine By_.u ?_ hT
  simp only[Rq,RR,SS,Nat.reduceEqDiff,reduceCtorEq, ↓reduceIte,h0,h4]
  rw[hr.len]
  simp only[SS,Nat.reduceEqDiff,reduceCtorEq, ↓reduceIte,Ad,Ah,Ab,Ae,Ak,An,Al,Ag]
  refine aH Dk_ ?_
  refine Ajm_.u ?_
  have ga2:At s b (o+i*3+2) ps[i].v:=ga 2 _ rfl
  simp only[FM_,RR,SS,Nat.reduceEqDiff,reduceCtorEq, ↓reduceIte,h0,h3,h4,ev,AO A8 hil,Af BG al]
  refine aA Bu ga2 ?_
  have hx4:=hx.thenRd hb0 (b+(o+i*3+2))
  rw[gh.len]
  have es:wrap64 ((Ar (ps.take i):Nat)+(ps[i].hs.length:Nat):Int)=((Ar (ps.take (i+1)):Nat):Int):=by
   rw[AN J J];omega
  simp only[SS,Nat.reduceEqDiff,reduceCtorEq, ↓reduceIte,Ad,Ah,Ab,Ae,Ak,An,Al,Ag,es]
  refine Aol_.u ?_
  have ei:=eiW (i:=i) J
  simp only[EE_,RR,SS,Nat.reduceEqDiff,reduceCtorEq, ↓reduceIte,Ad,Ah,Ab,Ae,Ak,An,Al,Ag,h4,ei]
  exact ih (i+1) _ _ _ _ J J WK_ hx4 (by simp[T.get_set,h0,ev]) Y Y
end
theorem Agz_ {n:Nat}{v:Value}{ps:List PkI}{s:St}{Q:Value->St->Prop}(hb:s.lim<=s.next)(hr:PkR s v ps)(hz:Ar ps<=1000000000)(hps:ps.length<=1000000000)(hn:10*ps.length+60<=n)(q: ∀s1,Ext Any Non s s1->Q (.int .i64 (Ar ps:Nat)) s1):
  W (Ac envS (runF envS n) 96 [v]) s Q:=by
 refine YF_ λtm h0=> ?_
 have hr':PkR (s.cxN cxN) v ps:=hr.same rfl rfl
 refine Aws_.u ?_
 simp only[JF_,RR,SS,Nat.reduceEqDiff,reduceCtorEq, ↓reduceIte]
 refine YV_.u ?_
 simp only[Hc_,RR,SS,Nat.reduceEqDiff,reduceCtorEq, ↓reduceIte]
 refine Ach_.u ?_
 simp only[BZ_,RR,SS,Nat.reduceEqDiff,reduceCtorEq, ↓reduceIte]
 exact Acf_ (s0:=s.cxN cxN) hb hr' hz rfl hps (λs1 x1=>q _ x1.cx') ps.length 0 _ _ _ _ J J rfl (Ext.refl _) (an h0) (by simp[T.get_set];rfl) Y
section
variable {p:PkI}{Q:Value×FrameMode->St->Prop}
theorem AbZ_ {B:Nat}{s0:St}(hb0:s0.lim<=s0.next)(hr:HiR s0 p.v p.hs)(h16: ∀h∈p.hs,h.1.length=16)(hz:p.hs.length<=1000000000)(hcx:s0.cx=cxN)(ho:Own s0 B 2 p.v)
  (q: ∀s1,Ext Any Non s0 s1->Q (.bool (!(p.hs.any oddH)), .run) s1):
  ∀(k i n:Nat) (tm:T Value) (s:St) (td:List Item),i+k=p.hs.length->12*k+30<=n->skim 64 td=Lu->Ext Any Non s0 s->(p.hs.take i).any oddH=false->
  T.get tm 1=some (.pointer (some ⟨B,0,none⟩))->T.get tm 3=some (.int .i64 (i:Nat))->
  W (runF envS n ⟨97,Ob,C0,tm,td, .run, .normal,none⟩) s Q:=by
 have ho': ∀s,Ext Any Non s0 s->Own s B (0+2) p.v:=λs hx=>by
  have:=ho.ext hx id
  rwa [Nat.zero_add]
 intro k
 induction k with
 |zero=>
  intro i n tm s td hi hn hT hx ha h1 h3
  rw[show i=p.hs.length by omega,List.take_length]at ha
  refine ZY.u ?_ hT
  simp only[Pz,RR,SS,Nat.reduceEqDiff,reduceCtorEq, ↓reduceIte,h1,h3,Af BG al]
  refine aA Bu (ho' s hx).at' ?_
  have hx1:=hx.thenRd hb0 (B+(0+2))
  rw[(hr.ext0 hx).len]
  simp only[SS,Nat.reduceEqDiff,reduceCtorEq, ↓reduceIte,Ad,Ah,Ab,Ae,Ak,An,Al,Ag]
  refine aE OR_ ?_
  refine Ahg_.u ?_
  simp only[Sc_,RR,SS,Nat.reduceEqDiff,reduceCtorEq, ↓reduceIte]
  refine aB (rs:=[2]) (vs:=[.bool true]) rfl (.inl Ale_) J Lh L9 (hx1.cx.trans hcx) Y ?_
  have:=q _ hx1
  rw[ha]at this
  exact this
 |succ k ih=>
  intro i n tm s td hi hn hT hx ha h1 h3
  have hil:i<p.hs.length:=J
  have h16i:=h16 _ (List.getElem_mem hil)
  refine ZY.u ?_ hT
  simp only[Pz,RR,SS,Nat.reduceEqDiff,reduceCtorEq, ↓reduceIte,h1,h3,Af BG al]
  refine aA Bu (ho' s hx).at' ?_
  have hx1:=hx.thenRd hb0 (B+(0+2))
  rw[(hr.ext0 hx).len]
  simp only[SS,Nat.reduceEqDiff,reduceCtorEq, ↓reduceIte,Ad,Ah,Ab,Ae,Ak,An,Al,Ag]
  refine aH OR_ ?_
  refine Aww_.u ?_
  simp only[Jd_,RR,SS,Nat.reduceEqDiff,reduceCtorEq, ↓reduceIte,h1,h3,Af BG al]
  refine aA Bu (ho' _ hx1).at' ?_
  have hx2:=hx1.thenRd hb0 (B+(0+2))
  obtain⟨sb,hsb⟩: ∃sb,sb=(s.rdN (B+(0+2))).rdN (B+(0+2)):=⟨_,rfl⟩
  rw[<-hsb]at hx2 ⊢
  obtain⟨b,o,c,ev,ga,_⟩:=(hr.ext0 hx2).at h16 hil
  simp only[SS,Nat.reduceEqDiff,reduceCtorEq, ↓reduceIte,ev,h1,h3,AO CV hil]
  refine aJ CH ga (BN h16i) λs1 m1 n1 x1=> ?_
  refine W.alloc GA λs2 n2 x2 o2=> ?_
  have n2':s2.next=s1.next+19:=n2
  refine W.store CH (BN h16i) (EU p.hs[i]) (λj hj=>Aa.owned o2 j (by simpa using hj)) λs3 n3 x3 o3=> ?_
  rw[BV]at o3
  have xs1:Ext Any Non s0 s1:=hx2.then0 x1 hb0
  have hlt0:s0.next<=s1.next:=xs1.nxt
  have xs3:Ext Any Non s0 s3:=(xs1.then0 x2 hb0).trans x3 hb0 (λ_ _ _=>trivial) λy hy h=>by
   have h1:=h.1
   omega
  have o16:Own s3 s1.next (0+16) (.int .i64 p.hs[i].2.1):=o3 16 _ (DE h16i).1
  have o17:Own s3 s1.next (0+17) (.int .i64 p.hs[i].2.2):=o3 17 _ (DE h16i).2
  have ha2:(p.hs.take (i+1)).any oddH=oddH p.hs[i]:=by rw[Mv hil,ha,Bool.false_or]
  generalize hh:p.hs[i]=h at *
  have after: ∀(n':Nat) (s4:St) (tm4:T Value) (td4:List Item),n<=n'+6->skim 64 td4=J5->Ext Any Non s0 s4->T.get tm4 47=some (.bool (oddH h))->T.get tm4 1=some (.pointer (some ⟨B,0,none⟩))->T.get tm4 3=some (.int .i64 (i:Nat))->
    W (runF envS n' ⟨97,Ob,C0,tm4,td4, .run, .normal,none⟩) s4 Q:=by
   intro n' s4 tm4 td4 hn' hT4 x4 g47 g1 g3
   cases ho:oddH h with
   |true=>
    rw[ho]at g47
    refine aH Xp ?_ hT4 g47
    refine Aku_.u ?_
    simp only[TX,RR,SS,Nat.reduceEqDiff,reduceCtorEq, ↓reduceIte]
    refine aB (rs:=[2]) (vs:=[.bool false]) rfl (.inl Afu_) J Lh L9 (x4.cx.trans hcx) Y ?_
    have:=q _ x4
    rw[Ru_ (i:=i+1) (by rw[ha2,ho])]at this
    exact this
   |false=>
    rw[ho]at g47
    refine aE Xp ?_ hT4 g47
    refine AdV_.u ?_
    have ei:=eiW (i:=i) J
    simp only[Vq_,RR,SS,Nat.reduceEqDiff,reduceCtorEq, ↓reduceIte,Ad,Ah,Ab,Ae,Ak,An,Al,Ag,g3,ei]
    exact ih (i+1) _ _ _ _ J J Arw_ x4 (by rw[ha2,ho]) (an g1) Y
  refine Alx_.u ?_
  simp only[QN_,RR,SS,Nat.reduceEqDiff,reduceCtorEq, ↓reduceIte,Af EA al]
  refine aA Ap o16.at' ?_
  have y1:=xs3.thenRd hb0 (s1.next+(0+16))
  by_cases c1:h.2.1<0
  ·have e:oddH h=true:=by unfold oddH;rw[decide_eq_true c1];rfl
   simp only[SS,Nat.reduceEqDiff,reduceCtorEq, ↓reduceIte,Ad,Ah,Ab,Ae,Ak,An,Al,Ag,c1,decide_true]
   exact after _ _ _ _ J rfl y1 (an e) (an h1) (an h3)
  ·simp only[SS,Nat.reduceEqDiff,reduceCtorEq, ↓reduceIte,Ad,Ah,Ab,Ae,Ak,An,Al,Ag,c1,decide_false,Af FU al]
   refine aA Ap (o17.same rfl rfl).at' ?_
   have y2:=y1.thenRd hb0 (s1.next+(0+17))
   by_cases c2:h.2.2<1
   ·have e:oddH h=true:=by unfold oddH AV;rw[if_pos (.inl c2)];simp
    simp only[SS,Nat.reduceEqDiff,reduceCtorEq, ↓reduceIte,Ad,Ah,Ab,Ae,Ak,An,Al,Ag,c2,decide_true]
    exact after _ _ _ _ J rfl y2 (an e) (an h1) (an h3)
   ·simp only[SS,Nat.reduceEqDiff,reduceCtorEq, ↓reduceIte,Ad,Ah,Ab,Ae,Ak,An,Al,Ag,c2,decide_false,Af FU al]
    refine aA Ap ((o17.same (s':=s3.rdN (s1.next+(0+16))) rfl rfl).same rfl rfl).at' ?_
    have y3:=y2.thenRd hb0 (s1.next+(0+17))
    have e:oddH h=decide (1024<h.2.2):=by
     unfold oddH AV
     rw[decide_eq_false c1,Bool.false_or]
     by_cases c3:1024<h.2.2
     ·rw[if_pos (.inr c3),decide_eq_true c3];rfl
     ·rw[if_neg (λh=>h.elim c2 c3),decide_eq_false c3];exact decide_eq_false J
    simp only[SS,Nat.reduceEqDiff,reduceCtorEq, ↓reduceIte,Ad,Ah,Ab,Ae,Ak,An,Al,Ag]
    exact after _ _ _ _ J rfl y3 (an e) (an h1) (an h3)
theorem Amy_ {n:Nat}{s:St}{Q:Value->St->Prop}(hb:s.lim<=s.next)(hr:HiR s p.v p.hs)(h16: ∀h∈p.hs,h.1.length=16)(hz:p.hs.length<=1000000000)(hn:12*p.hs.length+60<=n)(q: ∀s1,Ext Any Non s s1->Q (.bool (Bd p)) s1):
  W (Ac envS (runF envS n) 97 [.agg (pkC p).toArray]) s Q:=by
 refine Axa_ λtm h0=> ?_
 refine Abs_.u ?_
 simp only[Mj_,RR,SS,Nat.reduceEqDiff,reduceCtorEq, ↓reduceIte,h0]
 refine W.box λsa na xa oa=> ?_
 rw[BV]at oa
 have oa':Aa sa s.next 0 (pkC p):=oa
 have o0:Own sa s.next (0+0) (.int .i64 p.num):=oa' 0 _ rfl
 have o1:Own sa s.next (0+1) (.int .i64 p.size):=oa' 1 _ rfl
 have o2:Own sa s.next (0+2) p.v:=oa' 2 _ rfl
 have ya:Ext Any Non (s.cxN cxN) sa:=xa.any hb
 have after: ∀(n':Nat) (s4:St) (bad:Bool) (tm4:T Value) (td4:List Item),n<=n'+6->skim 64 td4=KC->Ext Any Non (s.cxN cxN) s4->s4.mem=sa.mem->s4.next=sa.next->bad= !(decide (1<=p.num)&&decide (p.num<=999999)&&decide (0<=p.size)&&decide (p.size<=65536))->T.get tm4 22=some (.bool bad)->T.get tm4 1=some (.pointer (some ⟨s.next,0,none⟩))->
   W (runF envS n' ⟨97,Ob,C0,tm4,td4, .run, .normal,none⟩) s4 λp s1=>Q p.1 (s1.cxN s.cx):=by
  intro n' s4 bad tm4 td4 hn' hT4 x4 m4 n4 hbad g22 g1
  have eb:Bd p=(!bad&& !(p.hs.any oddH)):=by rw[hbad,Bool.not_not];rfl
  cases bad with
  |true=>
   refine aH U5 ?_ hT4 g22
   refine ArL_.u ?_
   simp only[Lg_,RR,SS,Nat.reduceEqDiff,reduceCtorEq, ↓reduceIte]
   refine aB (rs:=[2]) (vs:=[.bool false]) rfl (.inl AvN_) J Lh L9 x4.cx Y ?_
   have:=q _ x4.cx'
   rw[eb]at this
   exact this
  |false=>
   refine aE U5 ?_ hT4 g22
   refine AsS_.u ?_
   simp only[VM_,RR,SS,Nat.reduceEqDiff,reduceCtorEq, ↓reduceIte]
   have hr4:HiR s4 p.v p.hs:=(hr.same (s':=s.cxN cxN) rfl rfl).ext0 x4
   refine AbZ_ (p:=p) (B:=s.next) (s0:=s4) (x4.bnd hb) hr4 h16 hz x4.cx (by have:=o2.same m4 n4;rwa [Nat.zero_add]at this) (λs1 y1=> ?_) p.hs.length 0 _ _ _ _ J J rfl (Ext.refl _) rfl (an g1) Y
   have:=q _ (x4.then0 y1 hb).cx'
   rw[eb]at this
   exact this
 refine Aea_.u ?_
 simp only[IG_,RR,SS,Nat.reduceEqDiff,reduceCtorEq, ↓reduceIte,Af Dm al]
 refine aA Ap o0.at' ?_
 have y1:=ya.thenRd hb (s.next+(0+0))
 by_cases c1:p.num<1
 ·simp only[SS,Nat.reduceEqDiff,reduceCtorEq, ↓reduceIte,Ad,Ah,Ab,Ae,Ak,An,Al,Ag,c1,decide_true]
  exact after _ _ true _ _ J rfl y1 rfl rfl (by simp[show ¬1<=p.num by omega]) Y (by simp[T.get_set];rfl)
 simp only[SS,Nat.reduceEqDiff,reduceCtorEq, ↓reduceIte,Ad,Ah,Ab,Ae,Ak,An,Al,Ag,c1,decide_false,Af Dm al]
 refine aA Ap (o0.same rfl rfl).at' ?_
 have y2:=y1.thenRd hb (s.next+(0+0))
 by_cases c2:999999<p.num
 ·simp only[SS,Nat.reduceEqDiff,reduceCtorEq, ↓reduceIte,Ad,Ah,Ab,Ae,Ak,An,Al,Ag,c2,decide_true]
  exact after _ _ true _ _ J rfl y2 rfl rfl (by simp[show ¬p.num<=999999 by omega]) Y (by simp[T.get_set];rfl)
 simp only[SS,Nat.reduceEqDiff,reduceCtorEq, ↓reduceIte,Ad,Ah,Ab,Ae,Ak,An,Al,Ag,c2,decide_false,Af DB al]
 refine aA Ap (o1.same rfl rfl).at' ?_
 have y3:=y2.thenRd hb (s.next+(0+1))
 by_cases c3:p.size<0
 ·simp only[SS,Nat.reduceEqDiff,reduceCtorEq, ↓reduceIte,Ad,Ah,Ab,Ae,Ak,An,Al,Ag,c3,decide_true]
  exact after _ _ true _ _ J rfl y3 rfl rfl (by simp[show ¬0<=p.size by omega]) Y (by simp[T.get_set];rfl)
 simp only[SS,Nat.reduceEqDiff,reduceCtorEq, ↓reduceIte,Ad,Ah,Ab,Ae,Ak,An,Al,Ag,c3,decide_false,Af DB al]
 refine aA Ap (o1.same rfl rfl).at' ?_
 have y4:=y3.thenRd hb (s.next+(0+1))
 simp only[SS,Nat.reduceEqDiff,reduceCtorEq, ↓reduceIte,Ad,Ah,Ab,Ae,Ak,An,Al,Ag]
 refine after _ _ (decide (65536<p.size)) _ _ J rfl y4 rfl rfl ?_ Y (by simp[T.get_set];rfl)
 rw[decide_eq_true (show 1<=p.num by omega),decide_eq_true (show p.num<=999999 by omega),decide_eq_true (show 0<=p.size by omega)]
 by_cases c4:65536<p.size
 ·rw[decide_eq_true c4,decide_eq_false (show ¬p.size<=65536 by omega)];rfl
 ·rw[decide_eq_false c4,decide_eq_true (show p.size<=65536 by omega)];rfl
