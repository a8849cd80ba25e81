import Derived.Test.YtheboekhpelhlaaDSb25
noncomputable section
namespace Go.Proofs.Ytheboekhpelhlaa.Am
open Go.RowKit
def Hu:Nat:=Ao Try.f7
abbrev Akf_:Nat:=13
def Gx_:Code:=Try.f7.body.getD .skip
theorem Rr:envS.fn.get 7=some Try.f7:=X
theorem Wc:G1 envS 7 13 Hu Gx_:=λh=>
 aL Rr (h _ X)
theorem Z0:Try.f7.results.toList=[.tmp 2, .tmp 3]:=X
def RF_:List Item:=skim 64 [.code Gx_]
def Rz_:=nx RF_
def JD:=nx Rz_
def X9:=bt JD
def Ql_:=bf JD
def WB:=nx X9
def Ap_:=nx Ql_
def Mo:Rg:=λE u r t=>
 mv (some (.pointer none)) λv2=>
 setF 2 v2 t λt1=>
 sV 3 (.int .i64 0) t1
theorem Xc:RegEq 7 13 Hu RF_ Mo:={}
def Lz:Rg:=λE u r t=>
 mG t 0 λv4=>
 ac E .lss 4 0 (some v4) λv5=>
 mv (some v5) λv6=>
 sK v6 false (pG t 0) λv7=>
 sK v6 false (oS (some v7) λa=>oS (some (.int .i64 16777216)) λb=>Cl.get (aBin E .gtr 3 (.tmp 7) (.const (.int .i64 16777216))) a b) λv8=>
 ae v6 (.bool true) v8 λv9=>
 sF 9 v9 t
theorem EV_:RegEq 7 13 Hu Rz_ Lz:={}
theorem Uc:Ad JD=some 9:=X
def Xy:Rg:=λE u r t=>
 mv (some (.pointer none)) λv2=>
 setF 2 v2 t λt1=>
 sV 3 (.int .i64 5) t1
theorem AhS_:RegEq 7 13 Hu X9 Xy:={}
def HY_:Rg:=λE u r t=>
 mG t 0 λv10=>
 M.bind (oS (seqP [(1,(some v10))]) λps=>Cz E 60 ps) λv11=>
 M.bind (oS (some v11) λa=>kBox a) λv12=>
 mv (some v12) λv2=>
 setF 2 v2 t λt1=>
 sV 3 (.int .i64 0) t1
theorem WW_:RegEq 7 13 Hu Ql_ HY_:={}
theorem Aji_: ∃k,WB= .code .ret::k:=⟨WB.tail,X⟩
theorem Adl_: ∃k,Ap_= .code .ret::k:=⟨Ap_.tail,X⟩
def Fr:Nat:=Ao Try.f34
abbrev AlL_:Nat:=15
def U0:Code:=Try.f34.body.getD .skip
theorem RZ:envS.fn.get 34=some Try.f34:=X
theorem GX_:G2 envS 34 15 Fr U0:=λh=>
 aL RZ (h _ X X)
theorem MA_:Try.f34.results.toList=[.tmp 4]:=X
def Sf_:List Item:=skim 64 [.code U0]
def Px_:=nx Sf_
def JS:=nx Px_
def Su_:=bt JS
def KL_:=bf JS
def Dy_:=nx Su_
def HR_:=nx KL_
def FK_:=nx HR_
def Sn:Rg:=λE u r t=>
 sV 4 (.int .i64 0) t
theorem Ig_:RegEq 34 15 Fr Sf_ Sn:={}
def Km:Rg:=λE u r t=>
 mG t 1 λv5=>
 ac E .lss 5 0 (some v5) λv6=>
 mv (some v6) λv7=>
 sK v7 false (pG t 1) λv8=>
 sK v7 false (oS (some v8) λa=>oS (some (.int .i64 16777216)) λb=>Cl.get (aBin E .gtr 3 (.tmp 8) (.const (.int .i64 16777216))) a b) λv9=>
 ae v7 (.bool true) v9 λv10=>
 sF 10 v10 t
theorem Qx_:RegEq 34 15 Fr Px_ Km:={}
theorem V7:Ad JS=some 10:=X
def AO_:Rg:=λE u r t=>
 sV 4 (.int .i64 5) t
theorem AmE_:RegEq 34 15 Fr Su_ AO_:={}
def IQ_:Rg:=λE u r t=>
 mG t 0 λv11=>
 mG t 1 λv12=>
 kN v11 λv13=>
 fD E 60 1 (some v13) λv14=>
 ag E 3 (some v14) (some v12) λ_=>
 M.pure t
theorem Aat_:RegEq 34 15 Fr KL_ IQ_:={}
theorem Yo_: ∃k,Dy_= .code .ret::k:=⟨Dy_.tail,X⟩
def Ws:Rg:=λE u r t=>
 sV 4 (.int .i64 0) t
theorem UE_:RegEq 34 15 Fr HR_ Ws:={}
theorem AjI_: ∃k,FK_= .code .ret::k:=⟨FK_.tail,X⟩
def CF:Nat:=Ao Try.f57
abbrev K4:Nat:=61
def Rq_:Code:=Try.f57.body.getD .skip
theorem Pj:envS.fn.get 57=some Try.f57:=X
theorem Aib_:G1 envS 57 61 CF Rq_:=λh=>
 aL Pj (h _ X)
theorem T4:Try.f57.results.toList=[.tmp 2]:=X
def FL_:List Item:=skim 64 [.code Rq_]
def GB_:=nx FL_
def Jc:=nx GB_
def Ni:=nx Jc
def Wz:=bt Ni
def Nz_:=bf Ni
def NH_:=nx Wz
def Nh:=nx Nz_
def Ir:=nx NH_
def Gs_:=bt Ir
def Uy:=bf Ir
def Oz_:=nx Gs_
theorem Arc_:skim 64 Uy.tail=Jc:=X
def Rm_:Rg:=λE u r t=>
 sV 2 (.bool false) t
theorem AhV_:RegEq 57 61 CF FL_ Rm_:={}
def TR:Rg:=λE u r t=>
 sV 3 (.int .i64 0) t
theorem Afd_:RegEq 57 61 CF GB_ TR:={}
def Qi:Rg:=λE u r t=>
 mG t 3 λv5=>
 mG t 0 λv6=>
 lL E 9 v6 λv7=>
 bT E .lss 3 5 7 v5 v7 λv8=>
 sF 8 v8 t
theorem Bd_:RegEq 57 61 CF Jc Qi:={}
theorem FV_:Ad Ni=some 8:=X
def DX:Rg:=λE u r t=>
 mG t 0 λv11=>
 mG t 3 λv12=>
 M.bind (oS (some v11) λa=>oS (some v12) λb=>kIdx E 9 a b) λv13=>
 ab E .geq 5 13 (.int .u8 97) (some v13) λv14=>
 mv (some v14) λv15=>
 sK v15 true (pG t 0) λv16=>
 sK v15 true (pG t 3) λv17=>
 sK v15 true (oS (some v16) λa=>oS (some v17) λb=>kIdx E 9 a b) λv18=>
 sK v15 true (oS (some v18) λa=>oS (some (.int .u8 122)) λb=>Cl.get (aBin E .leq 5 (.tmp 18) (.const (.int .u8 122))) a b) λv19=>
 ae v15 v19 (.bool false) λv20=>
 mv (some v20) λv21=>
 sK v21 false (pG t 0) λv22=>
 sK v21 false (pG t 3) λv23=>
 sK v21 false (oS (some v22) λa=>oS (some v23) λb=>kIdx E 9 a b) λv24=>
 sK v21 false (oS (some v24) λa=>oS (some (.int .u8 48)) λb=>Cl.get (aBin E .geq 5 (.tmp 24) (.const (.int .u8 48))) a b) λv25=>
 sK v21 false (oS (some v25) λa=>M.pure a) λv26=>
 sK v26 true (pG t 0) λv27=>
 sK v26 true (pG t 3) λv28=>
 sK v26 true (oS (some v27) λa=>oS (some v28) λb=>kIdx E 9 a b) λv29=>
 sK v26 true (oS (some v29) λa=>oS (some (.int .u8 57)) λb=>Cl.get (aBin E .leq 5 (.tmp 29) (.const (.int .u8 57))) a b) λv30=>
 sK v21 false (M.on (some v26) λa=>M.on (some v30) λb=>M.on (some (.bool false)) λc=>Au a b c) λv31=>
 ae v21 (.bool true) v31 λv32=>
 sV 4 v32 t
theorem AoX_:RegEq 57 61 CF Wz DX:={}
def Ju:Rg:=λE u r t=>
 mG t 0 λv53=>
 lL E 9 v53 λv54=>
 ac E .geq 54 1 (some v54) λv55=>
 mv (some v55) λv56=>
 sK v56 true (pG t 0) λv57=>
 sK v56 true (oS (seqO [(some v57)]) λl=>AH E .len [9] l) λv58=>
 sK v56 true (oS (some v58) λa=>oS (some (.int .i64 60)) λb=>Cl.get (aBin E .leq 3 (.tmp 58) (.const (.int .i64 60))) a b) λv59=>
 ae v56 v59 (.bool false) λv60=>
 sV 2 v60 t
theorem AlD_:RegEq 57 61 CF Nz_ Ju:={}
def DU:Rg:=λE u r t=>
 mG t 4 λv33=>
 M.bind (oS (some v33) λa=>kUn E.P .not a) λv34=>
 mv (some v34) λv35=>
 sK v35 true (pG t 0) λv36=>
 sK v35 true (pG t 3) λv37=>
 sK v35 true (oS (some v36) λa=>oS (some v37) λb=>kIdx E 9 a b) λv38=>
 sK v35 true (oS (some v38) λa=>oS (some (.int .u8 45)) λb=>Cl.get (aBin E .neq 5 (.tmp 38) (.const (.int .u8 45))) a b) λv39=>
 ae v35 v39 (.bool false) λv40=>
 mv (some v40) λv41=>
 sK v41 true (pG t 0) λv42=>
 sK v41 true (pG t 3) λv43=>
 sK v41 true (oS (some v42) λa=>oS (some v43) λb=>kIdx E 9 a b) λv44=>
 sK v41 true (oS (some v44) λa=>oS (some (.int .u8 46)) λb=>Cl.get (aBin E .neq 5 (.tmp 44) (.const (.int .u8 46))) a b) λv45=>
 ae v41 v45 (.bool false) λv46=>
 mv (some v46) λv47=>
 sK v47 true (pG t 0) λv48=>
 sK v47 true (pG t 3) λv49=>
 sK v47 true (oS (some v48) λa=>oS (some v49) λb=>kIdx E 9 a b) λv50=>
 sK v47 true (oS (some v50) λa=>oS (some (.int .u8 47)) λb=>Cl.get (aBin E .neq 5 (.tmp 50) (.const (.int .u8 47))) a b) λv51=>
 ae v47 v51 (.bool false) λv52=>
 sF 52 v52 t
theorem E7:RegEq 57 61 CF NH_ DU:={}
theorem Aep_: ∃k,Nh= .code .ret::k:=⟨Nh.tail,X⟩
theorem Od_:Ad Ir=some 52:=X
def VZ:Rg:=λE u r t=>
 sV 2 (.bool false) t
theorem Ahi_:RegEq 57 61 CF Gs_ VZ:={}
def AS_:Rg:=λE u r t=>
 mG t 3 λv9=>
 ac E .add 9 1 (some v9) λv10=>
 sV 3 v10 t
theorem Arf_:RegEq 57 61 CF Uy AS_:={}
theorem Akb_: ∃k,Oz_= .code .ret::k:=⟨Oz_.tail,X⟩
def DV:Nat:=Ao Try.f46
abbrev UL_:Nat:=26
def At_:Code:=Try.f46.body.getD .skip
theorem Rb:envS.fn.get 46=some Try.f46:=X
theorem Aig_:G2 envS 46 26 DV At_:=λh=>
 aL Rb (h _ X X)
theorem By_:Try.f46.results.toList=[.tmp 4]:=X
def X7:List Item:=skim 64 [.code At_]
def WK:=nx X7
def Ki:=nx WK
def Sv:=nx Ki
def KB_:=bt Sv
def Pw_:=bf Sv
def Ox:=nx KB_
def Sk_:=nx Pw_
def UM:=bt Ox
def Ro_:=bf Ox
def U9:=nx UM
theorem Ans_:skim 64 Ro_.tail=Ki:=X
def WN:Rg:=λE u r t=>
 sV 4 (.int .i64 0) t
theorem Xx_:RegEq 46 26 DV X7 WN:={}
def OU_:Rg:=λE u r t=>
 sV 5 (.int .i64 0) t
theorem ApW_:RegEq 46 26 DV WK OU_:={}
def PF:Rg:=λE u r t=>
 mG t 5 λv6=>
 mG t 0 λv7=>
 kN v7 λv8=>
 fD E 60 0 (some v8) λv9=>
 lD E 58 (some v9) λv10=>
 lL E 58 v10 λv11=>
 bT E .lss 3 6 11 v6 v11 λv12=>
 sF 12 v12 t
theorem Kr_:RegEq 46 26 DV Ki PF:={}
theorem OT_:Ad Sv=some 12:=X
def Xh:Rg:=λE u r t=>
 mG t 0 λv15=>
 kN v15 λv16=>
 fD E 60 0 (some v16) λv17=>
 lD E 58 (some v17) λv18=>
 mG t 5 λv19=>
 iD E 58 (some v18) (some v19) λv20=>
 fD E 69 0 (some v20) λv21=>
 lD E 9 (some v21) λv22=>
 mG t 1 λv23=>
 bT E .eql 9 22 23 v22 v23 λv24=>
 sF 24 v24 t
theorem Aqh_:RegEq 46 26 DV KB_ Xh:={}
def Ul:Rg:=λE u r t=>
 sV 4 (.int .i64 (-1)) t
theorem AaF_:RegEq 46 26 DV Pw_ Ul:={}
theorem Ou_:Ad Ox=some 24:=X
theorem AbS_: ∃k,Sk_= .code .ret::k:=⟨Sk_.tail,X⟩
def YH:Rg:=λE u r t=>
 mG t 5 λv25=>
 sV 4 v25 t
theorem AjB_:RegEq 46 26 DV UM YH:={}
def Hd_:Rg:=λE u r t=>
 mG t 5 λv13=>
 ac E .add 13 1 (some v13) λv14=>
 sV 5 v14 t
theorem Ama_:RegEq 46 26 DV Ro_ Hd_:={}
theorem Tv_: ∃k,U9= .code .ret::k:=⟨U9.tail,X⟩
def DF:Nat:=Ao Try.f56
abbrev Aeh_:Nat:=35
def KJ_:Code:=Try.f56.body.getD .skip
theorem L5:envS.fn.get 56=some Try.f56:=X
theorem Aqg_:G1 envS 56 35 DF KJ_:=λh=>
 aL L5 (h _ X)
theorem ZE:Try.f56.results.toList=[.tmp 2]:=X
def ES_:List Item:=skim 64 [.code KJ_]
def Dq_:=nx ES_
def Nf:=nx Dq_
def XF:=bt Nf
def Bo_:=bf Nf
def CO_:=nx XF
def NZ:=nx Bo_
def QT_:=nx CO_
def T0:=bt NZ
def Kw:=bf NZ
theorem VD_:skim 64 T0.tail=Kw:=X
def UZ:=nx Kw
def YZ:=nx UZ
def Vg:Rg:=λE u r t=>
 sV 2 (.bool false) t
theorem AdR_:RegEq 56 35 DF ES_ Vg:={}
def Dx_:Rg:=λE u r t=>
 mG t 0 λv3=>
 kN v3 λv4=>
 fD E 60 3 (some v4) λv5=>
 lD E 4 (some v5) λv6=>
 mv (some v6) λv7=>
 sK v7 true (pG t 0) λv8=>
 sK v7 true (oS (some v8) λa=>kNil a) λv9=>
 sK v7 true (oS (some v9) λa=>kFld E 60 a 4) λv10=>
 sK v7 true (oS (some v10) λa=>Bd E 3 a) λv11=>
 sK v7 true (oS (some v11) λa=>oS (some (.int .i64 0)) λb=>Cl.get (aBin E .eql 3 (.tmp 11) (.const (.int .i64 0))) a b) λv12=>
 ae v7 v12 (.bool false) λv13=>
 sF 13 v13 t
theorem VL_:RegEq 56 35 DF Dq_ Dx_:={}
theorem Nt:Ad Nf=some 13:=X
def Ne_:Rg:=λE u r t=>
 mG t 0 λv14=>
 kN v14 λv15=>
 fD E 60 5 (some v15) λv16=>
 ag E 4 (some v16) (some (.bool true)) λ_=>
 M.pure t
theorem TJ_:RegEq 56 35 DF XF Ne_:={}
def QA:Rg:=λE u r t=>
 mG t 0 λv17=>
 kN v17 λv18=>
 fD E 60 3 (some v18) λv19=>
 lD E 4 (some v19) λv20=>
 sF 20 v20 t
theorem Mu_:RegEq 56 35 DF Bo_ QA:={}
def Ao_:Rg:=λE u r t=>
 sV 2 (.bool false) t
theorem AqD_:RegEq 56 35 DF CO_ Ao_:={}
theorem S5:Ad NZ=some 20:=X
theorem Abk_: ∃k,QT_= .code .ret::k:=⟨QT_.tail,X⟩
def TB:Rg:=λE u r t=>
 mG t 0 λv21=>
 kN v21 λv22=>
 fD E 60 4 (some v22) λv23=>
 lD E 3 (some v23) λv24=>
 ac E .sub 24 1 (some v24) λv25=>
 kN v21 λv26=>
 fD E 60 4 (some v26) λv27=>
 ag E 3 (some v27) (some v25) λ_=>
 M.pure t
theorem XI_:RegEq 56 35 DF T0 TB:={}
def Ju_:Rg:=λE u r t=>
 mG t 0 λv28=>
 kN v28 λv29=>
 fD E 60 2 (some v29) λv30=>
 lD E 3 (some v30) λv31=>
 ac E .add 31 1 (some v31) λv32=>
 kN v28 λv33=>
 fD E 60 2 (some v33) λv34=>
 ag E 3 (some v34) (some v32) λ_=>
 M.pure t
theorem AgG_:RegEq 56 35 DF Kw Ju_:={}
def YC:Rg:=λE u r t=>
 sV 2 (.bool true) t
theorem AgP_:RegEq 56 35 DF UZ YC:={}
theorem Ys_: ∃k,YZ= .code .ret::k:=⟨YZ.tail,X⟩
def E3:Nat:=Ao Try.f70
abbrev Jb_:Nat:=28
def YJ:Code:=Try.f70.body.getD .skip
theorem Jy_:envS.fn.get 70=some Try.f70:=X
theorem AkF_:G2 envS 70 28 E3 YJ:=λh=>
 aL Jy_ (h _ X X)
theorem Ali_:Try.f70.results.toList=[.tmp 4]:=X
def KQ_:List Item:=skim 64 [.code YJ]
def PR_:=nx KQ_
def JG:=nx PR_
def J7:=nx JG
def GQ_:=bt J7
def Cf_:=bf J7
theorem Aph_:skim 64 GQ_.tail=JG:=X
def Hx_:=nx Cf_
def NZ_:Rg:=λE u r t=>
 sV 4 (.int .i64 0) t
theorem Un_:RegEq 70 28 E3 KQ_ NZ_:={}
def Vo:Rg:=λE u r t=>
 sV 5 (.int .i64 0) t
theorem Vc_:RegEq 70 28 E3 PR_ Vo:={}
def Sq:Rg:=λE u r t=>
 mG t 5 λv6=>
 mG t 0 λv7=>
 kN v7 λv8=>
 fD E 60 0 (some v8) λv9=>
 lD E 58 (some v9) λv10=>
 lL E 58 v10 λv11=>
 bT E .lss 3 6 11 v6 v11 λv12=>
 mv (some v12) λv13=>
 sK v13 true (pG t 0) λv14=>
 sK v13 true (oS (some v14) λa=>kNil a) λv15=>
 sK v13 true (oS (some v15) λa=>kFld E 60 a 0) λv16=>
 sK v13 true (oS (some v16) λa=>Bd E 58 a) λv17=>
 sK v13 true (pG t 5) λv18=>
 sK v13 true (oS (some v17) λa=>oS (some v18) λb=>B8 E 58 a b) λv19=>
 sK v13 true (oS (some v19) λa=>kFld E 69 a 0) λv20=>
 sK v13 true (oS (some v20) λa=>Bd E 9 a) λv21=>
 sK v13 true (pG t 1) λv22=>
 sK v13 true (oS (some v21) λa=>oS (some v22) λb=>Cl.get (aBin E .lss 9 (.tmp 21) (.tmp 22)) a b) λv23=>
 ae v13 v23 (.bool false) λv24=>
 sF 24 v24 t
theorem Y0:RegEq 70 28 E3 JG Sq:={}
theorem V0:Ad J7=some 24:=X
def Wd:Rg:=λE u r t=>
 mG t 5 λv25=>
 ac E .add 25 1 (some v25) λv26=>
 sV 5 v26 t
theorem Aan_:RegEq 70 28 E3 GQ_ Wd:={}
def PQ_:Rg:=λE u r t=>
 mG t 5 λv27=>
 sV 4 v27 t
theorem UC_:RegEq 70 28 E3 Cf_ PQ_:={}
theorem Afh_: ∃k,Hx_= .code .ret::k:=⟨Hx_.tail,X⟩
def HY:Nat:=Ao Try.f59
def Ks_:Code:=Try.f59.body.getD .skip
theorem Cy_:envS.fn.get 59=some Try.f59:=X
theorem Ahm_:G2 envS 59 30 HY Ks_:=λh=>
 aL Cy_ (h _ X X)
theorem AoP_:Try.f59.results.toList=[]:=X
def Eh_:List Item:=skim 64 [.code Ks_]
def AL_:=nx Eh_
def OL:=nx AL_
def WL_:=nx OL
def Ah_:Rg:=λE u r t=>
 M.bind (oS (T.get t 1) λa=>kBox a) λv3=>
 sF 3 v3 t
theorem AqL_:RegEq 59 30 HY Eh_ Ah_:={}
def VO:Rg:=λE u r t=>
 mG t 0 λv5=>
 fD E 69 0 (T.get t 3) λv6=>
 lD E 9 (some v6) λv7=>
 cN u r 70 [(some v5),(some v7)] λv8=>
 sV 4 v8 t
theorem AjK_:RegEq 59 30 HY AL_ VO:={}
def TP:RdW:=λE call round tm=>
 PD (T.get tm 0) λp0=>
 M.bind (apartO (oS (seqP []) λps=>BU E 58 0 ps)) λp1=>
 PD (T.get tm 0) λp2=>
 M.bind (apartO (oS (some p2.1) λa=>kNil a)) λp3=>
 FD E 60 0 (some p3.1) λp4=>
 LD E 58 (some p4.1) λp5=>
 PD (T.get tm 4) λp6=>
 M.bind (apartO (M.on (some p5.1) λa=>M.on (some none) λb=>M.on (onO (some p6.1) λv=>some (some v)) λc=>AZ E 58 a b c)) λp7=>
 LN E .append [58,58] [(some p1.1),(some p7.1)] λp8=>
 LD E 69 (T.get tm 3) λp9=>
 M.bind (apartO (oS (seqP [(0,(some p9.1))]) λps=>BU E 58 1 ps)) λp10=>
 LN E .append [58,58] [(some p8.1),(some p10.1)] λp11=>
 PD (T.get tm 0) λp12=>
 M.bind (apartO (oS (some p12.1) λa=>kNil a)) λp13=>
 FD E 60 0 (some p13.1) λp14=>
 LD E 58 (some p14.1) λp15=>
 PD (T.get tm 4) λp16=>
 M.bind (apartO (M.on (some p15.1) λa=>M.on (onO (some p16.1) λv=>some (some v)) λb=>M.on (some none) λc=>AZ E 58 a b c)) λp17=>
 LN E .append [58,58] [(some p11.1),(some p17.1)] λp18=>
 M.bind (apartO (oS (some p0.1) λa=>kNil a)) λp19=>
 FD E 60 0 (some p19.1) λp20=>
 fJ [p20,p19,p18,p17,p16,p15,p14,p13,p12,p11,p10,p9,p8,p7,p6,p5,p4,p3,p2,p1,p0] tm
theorem Aht_:DrawEq 59 30 HY OL [0,0,0,4,12,28,0,124,254,0,512,2046,0,4096,12288,28672,0,126976,262142,524287,1048575,2097151] TP:={}
theorem Aau_ (E:Env)(call round:Ag)(x9 x10 x11 x12 x13 x14 x15 x16 x17 x18 x19 x20 x21 x22 x23 x24 x25 x26 x27 x28 x29:Value)(tm:T Value)(s:St):AB call round (AP E HY 30 (hdC OL)) [x29,x28,x27,x26,x25,x24,x23,x22,x21,x20,x19,x18,x17,x16,x15,x14,x13,x12,x11,x10,x9] tm s=(M.bind (oS (some x29) λa=>oS (some x27) λb=>Az E 58 a b) λ_=>M.pure tm) s:=X
def RY:Nat:=Ao Try.f58
def In_:Code:=Try.f58.body.getD .skip
theorem UA:envS.fn.get 58=some Try.f58:=X
theorem Anb_:G2 envS 58 23 RY In_:=λh=>
 aL UA (h _ X X)
theorem Uc_:Try.f58.results.toList=[]:=X
def R5:List Item:=skim 64 [.code In_]
def Yj_:=nx R5
def EZ_:RdW:=λE call round tm=>
 PD (T.get tm 0) λp0=>
 M.bind (apartO (oS (seqP []) λps=>BU E 58 0 ps)) λp1=>
 PD (T.get tm 0) λp2=>
 M.bind (apartO (oS (some p2.1) λa=>kNil a)) λp3=>
 FD E 60 0 (some p3.1) λp4=>
 LD E 58 (some p4.1) λp5=>
 PD (T.get tm 1) λp6=>
 M.bind (apartO (M.on (some p5.1) λa=>M.on (some none) λb=>M.on (onO (some p6.1) λv=>some (some v)) λc=>AZ E 58 a b c)) λp7=>
 LN E .append [58,58] [(some p1.1),(some p7.1)] λp8=>
 PD (T.get tm 0) λp9=>
 M.bind (apartO (oS (some p9.1) λa=>kNil a)) λp10=>
 FD E 60 0 (some p10.1) λp11=>
 LD E 58 (some p11.1) λp12=>
 PD (T.get tm 1) λp13=>
 BI E .add 3 (.tmp 17) (.const (.int .i64 1)) (some p13.1) (some (.int .i64 1)) λp14=>
 M.bind (apartO (M.on (some p12.1) λa=>M.on (onO (some p14.1) λv=>some (some v)) λb=>M.on (some none) λc=>AZ E 58 a b c)) λp15=>
 LN E .append [58,58] [(some p8.1),(some p15.1)] λp16=>
 M.bind (apartO (oS (some p0.1) λa=>kNil a)) λp17=>
 FD E 60 0 (some p17.1) λp18=>
 fJ [p18,p17,p16,p15,p14,p13,p12,p11,p10,p9,p8,p7,p6,p5,p4,p3,p2,p1,p0] tm
theorem Alw_:DrawEq 58 23 RY R5 [0,0,0,4,12,28,0,124,254,0,512,1536,3584,0,8192,32256,65534,131071,262143,524287] EZ_:={}
theorem Ank_ (E:Env)(call round:Ag)(x4 x5 x6 x7 x8 x9 x10 x11 x12 x13 x14 x15 x16 x17 x18 x19 x20 x21 x22:Value)(tm:T Value)(s:St):AB call round (AP E RY 23 (hdC R5)) [x22,x21,x20,x19,x18,x17,x16,x15,x14,x13,x12,x11,x10,x9,x8,x7,x6,x5,x4] tm s=(M.bind (oS (some x22) λa=>oS (some x20) λb=>Az E 58 a b) λ_=>M.pure tm) s:=X
def By:Nat:=Ao Try.f35
abbrev Oe:Nat:=73
def BQ_:Code:=Try.f35.body.getD .skip
theorem GB:envS.fn.get 35=some Try.f35:=X
theorem XH_:G3 envS 35 73 By BQ_:=λh=>
 aL GB (h _ X X X)
theorem Ij:Try.f35.results.toList=[.tmp 6]:=X
def Je_:List Item:=skim 64 [.code BQ_]
def DD_:=nx Je_
def Pl:=nx DD_
def QK:=nx Pl
def Ol_:=bt QK
def XR:=bf QK
def II:=nx Ol_
def MK:=nx XR
def QD_:=bt MK
def DA_:=bf MK
theorem AjC_:skim 64 QD_.tail=II:=X
def K8:=nx DA_
def KU:=bt K8
def Qq:=bf K8
def FF_:=bt KU
def AP_:=bf KU
theorem MJ_:skim 64 Qq.tail=KU:=X
theorem AaR_:skim 64 FF_.tail=II:=X
def R3:=nx AP_
def MM_:=bt R3
def AV_:=bf R3
theorem Acp_:skim 64 MM_.tail=II:=X
def Qz:=nx AV_
def Qs_:=bt Qz
def HB:=bf Qz
def EW_:=nx Qs_
def XD:=nx HB
theorem VX_:skim 64 EW_.tail=HB:=X
def Re_:=nx XD
def Qw_:Rg:=λE u r t=>
 sV 6 (.int .i64 0) t
theorem AlS_:RegEq 35 73 By Je_ Qw_:={}
def Yf:Rg:=λE u r t=>
 mG t 0 λv8=>
 mG t 1 λv9=>
 cN u r 46 [(some v8),(some v9)] λv10=>
 sV 7 v10 t
theorem AfG_:RegEq 35 73 By DD_ Yf:={}
def Qy_:Rg:=λE u r t=>
 mG t 0 λv12=>
 kN v12 λv13=>
 fD E 60 5 (some v13) λv14=>
 lD E 4 (some v14) λv15=>
 sV 11 v15 t
theorem Wa_:RegEq 35 73 By Pl Qy_:={}
theorem GC_:Ad QK=some 11:=X
def JN_:Rg:=λE u r t=>
 sV 6 (.int .i64 10) t
theorem AcB_:RegEq 35 73 By Ol_ JN_:={}
def Lr_:Rg:=λE u r t=>
 mG t 1 λv17=>
 cN u r 57 [(some v17)] λv18=>
 M.bind (oS (some v18) λa=>kUn E.P .not a) λv19=>
 sV 16 v19 t
theorem Zw_:RegEq 35 73 By XR Lr_:={}
theorem Jk: ∃k,II= .code .ret::k:=⟨II.tail,X⟩
theorem UB:Ad MK=some 16:=X
def Uq:Rg:=λE u r t=>
 sV 6 (.int .i64 2) t
theorem YV_:RegEq 35 73 By QD_ Uq:={}
def NK:Rg:=λE u r t=>
 mG t 7 λv21=>
 ac E .lss 21 0 (some v21) λv22=>
 mv (some v22) λv23=>
 sK v23 true (pG t 0) λv24=>
 sK v23 true (oS (some v24) λa=>kNil a) λv25=>
 sK v23 true (oS (some v25) λa=>kFld E 60 a 0) λv26=>
 sK v23 true (oS (some v26) λa=>Bd E 58 a) λv27=>
 sK v23 true (oS (seqO [(some v27)]) λl=>AH E .len [58] l) λv28=>
 sK v23 true (oS (some v28) λa=>oS (some (.int .i64 1000)) λb=>Cl.get (aBin E .geq 3 (.tmp 28) (.const (.int .i64 1000))) a b) λv29=>
 ae v23 v29 (.bool false) λv30=>
 sV 20 v30 t
theorem AoM_:RegEq 35 73 By DA_ NK:={}
theorem Zp_:Ad K8=some 20:=X
theorem Yp:Ad KU=some 20:=X
def Is_:RdW:=λE call round tm=>
 PD (T.get tm 0) λp0=>
 CN call round 39 [(some p0.1)] λp1=>
 PD (T.get tm 2) λp2=>
 LN E .len [32] [(some p2.1)] λp3=>
 BI E .add 3 (.tmp 32) (.tmp 34) (some p1.1) (some p3.1) λp4=>
 PD (T.get tm 0) λp5=>
 M.bind (apartO (oS (some p5.1) λa=>kNil a)) λp6=>
 FD E 60 1 (some p6.1) λp7=>
 LD E 3 (some p7.1) λp8=>
 BI E .gtr 3 (.tmp 35) (.tmp 39) (some p4.1) (some p8.1) λp9=>
 fJ [p9,p8,p7,p6,p5,p4,p3,p2,p1,p0] tm
theorem AoB_:DrawEq 35 73 By Qq [0,1,0,4,15,0,32,96,224,511,1023] Is_:={}
theorem Apy_ (E:Env)(call round:Ag)(x31 x32 x33 x34 x35 x36 x37 x38 x39 x40:Value)(tm:T Value)(s:St):AB call round (AP E By 73 (hdC Qq)) [x40,x39,x38,x37,x36,x35,x34,x33,x32,x31] tm s=(M.bind (oS (some x40) λa=>M.pure a) λv20=>setT 20 v20 tm λtm1=>M.pure tm1) s:=X
def Bp_:Rg:=λE u r t=>
 sV 6 (.int .i64 8) t
theorem Arq_:RegEq 35 73 By FF_ Bp_:={}
def Ku_:Rg:=λE u r t=>
 mG t 0 λv42=>
 cN u r 56 [(some v42)] λv43=>
 M.bind (oS (some v43) λa=>kUn E.P .not a) λv44=>
 sV 41 v44 t
theorem Aoj_:RegEq 35 73 By AP_ Ku_:={}
theorem Ob_:Ad R3=some 41:=X
def IV_:Rg:=λE u r t=>
 sV 6 (.int .i64 10) t
theorem Xr_:RegEq 35 73 By MM_ IV_:={}
def Ea_:Rg:=λE u r t=>
 mG t 7 λv45=>
 ac E .lss 45 0 (some v45) λv46=>
 sF 46 v46 t
theorem Adv_:RegEq 35 73 By AV_ Ea_:={}
theorem GT_:Ad Qz=some 46:=X
def Ml_:Rg:=λE u r t=>
 mG t 0 λv47=>
 mG t 1 λv48=>
 M.bind (oS (seqP [(0,(some v48))]) λps=>Cz E 69 ps) λv49=>
 cN u r 59 [(some v47),(some v49)] λv50=>
 M.pure t
theorem Aaw_:RegEq 35 73 By Qs_ Ml_:={}
def Vc:RdW:=λE call round tm=>
 PD (T.get tm 0) λp0=>
 M.bind (apartO (oS (some p0.1) λa=>kNil a)) λp1=>
 FD E 60 0 (some p1.1) λp2=>
 LD E 58 (some p2.1) λp3=>
 PD (T.get tm 7) λp4=>
 M.bind (apartO (oS (seqP []) λps=>BU E 32 0 ps)) λp5=>
 PD (T.get tm 0) λp6=>
 M.bind (apartO (oS (some p6.1) λa=>kNil a)) λp7=>
 FD E 60 0 (some p7.1) λp8=>
 LD E 58 (some p8.1) λp9=>
 PD (T.get tm 7) λp10=>
 ID E 58 (some p9.1) (some p10.1) λp11=>
 FD E 69 1 (some p11.1) λp12=>
 LD E 32 (some p12.1) λp13=>
 LN E .append [32,32] [(some p5.1),(some p13.1)] λp14=>
 PD (T.get tm 2) λp15=>
 LN E .append [32,32] [(some p14.1),(some p15.1)] λp16=>
 ID E 58 (some p3.1) (some p4.1) λp17=>
 FD E 69 1 (some p17.1) λp18=>
 fJ [p18,p17,p16,p15,p14,p13,p12,p11,p10,p9,p8,p7,p6,p5,p4,p3,p2,p1,p0] tm
theorem Apl_:DrawEq 35 73 By HB [0,1,3,7,0,0,0,64,192,448,0,1984,4032,8128,16352,0,65504,131071,262143,524287] Vc:={}
theorem UD_ (E:Env)(call round:Ag)(x54 x55 x56 x57 x58 x59 x60 x61 x62 x63 x64 x65 x66 x67 x68 x69 x70 x71 x72:Value)(tm:T Value)(s:St):AB call round (AP E By 73 (hdC HB)) [x72,x71,x70,x69,x68,x67,x66,x65,x64,x63,x62,x61,x60,x59,x58,x57,x56,x55,x54] tm s=(M.bind (oS (some x72) λa=>oS (some x70) λb=>Az E 32 a b) λ_=>M.pure tm) s:=X
def T5:Rg:=λE u r t=>
 mG t 0 λv51=>
 mG t 1 λv52=>
 cN u r 46 [(some v51),(some v52)] λv53=>
 sV 7 v53 t
theorem UQ_:RegEq 35 73 By EW_ T5:={}
def LI_:Rg:=λE u r t=>
 sV 6 (.int .i64 0) t
theorem AdZ_:RegEq 35 73 By XD LI_:={}
theorem AoA_: ∃k,Re_= .code .ret::k:=⟨Re_.tail,X⟩
def CJ:Nat:=Ao Try.f28
abbrev AeD_:Nat:=37
def FE_:Code:=Try.f28.body.getD .skip
theorem IU:envS.fn.get 28=some Try.f28:=X
theorem Arn_:G2 envS 28 37 CJ FE_:=λh=>
 aL IU (h _ X X)
theorem Lo:Try.f28.results.toList=[.tmp 4]:=X
def ZJ:List Item:=skim 64 [.code FE_]
def AA_:=nx ZJ
def O0:=nx AA_
def NG:=nx O0
def X0:=bt NG
def LW_:=bf NG
def Lx:=nx X0
def MT:=nx LW_
def Iv_:=bt MT
def GW_:=bf MT
theorem AnY_:skim 64 Iv_.tail=Lx:=X
def O6:=nx GW_
def Fr_:=bt O6
def Px:=bf O6
theorem TD_:skim 64 Fr_.tail=Lx:=X
def Ns_:=nx Px
def Ce_:=nx Ns_
def Wx:Rg:=λE u r t=>
 sV 4 (.int .i64 0) t
theorem Aek_:RegEq 28 37 CJ ZJ Wx:={}
def XN:Rg:=λE u r t=>
 mG t 0 λv6=>
 mG t 1 λv7=>
 cN u r 46 [(some v6),(some v7)] λv8=>
 sV 5 v8 t
theorem AhX_:RegEq 28 37 CJ AA_ XN:={}
def Da_:Rg:=λE u r t=>
 mG t 0 λv10=>
 kN v10 λv11=>
 fD E 60 5 (some v11) λv12=>
 lD E 4 (some v12) λv13=>
 sV 9 v13 t
theorem XN_:RegEq 28 37 CJ O0 Da_:={}
theorem Up:Ad NG=some 9:=X
def QL_:Rg:=λE u r t=>
 sV 4 (.int .i64 10) t
theorem AoN_:RegEq 28 37 CJ X0 QL_:={}
def FZ_:Rg:=λE u r t=>
 mG t 5 λv15=>
 ac E .lss 15 0 (some v15) λv16=>
 sV 14 v16 t
theorem Ahd_:RegEq 28 37 CJ LW_ FZ_:={}
theorem Qt: ∃k,Lx= .code .ret::k:=⟨Lx.tail,X⟩
theorem TQ:Ad MT=some 14:=X
def T1:Rg:=λE u r t=>
 sV 4 (.int .i64 6) t
theorem AgJ_:RegEq 28 37 CJ Iv_ T1:={}
def U5:Rg:=λE u r t=>
 mG t 0 λv18=>
 cN u r 56 [(some v18)] λv19=>
 M.bind (oS (some v19) λa=>kUn E.P .not a) λv20=>
 sV 17 v20 t
theorem Acl_:RegEq 28 37 CJ GW_ U5:={}
theorem Bx_:Ad O6=some 17:=X
def T6:Rg:=λE u r t=>
 sV 4 (.int .i64 10) t
theorem Akl_:RegEq 28 37 CJ Fr_ T6:={}
def Qj_:RdW:=λE call round tm=>
 PD (T.get tm 0) λp0=>
 M.bind (apartO (oS (some p0.1) λa=>kNil a)) λp1=>
 FD E 60 0 (some p1.1) λp2=>
 LD E 58 (some p2.1) λp3=>
 PD (T.get tm 5) λp4=>
 PD (T.get tm 0) λp5=>
 M.bind (apartO (oS (some p5.1) λa=>kNil a)) λp6=>
 FD E 60 0 (some p6.1) λp7=>
 LD E 58 (some p7.1) λp8=>
 PD (T.get tm 5) λp9=>
 ID E 58 (some p8.1) (some p9.1) λp10=>
 FD E 69 1 (some p10.1) λp11=>
 LD E 32 (some p11.1) λp12=>
 LN E .len [32] [(some p12.1)] λp13=>
 ID E 58 (some p3.1) (some p4.1) λp14=>
 FD E 69 2 (some p14.1) λp15=>
 fJ [p15,p14,p13,p12,p11,p10,p9,p8,p7,p6,p5,p4,p3,p2,p1,p0] tm
theorem Aqy_:DrawEq 28 37 CJ Px [0,1,3,7,0,0,32,96,224,0,992,2016,4064,8160,16383,32767,65535] Qj_:={}
theorem Acn_ (E:Env)(call round:Ag)(x21 x22 x23 x24 x25 x26 x27 x28 x29 x30 x31 x32 x33 x34 x35 x36:Value)(tm:T Value)(s:St):AB call round (AP E CJ 37 (hdC Px)) [x36,x35,x34,x33,x32,x31,x30,x29,x28,x27,x26,x25,x24,x23,x22,x21] tm s=(M.bind (oS (some x36) λa=>oS (some x34) λb=>Az E 3 a b) λ_=>M.pure tm) s:=X
def Bu_:Rg:=λE u r t=>
 sV 4 (.int .i64 0) t
theorem TK_:RegEq 28 37 CJ Ns_ Bu_:={}
theorem AhT_: ∃k,Ce_= .code .ret::k:=⟨Ce_.tail,X⟩
def Bl:Nat:=Ao Try.f29
abbrev Bz_:Nat:=75
def Nm_:Code:=Try.f29.body.getD .skip
theorem E5:envS.fn.get 29=some Try.f29:=X
theorem ApM_:G3 envS 29 75 Bl Nm_:=λh=>
 aL E5 (h _ X X X)
theorem Gg:Try.f29.results.toList=[.tmp 6]:=X
def Xr:List Item:=skim 64 [.code Nm_]
def Ge_:=nx Xr
def Nj:=nx Ge_
def NE:=nx Nj
def NP_:=bt NE
def UW:=bf NE
def FO:=nx NP_
def Q1:=nx UW
def ZF:=bt Q1
def Pg_:=bf Q1
theorem WA_:skim 64 ZF.tail=FO:=X
def QH:=nx Pg_
def PS_:=bt QH
def M3:=bf QH
theorem Aej_:skim 64 PS_.tail=FO:=X
def Mi:=nx M3
def Zd:=bt Mi
def CN_:=bf Mi
theorem Apw_:skim 64 Zd.tail=FO:=X
def MW:=nx CN_
def RS_:=bt MW
def XY:=bf MW
theorem UB_:skim 64 RS_.tail=FO:=X
def RG:=nx XY
def Wh:=bt RG
def UC:=bf RG
theorem AhD_:skim 64 Wh.tail=FO:=X
def Dv_:=nx UC
def Z3:=nx Dv_
def Mf_:=nx Z3
def QF:=nx Mf_
def EO_:=bt QF
def JY:=bf QF
theorem AaU_:skim 64 EO_.tail=JY:=X
def Fj_:=nx JY
def YQ:=nx Fj_
def Kd_:=nx YQ
def WU:Rg:=λE u r t=>
 sV 6 (.int .i64 0) t
theorem AaT_:RegEq 29 75 Bl Xr WU:={}
def Bf_:Rg:=λE u r t=>
 mG t 0 λv10=>
 mG t 1 λv11=>
 cN u r 46 [(some v10),(some v11)] λv12=>
 sV 7 v12 t
theorem Aen_:RegEq 29 75 Bl Ge_ Bf_:={}
def Cv_:Rg:=λE u r t=>
 mG t 0 λv14=>
 kN v14 λv15=>
 fD E 60 5 (some v15) λv16=>
 lD E 4 (some v16) λv17=>
 sV 13 v17 t
theorem AoO_:RegEq 29 75 Bl Nj Cv_:={}
theorem XU:Ad NE=some 13:=X
def Fz_:Rg:=λE u r t=>
 sV 6 (.int .i64 10) t
theorem AmT_:RegEq 29 75 Bl NP_ Fz_:={}
def FS_:Rg:=λE u r t=>
 mG t 2 λv19=>
 cN u r 57 [(some v19)] λv20=>
 M.bind (oS (some v20) λa=>kUn E.P .not a) λv21=>
 sV 18 v21 t
theorem AeR_:RegEq 29 75 Bl UW FS_:={}
theorem Gv: ∃k,FO= .code .ret::k:=⟨FO.tail,X⟩
theorem YG:Ad Q1=some 18:=X
def QZ_:Rg:=λE u r t=>
 sV 6 (.int .i64 2) t
theorem Aca_:RegEq 29 75 Bl ZF QZ_:={}
def He_:Rg:=λE u r t=>
 mG t 7 λv23=>
 ac E .lss 23 0 (some v23) λv24=>
 sV 22 v24 t
theorem AcH_:RegEq 29 75 Bl Pg_ He_:={}
theorem MY_:Ad QH=some 22:=X
def PN_:Rg:=λE u r t=>
 sV 6 (.int .i64 6) t
theorem SV_:RegEq 29 75 Bl PS_ PN_:={}
def BS_:RdW:=λE call round tm=>
 PD (T.get tm 0) λp0=>
 M.bind (apartO (oS (some p0.1) λa=>kNil a)) λp1=>
 FD E 60 0 (some p1.1) λp2=>
 LD E 58 (some p2.1) λp3=>
 PD (T.get tm 7) λp4=>
 ID E 58 (some p3.1) (some p4.1) λp5=>
 FD E 69 2 (some p5.1) λp6=>
 LD E 3 (some p6.1) λp7=>
 PD (T.get tm 0) λp8=>
 M.bind (apartO (oS (some p8.1) λa=>kNil a)) λp9=>
 FD E 60 0 (some p9.1) λp10=>
 LD E 58 (some p10.1) λp11=>
 PD (T.get tm 7) λp12=>
 ID E 58 (some p11.1) (some p12.1) λp13=>
 FD E 69 1 (some p13.1) λp14=>
 LD E 32 (some p14.1) λp15=>
 LN E .len [32] [(some p15.1)] λp16=>
 BI E .lss 3 (.tmp 33) (.tmp 42) (some p7.1) (some p16.1) λp17=>
 fJ [p17,p16,p15,p14,p13,p12,p11,p10,p9,p8,p7,p6,p5,p4,p3,p2,p1,p0] tm
theorem SW_:DrawEq 29 75 Bl M3 [0,1,3,7,0,31,63,127,0,256,768,1792,0,7936,16128,32512,65280,131071,262143] BS_:={}
theorem Vg_ (E:Env)(call round:Ag)(x26 x27 x28 x29 x30 x31 x32 x33 x34 x35 x36 x37 x38 x39 x40 x41 x42 x43:Value)(tm:T Value)(s:St):AB call round (AP E Bl 75 (hdC M3)) [x43,x42,x41,x40,x39,x38,x37,x36,x35,x34,x33,x32,x31,x30,x29,x28,x27,x26] tm s=(M.bind (oS (some x43) λa=>M.pure a) λv25=>setT 25 v25 tm λtm1=>M.pure tm1) s:=X
theorem RV_:Ad Mi=some 25:=X
def RT_:Rg:=λE u r t=>
 sV 6 (.int .i64 9) t
theorem Vy_:RegEq 29 75 Bl Zd RT_:={}
def Al_:Rg:=λE u r t=>
 mG t 0 λv45=>
 cN u r 56 [(some v45)] λv46=>
 M.bind (oS (some v46) λa=>kUn E.P .not a) λv47=>
 sV 44 v47 t
theorem Anm_:RegEq 29 75 Bl CN_ Al_:={}
theorem YU:Ad MW=some 44:=X
def TK:Rg:=λE u r t=>
 sV 6 (.int .i64 10) t
theorem TU_:RegEq 29 75 Bl RS_ TK:={}
def Lh_:Rg:=λE u r t=>
 mG t 1 λv49=>
 mG t 2 λv50=>
 bT E .eql 9 49 50 v49 v50 λv51=>
 sV 48 v51 t
theorem ZY_:RegEq 29 75 Bl XY Lh_:={}
theorem OM_:Ad RG=some 48:=X
def EX_:Rg:=λE u r t=>
 sV 6 (.int .i64 0) t
theorem AjD_:RegEq 29 75 Bl Wh EX_:={}
def Wp:Rg:=λE u r t=>
 mG t 0 λv52=>
 kN v52 λv53=>
 fD E 60 0 (some v53) λv54=>
 lD E 58 (some v54) λv55=>
 mG t 7 λv56=>
 iD E 58 (some v55) (some v56) λv57=>
 lD E 69 (some v57) λv58=>
 M.bind (CM E 69) λv8=>
 setF 8 v8 t λt1=>
 ag E 69 (some v8) (some v58) λ_=>
 M.pure t1
theorem AfP_:RegEq 29 75 Bl UC Wp:={}
def Tx:Rg:=λE u r t=>
 mG t 0 λv59=>
 mG t 7 λv60=>
 cN u r 58 [(some v59),(some v60)] λv61=>
 M.pure t
theorem Aad_:RegEq 29 75 Bl Dv_ Tx:={}
def Td:Rg:=λE u r t=>
 mG t 0 λv62=>
 mG t 2 λv63=>
 cN u r 46 [(some v62),(some v63)] λv64=>
 sV 9 v64 t
theorem YD_:RegEq 29 75 Bl Z3 Td:={}
def Nz:Rg:=λE u r t=>
 mG t 9 λv65=>
 ac E .geq 65 0 (some v65) λv66=>
 sF 66 v66 t
theorem Xp:RegEq 29 75 Bl Mf_ Nz:={}
theorem GA_:Ad QF=some 66:=X
def FR_:Rg:=λE u r t=>
 mG t 0 λv67=>
 mG t 9 λv68=>
 cN u r 58 [(some v67),(some v68)] λv69=>
 M.pure t
theorem Amp_:RegEq 29 75 Bl EO_ FR_:={}
def Zt:Rg:=λE u r t=>
 mG t 2 λv70=>
 fD E 69 0 (T.get t 8) λv71=>
 ag E 9 (some v71) (some v70) λ_=>
 M.pure t
theorem AcX_:RegEq 29 75 Bl JY Zt:={}
def FM_:Rg:=λE u r t=>
 mG t 0 λv72=>
 lD E 69 (T.get t 8) λv73=>
 cN u r 59 [(some v72),(some v73)] λv74=>
 M.pure t
theorem AmR_:RegEq 29 75 Bl Fj_ FM_:={}
def NC_:Rg:=λE u r t=>
 sV 6 (.int .i64 0) t
theorem Aqb_:RegEq 29 75 Bl YQ NC_:={}
theorem ArB_: ∃k,Kd_= .code .ret::k:=⟨Kd_.tail,X⟩
def C0:Nat:=Ao Try.f30
abbrev Afq_:Nat:=24
def Fo_:Code:=Try.f30.body.getD .skip
theorem HJ:envS.fn.get 30=some Try.f30:=X
theorem AlJ_:G2 envS 30 24 C0 Fo_:=λh=>
 aL HJ (h _ X X)
theorem Kh:Try.f30.results.toList=[.tmp 4]:=X
def Yz:List Item:=skim 64 [.code Fo_]
def Mq_:=nx Yz
def SB:=nx Mq_
def OQ:=nx SB
def Bj_:=bt OQ
def Na_:=bf OQ
def KT:=nx Bj_
def Nn:=nx Na_
def RM_:=bt Nn
def Uu:=bf Nn
theorem AfO_:skim 64 RM_.tail=KT:=X
def QU:=nx Uu
def FY_:=bt QU
def OB_:=bf QU
theorem Adk_:skim 64 FY_.tail=KT:=X
def Vt:=nx OB_
def KW_:=nx Vt
def RX_:Rg:=λE u r t=>
 sV 4 (.int .i64 0) t
theorem UM_:RegEq 30 24 C0 Yz RX_:={}
def JJ_:Rg:=λE u r t=>
 mG t 0 λv6=>
 mG t 1 λv7=>
 cN u r 46 [(some v6),(some v7)] λv8=>
 sV 5 v8 t
theorem VU_:RegEq 30 24 C0 Mq_ JJ_:={}
def JV_:Rg:=λE u r t=>
 mG t 0 λv10=>
 kN v10 λv11=>
 fD E 60 5 (some v11) λv12=>
 lD E 4 (some v12) λv13=>
 sV 9 v13 t
theorem XS_:RegEq 30 24 C0 SB JV_:={}
theorem TE:Ad OQ=some 9:=X
def MO_:Rg:=λE u r t=>
 sV 4 (.int .i64 10) t
theorem Aih_:RegEq 30 24 C0 Bj_ MO_:={}
def Ze:Rg:=λE u r t=>
 mG t 5 λv15=>
 ac E .lss 15 0 (some v15) λv16=>
 sV 14 v16 t
theorem Wv_:RegEq 30 24 C0 Na_ Ze:={}
theorem O5: ∃k,KT= .code .ret::k:=⟨KT.tail,X⟩
theorem Jj_:Ad Nn=some 14:=X
def ZM:Rg:=λE u r t=>
 sV 4 (.int .i64 6) t
theorem ApI_:RegEq 30 24 C0 RM_ ZM:={}
def Cm_:Rg:=λE u r t=>
 mG t 0 λv18=>
 cN u r 56 [(some v18)] λv19=>
 M.bind (oS (some v19) λa=>kUn E.P .not a) λv20=>
 sV 17 v20 t
theorem Td_:RegEq 30 24 C0 Uu Cm_:={}
theorem Rh_:Ad QU=some 17:=X
def Qp_:Rg:=λE u r t=>
 sV 4 (.int .i64 10) t
theorem ApE_:RegEq 30 24 C0 FY_ Qp_:={}
def ZR:Rg:=λE u r t=>
 mG t 0 λv21=>
 mG t 5 λv22=>
 cN u r 58 [(some v21),(some v22)] λv23=>
 M.pure t
theorem YP_:RegEq 30 24 C0 OB_ ZR:={}
def Qd_:Rg:=λE u r t=>
 sV 4 (.int .i64 0) t
theorem AeE_:RegEq 30 24 C0 Vt Qd_:={}
theorem Arj_: ∃k,KW_= .code .ret::k:=⟨KW_.tail,X⟩
def Ea:Nat:=Ao Try.f44
abbrev Amm_:Nat:=28
def HD_:Code:=Try.f44.body.getD .skip
theorem Li:envS.fn.get 44=some Try.f44:=X
theorem Air_:G2 envS 44 28 Ea HD_:=λh=>
 aL Li (h _ X X)
theorem QX:Try.f44.results.toList=[.tmp 4, .tmp 5]:=X
def TL:List Item:=skim 64 [.code HD_]
def Pl_:=nx TL
def Rs:=nx Pl_
def NY:=nx Rs
def Go_:=bt NY
def Vn:=bf NY
def LZ:=nx Go_
def Pd:=nx Vn
def Bq_:=bt Pd
def Yw:=bf Pd
theorem AhM_:skim 64 Bq_.tail=LZ:=X
def X5:=nx Yw
def RY_:Rg:=λE u r t=>
 mv (some (.slice none 0 0)) λv4=>
 setF 4 v4 t λt1=>
 sV 5 (.int .i64 0) t1
theorem Yv_:RegEq 44 28 Ea TL RY_:={}
def KT_:Rg:=λE u r t=>
 mG t 0 λv7=>
 mG t 1 λv8=>
 cN u r 46 [(some v7),(some v8)] λv9=>
 sV 6 v9 t
theorem Aew_:RegEq 44 28 Ea Pl_ KT_:={}
def EP_:Rg:=λE u r t=>
 mG t 0 λv11=>
 kN v11 λv12=>
 fD E 60 5 (some v12) λv13=>
 lD E 4 (some v13) λv14=>
 sV 10 v14 t
theorem Ahj_:RegEq 44 28 Ea Rs EP_:={}
theorem BB_:Ad NY=some 10:=X
def Wt:Rg:=λE u r t=>
 mv (some (.slice none 0 0)) λv4=>
 setF 4 v4 t λt1=>
 sV 5 (.int .i64 10) t1
theorem VG_:RegEq 44 28 Ea Go_ Wt:={}
def Qz_:Rg:=λE u r t=>
 mG t 6 λv16=>
 ac E .lss 16 0 (some v16) λv17=>
 sV 15 v17 t
theorem Adb_:RegEq 44 28 Ea Vn Qz_:={}
theorem DY_: ∃k,LZ= .code .ret::k:=⟨LZ.tail,X⟩
theorem ZD:Ad Pd=some 15:=X
def Wv:Rg:=λE u r t=>
 mv (some (.slice none 0 0)) λv4=>
 setF 4 v4 t λt1=>
 sV 5 (.int .i64 6) t1
theorem Ajb_:RegEq 44 28 Ea Bq_ Wv:={}
def Tj:Rg:=λE u r t=>
 M.bind (oS (seqP []) λps=>BU E 32 0 ps) λv18=>
 mG t 0 λv19=>
 kN v19 λv20=>
 fD E 60 0 (some v20) λv21=>
 lD E 58 (some v21) λv22=>
 mG t 6 λv23=>
 iD E 58 (some v22) (some v23) λv24=>
 fD E 69 1 (some v24) λv25=>
 lD E 32 (some v25) λv26=>
 lN E .append [32,32] [(some v18),(some v26)] λv27=>
 mv (some v27) λv4=>
 setF 4 v4 t λt1=>
 sV 5 (.int .i64 0) t1
theorem AjQ_:RegEq 44 28 Ea Yw Tj:={}
theorem ApR_: ∃k,X5= .code .ret::k:=⟨X5.tail,X⟩
def CE:Nat:=Ao Try.f42
abbrev PN:Nat:=43
def YT:Code:=Try.f42.body.getD .skip
theorem Lz_:envS.fn.get 42=some Try.f42:=X
theorem YA_:G2 envS 42 43 CE YT:=λh=>
 aL Lz_ (h _ X X)
theorem Th_:Try.f42.results.toList=[.tmp 4]:=X
def Sz_:List Item:=skim 64 [.code YT]
def Cw_:=nx Sz_
def UN:=nx Cw_
def Jl:=nx UN
def OG:=nx Jl
def AM_:=bt OG
def Jw_:=bf OG
def WL:=nx AM_
def Jl_:=nx Jw_
def KS:=nx WL
def YM:=bt KS
def Lv:=bf KS
theorem VK_:skim 64 YM.tail=Lv:=X
theorem Aqs_:skim 64 Lv.tail=Jl:=X
def EY_:Rg:=λE u r t=>
 sV 4 (.slice none 0 0) t
theorem ApD_:RegEq 42 43 CE Sz_ EY_:={}
def JL_:Rg:=λE u r t=>
 sV 5 (.slice none 0 0) t
theorem AiU_:RegEq 42 43 CE Cw_ JL_:={}
def Wi:Rg:=λE u r t=>
 sV 6 (.int .i64 0) t
theorem Ve_:RegEq 42 43 CE UN Wi:={}
def Rv:Rg:=λE u r t=>
 mG t 6 λv8=>
 mG t 0 λv9=>
 kN v9 λv10=>
 fD E 60 0 (some v10) λv11=>
 lD E 58 (some v11) λv12=>
 lL E 58 v12 λv13=>
 bT E .lss 3 8 13 v8 v13 λv14=>
 sF 14 v14 t
theorem Sq_:RegEq 42 43 CE Jl Rv:={}
theorem Wg:Ad OG=some 14:=X
def Qn_:Rg:=λE u r t=>
 mG t 0 λv17=>
 kN v17 λv18=>
 fD E 60 0 (some v18) λv19=>
 lD E 58 (some v19) λv20=>
 mG t 6 λv21=>
 iD E 58 (some v20) (some v21) λv22=>
 fD E 69 0 (some v22) λv23=>
 lD E 9 (some v23) λv24=>
 sV 7 v24 t
theorem Afv_:RegEq 42 43 CE AM_ Qn_:={}
def Yt:Rg:=λE u r t=>
 mG t 5 λv42=>
 sV 4 v42 t
theorem Ahc_:RegEq 42 43 CE Jw_ Yt:={}
def SL:Rg:=λE u r t=>
 mG t 7 λv25=>
 lL E 9 v25 λv26=>
 mG t 1 λv27=>
 lL E 9 v27 λv28=>
 bT E .geq 3 26 28 v26 v28 λv29=>
 mv (some v29) λv30=>
 sK v30 true (pG t 7) λv31=>
 sK v30 true (pG t 1) λv32=>
 sK v30 true (oS (seqO [(some v32)]) λl=>AH E .len [9] l) λv33=>
 sK v30 true (M.on (some v31) λa=>M.on (some none) λb=>M.on (onO (some v33) λv=>some (some v)) λc=>AZ E 9 a b c) λv34=>
 sK v30 true (pG t 1) λv35=>
 sK v30 true (oS (some v34) λa=>oS (some v35) λb=>Cl.get (aBin E .eql 9 (.tmp 34) (.tmp 35)) a b) λv36=>
 ae v30 v36 (.bool false) λv37=>
 sF 37 v37 t
theorem ZN_:RegEq 42 43 CE WL SL:={}
theorem AgW_: ∃k,Jl_= .code .ret::k:=⟨Jl_.tail,X⟩
theorem Ky_:Ad KS=some 37:=X
def Mk_:Rg:=λE u r t=>
 mG t 5 λv38=>
 mG t 7 λv39=>
 M.bind (oS (seqP [(0,(some v39))]) λps=>BU E 66 1 ps) λv40=>
 lN E .append [66,66] [(some v38),(some v40)] λv41=>
 sV 5 v41 t
theorem Akc_:RegEq 42 43 CE YM Mk_:={}
def Vh:Rg:=λE u r t=>
 mG t 6 λv15=>
 ac E .add 15 1 (some v15) λv16=>
 sV 6 v16 t
theorem AjR_:RegEq 42 43 CE Lv Vh:={}
def FG:Nat:=Ao Try.f16
def KE_:Code:=Try.f16.body.getD .skip
theorem Nr:envS.fn.get 16=some Try.f16:=X
theorem AaD_:G2 envS 16 29 FG KE_:=λh=>
 aL Nr (h _ X X)
theorem BT_:Try.f16.results.toList=[.tmp 4]:=X
def Ek_:List Item:=skim 64 [.code KE_]
def YK:=nx Ek_
def DG_:=nx YK
def Pt:=nx DG_
def Xt:=bt Pt
def RH:=bf Pt
def Sd_:=nx Xt
def Ht_:=nx RH
def Nk_:Rg:=λE u r t=>
 sV 4 (.int .i64 0) t
theorem AeC_:RegEq 16 29 FG Ek_ Nk_:={}
def MR_:Rg:=λE u r t=>
 mG t 0 λv6=>
 mG t 1 λv7=>
 cN u r 46 [(some v6),(some v7)] λv8=>
 sV 5 v8 t
theorem AjF_:RegEq 16 29 FG YK MR_:={}
def R9:Rg:=λE u r t=>
 mG t 5 λv9=>
 ac E .lss 9 0 (some v9) λv10=>
 sF 10 v10 t
theorem WS:RegEq 16 29 FG DG_ R9:={}
theorem Y7:Ad Pt=some 10:=X
def Gt_:Rg:=λE u r t=>
 sV 4 (.int .i64 0) t
theorem Adn_:RegEq 16 29 FG Xt Gt_:={}
def Nx_:RdW:=λE call round tm=>
 PD (T.get tm 0) λp0=>
 M.bind (apartO (oS (some p0.1) λa=>kNil a)) λp1=>
 FD E 60 0 (some p1.1) λp2=>
 LD E 58 (some p2.1) λp3=>
 PD (T.get tm 5) λp4=>
 ID E 58 (some p3.1) (some p4.1) λp5=>
 FD E 69 1 (some p5.1) λp6=>
 LD E 32 (some p6.1) λp7=>
 LN E .len [32] [(some p7.1)] λp8=>
 PD (T.get tm 0) λp9=>
 M.bind (apartO (oS (some p9.1) λa=>kNil a)) λp10=>
 FD E 60 0 (some p10.1) λp11=>
 LD E 58 (some p11.1) λp12=>
 PD (T.get tm 5) λp13=>
 ID E 58 (some p12.1) (some p13.1) λp14=>
 FD E 69 2 (some p14.1) λp15=>
 LD E 3 (some p15.1) λp16=>
 BI E .sub 3 (.tmp 19) (.tmp 27) (some p8.1) (some p16.1) λp17=>
 fJ [p17,p16,p15,p14,p13,p12,p11,p10,p9,p8,p7,p6,p5,p4,p3,p2,p1,p0] tm
theorem Aaq_:DrawEq 16 29 FG RH [0,1,3,7,0,31,63,127,255,0,512,1536,3584,0,15872,32256,65024,131071,262143] Nx_:={}
theorem XQ_ (E:Env)(call round:Ag)(x11 x12 x13 x14 x15 x16 x17 x18 x19 x20 x21 x22 x23 x24 x25 x26 x27 x28:Value)(tm:T Value)(s:St):AB call round (AP E FG 29 (hdC RH)) [x28,x27,x26,x25,x24,x23,x22,x21,x20,x19,x18,x17,x16,x15,x14,x13,x12,x11] tm s=(M.bind (oS (some x28) λa=>M.pure a) λv4=>setT 4 v4 tm λtm1=>M.pure tm1) s:=X
theorem ApQ_: ∃k,Sd_= .code .ret::k:=⟨Sd_.tail,X⟩
theorem Vt_: ∃k,Ht_= .code .ret::k:=⟨Ht_.tail,X⟩
def EB:Nat:=Ao Try.f39
abbrev Wu_:Nat:=26
def Ra_:Code:=Try.f39.body.getD .skip
theorem Zv:envS.fn.get 39=some Try.f39:=X
theorem Afj_:G1 envS 39 26 EB Ra_:=λh=>
 aL Zv (h _ X)
theorem Aql_:Try.f39.results.toList=[.tmp 2]:=X
def Tg:List Item:=skim 64 [.code Ra_]
def JK_:=nx Tg
def RZ_:=nx JK_
def KX:=nx RZ_
def Q5:=nx KX
def BW_:=bt Q5
def ZU:=bf Q5
def Cn_:=nx BW_
def Zr:=nx ZU
theorem AlC_:skim 64 Cn_.tail=KX:=X
def ZC:Rg:=λE u r t=>
 sV 2 (.int .i64 0) t
theorem AaJ_:RegEq 39 26 EB Tg ZC:={}
def NE_:Rg:=λE u r t=>
 sV 3 (.int .i64 0) t
theorem AfU_:RegEq 39 26 EB JK_ NE_:={}
def PH_:Rg:=λE u r t=>
 sV 4 (.int .i64 0) t
theorem Ajx_:RegEq 39 26 EB RZ_ PH_:={}
def O7:Rg:=λE u r t=>
 mG t 4 λv5=>
 mG t 0 λv6=>
 kN v6 λv7=>
 fD E 60 0 (some v7) λv8=>
 lD E 58 (some v8) λv9=>
 lL E 58 v9 λv10=>
 bT E .lss 3 5 10 v5 v10 λv11=>
 sF 11 v11 t
theorem Pa_:RegEq 39 26 EB KX O7:={}
theorem Ak_:Ad Q5=some 11:=X
def NK_:Rg:=λE u r t=>
 mG t 3 λv14=>
 mG t 0 λv15=>
 kN v15 λv16=>
 fD E 60 0 (some v16) λv17=>
 lD E 58 (some v17) λv18=>
 mG t 4 λv19=>
 iD E 58 (some v18) (some v19) λv20=>
 fD E 69 1 (some v20) λv21=>
 lD E 32 (some v21) λv22=>
 lL E 32 v22 λv23=>
 bT E .add 3 14 23 v14 v23 λv24=>
 sV 3 v24 t
theorem AoH_:RegEq 39 26 EB BW_ NK_:={}
def Ei_:Rg:=λE u r t=>
 mG t 3 λv25=>
 sV 2 v25 t
theorem Uz_:RegEq 39 26 EB ZU Ei_:={}
def XL:Rg:=λE u r t=>
 mG t 4 λv12=>
 ac E .add 12 1 (some v12) λv13=>
 sV 4 v13 t
theorem Ace_:RegEq 39 26 EB Cn_ XL:={}
theorem AgY_: ∃k,Zr= .code .ret::k:=⟨Zr.tail,X⟩
def Gb:Nat:=Ao Try.f31
def Tb:Code:=Try.f31.body.getD .skip
theorem MO:envS.fn.get 31=some Try.f31:=X
theorem XK_:G2 envS 31 14 Gb Tb:=λh=>
 aL MO (h _ X X)
theorem DI_:Try.f31.results.toList=[.tmp 4]:=X
def NV_:List Item:=skim 64 [.code Tb]
def WI:=nx NV_
def RN:=nx WI
def Jg_:=bt RN
def HH_:=bf RN
def Bl_:=nx Jg_
def TX:=nx HH_
def EN_:=nx TX
def ZS:=nx EN_
def Vq:Rg:=λE u r t=>
 sV 4 (.int .i64 0) t
theorem TA_:RegEq 31 14 Gb NV_ Vq:={}
def W3:Rg:=λE u r t=>
 mG t 1 λv5=>
 ac E .lss 5 0 (some v5) λv6=>
 sF 6 v6 t
theorem Ajg_:RegEq 31 14 Gb WI W3:={}
theorem UL:Ad RN=some 6:=X
def Lo_:Rg:=λE u r t=>
 sV 4 (.int .i64 2) t
theorem Alz_:RegEq 31 14 Gb Jg_ Lo_:={}
def GZ_:Rg:=λE u r t=>
 mG t 0 λv7=>
 kN v7 λv8=>
 fD E 60 3 (some v8) λv9=>
 ag E 4 (some v9) (some (.bool true)) λ_=>
 M.pure t
theorem Akk_:RegEq 31 14 Gb HH_ GZ_:={}
theorem Aid_: ∃k,Bl_= .code .ret::k:=⟨Bl_.tail,X⟩
def Bk_:Rg:=λE u r t=>
 mG t 0 λv10=>
 mG t 1 λv11=>
 kN v10 λv12=>
 fD E 60 4 (some v12) λv13=>
 ag E 3 (some v13) (some v11) λ_=>
 M.pure t
theorem AhJ_:RegEq 31 14 Gb TX Bk_:={}
def PV_:Rg:=λE u r t=>
 sV 4 (.int .i64 0) t
theorem AiX_:RegEq 31 14 Gb EN_ PV_:={}
theorem Acq_: ∃k,ZS= .code .ret::k:=⟨ZS.tail,X⟩
def BE:Nat:=Ao Try.f32
abbrev OA:Nat:=82
def UH:Code:=Try.f32.body.getD .skip
theorem GN_:envS.fn.get 32=some Try.f32:=X
theorem Ahk_:G2 envS 32 82 BE UH:=λh=>
 aL GN_ (h _ X X)
theorem AeP_:Try.f32.results.toList=[.tmp 4]:=X
def HX_:List Item:=skim 64 [.code UH]
def Ue:=nx HX_
def JH:=nx Ue
def MQ:=nx JH
def Mo_:=bt MQ
def Ny:=bf MQ
def KI_:=nx Mo_
def Rk_:=nx Ny
def CE_:=nx KI_
def Vw:=nx Rk_
def My_:=nx CE_
def DX_:=nx Vw
def Nd:=nx My_
def Rx_:=nx DX_
def Z4:=bt Nd
def HU:=bf Nd
theorem AdQ_:skim 64 Z4.tail=HU:=X
def Nu:=nx HU
def RQ_:=nx Nu
theorem Amz_:skim 64 RQ_.tail=JH:=X
def Zp:Rg:=λE u r t=>
 sV 4 (.int .i64 0) t
theorem AeO_:RegEq 32 82 BE HX_ Zp:={}
def ED_:Rg:=λE u r t=>
 sV 5 (.int .i64 0) t
theorem Agk_:RegEq 32 82 BE Ue ED_:={}
def OV:Rg:=λE u r t=>
 mG t 5 λv9=>
 mG t 0 λv10=>
 kN v10 λv11=>
 fD E 60 0 (some v11) λv12=>
 lD E 58 (some v12) λv13=>
 lL E 58 v13 λv14=>
 bT E .lss 3 9 14 v9 v14 λv15=>
 sF 15 v15 t
theorem FP_:RegEq 32 82 BE JH OV:={}
theorem Se_:Ad MQ=some 15:=X
def DK_:Rg:=λE u r t=>
 mG t 0 λv18=>
 kN v18 λv19=>
 fD E 60 0 (some v19) λv20=>
 lD E 58 (some v20) λv21=>
 mG t 5 λv22=>
 iD E 58 (some v21) (some v22) λv23=>
 lD E 69 (some v23) λv24=>
 M.bind (CM E 69) λv6=>
 setF 6 v6 t λt1=>
 ag E 69 (some v6) (some v24) λ_=>
 M.pure t1
theorem YC_:RegEq 32 82 BE Mo_ DK_:={}
def Sc_:Rg:=λE u r t=>
 mG t 0 λv73=>
 kN v73 λv74=>
 fD E 60 5 (some v74) λv75=>
 ag E 4 (some v75) (some (.bool false)) λ_=>
 M.pure t
theorem Amt_:RegEq 32 82 BE Ny Sc_:={}
def HV_:Rg:=λE u r t=>
 sV 7 (.int .i64 0) t
theorem Tf_:RegEq 32 82 BE KI_ HV_:={}
def Hl_:Rg:=λE u r t=>
 mG t 0 λv76=>
 kN v76 λv77=>
 fD E 60 3 (some v77) λv78=>
 ag E 4 (some v78) (some (.bool false)) λ_=>
 M.pure t
theorem Tr_:RegEq 32 82 BE Rk_ Hl_:={}
def Lg_:Rg:=λE u r t=>
 fD E 69 1 (T.get t 6) λv25=>
 lD E 32 (some v25) λv26=>
 lL E 32 v26 λv27=>
 fD E 69 2 (T.get t 6) λv28=>
 lD E 3 (some v28) λv29=>
 bT E .sub 3 27 29 v27 v29 λv30=>
 ac E .add 30 1 (some v30) λv31=>
 sV 8 v31 t
theorem Vu_:RegEq 32 82 BE CE_ Lg_:={}
def QI_:Rg:=λE u r t=>
 mG t 0 λv79=>
 kN v79 λv80=>
 fD E 60 4 (some v80) λv81=>
 ag E 3 (some v81) (some (.int .i64 0)) λ_=>
 M.pure t
theorem Wh_:RegEq 32 82 BE Vw QI_:={}
def Jk_:Rg:=λE u r t=>
 mG t 5 λv32=>
 mG t 1 λv33=>
 lL E 34 v33 λv34=>
 bT E .lss 3 32 34 v32 v34 λv35=>
 sF 35 v35 t
theorem UY_:RegEq 32 82 BE My_ Jk_:={}
def V2:Rg:=λE u r t=>
 sV 4 (.int .i64 0) t
theorem Arv_:RegEq 32 82 BE DX_ V2:={}
theorem CH_:Ad Nd=some 35:=X
theorem Afr_: ∃k,Rx_= .code .ret::k:=⟨Rx_.tail,X⟩
def Z8:Rg:=λE u r t=>
 mG t 1 λv36=>
 mG t 5 λv37=>
 iD E 34 (some v36) (some v37) λv38=>
 lD E 3 (some v38) λv39=>
 mG t 8 λv40=>
 bT E .rem 3 39 40 v39 v40 λv41=>
 mG t 8 λv42=>
 bT E .add 3 41 42 v41 v42 λv43=>
 mG t 8 λv44=>
 bT E .rem 3 43 44 v43 v44 λv45=>
 sV 7 v45 t
theorem ApZ_:RegEq 32 82 BE Z4 Z8:={}
def Av_:RdW:=λE call round tm=>
 PD (T.get tm 0) λp0=>
 M.bind (apartO (oS (some p0.1) λa=>kNil a)) λp1=>
 FD E 60 0 (some p1.1) λp2=>
 LD E 58 (some p2.1) λp3=>
 PD (T.get tm 5) λp4=>
 M.bind (apartO (oS (seqP []) λps=>BU E 32 0 ps)) λp5=>
 FD E 69 1 (T.get tm 6) λp6=>
 LD E 32 (some p6.1) λp7=>
 FD E 69 2 (T.get tm 6) λp8=>
 LD E 3 (some p8.1) λp9=>
 PD (T.get tm 7) λp10=>
 BI E .add 3 (.tmp 55) (.tmp 56) (some p9.1) (some p10.1) λp11=>
 M.bind (apartO (M.on (some p7.1) λa=>M.on (some none) λb=>M.on (onO (some p11.1) λv=>some (some v)) λc=>AZ E 32 a b c)) λp12=>
 LN E .append [32,32] [(some p5.1),(some p12.1)] λp13=>
 ID E 58 (some p3.1) (some p4.1) λp14=>
 FD E 69 1 (some p14.1) λp15=>
 fJ [p15,p14,p13,p12,p11,p10,p9,p8,p7,p6,p5,p4,p3,p2,p1,p0] tm
theorem VI_:DrawEq 32 82 BE HU [0,1,3,7,0,0,0,64,0,256,0,1792,4032,8160,16383,32767,65535] Av_:={}
theorem Afg_ (E:Env)(call round:Ag)(x46 x47 x48 x49 x50 x51 x52 x53 x54 x55 x56 x57 x58 x59 x60 x61:Value)(tm:T Value)(s:St):AB call round (AP E BE 82 (hdC HU)) [x61,x60,x59,x58,x57,x56,x55,x54,x53,x52,x51,x50,x49,x48,x47,x46] tm s=(M.bind (oS (some x61) λa=>oS (some x59) λb=>Az E 32 a b) λ_=>M.pure tm) s:=X
def VH:RdW:=λE call round tm=>
 PD (T.get tm 0) λp0=>
 M.bind (apartO (oS (some p0.1) λa=>kNil a)) λp1=>
 FD E 60 0 (some p1.1) λp2=>
 LD E 58 (some p2.1) λp3=>
 PD (T.get tm 5) λp4=>
 FD E 69 2 (T.get tm 6) λp5=>
 LD E 3 (some p5.1) λp6=>
 PD (T.get tm 7) λp7=>
 BI E .add 3 (.tmp 68) (.tmp 69) (some p6.1) (some p7.1) λp8=>
 ID E 58 (some p3.1) (some p4.1) λp9=>
 FD E 69 2 (some p9.1) λp10=>
 fJ [p10,p9,p8,p7,p6,p5,p4,p3,p2,p1,p0] tm
theorem Ajm_:DrawEq 32 82 BE Nu [0,1,3,7,0,0,32,0,224,511,1023,2047] VH:={}
theorem WC_ (E:Env)(call round:Ag)(x62 x63 x64 x65 x66 x67 x68 x69 x70 x71 x72:Value)(tm:T Value)(s:St):AB call round (AP E BE 82 (hdC Nu)) [x72,x71,x70,x69,x68,x67,x66,x65,x64,x63,x62] tm s=(M.bind (oS (some x72) λa=>oS (some x70) λb=>Az E 3 a b) λ_=>M.pure tm) s:=X
def WX:Rg:=λE u r t=>
 mG t 5 λv16=>
 ac E .add 16 1 (some v16) λv17=>
 sV 5 v17 t
theorem Aka_:RegEq 32 82 BE RQ_ WX:={}
def CI:Nat:=Ao Try.f33
abbrev Vm_:Nat:=61
def Lb_:Code:=Try.f33.body.getD .skip
theorem KG:envS.fn.get 33=some Try.f33:=X
theorem AbV_:G3 envS 33 61 CI Lb_:=λh=>
 aL KG (h _ X X X)
theorem SH:Try.f33.results.toList=[.tmp 6]:=X
def Vp:List Item:=skim 64 [.code Lb_]
def Lc_:=nx Vp
def Vx:=nx Lc_
def Ph:=nx Vx
def Fd_:=bt Ph
def XG:=bf Ph
def YP:=nx Fd_
def JN:=nx XG
def IK_:=bt JN
def Hy_:=bf JN
def V5:=nx IK_
def OS:=nx Hy_
def EL_:=nx OS
def Io_:=nx EL_
def Nv_:=nx Io_
def IB_:Rg:=λE u r t=>
 sV 6 (.int .i64 0) t
theorem Amv_:RegEq 33 61 CI Vp IB_:={}
def Wy:Rg:=λE u r t=>
 mG t 0 λv9=>
 mG t 1 λv10=>
 cN u r 46 [(some v9),(some v10)] λv11=>
 sV 7 v11 t
theorem AfQ_:RegEq 33 61 CI Lc_ Wy:={}
def Rx:Rg:=λE u r t=>
 mG t 7 λv12=>
 ac E .lss 12 0 (some v12) λv13=>
 sF 13 v13 t
theorem Es_:RegEq 33 61 CI Vx Rx:={}
theorem JD_:Ad Ph=some 13:=X
def X2:Rg:=λE u r t=>
 sV 6 (.int .i64 6) t
theorem Wo_:RegEq 33 61 CI Fd_ X2:={}
def M0:Rg:=λE u r t=>
 mG t 2 λv14=>
 ac E .lss 14 0 (some v14) λv15=>
 mv (some v15) λv16=>
 sK v16 false (pG t 2) λv17=>
 sK v16 false (pG t 0) λv18=>
 sK v16 false (oS (some v18) λa=>kNil a) λv19=>
 sK v16 false (oS (some v19) λa=>kFld E 60 a 0) λv20=>
 sK v16 false (oS (some v20) λa=>Bd E 58 a) λv21=>
 sK v16 false (pG t 7) λv22=>
 sK v16 false (oS (some v21) λa=>oS (some v22) λb=>B8 E 58 a b) λv23=>
 sK v16 false (oS (some v23) λa=>kFld E 69 a 1) λv24=>
 sK v16 false (oS (some v24) λa=>Bd E 32 a) λv25=>
 sK v16 false (oS (seqO [(some v25)]) λl=>AH E .len [32] l) λv26=>
 sK v16 false (oS (some (.int .i64 8)) λa=>oS (some v26) λb=>Cl.get (aBin E .mul 3 (.const (.int .i64 8)) (.tmp 26)) a b) λv27=>
 sK v16 false (oS (some v17) λa=>oS (some v27) λb=>Cl.get (aBin E .geq 3 (.tmp 17) (.tmp 27)) a b) λv28=>
 ae v16 (.bool true) v28 λv29=>
 sF 29 v29 t
theorem ApN_:RegEq 33 61 CI XG M0:={}
theorem Yq_: ∃k,YP= .code .ret::k:=⟨YP.tail,X⟩
theorem Pb_:Ad JN=some 29:=X
def LD_:Rg:=λE u r t=>
 sV 6 (.int .i64 5) t
theorem AgD_:RegEq 33 61 CI IK_ LD_:={}
def Ca_:Rg:=λE u r t=>
 M.bind (oS (seqP []) λps=>BU E 32 0 ps) λv30=>
 mG t 0 λv31=>
 kN v31 λv32=>
 fD E 60 0 (some v32) λv33=>
 lD E 58 (some v33) λv34=>
 mG t 7 λv35=>
 iD E 58 (some v34) (some v35) λv36=>
 fD E 69 1 (some v36) λv37=>
 lD E 32 (some v37) λv38=>
 lN E .append [32,32] [(some v30),(some v38)] λv39=>
 sV 8 v39 t
theorem AfW_:RegEq 33 61 CI Hy_ Ca_:={}
theorem Up_: ∃k,V5= .code .ret::k:=⟨V5.tail,X⟩
def Ii_:RdW:=λE call round tm=>
 PD (T.get tm 8) λp0=>
 PD (T.get tm 2) λp1=>
 BI E .quo 3 (.tmp 41) (.const (.int .i64 8)) (some p1.1) (some (.int .i64 8)) λp2=>
 PD (T.get tm 8) λp3=>
 PD (T.get tm 2) λp4=>
 BI E .quo 3 (.tmp 44) (.const (.int .i64 8)) (some p4.1) (some (.int .i64 8)) λp5=>
 ID E 32 (some p3.1) (some p5.1) λp6=>
 LD E 5 (some p6.1) λp7=>
 PD (T.get tm 2) λp8=>
 BI E .rem 3 (.tmp 48) (.const (.int .i64 8)) (some p8.1) (some (.int .i64 8)) λp9=>
 BI E .shl 5 (.const (.int .u8 1)) (.tmp 49) (some (.int .u8 1)) (some p9.1) λp10=>
 BI E .xor 5 (.tmp 47) (.tmp 50) (some p7.1) (some p10.1) λp11=>
 ID E 32 (some p0.1) (some p2.1) λp12=>
 fJ [p12,p11,p10,p9,p8,p7,p6,p5,p4,p3,p2,p1,p0] tm
theorem Agu_:DrawEq 33 61 CI OS [0,0,2,0,0,16,56,120,0,256,768,2040,4095,8191] Ii_:={}
theorem AoQ_ (E:Env)(call round:Ag)(x40 x41 x42 x43 x44 x45 x46 x47 x48 x49 x50 x51 x52:Value)(tm:T Value)(s:St):AB call round (AP E CI 61 (hdC OS)) [x52,x51,x50,x49,x48,x47,x46,x45,x44,x43,x42,x41,x40] tm s=(M.bind (oS (some x52) λa=>oS (some x51) λb=>Az E 5 a b) λ_=>M.pure tm) s:=X
def TF:Rg:=λE u r t=>
 mG t 0 λv53=>
 kN v53 λv54=>
 fD E 60 0 (some v54) λv55=>
 lD E 58 (some v55) λv56=>
 mG t 7 λv57=>
 mG t 8 λv58=>
 iD E 58 (some v56) (some v57) λv59=>
 fD E 69 1 (some v59) λv60=>
 ag E 32 (some v60) (some v58) λ_=>
 M.pure t
theorem VR_:RegEq 33 61 CI EL_ TF:={}
def ZL:Rg:=λE u r t=>
 sV 6 (.int .i64 0) t
theorem AgE_:RegEq 33 61 CI Io_ ZL:={}
theorem Yr_: ∃k,Nv_= .code .ret::k:=⟨Nv_.tail,X⟩
