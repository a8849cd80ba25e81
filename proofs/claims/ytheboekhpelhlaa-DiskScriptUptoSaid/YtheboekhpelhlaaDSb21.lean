import Derived.Test.YtheboekhpelhlaaDSb20
noncomputable section
namespace Go.Proofs.Ytheboekhpelhlaa.Am
open Go.RowKit
def F3:Nat:=Ao Try.f6
def To:Code:=Try.f6.body.getD .skip
theorem M7:envS.fn.get 6=some Try.f6:=X
theorem OI_:G1 envS 6 16 F3 To:=λh=>
 aL M7 (h _ X)
theorem Ac_:Try.f6.results.toList=[.tmp 2, .tmp 3]:=X
def KX_:List Item:=skim 64 [.code To]
def Dr_:=nx KX_
def Ry_:=nx Dr_
def Yy:=nx Ry_
def OZ:=nx Yy
def WJ:=bt OZ
def PM_:=bf OZ
def Kb_:=nx WJ
def OZ_:=nx PM_
def Mj:Rg:=λE u r t=>
 mv (some (.pointer none)) λv2=>
 setF 2 v2 t λt1=>
 sV 3 (.int .i64 0) t1
theorem Xs:RegEq 6 16 F3 KX_ Mj:={}
def Qk:Rg:=λE u r t=>
 M.bind (DQ) λv6=>
 M.bind (oS (seqP [(0,(some (.bool true))),(1,(some v6))]) λps=>Cz E 56 ps) λv7=>
 M.bind (oS (some v7) λa=>kBox a) λv8=>
 sV 4 v8 t
theorem Ep_:RegEq 6 16 F3 Dr_ Qk:={}
def PA:Rg:=λE u r t=>
 mG t 4 λv9=>
 mG t 0 λv10=>
 cN u r 21 [(some v9),(some v10)] λv11=>
 sV 5 v11 t
theorem Az_:RegEq 6 16 F3 Ry_ PA:={}
def NW:Rg:=λE u r t=>
 mG t 5 λv12=>
 ab E .neq 26 12 (.int .i64 0) (some v12) λv13=>
 sF 13 v13 t
theorem Oh_:RegEq 6 16 F3 Yy NW:={}
theorem ZZ:Ad OZ=some 13:=X
def Kc_:Rg:=λE u r t=>
 mG t 5 λv14=>
 mv (some (.pointer none)) λv2=>
 setF 2 v2 t λt1=>
 sV 3 v14 t1
theorem AbD_:RegEq 6 16 F3 WJ Kc_:={}
def OK_:Rg:=λE u r t=>
 mG t 4 λv15=>
 mv (some v15) λv2=>
 setF 2 v2 t λt1=>
 sV 3 (.int .i64 0) t1
theorem AbZ_:RegEq 6 16 F3 PM_ OK_:={}
theorem Aqc_: ∃k,Kb_= .code .ret::k:=⟨Kb_.tail,X⟩
theorem AnN_: ∃k,OZ_= .code .ret::k:=⟨OZ_.tail,X⟩
def Ff:Nat:=Ao Try.f21
abbrev YU_:Nat:=19
def CP_:Code:=Try.f21.body.getD .skip
theorem L0:envS.fn.get 21=some Try.f21:=X
theorem QR_:G2 envS 21 19 Ff CP_:=λh=>
 aL L0 (h _ X X)
theorem Yd:Try.f21.results.toList=[.tmp 4]:=X
def YX:List Item:=skim 64 [.code CP_]
def Z6:=nx YX
def L8:=nx Z6
def Ain_:=bt L8
def Qq_:=bf L8
def P8:=nx Ain_
def Ld:=nx Qq_
def Np_:=bt Ld
def VL:=bf Ld
theorem Aaa_:skim 64 Np_.tail=P8:=X
def Tn:=nx VL
def X4:=nx Tn
def NX:Rg:=λE u r t=>
 sV 4 (.int .i64 0) t
theorem Dd_:RegEq 21 19 Ff YX NX:={}
def MP:Rg:=λE u r t=>
 mG t 0 λv6=>
 cN u r 45 [(some v6)] λv7=>
 sV 5 v7 t
theorem PY_:RegEq 21 19 Ff Z6 MP:={}
theorem Hh_:Ad L8=some 5:=X
def Kr:Rg:=λE u r t=>
 mG t 1 λv9=>
 ac E .lss 9 0 (some v9) λv10=>
 mv (some v10) λv11=>
 sK v11 false (pG t 1) λv12=>
 sK v11 false (oS (some v12) λa=>oS (some (.int .i64 16777216)) λb=>Cl.get (aBin E .gtr 3 (.tmp 12) (.const (.int .i64 16777216))) a b) λv13=>
 ae v11 (.bool true) v13 λv14=>
 sV 8 v14 t
theorem Li_:RegEq 21 19 Ff Qq_ Kr:={}
theorem AgZ_: ∃k,P8= .code .ret::k:=⟨P8.tail,X⟩
theorem MB_:Ad Ld=some 8:=X
def Kk_:Rg:=λE u r t=>
 sV 4 (.int .i64 5) t
theorem Afs_:RegEq 21 19 Ff Np_ Kk_:={}
def Ef_:Rg:=λE u r t=>
 mG t 0 λv15=>
 mG t 1 λv16=>
 kN v15 λv17=>
 fD E 56 2 (some v17) λv18=>
 ag E 3 (some v18) (some v16) λ_=>
 M.pure t
theorem Ajc_:RegEq 21 19 Ff VL Ef_:={}
def S2:Rg:=λE u r t=>
 sV 4 (.int .i64 0) t
theorem AoW_:RegEq 21 19 Ff Tn S2:={}
theorem Aiz_: ∃k,X4= .code .ret::k:=⟨X4.tail,X⟩
def OO:Nat:=Ao Try.f45
def Yo:Code:=Try.f45.body.getD .skip
theorem JP_:envS.fn.get 45=some Try.f45:=X
theorem AkY_:G1 envS 45 12 OO Yo:=λh=>
 aL JP_ (h _ X)
theorem AjP_:Try.f45.results.toList=[.tmp 2]:=X
def Mt_:List Item:=skim 64 [.code Yo]
def Nj_:=nx Mt_
def Dh_:=nx Nj_
def Mg_:Rg:=λE u r t=>
 sV 2 (.bool false) t
theorem Aff_:RegEq 45 12 OO Mt_ Mg_:={}
def Kv_:Rg:=λE u r t=>
 mG t 0 λv3=>
 ab E .eql 25 3 (.pointer none) (some v3) λv4=>
 mv (some v4) λv5=>
 sK v5 false (pG t 0) λv6=>
 sK v5 false (oS (some v6) λa=>kNil a) λv7=>
 sK v5 false (oS (some v7) λa=>kFld E 56 a 0) λv8=>
 sK v5 false (oS (some v8) λa=>Bd E 4 a) λv9=>
 sK v5 false (oS (some v9) λa=>kUn E.P .not a) λv10=>
 ae v5 (.bool true) v10 λv11=>
 sV 2 v11 t
theorem ZU_:RegEq 45 12 OO Nj_ Kv_:={}
theorem Apf_: ∃k,Dh_= .code .ret::k:=⟨Dh_.tail,X⟩
def Hl:Nat:=Ao Try.f48
def Pz_:Code:=Try.f48.body.getD .skip
theorem OE:envS.fn.get 48=some Try.f48:=X
theorem XZ_:G1 envS 48 11 Hl Pz_:=λh=>
 aL OE (h _ X)
theorem UE:Try.f48.results.toList=[.tmp 2]:=X
def Bs_:List Item:=skim 64 [.code Pz_]
def QO_:=nx Bs_
def PI:=nx QO_
def AaK_:=bt PI
def UP:=bf PI
def Sz:=nx AaK_
def QC:=nx UP
def PW_:=bt QC
def KG_:=bf QC
theorem UJ_:skim 64 PW_.tail=Sz:=X
def VE:=nx KG_
def Bt_:Rg:=λE u r t=>
 sV 2 (.int .i64 0) t
theorem AkE_:RegEq 48 11 Hl Bs_ Bt_:={}
def Vd:Rg:=λE u r t=>
 mG t 0 λv4=>
 cN u r 45 [(some v4)] λv5=>
 sV 3 v5 t
theorem Amo_:RegEq 48 11 Hl QO_ Vd:={}
theorem AeW_:Ad PI=some 3:=X
def Wb:Rg:=λE u r t=>
 mG t 0 λv7=>
 kN v7 λv8=>
 fD E 56 6 (some v8) λv9=>
 lD E 4 (some v9) λv10=>
 sV 6 v10 t
theorem AdV_:RegEq 48 11 Hl UP Wb:={}
theorem Te_: ∃k,Sz= .code .ret::k:=⟨Sz.tail,X⟩
theorem OD_:Ad QC=some 6:=X
def HO_:Rg:=λE u r t=>
 sV 2 (.int .i64 10) t
theorem AeQ_:RegEq 48 11 Hl PW_ HO_:={}
def Mn_:Rg:=λE u r t=>
 sV 2 (.int .i64 0) t
theorem ArH_:RegEq 48 11 Hl KG_ Mn_:={}
theorem SN_: ∃k,VE= .code .ret::k:=⟨VE.tail,X⟩
def C6:Nat:=Ao Try.f50
abbrev ZF_:Nat:=36
def Kh_:Code:=Try.f50.body.getD .skip
theorem Mb:envS.fn.get 50=some Try.f50:=X
theorem XE_:G2 envS 50 36 C6 Kh_:=λh=>
 aL Mb (h _ X X)
theorem EQ_:Try.f50.results.toList=[.tmp 4]:=X
def U2:List Item:=skim 64 [.code Kh_]
def Lp_:=nx U2
def Qh:=nx Lp_
def Mp_:=bt Qh
def FN_:=bf Qh
def AJ_:=nx Mp_
def Q4:=nx FN_
def LL_:=nx AJ_
def DH_:=bt Q4
def Kg:=bf Q4
theorem Afy_:skim 64 DH_.tail=Kg:=X
def Le_:=nx Kg
def JF_:=nx Le_
def PK_:=nx JF_
def XW:Rg:=λE u r t=>
 sV 4 (.int .i64 0) t
theorem AjM_:RegEq 50 36 C6 U2 XW:={}
def Ru_:Rg:=λE u r t=>
 mG t 0 λv5=>
 kN v5 λv6=>
 fD E 56 4 (some v6) λv7=>
 lD E 4 (some v7) λv8=>
 mv (some v8) λv9=>
 sK v9 true (pG t 0) λv10=>
 sK v9 true (oS (some v10) λa=>kNil a) λv11=>
 sK v9 true (oS (some v11) λa=>kFld E 56 a 5) λv12=>
 sK v9 true (oS (some v12) λa=>Bd E 3 a) λv13=>
 sK v9 true (oS (some v13) λa=>oS (some (.int .i64 0)) λb=>Cl.get (aBin E .eql 3 (.tmp 13) (.const (.int .i64 0))) a b) λv14=>
 ae v9 v14 (.bool false) λv15=>
 sF 15 v15 t
theorem AcL_:RegEq 50 36 C6 Lp_ Ru_:={}
theorem QB:Ad Qh=some 15:=X
def Xf:Rg:=λE u r t=>
 mG t 0 λv16=>
 kN v16 λv17=>
 fD E 56 6 (some v17) λv18=>
 ag E 4 (some v18) (some (.bool true)) λ_=>
 M.pure t
theorem Aqn_:RegEq 50 36 C6 Mp_ Xf:={}
def M8:Rg:=λE u r t=>
 mG t 0 λv19=>
 kN v19 λv20=>
 fD E 56 4 (some v20) λv21=>
 lD E 4 (some v21) λv22=>
 sF 22 v22 t
theorem Ew_:RegEq 50 36 C6 FN_ M8:={}
def LQ_:Rg:=λE u r t=>
 sV 4 (.int .i64 10) t
theorem WG_:RegEq 50 36 C6 AJ_ LQ_:={}
theorem BD_:Ad Q4=some 22:=X
theorem Aov_: ∃k,LL_= .code .ret::k:=⟨LL_.tail,X⟩
def Id_:Rg:=λE u r t=>
 mG t 0 λv23=>
 kN v23 λv24=>
 fD E 56 5 (some v24) λv25=>
 lD E 3 (some v25) λv26=>
 ac E .sub 26 1 (some v26) λv27=>
 kN v23 λv28=>
 fD E 56 5 (some v28) λv29=>
 ag E 3 (some v29) (some v27) λ_=>
 M.pure t
theorem Ajd_:RegEq 50 36 C6 DH_ Id_:={}
def Hw_:Rg:=λE u r t=>
 mG t 0 λv30=>
 kN v30 λv31=>
 fD E 56 3 (some v31) λv32=>
 cN u r 69 [(some v32),(some (.int .i64 1))] λv33=>
 M.pure t
theorem AiD_:RegEq 50 36 C6 Kg Hw_:={}
def Ly_:Rg:=λE u r t=>
 mG t 1 λv34=>
 M.bind (M.on (some v34) λf=>M.on (seqO []) λl=>AU u r f l) λv35=>
 M.pure t
theorem Aco_:RegEq 50 36 C6 Le_ Ly_:={}
def YE:Rg:=λE u r t=>
 sV 4 (.int .i64 0) t
theorem AhZ_:RegEq 50 36 C6 JF_ YE:={}
theorem Aft_: ∃k,PK_= .code .ret::k:=⟨PK_.tail,X⟩
def G6:Nat:=Ao Try.f49
abbrev KY_:Nat:=17
def Mj_:Code:=Try.f49.body.getD .skip
theorem NB_:envS.fn.get 49=some Try.f49:=X
theorem XG_:G1 envS 49 17 G6 Mj_:=λh=>
 aL NB_ (h _ X)
theorem Api_:Try.f49.results.toList=[.tmp 2]:=X
def Ex_:List Item:=skim 64 [.code Mj_]
def Fa_:=nx Ex_
def Pw:=nx Fa_
def N6:=nx Pw
def QJ_:Rg:=λE u r t=>
 sV 2 (.bool false) t
theorem Ajp_:RegEq 49 17 G6 Ex_ QJ_:={}
def Bm_:Rg:=λE u r t=>
 mG t 0 λv4=>
 cN u r 67 [(some v4),(some (.func (.func 68) #[] #[]))] λv5=>
 sV 3 v5 t
theorem Aks_:RegEq 49 17 G6 Fa_ Bm_:={}
def LS:Rg:=λE u r t=>
 mG t 0 λv6=>
 ab E .neq 9 6 (.string {data:= #[]}) (some v6) λv7=>
 mv (some v7) λv8=>
 sK v8 true (pG t 0) λv9=>
 sK v8 true (oS (seqO [(some v9)]) λl=>AH E .len [9] l) λv10=>
 sK v8 true (oS (some v10) λa=>oS (some (.int .i64 60)) λb=>Cl.get (aBin E .leq 3 (.tmp 10) (.const (.int .i64 60))) a b) λv11=>
 ae v8 v11 (.bool false) λv12=>
 mv (some v12) λv13=>
 sK v13 true (pG t 3) λv14=>
 sK v13 true (oS (some v14) λa=>kUn E.P .not a) λv15=>
 ae v13 v15 (.bool false) λv16=>
 sV 2 v16 t
theorem Aie_:RegEq 49 17 G6 Pw LS:={}
theorem Anf_: ∃k,N6= .code .ret::k:=⟨N6.tail,X⟩
def LI:Nat:=Ao Try.f68
abbrev AiI_:Nat:=29
def VQ:Code:=Try.f68.body.getD .skip
theorem Ug:envS.fn.get 68=some Try.f68:=X
theorem Tx_:G1 envS 68 29 LI VQ:=λh=>
 aL Ug (h _ X)
theorem AlQ_:Try.f68.results.toList=[.tmp 2]:=X
def RB_:List Item:=skim 64 [.code VQ]
def X3:=nx RB_
def Nq:=nx X3
def Za:Rg:=λE u r t=>
 sV 2 (.bool false) t
theorem Abl_:RegEq 68 29 LI RB_ Za:={}
def Ec:Rg:=λE u r t=>
 mG t 0 λv3=>
 ab E .lss 21 3 (.int .i32 97) (some v3) λv4=>
 mv (some v4) λv5=>
 sK v5 false (pG t 0) λv6=>
 sK v5 false (oS (some v6) λa=>oS (some (.int .i32 122)) λb=>Cl.get (aBin E .gtr 21 (.tmp 6) (.const (.int .i32 122))) a b) λv7=>
 ae v5 (.bool true) v7 λv8=>
 mv (some v8) λv9=>
 sK v9 true (pG t 0) λv10=>
 sK v9 true (oS (some v10) λa=>oS (some (.int .i32 48)) λb=>Cl.get (aBin E .lss 21 (.tmp 10) (.const (.int .i32 48))) a b) λv11=>
 sK v9 true (oS (some v11) λa=>M.pure a) λv12=>
 sK v12 false (pG t 0) λv13=>
 sK v12 false (oS (some v13) λa=>oS (some (.int .i32 57)) λb=>Cl.get (aBin E .gtr 21 (.tmp 13) (.const (.int .i32 57))) a b) λv14=>
 sK v9 true (M.on (some v12) λa=>M.on (some (.bool true)) λb=>M.on (some v14) λc=>Au a b c) λv15=>
 ae v9 v15 (.bool false) λv16=>
 mv (some v16) λv17=>
 sK v17 true (pG t 0) λv18=>
 sK v17 true (oS (some v18) λa=>oS (some (.int .i32 45)) λb=>Cl.get (aBin E .neq 21 (.tmp 18) (.const (.int .i32 45))) a b) λv19=>
 ae v17 v19 (.bool false) λv20=>
 mv (some v20) λv21=>
 sK v21 true (pG t 0) λv22=>
 sK v21 true (oS (some v22) λa=>oS (some (.int .i32 46)) λb=>Cl.get (aBin E .neq 21 (.tmp 22) (.const (.int .i32 46))) a b) λv23=>
 ae v21 v23 (.bool false) λv24=>
 mv (some v24) λv25=>
 sK v25 true (pG t 0) λv26=>
 sK v25 true (oS (some v26) λa=>oS (some (.int .i32 47)) λb=>Cl.get (aBin E .neq 21 (.tmp 26) (.const (.int .i32 47))) a b) λv27=>
 ae v25 v27 (.bool false) λv28=>
 sV 2 v28 t
theorem TS_:RegEq 68 29 LI X3 Ec:={}
theorem AqA_: ∃k,Nq= .code .ret::k:=⟨Nq.tail,X⟩
def Cn:Nat:=Ao Try.f19
abbrev AnP_:Nat:=48
def KF_:Code:=Try.f19.body.getD .skip
theorem GY:envS.fn.get 19=some Try.f19:=X
theorem Yy_:G3 envS 19 48 Cn KF_:=λh=>
 aL GY (h _ X X X)
theorem HS:Try.f19.results.toList=[.tmp 6]:=X
def V6:List Item:=skim 64 [.code KF_]
def VS:=nx V6
def Bv_:=nx VS
def Mc:=nx Bv_
def DC_:=bt Mc
def NB:=bf Mc
def Ey_:=nx DC_
def WP:=nx NB
def P1:=nx WP
def RW_:=bt P1
def Bg_:=bf P1
def L6:=nx RW_
def Sw:=nx Bg_
def Lr:=bt Sw
def Jz:=bf Sw
def Oq_:=bt Lr
def YO:=bf Lr
theorem Fn_:skim 64 Jz.tail=Lr:=X
theorem Yt_:skim 64 Oq_.tail=L6:=X
def Sr_:=nx YO
def Fl_:Rg:=λE u r t=>
 M.bind (oS (T.get t 0) λa=>kBox a) λv3=>
 setF 3 v3 t λt1=>
 M.bind (oS (T.get t1 1) λa=>kBox a) λv4=>
 setF 4 v4 t1 λt2=>
 M.bind (oS (T.get t2 2) λa=>kBox a) λv5=>
 setF 5 v5 t2 λt3=>
 sV 6 (.int .i64 0) t3
theorem Aaj_:RegEq 19 48 Cn V6 Fl_:={}
def Kx_:Rg:=λE u r t=>
 lD E 25 (T.get t 3) λv9=>
 cN u r 48 [(some v9)] λv10=>
 sV 7 v10 t
theorem Xs_:RegEq 19 48 Cn VS Kx_:={}
def Sj:Rg:=λE u r t=>
 mG t 7 λv11=>
 ab E .neq 26 11 (.int .i64 0) (some v11) λv12=>
 sF 12 v12 t
theorem Aow_:RegEq 19 48 Cn Bv_ Sj:={}
theorem QM_:Ad Mc=some 12:=X
def TD:Rg:=λE u r t=>
 mG t 7 λv13=>
 sV 6 v13 t
theorem Adi_:RegEq 19 48 Cn DC_ TD:={}
def Ax_:RdW:=λE call round tm=>
 LD E 25 (T.get tm 3) λp0=>
 M.bind (apartO (oS (some p0.1) λa=>kNil a)) λp1=>
 FD E 56 1 (some p1.1) λp2=>
 LD E 49 (some p2.1) λp3=>
 LD E 9 (T.get tm 4) λp4=>
 M.bind (apartO (oS (some p3.1) λa=>oS (some p4.1) λb=>B6 E 49 false a b)) λp5=>
 M.bind (apartO (CM E 72)) λp6=>
 setT 8 p6.1 tm λtm1=>
 fJ [p6,p5,p4,p3,p2,p1,p0] tm1
theorem Akg_:DrawEq 19 48 Cn NB [0,1,3,7,0,31,0,127] Ax_:={}
theorem WR_ (E:Env)(call round:Ag)(x14 x15 x16 x17 x18 x19 x8:Value)(tm:T Value)(s:St):AB call round (AP E Cn 48 (hdC NB)) [x8,x19,x18,x17,x16,x15,x14] tm s=(M.bind (oS (some x8) λa=>oS (some x19) λb=>Az E 72 a b) λ_=>M.pure tm) s:=X
theorem TH_: ∃k,Ey_= .code .ret::k:=⟨Ey_.tail,X⟩
def T3:Rg:=λE u r t=>
 lD E 9 (T.get t 4) λv21=>
 cN u r 49 [(some v21)] λv22=>
 M.bind (oS (some v22) λa=>kUn E.P .not a) λv23=>
 sV 20 v23 t
theorem Aez_:RegEq 19 48 Cn WP T3:={}
theorem DU_:Ad P1=some 20:=X
def Zl:Rg:=λE u r t=>
 sV 6 (.int .i64 2) t
theorem AnA_:RegEq 19 48 Cn RW_ Zl:={}
def XS:Rg:=λE u r t=>
 lD E 72 (T.get t 8) λv25=>
 ab E .eql 72 25 (.pointer none) (some v25) λv26=>
 mv (some v26) λv27=>
 sK v27 true (oS (T.get t 3) λa=>Bd E 25 a) λv28=>
 sK v27 true (oS (some v28) λa=>kNil a) λv29=>
 sK v27 true (oS (some v29) λa=>kFld E 56 a 1) λv30=>
 sK v27 true (oS (some v30) λa=>Bd E 49 a) λv31=>
 sK v27 true (oS (seqO [(some v31)]) λl=>AH E .len [49] l) λv32=>
 sK v27 true (oS (some v32) λa=>oS (some (.int .i64 1000)) λb=>Cl.get (aBin E .geq 3 (.tmp 32) (.const (.int .i64 1000))) a b) λv33=>
 ae v27 v33 (.bool false) λv34=>
 sV 24 v34 t
theorem Aop_:RegEq 19 48 Cn Bg_ XS:={}
theorem Aa_: ∃k,L6= .code .ret::k:=⟨L6.tail,X⟩
theorem Nf_:Ad Sw=some 24:=X
theorem MH_:Ad Lr=some 24:=X
def Hb_:RdW:=λE call round tm=>
 LD E 25 (T.get tm 3) λp0=>
 CN call round 20 [(some p0.1)] λp1=>
 LD E 32 (T.get tm 5) λp2=>
 LN E .len [32] [(some p2.1)] λp3=>
 BI E .add 3 (.tmp 36) (.tmp 38) (some p1.1) (some p3.1) λp4=>
 LD E 25 (T.get tm 3) λp5=>
 M.bind (apartO (oS (some p5.1) λa=>kNil a)) λp6=>
 FD E 56 2 (some p6.1) λp7=>
 LD E 3 (some p7.1) λp8=>
 BI E .gtr 3 (.tmp 39) (.tmp 43) (some p4.1) (some p8.1) λp9=>
 fJ [p9,p8,p7,p6,p5,p4,p3,p2,p1,p0] tm
theorem UG_:DrawEq 19 48 Cn Jz [0,1,0,4,15,0,32,96,224,511,1023] Hb_:={}
theorem Ajt_ (E:Env)(call round:Ag)(x35 x36 x37 x38 x39 x40 x41 x42 x43 x44:Value)(tm:T Value)(s:St):AB call round (AP E Cn 48 (hdC Jz)) [x44,x43,x42,x41,x40,x39,x38,x37,x36,x35] tm s=(M.bind (oS (some x44) λa=>M.pure a) λv24=>setT 24 v24 tm λtm1=>M.pure tm1) s:=X
def YF:Rg:=λE u r t=>
 sV 6 (.int .i64 8) t
theorem Aoi_:RegEq 19 48 Cn Oq_ YF:={}
def PX_:Rg:=λE u r t=>
 lD E 25 (T.get t 3) λv45=>
 M.bind (oS (seqO []) λa=>oS (seqO [(T.get t 8),(T.get t 3),(T.get t 4),(T.get t 5)]) λb=>M.pure (.func (.func 51) a.toArray b.toArray)) λv46=>
 cN u r 50 [(some v45),(some v46)] λv47=>
 sV 6 v47 t
theorem ApX_:RegEq 19 48 Cn YO PX_:={}
theorem WT: ∃k,Sr_= .code .ret::k:=⟨Sr_.tail,X⟩
def Fk:Nat:=Ao Try.f51
abbrev Afk_:Nat:=23
def Um:Code:=Try.f51.body.getD .skip
theorem Eg_:envS.fn.get 51=some Try.f51:=X
theorem Alv_:G4 envS 51 23 Fk Um:=λh=>
 aL Eg_ (h _ X X X X)
theorem YK_:Try.f51.results.toList=[]:=X
def RG_:List Item:=skim 64 [.code Um]
def SA:=nx RG_
def CU_:=bt SA
def HC:=bf SA
def R4:=nx CU_
def Wq_:=nx HC
theorem Yg_:skim 64 R4.tail=HC:=X
def GG_:Rg:=λE u r t=>
 lD E 72 (T.get t 0) λv4=>
 ab E .eql 72 4 (.pointer none) (some v4) λv5=>
 sF 5 v5 t
theorem Ael_:RegEq 51 23 Fk RG_ GG_:={}
theorem HI_:Ad SA=some 5:=X
def PP_:Rg:=λE u r t=>
 M.bind (oS (seqP []) λps=>Cz E 74 ps) λv6=>
 M.bind (oS (some v6) λa=>kBox a) λv7=>
 ag E 72 (T.get t 0) (some v7) λ_=>
 M.pure t
theorem UA_:RegEq 51 23 Fk CU_ PP_:={}
def Rs_:RdW:=λE call round tm=>
 LD E 72 (T.get tm 0) λp0=>
 LD E 72 (T.get tm 0) λp1=>
 M.bind (apartO (oS (some p1.1) λa=>kNil a)) λp2=>
 FD E 74 1 (some p2.1) λp3=>
 LD E 32 (some p3.1) λp4=>
 LD E 32 (T.get tm 3) λp5=>
 LN E .append [32,32] [(some p4.1),(some p5.1)] λp6=>
 M.bind (apartO (oS (some p0.1) λa=>kNil a)) λp7=>
 FD E 74 1 (some p7.1) λp8=>
 fJ [p8,p7,p6,p5,p4,p3,p2,p1,p0] tm
theorem Vf_:DrawEq 51 23 Fk HC [0,0,2,6,14,0,62,127,255,511] Rs_:={}
theorem AcM_ (E:Env)(call round:Ag)(x14 x15 x16 x17 x18 x19 x20 x21 x22:Value)(tm:T Value)(s:St):AB call round (AP E Fk 23 (hdC HC)) [x22,x21,x20,x19,x18,x17,x16,x15,x14] tm s=(M.bind (oS (some x22) λa=>oS (some x20) λb=>Az E 32 a b) λ_=>M.pure tm) s:=X
def SD_:RdW:=λE call round tm=>
 LD E 25 (T.get tm 1) λp0=>
 M.bind (apartO (oS (some p0.1) λa=>kNil a)) λp1=>
 FD E 56 1 (some p1.1) λp2=>
 LD E 49 (some p2.1) λp3=>
 LD E 9 (T.get tm 2) λp4=>
 LD E 72 (T.get tm 0) λp5=>
 fJ [p5,p4,p3,p2,p1,p0] tm
theorem Afp_:DrawEq 51 23 Fk R4 [0,1,3,7,0,0,63] SD_:={}
theorem Aic_ (E:Env)(call round:Ag)(x8 x9 x10 x11 x12 x13:Value)(tm:T Value)(s:St):AB call round (AP E Fk 23 (hdC R4)) [x13,x12,x11,x10,x9,x8] tm s=(M.bind (M.on (some x11) λa=>M.on (some x12) λb=>M.on (some x13) λc=>Eb E 49 a b c) λ_=>M.pure tm) s:=X
def D2:Nat:=Ao Try.f22
def Or_:Code:=Try.f22.body.getD .skip
theorem IE:envS.fn.get 22=some Try.f22:=X
theorem AiS_:G2 envS 22 23 D2 Or_:=λh=>
 aL IE (h _ X X)
theorem JE:Try.f22.results.toList=[.tmp 4]:=X
def Jv_:List Item:=skim 64 [.code Or_]
def ZB:=nx Jv_
def Hn_:=nx ZB
def Nl:=nx Hn_
def Yj:=bt Nl
def W8:=bf Nl
def JC_:=nx Yj
def XP:=nx W8
def RJ:=nx XP
def Bi_:=bt RJ
def CQ_:=bf RJ
def LU_:=nx Bi_
def AC_:=nx CQ_
def HB_:Rg:=λE u r t=>
 sV 4 (.int .i64 0) t
theorem Wd_:RegEq 22 23 D2 Jv_ HB_:={}
def IX_:Rg:=λE u r t=>
 mG t 0 λv7=>
 cN u r 48 [(some v7)] λv8=>
 sV 5 v8 t
theorem AaP_:RegEq 22 23 D2 ZB IX_:={}
def R0:Rg:=λE u r t=>
 mG t 5 λv9=>
 ab E .neq 26 9 (.int .i64 0) (some v9) λv10=>
 sF 10 v10 t
theorem Akj_:RegEq 22 23 D2 Hn_ R0:={}
theorem CL_:Ad Nl=some 10:=X
def Og_:Rg:=λE u r t=>
 mG t 5 λv11=>
 sV 4 v11 t
theorem Afm_:RegEq 22 23 D2 Yj Og_:={}
def VT:Rg:=λE u r t=>
 mG t 0 λv12=>
 kN v12 λv13=>
 fD E 56 1 (some v13) λv14=>
 lD E 49 (some v14) λv15=>
 mG t 1 λv16=>
 M.bind (oS (some v15) λa=>oS (some v16) λb=>B6 E 49 false a b) λv17=>
 M.bind (CM E 72) λv6=>
 setF 6 v6 t λt1=>
 ag E 72 (some v6) (some v17) λ_=>
 M.pure t1
theorem Aab_:RegEq 22 23 D2 W8 VT:={}
theorem Ub_: ∃k,JC_= .code .ret::k:=⟨JC_.tail,X⟩
def MD_:Rg:=λE u r t=>
 lD E 72 (T.get t 6) λv18=>
 ab E .eql 72 18 (.pointer none) (some v18) λv19=>
 sF 19 v19 t
theorem AaQ_:RegEq 22 23 D2 XP MD_:={}
theorem Hm_:Ad RJ=some 19:=X
def Jp_:Rg:=λE u r t=>
 sV 4 (.int .i64 6) t
theorem AqC_:RegEq 22 23 D2 Bi_ Jp_:={}
def OR_:Rg:=λE u r t=>
 mG t 0 λv20=>
 M.bind (oS (seqO []) λa=>oS (seqO [(T.get t 6)]) λb=>M.pure (.func (.func 53) a.toArray b.toArray)) λv21=>
 cN u r 50 [(some v20),(some v21)] λv22=>
 sV 4 v22 t
theorem Akh_:RegEq 22 23 D2 CQ_ OR_:={}
theorem XT_: ∃k,LU_= .code .ret::k:=⟨LU_.tail,X⟩
theorem ZP: ∃k,AC_= .code .ret::k:=⟨AC_.tail,X⟩
def SO:Nat:=Ao Try.f53
def Wk:Code:=Try.f53.body.getD .skip
theorem Nq_:envS.fn.get 53=some Try.f53:=X
theorem Aal_:G1 envS 53 16 SO Wk:=λh=>
 aL Nq_ (h _ X)
theorem Acj_:Try.f53.results.toList=[]:=X
def OC:List Item:=skim 64 [.code Wk]
def AiO_:=nx OC
def YN:RdW:=λE call round tm=>
 LD E 72 (T.get tm 0) λp0=>
 LD E 72 (T.get tm 0) λp1=>
 LD E 72 (T.get tm 0) λp2=>
 M.bind (apartO (oS (some p2.1) λa=>kNil a)) λp3=>
 FD E 74 0 (some p3.1) λp4=>
 LD E 32 (some p4.1) λp5=>
 LD E 72 (T.get tm 0) λp6=>
 M.bind (apartO (oS (some p6.1) λa=>kNil a)) λp7=>
 FD E 74 1 (some p7.1) λp8=>
 LD E 32 (some p8.1) λp9=>
 LN E .append [32,32] [(some p5.1),(some p9.1)] λp10=>
 M.bind (apartO (oS (some p0.1) λa=>kNil a)) λp11=>
 FD E 74 0 (some p11.1) λp12=>
 M.bind (apartO (oS (some p12.1) λa=>oS (some p10.1) λb=>Az E 32 a b)) λp13=>
 M.bind (apartO (oS (some p1.1) λa=>kNil a)) λp14=>
 FD E 74 1 (some p14.1) λp15=>
 M.pure (([p15.1,p14.1,p12.1,p11.1,p10.1,p9.1,p8.1,p7.1,p6.1,p5.1,p4.1,p3.1,p2.1,p1.1,p0.1],tm),[p15.2,p14.2,p13.2,p12.2,p11.2,p10.2,p9.2,p8.2,p7.2,p6.2,p5.2,p4.2,p3.2,p2.2,p1.2,p0.2])
theorem Abp_:DrawEq 53 16 SO OC [0,0,0,4,12,28,0,64,192,448,1020,2045,4093,8189,16383,32767,65535] YN:={}
theorem AnI_ (E:Env)(call round:Ag)(x1 x2 x3 x4 x5 x6 x7 x8 x9 x10 x11 x12 x13 x14 x15:Value)(tm:T Value)(s:St):AB call round (AP E SO 16 (hdC OC)) [x15,x14,x13,x12,x11,x10,x9,x8,x7,x6,x5,x4,x3,x2,x1] tm s=(M.bind (oS (some x15) λa=>oS (some (.slice none 0 0)) λb=>Az E 32 a b) λ_=>M.pure tm) s:=X
def DP:Nat:=Ao Try.f43
def VM:Code:=Try.f43.body.getD .skip
theorem Je:envS.fn.get 43=some Try.f43:=X
theorem AkH_:G2 envS 43 31 DP VM:=λh=>
 aL Je (h _ X X)
theorem Rf:Try.f43.results.toList=[.tmp 4, .tmp 5]:=X
def Zc:List Item:=skim 64 [.code VM]
def JO_:=nx Zc
def XX:=nx JO_
def Oc:=nx XX
def S8:=bt Oc
def Df_:=bf Oc
def VJ:=nx S8
def Zh:=nx Df_
def RK:=nx Zh
def Db_:=bt RK
def M5:=bf RK
def Gv_:=nx Db_
def HF_:=nx M5
def EU_:Rg:=λE u r t=>
 mv (some (.slice none 0 0)) λv4=>
 setF 4 v4 t λt1=>
 sV 5 (.int .i64 0) t1
theorem ArA_:RegEq 43 31 DP Zc EU_:={}
def WC:Rg:=λE u r t=>
 mG t 0 λv8=>
 cN u r 48 [(some v8)] λv9=>
 sV 6 v9 t
theorem TR_:RegEq 43 31 DP JO_ WC:={}
def QS:Rg:=λE u r t=>
 mG t 6 λv10=>
 ab E .neq 26 10 (.int .i64 0) (some v10) λv11=>
 sF 11 v11 t
theorem AgO_:RegEq 43 31 DP XX QS:={}
theorem Tt:Ad Oc=some 11:=X
def KD_:Rg:=λE u r t=>
 mG t 6 λv12=>
 mv (some (.slice none 0 0)) λv4=>
 setF 4 v4 t λt1=>
 sV 5 v12 t1
theorem UK_:RegEq 43 31 DP S8 KD_:={}
def FB_:Rg:=λE u r t=>
 mG t 0 λv13=>
 kN v13 λv14=>
 fD E 56 1 (some v14) λv15=>
 lD E 49 (some v15) λv16=>
 mG t 1 λv17=>
 M.bind (oS (some v16) λa=>oS (some v17) λb=>B6 E 49 false a b) λv18=>
 sV 7 v18 t
theorem Ahe_:RegEq 43 31 DP Df_ FB_:={}
theorem ZQ_: ∃k,VJ= .code .ret::k:=⟨VJ.tail,X⟩
def Qd:Rg:=λE u r t=>
 mG t 7 λv19=>
 ab E .eql 72 19 (.pointer none) (some v19) λv20=>
 sF 20 v20 t
theorem AiV_:RegEq 43 31 DP Zh Qd:={}
theorem DZ_:Ad RK=some 20:=X
def Rg_:Rg:=λE u r t=>
 mv (some (.slice none 0 0)) λv4=>
 setF 4 v4 t λt1=>
 sV 5 (.int .i64 6) t1
theorem Adw_:RegEq 43 31 DP Db_ Rg_:={}
def Ee_:RdW:=λE call round tm=>
 PD (T.get tm 7) λp0=>
 M.bind (apartO (oS (some p0.1) λa=>kNil a)) λp1=>
 FD E 74 0 (some p1.1) λp2=>
 LD E 32 (some p2.1) λp3=>
 PD (T.get tm 7) λp4=>
 M.bind (apartO (oS (some p4.1) λa=>kNil a)) λp5=>
 FD E 74 1 (some p5.1) λp6=>
 LD E 32 (some p6.1) λp7=>
 M.bind (apartO (oS (seqP [(0,(some p3.1)),(1,(some p7.1))]) λps=>BU E 97 2 ps)) λp8=>
 CN call round 66 [(some p8.1)] λp9=>
 PD (some p9.1) λp10=>
 setT 4 p10.1 tm λtm1=>
 fJ [p10,p9,p8,p7,p6,p5,p4,p3,p2,p1,p0] tm1
theorem Ye_:DrawEq 43 31 DP M5 [0,1,3,7,0,16,48,112,255,511,1023,2047] Ee_:={}
theorem SR_ (E:Env)(call round:Ag)(x21 x22 x23 x24 x25 x26 x27 x28 x29 x30 x4:Value)(tm:T Value)(s:St):AB call round (AP E DP 31 (hdC M5)) [x4,x30,x29,x28,x27,x26,x25,x24,x23,x22,x21] tm s=(M.bind (oS (some (.int .i64 0)) λa=>M.pure a) λv5=>setT 5 v5 tm λtm1=>M.pure tm1) s:=X
theorem SQ_: ∃k,Gv_= .code .ret::k:=⟨Gv_.tail,X⟩
theorem AcE_: ∃k,HF_= .code .ret::k:=⟨HF_.tail,X⟩
def H4:Nat:=Ao Try.f41
def Em_:Code:=Try.f41.body.getD .skip
theorem RB:envS.fn.get 41=some Try.f41:=X
theorem WV:G2 envS 41 17 H4 Em_:=λh=>
 aL RB (h _ X X)
theorem HU_:Try.f41.results.toList=[.tmp 4]:=X
def TO:List Item:=skim 64 [.code Em_]
def NI_:=nx TO
def Eo_:=nx NI_
def Kg_:=bf Eo_
def Qu_:=nx Kg_
def Xz:=nx Qu_
def NA:Rg:=λE u r t=>
 M.bind (oS (T.get t 1) λa=>kBox a) λv3=>
 setF 3 v3 t λt1=>
 sV 4 (.slice none 0 0) t1
theorem Kn_:RegEq 41 17 H4 TO NA:={}
def Q3:Rg:=λE u r t=>
 mG t 0 λv6=>
 cN u r 45 [(some v6)] λv7=>
 sF 7 v7 t
theorem Ck_:RegEq 41 17 H4 NI_ Q3:={}
theorem Pf_:Ad Eo_=some 7:=X
def Oq:Rg:=λE u r t=>
 mG t 0 λv8=>
 kN v8 λv9=>
 fD E 56 1 (some v9) λv10=>
 lD E 49 (some v10) λv11=>
 cN u r 62 [(some v11)] λv12=>
 cN u r 61 [(some v12)] λv13=>
 sV 5 v13 t
theorem TV:RegEq 41 17 H4 Kg_ Oq:={}
def Mu:Rg:=λE u r t=>
 mG t 5 λv14=>
 M.bind (oS (seqO []) λa=>oS (seqO [(T.get t 3)]) λb=>M.pure (.func (.func 64) a.toArray b.toArray)) λv15=>
 cN u r 63 [(some v14),(some v15)] λv16=>
 sV 4 v16 t
theorem FA_:RegEq 41 17 H4 Qu_ Mu:={}
theorem Aj_: ∃k,Xz= .code .ret::k:=⟨Xz.tail,X⟩
def PU:Nat:=Ao Try.f64
def RL_:Code:=Try.f64.body.getD .skip
theorem Ki_:envS.fn.get 64=some Try.f64:=X
theorem AfB_:G2 envS 64 8 PU RL_:=λh=>
 aL Ki_ (h _ X X)
theorem Als_:Try.f64.results.toList=[.tmp 3]:=X
def Gh_:List Item:=skim 64 [.code RL_]
def Wq:=nx Gh_
def Dm_:=nx Wq
def Wf:Rg:=λE u r t=>
 sV 3 (.bool false) t
theorem ZK_:RegEq 64 8 PU Gh_ Wf:={}
def Hi_:Rg:=λE u r t=>
 mG t 0 λv4=>
 lD E 9 (T.get t 1) λv5=>
 cN u r 65 [(some v4),(some v5)] λv6=>
 M.bind (oS (some v6) λa=>kUn E.P .not a) λv7=>
 sV 3 v7 t
theorem Aot_:RegEq 64 8 PU Wq Hi_:={}
theorem Agv_: ∃k,Dm_= .code .ret::k:=⟨Dm_.tail,X⟩
def IF:Nat:=Ao Try.f15
def Zu:Code:=Try.f15.body.getD .skip
theorem SF:envS.fn.get 15=some Try.f15:=X
theorem Cd_:G2 envS 15 26 IF Zu:=λh=>
 aL SF (h _ X X)
theorem Sh_:Try.f15.results.toList=[.tmp 4]:=X
def Ez_:List Item:=skim 64 [.code Zu]
def Uh:=nx Ez_
def Ow:=nx Uh
def LC_:=bt Ow
def Dw_:=bf Ow
def Tw:=nx LC_
def Xo:=nx Dw_
def SJ:Rg:=λE u r t=>
 sV 4 (.int .i64 0) t
theorem Js_:RegEq 15 26 IF Ez_ SJ:={}
def Rk:Rg:=λE u r t=>
 mG t 0 λv5=>
 cN u r 45 [(some v5)] λv6=>
 mv (some v6) λv7=>
 sK v7 false (pG t 0) λv8=>
 sK v7 false (oS (some v8) λa=>kNil a) λv9=>
 sK v7 false (oS (some v9) λa=>kFld E 56 a 1) λv10=>
 sK v7 false (oS (some v10) λa=>Bd E 49 a) λv11=>
 sK v7 false (pG t 1) λv12=>
 sK v7 false (oS (some v11) λa=>oS (some v12) λb=>B6 E 49 false a b) λv13=>
 sK v7 false (oS (some v13) λa=>oS (some (.pointer none)) λb=>Cl.get (aBin E .eql 72 (.tmp 13) (.const (.pointer none))) a b) λv14=>
 ae v7 (.bool true) v14 λv15=>
 sF 15 v15 t
theorem MV_:RegEq 15 26 IF Uh Rk:={}
theorem XA:Ad Ow=some 15:=X
def IS_:Rg:=λE u r t=>
 sV 4 (.int .i64 0) t
theorem AhI_:RegEq 15 26 IF LC_ IS_:={}
def Z2:Rg:=λE u r t=>
 mG t 0 λv16=>
 kN v16 λv17=>
 fD E 56 1 (some v17) λv18=>
 lD E 49 (some v18) λv19=>
 mG t 1 λv20=>
 M.bind (oS (some v19) λa=>oS (some v20) λb=>B6 E 49 false a b) λv21=>
 kN v21 λv22=>
 fD E 74 1 (some v22) λv23=>
 lD E 32 (some v23) λv24=>
 lL E 32 v24 λv25=>
 sV 4 v25 t
theorem Uu_:RegEq 15 26 IF Dw_ Z2:={}
theorem Ti_: ∃k,Tw= .code .ret::k:=⟨Tw.tail,X⟩
theorem AbP_: ∃k,Xo= .code .ret::k:=⟨Xo.tail,X⟩
def MZ:Nat:=Ao Try.f37
def YR:Code:=Try.f37.body.getD .skip
theorem Kt_:envS.fn.get 37=some Try.f37:=X
theorem Aln_:G1 envS 37 13 MZ YR:=λh=>
 aL Kt_ (h _ X)
theorem AfZ_:Try.f37.results.toList=[.tmp 2]:=X
def NY_:List Item:=skim 64 [.code YR]
def Vi:=nx NY_
def QU_:=nx Vi
def HS_:Rg:=λE u r t=>
 sV 2 (.bool false) t
theorem Aeb_:RegEq 37 13 MZ NY_ HS_:={}
def Ab_:Rg:=λE u r t=>
 mG t 0 λv3=>
 cN u r 45 [(some v3)] λv4=>
 M.bind (oS (some v4) λa=>kUn E.P .not a) λv5=>
 mv (some v5) λv6=>
 sK v6 true (pG t 0) λv7=>
 sK v6 true (oS (some v7) λa=>kNil a) λv8=>
 sK v6 true (oS (some v8) λa=>kFld E 56 a 6) λv9=>
 sK v6 true (oS (some v9) λa=>Bd E 4 a) λv10=>
 sK v6 true (oS (some v10) λa=>kUn E.P .not a) λv11=>
 ae v6 v11 (.bool false) λv12=>
 sV 2 v12 t
theorem AhF_:RegEq 37 13 MZ Vi Ab_:={}
theorem Aea_: ∃k,QU_= .code .ret::k:=⟨QU_.tail,X⟩
def FV:Nat:=Ao Try.f25
def LY_:Code:=Try.f25.body.getD .skip
theorem NR:envS.fn.get 25=some Try.f25:=X
theorem Ov_:G2 envS 25 18 FV LY_:=λh=>
 aL NR (h _ X X)
theorem Dl_:Try.f25.results.toList=[.tmp 4]:=X
def PD_:List Item:=skim 64 [.code LY_]
def UY:=nx PD_
def ME:=nx UY
def Alo_:=bt ME
def Lv_:=bf ME
def Oa:=nx Alo_
def Pn:=nx Lv_
def Fy_:=bt Pn
def BZ_:=bf Pn
theorem AoK_:skim 64 Fy_.tail=Oa:=X
def Po_:=nx BZ_
def Th:=nx Po_
def PW:Rg:=λE u r t=>
 sV 4 (.int .i64 0) t
theorem AG_:RegEq 25 18 FV PD_ PW:={}
def PJ:Rg:=λE u r t=>
 mG t 0 λv6=>
 cN u r 45 [(some v6)] λv7=>
 sV 5 v7 t
theorem PJ_:RegEq 25 18 FV UY PJ:={}
theorem Op_:Ad ME=some 5:=X
def Q9:Rg:=λE u r t=>
 mG t 1 λv9=>
 ac E .lss 9 0 (some v9) λv10=>
 sV 8 v10 t
theorem BC_:RegEq 25 18 FV Lv_ Q9:={}
theorem Vi_: ∃k,Oa= .code .ret::k:=⟨Oa.tail,X⟩
theorem Jc_:Ad Pn=some 8:=X
def Sl_:Rg:=λE u r t=>
 sV 4 (.int .i64 2) t
theorem AoG_:RegEq 25 18 FV Fy_ Sl_:={}
def Pk_:Rg:=λE u r t=>
 mG t 0 λv11=>
 mG t 0 λv12=>
 mG t 1 λv13=>
 kN v11 λv14=>
 fD E 56 4 (some v14) λv15=>
 ag E 4 (some v15) (some (.bool true)) λ_=>
 kN v12 λv16=>
 fD E 56 5 (some v16) λv17=>
 ag E 3 (some v17) (some v13) λ_=>
 M.pure t
theorem Aku_:RegEq 25 18 FV BZ_ Pk_:={}
def UV:Rg:=λE u r t=>
 sV 4 (.int .i64 0) t
theorem Xu_:RegEq 25 18 FV Po_ UV:={}
theorem Aos_: ∃k,Th= .code .ret::k:=⟨Th.tail,X⟩
def BK:Nat:=Ao Try.f26
abbrev HF:Nat:=73
def Dp_:Code:=Try.f26.body.getD .skip
theorem FX_:envS.fn.get 26=some Try.f26:=X
theorem Aba_:G2 envS 26 73 BK Dp_:=λh=>
 aL FX_ (h _ X X)
theorem Ags_:Try.f26.results.toList=[.tmp 4]:=X
def WH:List Item:=skim 64 [.code Dp_]
def Vj:=nx WH
def Ri_:=nx Vj
def Uo:=bf Ri_
def Jd:=nx Uo
def NV:=nx Jd
def Et_:=bt NV
def Q0:=bf NV
def LZ_:=nx Et_
def Ud:=nx Q0
def OX_:=nx LZ_
def Rn_:=nx Ud
def QE:=nx OX_
def Kj_:=bt QE
def Hy:=bf QE
def OA_:=nx Kj_
def Pc:=nx Hy
theorem Aiw_:skim 64 OA_.tail=Hy:=X
theorem Xm_:skim 64 Pc.tail=Jd:=X
def Ps_:Rg:=λE u r t=>
 sV 4 (.int .i64 0) t
theorem VW_:RegEq 26 73 BK WH Ps_:={}
def Fw_:Rg:=λE u r t=>
 mG t 0 λv10=>
 cN u r 45 [(some v10)] λv11=>
 sF 11 v11 t
theorem AoR_:RegEq 26 73 BK Vj Fw_:={}
theorem To_:Ad Ri_=some 11:=X
def Af_:Rg:=λE u r t=>
 mG t 0 λv12=>
 cN u r 41 [(some v12),(some (.string {data:= #[]}))] λv13=>
 setF 13 v13 t λt1=>
 lL E 66 v13 λv14=>
 setF 14 v14 t1 λt2=>
 sV 15 (.int .i64 0) t2
theorem Acy_:RegEq 26 73 BK Uo Af_:={}
def Qo:Rg:=λE u r t=>
 bI E .lss 3 (.tmp 15) (.tmp 14) (T.get t 15) (T.get t 14) λv16=>
 sF 16 v16 t
theorem Qh_:RegEq 26 73 BK Jd Qo:={}
theorem Gr_:Ad NV=some 16:=X
def Gn_:Rg:=λE u r t=>
 mG t 15 λv17=>
 iD E 66 (T.get t 13) (T.get t 15) λv18=>
 lD E 9 (some v18) λv19=>
 mv (some v17) λv5=>
 setF 5 v5 t λt1=>
 sV 6 v19 t1
theorem AjW_:RegEq 26 73 BK Et_ Gn_:={}
def TA:Rg:=λE u r t=>
 mG t 0 λv64=>
 mG t 0 λv65=>
 mG t 0 λv66=>
 kN v64 λv67=>
 fD E 56 6 (some v67) λv68=>
 ag E 4 (some v68) (some (.bool false)) λ_=>
 kN v65 λv69=>
 fD E 56 4 (some v69) λv70=>
 ag E 4 (some v70) (some (.bool false)) λ_=>
 kN v66 λv71=>
 fD E 56 5 (some v71) λv72=>
 ag E 3 (some v72) (some (.int .i64 0)) λ_=>
 M.pure t
theorem AdW_:RegEq 26 73 BK Q0 TA:={}
def TS:Rg:=λE u r t=>
 mG t 0 λv20=>
 kN v20 λv21=>
 fD E 56 1 (some v21) λv22=>
 lD E 49 (some v22) λv23=>
 mG t 6 λv24=>
 M.bind (oS (some v23) λa=>oS (some v24) λb=>B6 E 49 false a b) λv25=>
 mv (some v25) λv7=>
 setF 7 v7 t λt1=>
 sV 8 (.int .i64 0) t1
theorem Tq_:RegEq 26 73 BK LZ_ TS:={}
def S7:Rg:=λE u r t=>
 sV 4 (.int .i64 0) t
theorem AcG_:RegEq 26 73 BK Ud S7:={}
def W9:Rg:=λE u r t=>
 mG t 5 λv26=>
 mG t 1 λv27=>
 lL E 34 v27 λv28=>
 bT E .lss 3 26 28 v26 v28 λv29=>
 sF 29 v29 t
theorem Wt_:RegEq 26 73 BK OX_ W9:={}
theorem AnK_: ∃k,Rn_= .code .ret::k:=⟨Rn_.tail,X⟩
theorem AI_:Ad QE=some 29:=X
def V8:Rg:=λE u r t=>
 mG t 7 λv30=>
 kN v30 λv31=>
 fD E 74 1 (some v31) λv32=>
 lD E 32 (some v32) λv33=>
 lL E 32 v33 λv34=>
 ac E .add 34 1 (some v34) λv35=>
 sV 9 v35 t
theorem Ajw_:RegEq 26 73 BK Kj_ V8:={}
def Vu:RdW:=λE call round tm=>
 PD (T.get tm 7) λp0=>
 PD (T.get tm 7) λp1=>
 PD (T.get tm 7) λp2=>
 M.bind (apartO (oS (some p2.1) λa=>kNil a)) λp3=>
 FD E 74 0 (some p3.1) λp4=>
 LD E 32 (some p4.1) λp5=>
 PD (T.get tm 7) λp6=>
 M.bind (apartO (oS (some p6.1) λa=>kNil a)) λp7=>
 FD E 74 1 (some p7.1) λp8=>
 LD E 32 (some p8.1) λp9=>
 PD (T.get tm 8) λp10=>
 M.bind (apartO (M.on (some p9.1) λa=>M.on (some none) λb=>M.on (onO (some p10.1) λv=>some (some v)) λc=>AZ E 32 a b c)) λp11=>
 LN E .append [32,32] [(some p5.1),(some p11.1)] λp12=>
 M.bind (apartO (oS (some p0.1) λa=>kNil a)) λp13=>
 FD E 74 0 (some p13.1) λp14=>
 M.bind (apartO (oS (some p14.1) λa=>oS (some p12.1) λb=>Az E 32 a b)) λp15=>
 M.bind (apartO (oS (some p1.1) λa=>kNil a)) λp16=>
 FD E 74 1 (some p16.1) λp17=>
 M.pure (([p17.1,p16.1,p14.1,p13.1,p12.1,p11.1,p10.1,p9.1,p8.1,p7.1,p6.1,p5.1,p4.1,p3.1,p2.1,p1.1,p0.1],tm),[p17.2,p16.2,p15.2,p14.2,p13.2,p12.2,p11.2,p10.2,p9.2,p8.2,p7.2,p6.2,p5.2,p4.2,p3.2,p2.2,p1.2,p0.2])
theorem AnZ_:DrawEq 26 73 BK Hy [0,0,0,4,12,28,0,64,192,448,0,1984,4092,8189,16381,32765,65535,131071,262143] Vu:={}
theorem AnW_ (E:Env)(call round:Ag)(x46 x47 x48 x49 x50 x51 x52 x53 x54 x55 x56 x57 x58 x59 x60 x61 x62:Value)(tm:T Value)(s:St):AB call round (AP E BK 73 (hdC Hy)) [x62,x61,x60,x59,x58,x57,x56,x55,x54,x53,x52,x51,x50,x49,x48,x47,x46] tm s=(M.bind (oS (some x62) λa=>oS (some (.slice none 0 0)) λb=>Az E 32 a b) λ_=>M.pure tm) s:=X
def Oy_:Rg:=λE u r t=>
 mG t 1 λv36=>
 mG t 5 λv37=>
 iD E 34 (some v36) (some v37) λv38=>
 lD E 3 (some v38) λv39=>
 mG t 9 λv40=>
 bT E .rem 3 39 40 v39 v40 λv41=>
 mG t 9 λv42=>
 bT E .add 3 41 42 v41 v42 λv43=>
 mG t 9 λv44=>
 bT E .rem 3 43 44 v43 v44 λv45=>
 sV 8 v45 t
theorem Aqx_:RegEq 26 73 BK OA_ Oy_:={}
def IZ_:Rg:=λE u r t=>
 ac E .add 15 1 (T.get t 15) λv63=>
 sV 15 v63 t
theorem AlG_:RegEq 26 73 BK Pc IZ_:={}
def Cf:Nat:=Ao Try.f27
abbrev AnT_:Nat:=58
def Hf_:Code:=Try.f27.body.getD .skip
theorem I8:envS.fn.get 27=some Try.f27:=X
theorem WY_:G3 envS 27 58 Cf Hf_:=λh=>
 aL I8 (h _ X X X)
theorem LP:Try.f27.results.toList=[.tmp 6]:=X
def MX_:List Item:=skim 64 [.code Hf_]
def BV_:=nx MX_
def Oj_:=nx BV_
def ST:=bf Oj_
def Ww:=nx ST
def Ru:=nx Ww
def La_:=bt Ru
def KC_:=bf Ru
def Mn:=nx La_
def NS:=nx KC_
def EK_:=bt NS
def RS:=bf NS
theorem Vk:skim 64 EK_.tail=Mn:=X
def FH_:=nx RS
def L9:=nx FH_
def QO:=bt L9
def H2:=bf L9
theorem Tp_:skim 64 QO.tail=H2:=X
def Te:=nx H2
def JY_:=nx Te
def ER_:Rg:=λE u r t=>
 sV 6 (.int .i64 0) t
theorem AkD_:RegEq 27 58 Cf MX_ ER_:={}
def Nn_:Rg:=λE u r t=>
 mG t 0 λv10=>
 cN u r 45 [(some v10)] λv11=>
 sF 11 v11 t
theorem Are_:RegEq 27 58 Cf BV_ Nn_:={}
theorem Apu_:Ad Oj_=some 11:=X
def Qr_:Rg:=λE u r t=>
 mG t 0 λv12=>
 kN v12 λv13=>
 fD E 56 1 (some v13) λv14=>
 lD E 49 (some v14) λv15=>
 mG t 1 λv16=>
 M.bind (oS (some v15) λa=>oS (some v16) λb=>B6 E 49 false a b) λv17=>
 sV 7 v17 t
theorem Anj_:RegEq 27 58 Cf ST Qr_:={}
def PH:Rg:=λE u r t=>
 mG t 7 λv19=>
 ab E .eql 72 19 (.pointer none) (some v19) λv20=>
 sV 18 v20 t
theorem AbT_:RegEq 27 58 Cf Ww PH:={}
theorem QX_:Ad Ru=some 18:=X
def Mw_:Rg:=λE u r t=>
 sV 6 (.int .i64 6) t
theorem AjZ_:RegEq 27 58 Cf La_ Mw_:={}
def Md:Rg:=λE u r t=>
 mG t 2 λv22=>
 ac E .lss 22 0 (some v22) λv23=>
 mv (some v23) λv24=>
 sK v24 false (pG t 2) λv25=>
 sK v24 false (oS (some v25) λa=>oS (some (.int .i64 8)) λb=>Cl.get (aBin E .quo 3 (.tmp 25) (.const (.int .i64 8))) a b) λv26=>
 sK v24 false (pG t 7) λv27=>
 sK v24 false (M.on (some (.func (.func 52) #[] #[])) λf=>M.on (seqO [(some v27)]) λl=>AU u r f l) λv28=>
 sK v24 false (oS (some v26) λa=>oS (some v28) λb=>Cl.get (aBin E .geq 3 (.tmp 26) (.tmp 28)) a b) λv29=>
 ae v24 (.bool true) v29 λv30=>
 sV 21 v30 t
theorem WU_:RegEq 27 58 Cf KC_ Md:={}
theorem NO: ∃k,Mn= .code .ret::k:=⟨Mn.tail,X⟩
theorem Pf:Ad NS=some 21:=X
def ML:Rg:=λE u r t=>
 sV 6 (.int .i64 5) t
theorem IH_:RegEq 27 58 Cf EK_ ML:={}
def NS_:RdW:=λE call round tm=>
 PD (T.get tm 2) λp0=>
 BI E .quo 3 (.tmp 31) (.const (.int .i64 8)) (some p0.1) (some (.int .i64 8)) λp1=>
 PD (T.get tm 7) λp2=>
 M.bind (apartO (oS (some p2.1) λa=>kNil a)) λp3=>
 FD E 74 0 (some p3.1) λp4=>
 LD E 32 (some p4.1) λp5=>
 PD (some p1.1) λp6=>
 setT 8 p6.1 tm λtm1=>
 fJ [p6,p5,p4,p3,p2,p1,p0] tm1
theorem AfS_:DrawEq 27 58 Cf RS [0,1,0,4,12,28,3,127] NS_:={}
theorem AhA_ (E:Env)(call round:Ag)(x31 x32 x33 x34 x35 x36 x8:Value)(tm:T Value)(s:St):AB call round (AP E Cf 58 (hdC RS)) [x8,x36,x35,x34,x33,x32,x31] tm s=(M.bind (oS (some x36) λa=>M.pure a) λv9=>setT 9 v9 tm λtm1=>M.pure tm1) s:=X
def MS:Rg:=λE u r t=>
 mG t 8 λv37=>
 mG t 9 λv38=>
 lL E 32 v38 λv39=>
 bT E .geq 3 37 39 v37 v39 λv40=>
 sF 40 v40 t
theorem TE_:RegEq 27 58 Cf FH_ MS:={}
theorem Gw_:Ad L9=some 40:=X
def Cc_:RdW:=λE call round tm=>
 PD (T.get tm 8) λp0=>
 PD (T.get tm 9) λp1=>
 LN E .len [32] [(some p1.1)] λp2=>
 BI E .sub 3 (.tmp 41) (.tmp 43) (some p0.1) (some p2.1) λp3=>
 PD (T.get tm 7) λp4=>
 M.bind (apartO (oS (some p4.1) λa=>kNil a)) λp5=>
 FD E 74 1 (some p5.1) λp6=>
 LD E 32 (some p6.1) λp7=>
 PD (some p3.1) λp8=>
 setT 8 p8.1 tm λtm1=>
 fJ [p8,p7,p6,p5,p4,p3,p2,p1,p0] tm1
theorem Agb_:DrawEq 27 58 Cf QO [0,0,2,7,0,16,48,112,15,511] Cc_:={}
theorem And_ (E:Env)(call round:Ag)(x41 x42 x43 x44 x45 x46 x47 x48 x8:Value)(tm:T Value)(s:St):AB call round (AP E Cf 58 (hdC QO)) [x8,x48,x47,x46,x45,x44,x43,x42,x41] tm s=(M.bind (oS (some x48) λa=>M.pure a) λv9=>setT 9 v9 tm λtm1=>M.pure tm1) s:=X
def Fm_:RdW:=λE call round tm=>
 PD (T.get tm 9) λp0=>
 PD (T.get tm 8) λp1=>
 ID E 32 (some p0.1) (some p1.1) λp2=>
 LD E 5 (some p2.1) λp3=>
 PD (T.get tm 2) λp4=>
 BI E .rem 3 (.tmp 53) (.const (.int .i64 8)) (some p4.1) (some (.int .i64 8)) λp5=>
 BI E .shl 5 (.const (.int .u8 1)) (.tmp 54) (some (.int .u8 1)) (some p5.1) λp6=>
 BI E .xor 5 (.tmp 52) (.tmp 55) (some p3.1) (some p6.1) λp7=>
 ID E 32 (some p0.1) (some p1.1) λp8=>
 fJ [p8,p7,p6,p5,p4,p3,p2,p1,p0] tm
theorem Tn_:DrawEq 27 58 Cf H2 [0,0,3,7,0,16,48,127,255,511] Fm_:={}
theorem Ahb_ (E:Env)(call round:Ag)(x49 x50 x51 x52 x53 x54 x55 x56 x57:Value)(tm:T Value)(s:St):AB call round (AP E Cf 58 (hdC H2)) [x57,x56,x55,x54,x53,x52,x51,x50,x49] tm s=(M.bind (oS (some x57) λa=>oS (some x56) λb=>Az E 5 a b) λ_=>M.pure tm) s:=X
def Z7:Rg:=λE u r t=>
 sV 6 (.int .i64 0) t
theorem Aas_:RegEq 27 58 Cf Te Z7:={}
theorem Alu_: ∃k,JY_= .code .ret::k:=⟨JY_.tail,X⟩
def Kt:Nat:=Ao Try.f52
def PF_:Code:=Try.f52.body.getD .skip
theorem XQ:envS.fn.get 52=some Try.f52:=X
theorem Vd_:G1 envS 52 14 Kt PF_:=λh=>
 aL XQ (h _ X)
theorem AcD_:Try.f52.results.toList=[.tmp 2]:=X
def DW_:List Item:=skim 64 [.code PF_]
def Rq:=nx DW_
def Tu:=nx Rq
def MZ_:Rg:=λE u r t=>
 sV 2 (.int .i64 0) t
theorem Yx_:RegEq 52 14 Kt DW_ MZ_:={}
def PZ_:RdW:=λE call round tm=>
 PD (T.get tm 0) λp0=>
 M.bind (apartO (oS (some p0.1) λa=>kNil a)) λp1=>
 FD E 74 0 (some p1.1) λp2=>
 LD E 32 (some p2.1) λp3=>
 LN E .len [32] [(some p3.1)] λp4=>
 PD (T.get tm 0) λp5=>
 M.bind (apartO (oS (some p5.1) λa=>kNil a)) λp6=>
 FD E 74 1 (some p6.1) λp7=>
 LD E 32 (some p7.1) λp8=>
 LN E .len [32] [(some p8.1)] λp9=>
 BI E .add 3 (.tmp 7) (.tmp 12) (some p4.1) (some p9.1) λp10=>
 fJ [p10,p9,p8,p7,p6,p5,p4,p3,p2,p1,p0] tm
theorem Ais_:DrawEq 52 14 Kt Rq [0,1,3,7,15,0,32,96,224,480,1023,2047] PZ_:={}
theorem Ajv_ (E:Env)(call round:Ag)(x3 x4 x5 x6 x7 x8 x9 x10 x11 x12 x13:Value)(tm:T Value)(s:St):AB call round (AP E Kt 14 (hdC Rq)) [x13,x12,x11,x10,x9,x8,x7,x6,x5,x4,x3] tm s=(M.bind (oS (some x13) λa=>M.pure a) λv2=>setT 2 v2 tm λtm1=>M.pure tm1) s:=X
theorem AfD_: ∃k,Tu= .code .ret::k:=⟨Tu.tail,X⟩
