import Derived.Test.YtheboekhpelhlaaDSb21
noncomputable section
namespace Go.Proofs.Ytheboekhpelhlaa.Am
open Go.RowKit
def SC:Nat:=Ao Try.f67
def EM_:Code:=Try.f67.body.getD .skip
theorem MU:envS.fn.get 67=some Try.f67:=X
theorem Amr_:G2 envS 67 9 SC EM_:=λh=>
 aL MU (h _ X X)
theorem KU_:Try.f67.results.toList=[.tmp 4]:=X
def Kw_:List Item:=skim 64 [.code EM_]
def CD_:=nx Kw_
def NL_:=nx CD_
def DJ_:Rg:=λE u r t=>
 sV 4 (.bool false) t
theorem Aci_:RegEq 67 9 SC Kw_ DJ_:={}
def GL_:Rg:=λE u r t=>
 mG t 0 λv5=>
 mG t 1 λv6=>
 cN u r 78 [(some v5),(some v6)] λv7=>
 ac E .geq 7 0 (some v7) λv8=>
 sV 4 v8 t
theorem UX_:RegEq 67 9 SC CD_ GL_:={}
theorem Ix_: ∃k,NL_= .code .ret::k:=⟨NL_.tail,X⟩
def Rm:Nat:=Ao Try.f78
def Yx:Code:=Try.f78.body.getD .skip
theorem Ob:envS.fn.get 78=some Try.f78:=X
theorem Uw_:G2 envS 78 8 Rm Yx:=λh=>
 aL Ob (h _ X X)
theorem UG:Try.f78.results.toList=[.tmp 4]:=X
def KM_:List Item:=skim 64 [.code Yx]
def Rt_:=nx KM_
def Xu:=nx Rt_
def Ni_:Rg:=λE u r t=>
 sV 4 (.int .i64 0) t
theorem Yb_:RegEq 78 8 Rm KM_ Ni_:={}
def UT:Rg:=λE u r t=>
 mG t 0 λv5=>
 mG t 1 λv6=>
 cN u r 83 [(some v5),(some v6),(some (.bool true))] λv7=>
 sV 4 v7 t
theorem Zf_:RegEq 78 8 Rm Rt_ UT:={}
theorem Cq_: ∃k,Xu= .code .ret::k:=⟨Xu.tail,X⟩
def DZ:Nat:=Ao Try.f83
abbrev Apt_:Nat:=21
def SA_:Code:=Try.f83.body.getD .skip
theorem OF:envS.fn.get 83=some Try.f83:=X
theorem Arp_:G3 envS 83 21 DZ SA_:=λh=>
 aL OF (h _ X X X)
theorem W4:Try.f83.results.toList=[.tmp 6]:=X
def GK_:List Item:=skim 64 [.code SA_]
def GD_:=nx GK_
def Ku:=nx GD_
def Qb:=nx Ku
def AN_:=bt Qb
def DM_:=bf Qb
def HT_:=nx AN_
def GH_:=nx DM_
def SI:=nx HT_
def Gc_:=bt SI
theorem Amd_:skim 64 (brF SI)=Ku:=X
def SI_:=nx Gc_
def JZ_:Rg:=λE u r t=>
 sV 6 (.int .i64 0) t
theorem AqX_:RegEq 83 21 DZ GK_ JZ_:={}
def PG_:Rg:=λE u r t=>
 mG t 0 λv9=>
 M.bind (oS (some v9) λa=>Dz E 9 a) λv10=>
 sF 10 v10 t
theorem AcQ_:RegEq 83 21 DZ GD_ PG_:={}
def NI:Rg:=λE u r t=>
 M.bind (oS (T.get t 10) λa=>EC a) λv11=>
 setF 11 v11 t λt1=>
 eX 0 (some v11) λv12=>
 sF 12 v12 t1
theorem Sj_:RegEq 83 21 DZ Ku NI:={}
theorem Hr_:Ad Qb=some 12:=X
def Ua:Rg:=λE u r t=>
 eX 1 (T.get t 11) λv13=>
 eX 2 (T.get t 11) λv14=>
 mv (some v13) λv7=>
 setF 7 v7 t λt1=>
 sV 8 v14 t1
theorem AkT_:RegEq 83 21 DZ AN_ Ua:={}
def Md_:Rg:=λE u r t=>
 sV 6 (.int .i64 (-1)) t
theorem AeX_:RegEq 83 21 DZ DM_ Md_:={}
def FT_:Rg:=λE u r t=>
 mG t 1 λv15=>
 mG t 8 λv16=>
 M.bind (M.on (some v15) λf=>M.on (seqO [(some v16)]) λl=>AU u r f l) λv17=>
 mG t 2 λv18=>
 bT E .eql 4 17 18 v17 v18 λv19=>
 sF 19 v19 t
theorem AmF_:RegEq 83 21 DZ HT_ FT_:={}
theorem Alk_: ∃k,GH_= .code .ret::k:=⟨GH_.tail,X⟩
theorem Ho_:Ad SI=some 19:=X
def MK_:Rg:=λE u r t=>
 mG t 7 λv20=>
 sV 6 v20 t
theorem ZH_:RegEq 83 21 DZ Gc_ MK_:={}
theorem XL_: ∃k,SI_= .code .ret::k:=⟨SI_.tail,X⟩
def P5:Nat:=Ao Try.f65
def Xw:Code:=Try.f65.body.getD .skip
theorem PI_:envS.fn.get 65=some Try.f65:=X
theorem AdD_:G2 envS 65 8 P5 Xw:=λh=>
 aL PI_ (h _ X X)
theorem Zr_:Try.f65.results.toList=[.tmp 4]:=X
def Nc_:List Item:=skim 64 [.code Xw]
def Xa:=nx Nc_
def Fb_:=nx Xa
def QY_:Rg:=λE u r t=>
 sV 4 (.bool false) t
theorem Ut_:RegEq 65 8 P5 Nc_ QY_:={}
def MI_:Rg:=λE u r t=>
 mG t 0 λv5=>
 mG t 1 λv6=>
 cN u r 76 [(some v5),(some v6)] λv7=>
 sV 4 v7 t
theorem Ajq_:RegEq 65 8 P5 Xa MI_:={}
theorem Ua_: ∃k,Fb_= .code .ret::k:=⟨Fb_.tail,X⟩
def Jj:Nat:=Ao Try.f76
abbrev AhL_:Nat:=18
def YS:Code:=Try.f76.body.getD .skip
theorem NG_:envS.fn.get 76=some Try.f76:=X
theorem Acx_:G2 envS 76 18 Jj YS:=λh=>
 aL NG_ (h _ X X)
theorem AjE_:Try.f76.results.toList=[.tmp 4]:=X
def OC_:List Item:=skim 64 [.code YS]
def Wu:=nx OC_
def Oh:=nx Wu
def QC_:Rg:=λE u r t=>
 sV 4 (.bool false) t
theorem AiZ_:RegEq 76 18 Jj OC_ QC_:={}
def Mq:Rg:=λE u r t=>
 mG t 0 λv5=>
 lL E 9 v5 λv6=>
 mG t 1 λv7=>
 lL E 9 v7 λv8=>
 bT E .geq 3 6 8 v6 v8 λv9=>
 mv (some v9) λv10=>
 sK v10 true (pG t 0) λv11=>
 sK v10 true (pG t 1) λv12=>
 sK v10 true (oS (seqO [(some v12)]) λl=>AH E .len [9] l) λv13=>
 sK v10 true (M.on (some v11) λa=>M.on (some none) λb=>M.on (onO (some v13) λv=>some (some v)) λc=>AZ E 9 a b c) λv14=>
 sK v10 true (pG t 1) λv15=>
 sK v10 true (oS (some v14) λa=>oS (some v15) λb=>Cl.get (aBin E .eql 9 (.tmp 14) (.tmp 15)) a b) λv16=>
 ae v10 v16 (.bool false) λv17=>
 sV 4 v17 t
theorem AkL_:RegEq 76 18 Jj Wu Mq:={}
theorem ZX_: ∃k,Oh= .code .ret::k:=⟨Oh.tail,X⟩
def Cs:Nat:=Ao Try.f63
abbrev Wp_:Nat:=42
def DP_:Code:=Try.f63.body.getD .skip
theorem KV:envS.fn.get 63=some Try.f63:=X
theorem Vy:G2 envS 63 42 Cs DP_:=λh=>
 aL KV (h _ X X)
theorem PZ:Try.f63.results.toList=[.tmp 4]:=X
def YD:List Item:=skim 64 [.code DP_]
def Ib_:=nx YD
def DR_:=nx Ib_
def NM:=nx DR_
def NA_:=bt NM
def Rd_:=bf NM
def Lt_:=nx NA_
def LH:=nx Rd_
def Qv:=nx LH
def Mb_:=bt Qv
def Jf_:=bf Qv
def Hs_:=nx Mb_
def SH_:=nx Jf_
def Mw:=nx Hs_
def Y4:=nx SH_
def XO:=bt Mw
def P4:=bf Mw
def Z1:=nx XO
theorem BK_:skim 64 P4.tail=LH:=X
theorem AiP_:skim 64 Z1.tail=P4:=X
def NT:Rg:=λE u r t=>
 sV 4 (.slice none 0 0) t
theorem EG_:RegEq 63 42 Cs YD NT:={}
def PS:Rg:=λE u r t=>
 mG t 0 λv8=>
 mG t 1 λv9=>
 cN u r 75 [(some v8),(some v9)] λv10=>
 sV 5 v10 t
theorem HK_:RegEq 63 42 Cs Ib_ PS:={}
def Kb:Rg:=λE u r t=>
 mG t 5 λv11=>
 ac E .eql 11 (-1) (some v11) λv12=>
 sF 12 v12 t
theorem Pr:RegEq 63 42 Cs DR_ Kb:={}
theorem Qe:Ad NM=some 12:=X
def N8:Rg:=λE u r t=>
 mG t 0 λv13=>
 sV 4 v13 t
theorem Bn_:RegEq 63 42 Cs NA_ N8:={}
def QB_:Rg:=λE u r t=>
 mG t 5 λv14=>
 ac E .add 14 1 (some v14) λv15=>
 sV 6 v15 t
theorem Apk_:RegEq 63 42 Cs Rd_ QB_:={}
theorem ZI: ∃k,Lt_= .code .ret::k:=⟨Lt_.tail,X⟩
def Om:Rg:=λE u r t=>
 mG t 6 λv16=>
 mG t 0 λv17=>
 lL E 66 v17 λv18=>
 bT E .lss 3 16 18 v16 v18 λv19=>
 sF 19 v19 t
theorem Nb_:RegEq 63 42 Cs LH Om:={}
theorem Ff_:Ad Qv=some 19:=X
def Pc_:Rg:=λE u r t=>
 mG t 0 λv22=>
 mG t 6 λv23=>
 iD E 66 (some v22) (some v23) λv24=>
 lD E 9 (some v24) λv25=>
 sV 7 v25 t
theorem AfH_:RegEq 63 42 Cs Mb_ Pc_:={}
def Rf_:Rg:=λE u r t=>
 mG t 0 λv36=>
 mG t 5 λv37=>
 M.bind (M.on (some v36) λa=>M.on (onO (some v37) λv=>some (some v)) λb=>M.on (some none) λc=>AZ E 66 a b c) λv38=>
 lN E .clear [66] [(some v38)] λ_=>
 M.pure t
theorem Aer_:RegEq 63 42 Cs Jf_ Rf_:={}
def Gk_:Rg:=λE u r t=>
 mG t 1 λv26=>
 mG t 7 λv27=>
 M.bind (M.on (some v26) λf=>M.on (seqO [(some v27)]) λl=>AU u r f l) λv28=>
 M.bind (oS (some v28) λa=>kUn E.P .not a) λv29=>
 sF 29 v29 t
theorem TO_:RegEq 63 42 Cs Hs_ Gk_:={}
def Iu_:Rg:=λE u r t=>
 mG t 0 λv39=>
 mG t 5 λv40=>
 M.bind (M.on (some v39) λa=>M.on (some none) λb=>M.on (onO (some v40) λv=>some (some v)) λc=>AZ E 66 a b c) λv41=>
 sV 4 v41 t
theorem Abf_:RegEq 63 42 Cs SH_ Iu_:={}
theorem LH_:Ad Mw=some 29:=X
theorem AdY_: ∃k,Y4= .code .ret::k:=⟨Y4.tail,X⟩
def Fc_:Rg:=λE u r t=>
 mG t 0 λv30=>
 mG t 5 λv31=>
 mG t 7 λv32=>
 iD E 66 (some v30) (some v31) λv33=>
 ag E 9 (some v33) (some v32) λ_=>
 M.pure t
theorem Ahz_:RegEq 63 42 Cs XO Fc_:={}
def Sx:Rg:=λE u r t=>
 mG t 6 λv20=>
 ac E .add 20 1 (some v20) λv21=>
 sV 6 v21 t
theorem AQ_:RegEq 63 42 Cs P4 Sx:={}
def KP_:Rg:=λE u r t=>
 mG t 5 λv34=>
 ac E .add 34 1 (some v34) λv35=>
 sV 5 v35 t
theorem Yi_:RegEq 63 42 Cs Z1 KP_:={}
def Dk:Nat:=Ao Try.f75
abbrev Ui:Nat:=19
def Ms_:Code:=Try.f75.body.getD .skip
theorem Jh:envS.fn.get 75=some Try.f75:=X
theorem Ok_:G2 envS 75 19 Dk Ms_:=λh=>
 aL Jh (h _ X X)
theorem PX:Try.f75.results.toList=[.tmp 4]:=X
def GO_:List Item:=skim 64 [.code Ms_]
def Y1:=nx GO_
def Ix:=nx Y1
def PC:=nx Ix
def Aw_:=bt PC
def RP_:=bf PC
def Ur:=nx Aw_
def IC_:=nx RP_
def MA:=nx Ur
def Pi_:=bt MA
def Fs_:=bf MA
def Fe_:=nx Pi_
theorem Yh:skim 64 Fs_.tail=Ix:=X
def Oo:Rg:=λE u r t=>
 sV 4 (.int .i64 0) t
theorem Sp_:RegEq 75 19 Dk GO_ Oo:={}
def RU:Rg:=λE u r t=>
 mG t 0 λv6=>
 lL E 66 v6 λv7=>
 setF 7 v7 t λt1=>
 sV 8 (.int .i64 0) t1
theorem ZG:RegEq 75 19 Dk Y1 RU:={}
def HI:Rg:=λE u r t=>
 bI E .lss 3 (.tmp 8) (.tmp 7) (T.get t 8) (T.get t 7) λv9=>
 sF 9 v9 t
theorem Lq:RegEq 75 19 Dk Ix HI:={}
theorem J0:Ad PC=some 9:=X
def QZ:Rg:=λE u r t=>
 mG t 8 λv10=>
 sV 5 v10 t
theorem JA_:RegEq 75 19 Dk Aw_ QZ:={}
def NN:Rg:=λE u r t=>
 sV 4 (.int .i64 (-1)) t
theorem EC_:RegEq 75 19 Dk RP_ NN:={}
def PP:Rg:=λE u r t=>
 mG t 1 λv11=>
 mG t 0 λv12=>
 mG t 5 λv13=>
 iD E 66 (some v12) (some v13) λv14=>
 lD E 9 (some v14) λv15=>
 M.bind (M.on (some v11) λf=>M.on (seqO [(some v15)]) λl=>AU u r f l) λv16=>
 sF 16 v16 t
theorem Y8:RegEq 75 19 Dk Ur PP:={}
theorem Aq_: ∃k,IC_= .code .ret::k:=⟨IC_.tail,X⟩
theorem Q6:Ad MA=some 16:=X
def Lj_:Rg:=λE u r t=>
 mG t 5 λv17=>
 sV 4 v17 t
theorem Amh_:RegEq 75 19 Dk Pi_ Lj_:={}
def QY:Rg:=λE u r t=>
 ac E .add 8 1 (T.get t 8) λv18=>
 sV 8 v18 t
theorem OQ_:RegEq 75 19 Dk Fs_ QY:={}
theorem AbM_: ∃k,Fe_= .code .ret::k:=⟨Fe_.tail,X⟩
def BA:Nat:=Ao Try.f66
abbrev Hs:Nat:=36
def TZ:Code:=Try.f66.body.getD .skip
theorem O9:envS.fn.get 66=some Try.f66:=X
theorem GV_:G1 envS 66 36 BA TZ:=λh=>
 aL O9 (h _ X)
theorem Ad_:Try.f66.results.toList=[.tmp 2]:=X
def PB_:List Item:=skim 64 [.code TZ]
def QP_:=nx PB_
def Ej_:=nx QP_
def KI:=nx Ej_
def Ns:=nx KI
def Qv_:=bt Ns
def Nm:=bf Ns
def Of_:=nx Qv_
def XM:=nx Nm
def IT_:=nx Of_
def I5:=nx XM
def Mz_:=nx IT_
def RQ:=nx I5
def Pd_:=bf Mz_
def El_:=bt RQ
def KK:=bf RQ
theorem YT_:skim 64 Pd_.tail=KI:=X
def V4:=nx El_
def Vs:=nx KK
def Bh_:=nx V4
theorem Ka_:skim 64 Bh_.tail=I5:=X
def Sp:Rg:=λE u r t=>
 sV 2 (.slice none 0 0) t
theorem Rb_:RegEq 66 36 BA PB_ Sp:={}
def Np:Rg:=λE u r t=>
 sV 3 (.int .i64 0) t
theorem Ow_:RegEq 66 36 BA QP_ Np:={}
def M9:Rg:=λE u r t=>
 mG t 0 λv9=>
 setF 9 v9 t λt1=>
 lL E 97 v9 λv10=>
 setF 10 v10 t1 λt2=>
 sV 11 (.int .i64 0) t2
theorem FD_:RegEq 66 36 BA Ej_ M9:={}
def Pb:Rg:=λE u r t=>
 bI E .lss 3 (.tmp 11) (.tmp 10) (T.get t 11) (T.get t 10) λv12=>
 sF 12 v12 t
theorem U7:RegEq 66 36 BA KI Pb:={}
theorem Tk:Ad Ns=some 12:=X
def FJ_:Rg:=λE u r t=>
 iD E 97 (T.get t 9) (T.get t 11) λv13=>
 lD E 32 (some v13) λv14=>
 sV 5 v14 t
theorem AcY_:RegEq 66 36 BA Qv_ FJ_:={}
def NJ:Rg:=λE u r t=>
 mG t 3 λv23=>
 cN u r 77 [(some (.slice none 0 0)),(some v23)] λv24=>
 sV 6 v24 t
theorem Ic_:RegEq 66 36 BA Nm NJ:={}
def AU_:Rg:=λE u r t=>
 mG t 3 λv15=>
 mG t 5 λv16=>
 lL E 32 v16 λv17=>
 bT E .add 3 15 17 v15 v17 λv18=>
 sV 3 v18 t
theorem Alb_:RegEq 66 36 BA Of_ AU_:={}
def RA:Rg:=λE u r t=>
 mG t 0 λv25=>
 setF 25 v25 t λt1=>
 lL E 97 v25 λv26=>
 setF 26 v26 t1 λt2=>
 sV 27 (.int .i64 0) t2
theorem Gi_:RegEq 66 36 BA XM RA:={}
def Yr:Rg:=λE u r t=>
 mG t 3 λv19=>
 ac E .lss 19 0 (some v19) λv20=>
 sF 20 v20 t
theorem Akt_:RegEq 66 36 BA IT_ Yr:={}
def H6:Rg:=λE u r t=>
 bI E .lss 3 (.tmp 27) (.tmp 26) (T.get t 27) (T.get t 26) λv28=>
 sF 28 v28 t
theorem J5:RegEq 66 36 BA I5 H6:={}
theorem Aem_:Ad Mz_=some 20:=X
theorem La:Ad RQ=some 28:=X
def Ae_:Rg:=λE u r t=>
 ac E .add 11 1 (T.get t 11) λv22=>
 sV 11 v22 t
theorem Amw_:RegEq 66 36 BA Pd_ Ae_:={}
def Qc:Rg:=λE u r t=>
 iD E 97 (T.get t 25) (T.get t 27) λv29=>
 lD E 32 (some v29) λv30=>
 sV 8 v30 t
theorem Dg_:RegEq 66 36 BA El_ Qc:={}
def QJ:Rg:=λE u r t=>
 mG t 6 λv35=>
 sV 2 v35 t
theorem YL:RegEq 66 36 BA KK QJ:={}
def Qn:Rg:=λE u r t=>
 mG t 6 λv31=>
 mG t 8 λv32=>
 lN E .append [32,32] [(some v31),(some v32)] λv33=>
 sV 6 v33 t
theorem Zj:RegEq 66 36 BA V4 Qn:={}
theorem OO_: ∃k,Vs= .code .ret::k:=⟨Vs.tail,X⟩
def Qf:Rg:=λE u r t=>
 ac E .add 27 1 (T.get t 27) λv34=>
 sV 27 v34 t
theorem Pt_:RegEq 66 36 BA Bh_ Qf:={}
def Gm:Nat:=Ao Try.f77
def KO_:Code:=Try.f77.body.getD .skip
theorem N7:envS.fn.get 77=some Try.f77:=X
theorem Hv_:G2 envS 77 27 Gm KO_:=λh=>
 aL N7 (h _ X X)
theorem Gb_:Try.f77.results.toList=[.tmp 4]:=X
def Di_:List Item:=skim 64 [.code KO_]
def S0:=nx Di_
def Sn_:=nx S0
def AH_:=bf Sn_
def Hu_:=nx AH_
def Mr:=nx Hu_
def U6:=bt Mr
def SG:=bf Mr
theorem Acd_:skim 64 U6.tail=SG:=X
def NO_:=nx SG
def Ro:Rg:=λE u r t=>
 sV 4 (.slice none 0 0) t
theorem WE:RegEq 77 27 Gm Di_ Ro:={}
def M4:Rg:=λE u r t=>
 mG t 1 λv5=>
 ac E .lss 5 0 (some v5) λv6=>
 sF 6 v6 t
theorem CT_:RegEq 77 27 Gm S0 M4:={}
theorem CI_:Ad Sn_=some 6:=X
def LX:Rg:=λE u r t=>
 mG t 1 λv8=>
 mG t 0 λv9=>
 lN E .cap [32] [(some v9)] λv10=>
 mG t 0 λv11=>
 lL E 32 v11 λv12=>
 bT E .sub 3 10 12 v10 v12 λv13=>
 bT E .sub 3 8 13 v8 v13 λv14=>
 sV 1 v14 t
theorem BO_:RegEq 77 27 Gm AH_ LX:={}
def RP:Rg:=λE u r t=>
 mG t 1 λv15=>
 ac E .gtr 15 0 (some v15) λv16=>
 sF 16 v16 t
theorem QK_:RegEq 77 27 Gm Hu_ RP:={}
theorem ZX:Ad Mr=some 16:=X
def RJ_:Rg:=λE u r t=>
 mG t 0 λv17=>
 mG t 0 λv18=>
 lN E .cap [32] [(some v18)] λv19=>
 M.bind (M.on (some v17) λa=>M.on (some none) λb=>M.on (onO (some v19) λv=>some (some v)) λc=>AZ E 32 a b c) λv20=>
 mG t 1 λv21=>
 lN E .append [32,3] [(some v20),(some v21)] λv22=>
 mG t 0 λv23=>
 lL E 32 v23 λv24=>
 M.bind (M.on (some v22) λa=>M.on (some none) λb=>M.on (onO (some v24) λv=>some (some v)) λc=>AZ E 32 a b c) λv25=>
 sV 0 v25 t
theorem AjY_:RegEq 77 27 Gm U6 RJ_:={}
def R6:Rg:=λE u r t=>
 mG t 0 λv26=>
 sV 4 v26 t
theorem IN_:RegEq 77 27 Gm SG R6:={}
theorem Cu_: ∃k,NO_= .code .ret::k:=⟨NO_.tail,X⟩
def MV:Nat:=Ao Try.f69
def QW_:Code:=Try.f69.body.getD .skip
theorem Tc:envS.fn.get 69=some Try.f69:=X
theorem Ul_:G2 envS 69 10 MV QW_:=λh=>
 aL Tc (h _ X X)
theorem Afu_:Try.f69.results.toList=[.tmp 4]:=X
def OS_:List Item:=skim 64 [.code QW_]
def Lk_:=nx OS_
def Gu_:=nx Lk_
def Xl:Rg:=λE u r t=>
 sV 4 (.int .i64 0) t
theorem AmS_:RegEq 69 10 MV OS_ Xl:={}
def DS_:Rg:=λE u r t=>
 mG t 0 λv5=>
 kN v5 λv6=>
 fD E 54 2 (some v6) λv7=>
 mG t 1 λv8=>
 cN u r 79 [(some v7),(some v8)] λv9=>
 sV 4 v9 t
theorem Vn_:RegEq 69 10 MV Lk_ DS_:={}
theorem YG_: ∃k,Gu_= .code .ret::k:=⟨Gu_.tail,X⟩
def Nw:Nat:=Ao Try.f36
def BI_:Code:=Try.f36.body.getD .skip
theorem TH:envS.fn.get 36=some Try.f36:=X
theorem Aap_:G2 envS 36 10 Nw BI_:=λh=>
 aL TH (h _ X X)
theorem Ug_:Try.f36.results.toList=[.tmp 4]:=X
def Zz:List Item:=skim 64 [.code BI_]
def TG:=nx Zz
def QH_:=nx TG
def Mm_:Rg:=λE u r t=>
 sV 4 (.bool false) t
theorem Agw_:RegEq 36 10 Nw Zz Mm_:={}
def Gg_:Rg:=λE u r t=>
 mG t 0 λv5=>
 vB E 32 9 (some v5) λv6=>
 mG t 1 λv7=>
 vB E 32 9 (some v7) λv8=>
 bT E .eql 9 6 8 v6 v8 λv9=>
 sV 4 v9 t
theorem WB_:RegEq 36 10 Nw TG Gg_:={}
theorem AaH_: ∃k,QH_= .code .ret::k:=⟨QH_.tail,X⟩
theorem Ext.on {G F' G':Nat->Prop}{s s1 s2:St}(h:Ext Any G s s1)(k:Ext F' G' s1 s2)(hb:s.lim<=s.next)(hG: ∀x,x<s.next->G' x->G x):Ext Any G s s2:=h.trans k hb (λ_ _ _=>trivial) hG
theorem Ext.gw {G G':Nat->Prop}{s s1:St}(h:Ext Any G s s1)(hb:s.lim<=s.next)(hG: ∀x,x<s.next->G x->G' x):Ext Any G' s s1:=h.weak hb (λ_ _ h=>h) hG
theorem In1 {b x:Nat}:In b 0 1 x↔x=b:=⟨λh=>by have:=h.1;have:=h.2;omega,λh=>⟨J,J⟩⟩
theorem Any_:fldN envS 56 0=some (0,1,false):=X
theorem B4:fldN envS 56 1=some (1,1,false):=X
theorem VI:fldN envS 56 2=some (2,1,false):=X
theorem Si_:fldN envS 56 3=some (3,1,true):=X
theorem IP:fldN envS 56 4=some (4,1,false):=X
theorem JO:fldN envS 56 5=some (5,1,false):=X
theorem Lw:fldN envS 56 6=some (6,1,false):=X
theorem Zf:fldN envS 54 2=some (0,1,false):=X
theorem F9:fldN envS 74 0=some (0,1,false):=X
theorem CS:fldN envS 74 1=some (1,1,false):=X
theorem BB:tyS envS 4=some (1,false):=X
theorem Bv:tyS envS 3=some (1,false):=X
theorem B7:tyS envS 49=some (1,false):=X
theorem AQ:tyS envS 9=some (1,false):=X
theorem Ca:tyS envS 72=some (1,false):=X
theorem Ci:tyS envS 25=some (1,false):=X
theorem Sm:JI envS 72=some [.pointer none]:=X
theorem Apb_:ptrT envS 25=true:=X
theorem ED:ptrT envS 72=true:=X
theorem Aeo_:mapU envS 49=true:=X
theorem FK (s:St):mapT envS 49 s= .some (9,72) s:=X
theorem Aoo_ (s:St):zeroOf envS 72 s= .some (.pointer none) s:=X
theorem Fw:envS.P.underlying 9=some .string:=X
theorem AhC_ (k:Nat)(s:St):Cl.get (aBin envS .eql 72 (.tmp k) (.const (.pointer none))) (.pointer none) (.pointer none) s= .some (.bool true) s:=X
theorem Fb (k:Nat)(s:St)(Q:Value->St->Prop):W (Cl.get (aBin envS .eql 72 (.tmp k) (.const (.pointer none))) (.pointer none) (.pointer none)) s Q=Q (.bool true) s:=As (AhC_ k s)
theorem Kp {s:St}{call round:Ag}{f:Nat}{cap:Array Value}{l:List Value}(Q:Value->St->Prop):W (AU call round (.func (.func f) #[] cap) l) s Q=W (call f (l++cap.toList)) s Q:=by
 show W (call f ([]++(l++cap.toList))) s Q=_
 rw[List.nil_append]
theorem W.extF {E:Env}{s:St}{ih:AF->M (Value×FrameMode)}{f:Nat}{m:List Value->M Value}{args:List Value}{Q:Value->St->Prop}(h0:E.orc.get f=none)(ho:E.ext.get f=some m)(h:W (m args) s Q):W (Ac E ih f args) s Q:=by
 unfold Ac
 rw[h0,ho]
 exact h
section
variable {D n:Nat}{s:St}{Q:Value->St->Prop}
theorem CR (hb:s.lim<=s.next)(h0:Own s D 0 (.bool true))(hn:20<=n)(q: ∀s1,s1.mem=s.mem->s1.next=s.next->Ext Any Non s s1->Q (.bool false) s1):W (Ac envS (runF envS n) 45 [.pointer (some ⟨D,0,none⟩)]) s Q:=by
 refine AkY_ λtm h=> ?_
 refine Aff_.u ?_
 simp only[Mg_,RR,SS]
 refine ZU_.u ?_
 simp only[Kv_,RR,SS,reduceCtorEq, ↓reduceIte,h,C5 Apb_,Ab Any_ al]
 refine aA BB (h0.same (s':=s.cxN cxN) rfl rfl).at' ?_
 simp only[A5,Bool.not_true]
 refine aB (rs:=[2]) (vs:=[.bool false]) rfl (.inl Apf_) J JP_ AjP_ rfl Y ?_
 exact q _ rfl rfl ((Ext.refl (F:=Any) (G:=Non) (s.cxN cxN)).thenRd hb _).cx'
theorem I2 {o:Bool}(hb:s.lim<=s.next)(h0:Own s D 0 (.bool true))(h6:Own s D 6 (.bool o))(hn:60<=n)(q: ∀s1,s1.mem=s.mem->s1.next=s.next->Ext Any Non s s1->Q (.int .i64 (if o then 10 else 0)) s1):W (Ac envS (runF envS n) 48 [.pointer (some ⟨D,0,none⟩)]) s Q:=by
 have hb0:(s.cxN cxN).lim<=(s.cxN cxN).next:=hb
 refine XZ_ λtm h=> ?_
 refine AkE_.u ?_
 simp only[Bt_,RR,SS]
 refine Amo_.u ?_
 simp only[Vd,RR,SS,reduceCtorEq, ↓reduceIte,h]
 refine CR hb0 (h0.same rfl rfl) J λs1 m1 n1 x1=> ?_
 refine aG AeW_ ?_
 refine AdV_.u ?_
 simp only[Wb,RR,SS,reduceCtorEq, ↓reduceIte,h,Ab Lw al]
 have y1:=x1.thenRd hb0 (D+(0+6))
 refine aA BB ((h6.same (s':=s.cxN cxN) rfl rfl).same m1 n1).at' ?_
 cases o with
 |true=>
  refine aJ OD_ ?_
  refine AeQ_.u ?_
  simp only[HO_,RR,SS]
  refine aB (rs:=[2]) (vs:=[.int .i64 10]) UJ_ (.inl Te_) J OE UE y1.cx Y ?_
  exact q _ m1 n1 y1.cx'
 |false=>
  refine aG OD_ ?_
  refine ArH_.u ?_
  simp only[Mn_,RR,SS]
  refine aB (rs:=[2]) (vs:=[.int .i64 0]) rfl (.inl SN_) J OE UE y1.cx Y ?_
  exact q _ m1 n1 y1.cx'
theorem Aix_ {o:Nat}{x:Int}(hb:s.lim<=s.next)(h3:Own s D o (.int .i64 x))(hn:20<=n)(q: ∀w s1,s1.next=s.next->Ext Any (λy=>y=D+o) s s1->Own s1 D o (.int .i64 (wrap64 (x+1)))->Q w s1):W (Ac envS (runF envS n) 69 [.pointer (some ⟨D,o,none⟩), .int .i64 1]) s Q:=by
 have hb0:(s.cxN cxN).lim<=(s.cxN cxN).next:=hb
 refine Ul_ λtm h h1=> ?_
 refine AmS_.u ?_
 simp only[Xl,RR,SS]
 refine Vn_.u ?_
 simp only[DS_,RR,SS,Nat.reduceEqDiff,reduceCtorEq, ↓reduceIte,h,h1,Ab Zf al]
 refine W.extF X (m:=HG) X ?_
 show W (M.bind (Am.rdV ⟨D,o,none⟩) λv=>match v with
  | .int .i64 x=>fI (wrap64 (addI x 1)) λn=>M.bind (Am.wrV ⟨D,o,none⟩ (.int .i64 n)) λ_=>M.pure (Value.int .i64 n)
  |_=>aC) (s.cxN cxN) _
 have h3':Own (s.cxN cxN) D o (.int .i64 x):=h3.same rfl rfl
 refine W.bind (W.rdV h3'.at' ?_)
 show W (fI (wrap64 (addI x 1)) _) _ _
 rw[Cd,LB]
 refine W.bind (W.wrV (h3'.same (s':=(s.cxN cxN).rdN (D+o)) rfl rfl) rfl (W.pure ?_))
 have z0:=(Ext.refl (F:=Any) (G:=λy=>y=D+o) (s.cxN cxN)).on (Ext.rdN (F:=Any) (G:=λy=>y=D+o) (s.cxN cxN) (D+o) λ_=>trivial) hb0 λ_ _ h=>h
 have z1:=z0.on (Ext.rdN (F:=Any) (G:=λy=>y=D+o) _ (D+o) λ_=>trivial) hb0 λ_ _ h=>h
 have z2:=z1.on (Ext.wrN (F:=Any) (G:=λy=>y=D+o) _ (D+o) (.C D (.int .i64 (wrap64 (x+1)))) rfl) hb0 λ_ _ h=>h
 have hw:Own ((((s.cxN cxN).rdN (D+o)).rdN (D+o)).wrN (D+o) (.C D (.int .i64 (wrap64 (x+1))))) D o (.int .i64 (wrap64 (x+1))):=⟨h3.1,by
  show T.get (T.set s.mem (D+o) _) (D+o)=_
  rw[T.get_set,if_pos rfl]⟩
 have nz:((((s.cxN cxN).rdN (D+o)).rdN (D+o)).wrN (D+o) (.C D (.int .i64 (wrap64 (x+1))))).next=s.next:=rfl
 generalize (((s.cxN cxN).rdN (D+o)).rdN (D+o)).wrN (D+o) (.C D (.int .i64 (wrap64 (x+1))))=s2 at *
 refine aB (rs:=[4]) (vs:=[.int .i64 (wrap64 (x+1))]) rfl (.inl YG_) J Tc Afu_ z2.cx Y ?_
 exact q _ _ nz z2.cx' (hw.same rfl rfl)
theorem KQ {f2:Nat}{cap:Array Value}{fused out:Bool}{left steps:Int}(hb:s.lim<=s.next)(h3:Own s D 3 (.int .i64 steps))(h4:Own s D 4 (.bool fused))(h5:Own s D 5 (.int .i64 left))(h6:Own s D 6 (.bool out))(hn:60<=n)
  (q1:(fused=true/\left=0)-> ∀s1,s1.next=s.next->Ext Any (λy=>y=D+6) s s1->Own s1 D 6 (.bool true)->Q (.int .i64 10) s1)
  (q2: ¬(fused=true/\left=0)-> ∀n' s1,n<=n'+20->s1.cx=cxN->s1.next=s.next->Ext Any (λy=>y=D+3\/y=D+5) s (s1.cxN s.cx)->Own s1 D 3 (.int .i64 (wrap64 (steps+1)))->Own s1 D 5 (.int .i64 (if fused then wrap64 (left-1)else left))->W (Ac envS (runF envS n') f2 cap.toList) s1 λ_ s2=>s2.cx=cxN/\Q (.int .i64 0) (s2.cxN s.cx)):
  W (Ac envS (runF envS n) 50 [.pointer (some ⟨D,0,none⟩), .func (.func f2) #[] cap]) s Q:=by
 have hb0:(s.cxN cxN).lim<=(s.cxN cxN).next:=hb
 refine XE_ λtm h h1=> ?_
 refine AjM_.u ?_
 simp only[XW,RR,SS]
 refine AcL_.u ?_
 simp only[Ru_,RR,SS,reduceCtorEq, ↓reduceIte,h,Ab IP al]
 refine aA BB (h4.same (s':=s.cxN cxN) rfl rfl).at' ?_
 have y1:=(Ext.refl (F:=Any) (G:=Non) (s.cxN cxN)).thenRd hb0 (D+(0+4))
 have work: ∀(n':Nat) (tm':T Value) (td':List Item) (s':St),n<=n'+10->skim 64 td'=Kg->s'.next=s.next->Ext Any (λy=>y=D+5) (s.cxN cxN) s'->Own s' D 5 (.int .i64 (if fused then wrap64 (left-1)else left))->T.get tm' 0=some (.pointer (some ⟨D,0,none⟩))->T.get tm' 1=some (.func (.func f2) #[] cap)-> ¬(fused=true/\left=0)->W (runF envS n' ⟨50,ZF_,C6,tm',td', .run, .normal,none⟩) s' λp s1=>Q p.1 (s1.cxN s.cx):=by
  intro n' tm' td' s' hn' hT' hnx x' h5' g0 g1 hc
  have h3':Own s' D 3 (.int .i64 steps):=(h3.same (s':=s.cxN cxN) rfl rfl).ext x' λhq=>J
  refine AiD_.u ?_ hT'
  simp only[Hw_,RR,SS,g0,Ab Si_ al]
  refine Aix_ (x'.bnd hb0) h3' J λw s2 n2 x2 o2=> ?_
  have z2:Ext Any (λy=>y=D+3\/y=D+5) (s.cxN cxN) s2:=(x'.gw hb0 λ_ _ h=> .inr h).on x2 hb0 λy _ hq=> .inl J
  refine Aco_.u ?_
  simp only[Ly_,RR,SS,g1]
  rw[Kp]
  refine W.mono (q2 hc (n'-1-1) s2 J z2.cx J z2.cx' o2 (h5'.ext x2 λhq=>J)) λw2 s3 hq=> ?_
  obtain⟨hcx,hq⟩:=hq
  refine AhZ_.u ?_
  simp only[YE,RR,SS]
  exact aB (rs:=[4]) (vs:=[.int .i64 0]) rfl (.inl Aft_) J Mb EQ_ hcx Y hq
 cases fused with
 |false=>
  simp only[AI,Bk,Hk,Fy,EP,Df, ↓reduceIte,Bool.false_eq_true]
  refine aG QB ?_
  refine Ew_.u ?_
  simp only[M8,RR,SS,reduceCtorEq, ↓reduceIte,h,Ab IP al]
  refine aA BB (h4.same (s':=(s.cxN cxN).rdN (D+(0+4))) rfl rfl).at' ?_
  have y2:=y1.thenRd hb0 (D+(0+4))
  refine aG BD_ ?_
  exact work _ _ _ _ J rfl rfl (y2.gw hb0 λ_ _ h=>h.elim) (h5.same rfl rfl) (an h) (an h1) am
 |true=>
  simp only[SS, ↓reduceIte,Ab JO al]
  refine aA Bv (h5.same (s':=(s.cxN cxN).rdN (D+(0+4))) rfl rfl).at' ?_
  have y2:=y1.thenRd hb0 (D+(0+5))
  simp only[BJ]
  by_cases hl:left=0
  ·refine aJ QB ?_ rfl (an hl)
   refine Aqn_.u ?_
   simp only[Xf,RR,SS,reduceCtorEq, ↓reduceIte,h,Ab Lw al]
   refine aI BB rfl (h6.same (s':=((s.cxN cxN).rdN (D+(0+4))).rdN (D+(0+5))) rfl rfl) λs3 n3 x3 o3=> ?_
   have y3:Ext Any (λy=>y=D+6) (s.cxN cxN) s3:=(y2.gw hb0 λ_ _ h=>h.elim).on x3 hb0 λy _ hq=>by have:=In1.1 (show In (D+6) 0 1 y from⟨by have:=hq.1;omega,by have:=hq.2;omega⟩);omega
   refine WG_.u ?_
   simp only[LQ_,RR,SS]
   refine aB (rs:=[4]) (vs:=[.int .i64 10]) rfl (.inl Aov_) J Mb EQ_ y3.cx Y ?_
   exact q1 ⟨rfl,hl⟩ _ n3 y3.cx' (o3.same rfl rfl)
  ·refine aG QB ?_ rfl (an hl)
   refine Ew_.u ?_
   simp only[M8,RR,SS,reduceCtorEq, ↓reduceIte,h,Ab IP al]
   refine aA BB (h4.same rfl rfl).at' ?_
   have y3:=y2.thenRd hb0 (D+(0+4))
   refine aJ BD_ ?_
   refine Ajd_.u ?_
   simp only[Id_,RR,SS,reduceCtorEq, ↓reduceIte,h,Ab JO al]
   refine aA Bv (h5.same rfl rfl).at' ?_
   have y4:=y3.thenRd hb0 (D+(0+5))
   simp only[HX]
   refine aI Bv rfl (h5.same rfl rfl) λs5 n5 x5 o5=> ?_
   have y5:Ext Any (λy=>y=D+5) (s.cxN cxN) s5:=(y4.gw hb0 λ_ _ h=>h.elim).on x5 hb0 λy _ hq=>by have h1:=hq.1;have h2:=hq.2;omega
   exact work _ _ _ _ J Afy_ n5 y5 o5 (an h) (an h1) (by simp[hl])
end
section
variable {E:Env}{s:St}{t:Nat}
theorem Wl_ {a b:Bool}{xo yo:Operand}(h:E.P.underlying t=some .bool):Cl.get (aBin E .eql t xo yo) (.bool a) (.bool b) s= .some (.bool (a==b)) s:=by
 show AJ E .eql t xo yo (.bool a) (.bool b) s=_
 unfold AJ
 show M.on (semP E.P (do pure (.bool (<-Op.equalIn (9999+1) t (.bool a) (.bool b))))) pV s=_
 have e:semP E.P (Op.equalIn (9999+1) t (.bool a) (.bool b))=some (a==b):=by
  unfold Op.equalIn
  rw[Dj,Lu h]
  rfl
 rw[Dj,e]
 rfl
theorem TT_ {a b:Bool}{xo yo:Operand}(h:E.P.underlying t=some .bool)(Q:Value->St->Prop):W (Cl.get (aBin E .eql t xo yo) (.bool a) (.bool b)) s Q=Q (.bool (a==b)) s:=As (Wl_ h)
theorem Aqi_ {a b:Bool}{xo yo:Operand}(h:E.P.underlying t=some .bool):Cl.get (aBin E .neq t xo yo) (.bool a) (.bool b) s= .some (.bool (!(a==b))) s:=by
 show AJ E .neq t xo yo (.bool a) (.bool b) s=_
 unfold AJ
 show M.on (semP E.P (do pure (.bool (!(<-Op.equalIn (9999+1) t (.bool a) (.bool b)))))) pV s=_
 have e:semP E.P (Op.equalIn (9999+1) t (.bool a) (.bool b))=some (a==b):=by
  unfold Op.equalIn
  rw[Dj,Lu h]
  rfl
 rw[Dj,e]
 rfl
theorem XF_ {a b:Bool}{xo yo:Operand}(h:E.P.underlying t=some .bool)(Q:Value->St->Prop):W (Cl.get (aBin E .neq t xo yo) (.bool a) (.bool b)) s Q=Q (.bool (!(a==b))) s:=As (Aqi_ h)
end
theorem Kd (v:Value):tupV [v]=v:=rfl
theorem AqY_:envS.P.underlying 4=some .bool:=X
theorem A8:D3 envS 9=true:=X
theorem GM_:isK undef=true:=rfl
theorem Aam_:isB undef true=false:=rfl
theorem AdK_:isB undef false=false:=rfl
theorem GF_ (c:Nat->Nat->Bool)(m n:Nat):cmpK c .i32 .i32 m n=some (.bool (c m n)):=by
 unfold cmpK B0
 rw[Nat.beq_refl]
 show mkB (c m n)=_
 unfold mkB
 cases c m n<;>rfl
theorem Is (m n:Nat):Nat.blt m n=decide (m<n):=by
 by_cases h:m<n
 ·rw[decide_eq_true h]
  exact Nat.ble_eq_true_of_le h
 ·rw[decide_eq_false h]
  cases hb:Nat.blt m n with
  |false=>rfl
  |true=>exact absurd (Nat.le_of_ble_eq_true hb) h
section
variable {E:Env}{s:St}{t:Nat}{xo yo:Operand}
theorem Qb_ (m n:Nat):Cl.get (aBin E .lss t xo yo) (.int .i32 (m:Nat)) (.int .i32 (n:Nat)) s= .some (.bool (decide (m<n))) s:=by
 show int3 (cmpK λm n=>Nat.blt m n) (AJ E .lss t xo yo) (.int .i32 (.ofNat m)) (.int .i32 (.ofNat n)) s=_
 show Option.rec (motive:=λ_=>R Value) _ (λv=> .some v s) (cmpK (λm n=>Nat.blt m n) .i32 .i32 m n)=_
 rw[GF_,Is]
theorem Ci_ (m n:Nat):Cl.get (aBin E .gtr t xo yo) (.int .i32 (m:Nat)) (.int .i32 (n:Nat)) s= .some (.bool (decide (n<m))) s:=by
 show int3 (cmpK λm n=>Nat.blt n m) (AJ E .gtr t xo yo) (.int .i32 (.ofNat m)) (.int .i32 (.ofNat n)) s=_
 show Option.rec (motive:=λ_=>R Value) _ (λv=> .some v s) (cmpK (λm n=>Nat.blt n m) .i32 .i32 m n)=_
 rw[GF_,Is]
theorem ET {m:Nat}(Q:Value->St->Prop):W (Cl.get (aBin E .lss t xo yo) (.int .i32 (m:Nat)) (.int .i32 97)) s Q=Q (.bool (decide (m<97))) s:=As (Qb_ m 97)
theorem Gi {m:Nat}(Q:Value->St->Prop):W (Cl.get (aBin E .lss t xo yo) (.int .i32 (m:Nat)) (.int .i32 48)) s Q=Q (.bool (decide (m<48))) s:=As (Qb_ m 48)
theorem WF {m:Nat}(Q:Value->St->Prop):W (Cl.get (aBin E .gtr t xo yo) (.int .i32 (m:Nat)) (.int .i32 122)) s Q=Q (.bool (decide (122<m))) s:=As (Ci_ m 122)
theorem Rw {m:Nat}(Q:Value->St->Prop):W (Cl.get (aBin E .gtr t xo yo) (.int .i32 (m:Nat)) (.int .i32 57)) s Q=Q (.bool (decide (57<m))) s:=As (Ci_ m 57)
theorem GC {m:Nat}(Q:Value->St->Prop):W (Cl.get (aBin E .neq t xo yo) (.int .i32 (m:Nat)) (.int .i32 45)) s Q=Q (.bool (!decide (m=45))) s:=As (neqU .i32 rfl m 45 xo yo)
theorem HE {m:Nat}(Q:Value->St->Prop):W (Cl.get (aBin E .neq t xo yo) (.int .i32 (m:Nat)) (.int .i32 46)) s Q=Q (.bool (!decide (m=46))) s:=As (neqU .i32 rfl m 46 xo yo)
theorem K9 {m:Nat}(Q:Value->St->Prop):W (Cl.get (aBin E .neq t xo yo) (.int .i32 (m:Nat)) (.int .i32 47)) s Q=Q (.bool (!decide (m=47))) s:=As (neqU .i32 rfl m 47 xo yo)
end
def okN (c:Nat):Bool:=decide (97<=c/\c<=122\/48<=c/\c<=57\/c=45\/c=46\/c=47)
def allN (a:ByteArray):Bool:=(List.range a.size).all λi=>okN (a.get! i).toNat
def AC (a:ByteArray):Bool:=decide (1<=a.size/\a.size<=60)&&allN a
theorem AaB_ {a:ByteArray}{p:Nat}(h:okN (a.get! p).toNat=true):Utf8.decode a p=((a.get! p).toNat,1):=by
 unfold okN at h
 have h':=of_decide_eq_true h
 unfold Utf8.decode
 simp only[Nat.add_zero]
 rw[if_pos J]
theorem Xa_ {a:ByteArray}{p:Nat}(h:okN (a.get! p).toNat=false):okN (Utf8.decode a p).1=false:=by
 have big: ∀c:Nat,128<=c->okN c=false:=λc hc=>by
  unfold okN
  exact decide_eq_false J
 unfold Utf8.decode
 simp only[Nat.add_zero]
 split
 ·exact h
 ·split
  ·split
   ·exact big _ ‹_›
   ·exact big _ al
  ·split
   ·split
    ·rename_i q
     rw[Bool.and_eq_true,decide_eq_true_eq]at q
     exact big _ (by have:=q.1;omega)
    ·exact big _ al
   ·split
    ·split
     ·rename_i q
      rw[Bool.and_eq_true,decide_eq_true_eq]at q
      exact big _ (by have:=q.1;omega)
     ·exact big _ al
    ·exact big _ al
section
variable {n:Nat}{s:St}{a:ByteArray}{Q:Value->St->Prop}
theorem Aiy_ {c:Nat}(hn:20<=n)(q: ∀s1,s1.mem=s.mem->s1.next=s.next->Ext Any Non s s1->Q (.bool (!okN c)) s1):W (Ac envS (runF envS n) 68 [.int .i32 (c:Nat)]) s Q:=by
 refine Tx_ λtm h=> ?_
 refine Abl_.u ?_
 simp only[Za,RR,SS]
 refine TS_.u ?_
 have fin: ∀(b:Bool) (n':Nat) (tm':T Value) (td:List Item),2<=n'->skim 64 td=Nq->T.get tm' 2=some (.bool b)->b= !okN c->W (runF envS n' ⟨68,AiI_,LI,tm',td, .run, .normal,none⟩) (s.cxN cxN) λp s1=>Q p.1 (s1.cxN s.cx):=by
  intro b n' tm' td hn' hT g2 hb
  refine aB (rs:=[2]) (vs:=[.bool b]) hT (.inl AqA_) J Ug AlQ_ rfl (by simp[g2]) ?_
  rw[hb]
  exact q _ rfl rfl (Ext.refl (F:=Any) (G:=Non) s)
 have cs:(c<45)\/(c=45)\/(c=46)\/(c=47)\/(48<=c/\c<=57)\/(58<=c/\c<=96)\/(97<=c/\c<=122)\/(123<=c):=J
 rcases cs with hc|hc|hc|hc|hc|hc|hc|hc
 ·have e0:decide (c<97)=true:=decide_eq_true J;have e1:decide (122<c)=false:=decide_eq_false J;have e2:decide (c<48)=true:=decide_eq_true J;have e3:decide (57<c)=false:=decide_eq_false J;have e4:decide (c=45)=false:=decide_eq_false J;have e5:decide (c=46)=false:=decide_eq_false J;have e6:decide (c=47)=false:=decide_eq_false J
  simp only[Ec,RR,SS,reduceCtorEq, ↓reduceIte,h,ET,Gi,GC,HE,K9,e0,e2,e4,e5,e6,Bool.not_false]
  exact fin true _ _ _ J rfl Y (by unfold okN;rw[decide_eq_false J];rfl)
 ·have e0:decide (c<97)=true:=decide_eq_true J;have e1:decide (122<c)=false:=decide_eq_false J;have e2:decide (c<48)=true:=decide_eq_true J;have e3:decide (57<c)=false:=decide_eq_false J;have e4:decide (c=45)=true:=decide_eq_true J;have e5:decide (c=46)=false:=decide_eq_false J;have e6:decide (c=47)=false:=decide_eq_false J
  simp only[Ec,RR,SS,reduceCtorEq, ↓reduceIte,h,ET,Gi,GC,e0,e2,e4,Bool.not_true,Bool.false_eq_true]
  exact fin false _ _ _ J rfl Y (by unfold okN;rw[decide_eq_true J];rfl)
 ·have e0:decide (c<97)=true:=decide_eq_true J;have e1:decide (122<c)=false:=decide_eq_false J;have e2:decide (c<48)=true:=decide_eq_true J;have e3:decide (57<c)=false:=decide_eq_false J;have e4:decide (c=45)=false:=decide_eq_false J;have e5:decide (c=46)=true:=decide_eq_true J;have e6:decide (c=47)=false:=decide_eq_false J
  simp only[Ec,RR,SS,reduceCtorEq, ↓reduceIte,h,ET,Gi,GC,HE,e0,e2,e4,e5,Bool.not_true,Bool.not_false,Bool.false_eq_true]
  exact fin false _ _ _ J rfl Y (by unfold okN;rw[decide_eq_true J];rfl)
 ·have e0:decide (c<97)=true:=decide_eq_true J;have e1:decide (122<c)=false:=decide_eq_false J;have e2:decide (c<48)=true:=decide_eq_true J;have e3:decide (57<c)=false:=decide_eq_false J;have e4:decide (c=45)=false:=decide_eq_false J;have e5:decide (c=46)=false:=decide_eq_false J;have e6:decide (c=47)=true:=decide_eq_true J
  simp only[Ec,RR,SS,reduceCtorEq, ↓reduceIte,h,ET,Gi,GC,HE,K9,e0,e2,e4,e5,e6,Bool.not_true,Bool.not_false]
  exact fin false _ _ _ J rfl Y (by unfold okN;rw[decide_eq_true J];rfl)
 ·have e0:decide (c<97)=true:=decide_eq_true J;have e1:decide (122<c)=false:=decide_eq_false J;have e2:decide (c<48)=false:=decide_eq_false J;have e3:decide (57<c)=false:=decide_eq_false J;have e4:decide (c=45)=false:=decide_eq_false J;have e5:decide (c=46)=false:=decide_eq_false J;have e6:decide (c=47)=false:=decide_eq_false J
  simp only[Ec,RR,SS,reduceCtorEq, ↓reduceIte,h,ET,Gi,Rw,e0,e2,e3,Bool.false_eq_true]
  exact fin false _ _ _ J rfl Y (by unfold okN;rw[decide_eq_true J];rfl)
 ·have e0:decide (c<97)=true:=decide_eq_true J;have e1:decide (122<c)=false:=decide_eq_false J;have e2:decide (c<48)=false:=decide_eq_false J;have e3:decide (57<c)=true:=decide_eq_true J;have e4:decide (c=45)=false:=decide_eq_false J;have e5:decide (c=46)=false:=decide_eq_false J;have e6:decide (c=47)=false:=decide_eq_false J
  simp only[Ec,RR,SS,reduceCtorEq, ↓reduceIte,h,ET,Gi,Rw,GC,HE,K9,e0,e2,e3,e4,e5,e6,Bool.not_false,Bool.false_eq_true]
  exact fin true _ _ _ J rfl Y (by unfold okN;rw[decide_eq_false J];rfl)
 ·have e0:decide (c<97)=false:=decide_eq_false J;have e1:decide (122<c)=false:=decide_eq_false J;have e2:decide (c<48)=false:=decide_eq_false J;have e3:decide (57<c)=true:=decide_eq_true J;have e4:decide (c=45)=false:=decide_eq_false J;have e5:decide (c=46)=false:=decide_eq_false J;have e6:decide (c=47)=false:=decide_eq_false J
  simp only[Ec,RR,SS,reduceCtorEq, ↓reduceIte,h,GM_,AdK_,ET,WF,e0,e1,Bool.false_eq_true]
  exact fin false _ _ _ J rfl Y (by unfold okN;rw[decide_eq_true J];rfl)
 ·have e0:decide (c<97)=false:=decide_eq_false J;have e1:decide (122<c)=true:=decide_eq_true J;have e2:decide (c<48)=false:=decide_eq_false J;have e3:decide (57<c)=true:=decide_eq_true J;have e4:decide (c=45)=false:=decide_eq_false J;have e5:decide (c=46)=false:=decide_eq_false J;have e6:decide (c=47)=false:=decide_eq_false J
  simp only[Ec,RR,SS,reduceCtorEq, ↓reduceIte,h,ET,Gi,WF,Rw,GC,HE,K9,e0,e1,e2,e3,e4,e5,e6,Bool.not_false,Bool.false_eq_true]
  exact fin true _ _ _ J rfl Y (by unfold okN;rw[decide_eq_false J];rfl)
theorem W.tyStr {Q:Value->St->Prop}(q: ∀s1,s1.next=s.next+1->Ext Non Non s s1->Obj s1 s.next (.sit a 0)->Q (.chan (some s.next)) s1):W (Dz envS 9 (.string a)) s Q:=by
 obtain⟨i,hi,hu⟩:=Jy A8
 unfold Dz
 refine W.bind (W.ti hi ?_)
 rw[hu]
 exact W.bind (W.newO λs1 n1 x1 o1=>W.pure (q s1 n1 x1 o1))
theorem Kl_ {p:Nat}(h: ∀i,i<a.size->okN (a.get! i).toNat=true):allN a=true:=by
 unfold allN
 rw[List.all_eq_true]
 exact λi hi=>h i (List.mem_range.1 hi)
theorem W0 {p:Nat}(hp:p<a.size)(h:okN (a.get! p).toNat=false):allN a=false:=by
 unfold allN
 rw[List.all_eq_false]
 exact⟨p,List.mem_range.2 hp,by rw[h];simp⟩
theorem AfA_ {L:Nat}{Q:Value×FrameMode->St->Prop}{s0:St}(hb0:s0.lim<=s0.next)(hL:s0.next<=L)(hcx:s0.cx=cxN)
  (q1:allN a=true-> ∀s1,Ext Any Non s0 s1->Q (.int .i64 (-1), .run) s1) (q2:allN a=false-> ∀(j:Nat) s1,Ext Any Non s0 s1->Q (.int .i64 (j:Nat), .run) s1):
  ∀(k p n:Nat) (tm:T Value) (s:St) (td:List Item),p+k=a.size->10*k+40<=n->skim 64 td=Ku->(∀i,i<p->okN (a.get! i).toNat=true)->Ext Any Non s0 s->Obj s L (.sit a p)->
  T.get tm 1=some (.func (.func 68) #[] #[])->T.get tm 2=some (.bool true)->T.get tm 10=some (.chan (some L))->
  W (runF envS n ⟨83,Apt_,DZ,tm,td, .run, .normal,none⟩) s Q:=by
 intro k
 induction k with
 |zero=>
  intro p n tm s td hp hn hT hok hx ho h1 h2 h10
  refine Sj_.u ?_ hT
  simp only[NI,RR,SS,h10]
  refine W.bind (W.rdC ho.2 ho.1 ?_)
  show W (fN p λpos=>sitN L a pos) (s.rdN L) _
  rw[Ar]
  unfold sitN
  rw[Is,decide_eq_false J]
  show W (M.pure (Value.tuple #[.bool false])) (s.rdN L) _
  rw[AI,BL (k:=0) rfl]
  have y:=hx.thenRd hb0 L
  refine aG Hr_ ?_
  refine AeX_.u ?_
  simp only[Md_,RR,SS]
  refine aB (rs:=[6]) (vs:=[.int .i64 (-1)]) rfl (.inl Alk_) J OF W4 (y.cx.trans hcx) Y ?_
  exact q1 (Kl_ (p:=p) λi hi=>hok i J) _ y
 |succ k ih=>
  intro p n tm s td hp hn hT hok hx ho h1 h2 h10
  have hlt:p<a.size:=J
  refine Sj_.u ?_ hT
  simp only[NI,RR,SS,h10]
  refine W.bind (W.rdC ho.2 ho.1 ?_)
  show W (fN p λpos=>sitN L a pos) (s.rdN L) _
  rw[Ar]
  unfold sitN
  rw[Is,decide_eq_true hlt]
  have o1':Obj (s.rdN L) L (.sit a p):=ho.same rfl rfl
  generalize hd:Utf8.decode a p=dd
  obtain⟨c,w⟩:=dd
  refine W.bind (W.wrC (s:=s.rdN L) o1'.1 ?_)
  show W (fN p λpos=>fN (Utf8.decode a pos).1 λc=>M.pure (Value.tuple #[.bool true, .int .i64 (.ofNat pos), .int .i32 (.ofNat c)])) ((s.rdN L).wrN L (.O (.sit a (p+w)))) _
  rw[Ar,Ar,hd,AI]
  have z2:=Ext.wrO (s:=s) L (.O (.sit a (p+w)))
  have o2:Obj ((s.rdN L).wrN L (.O (.sit a (p+w)))) L (.sit a (p+w)):=Obj.wrO ho
  generalize (s.rdN L).wrN L (.O (.sit a (p+w)))=s2 at *
  have y2:=hx.on z2 hb0 λx hx hq=>by have:x<s0.next:=hx;omega
  rw[BL (k:=0) rfl]
  try simp only[SS]
  refine aJ Hr_ ?_
  refine AkT_.u ?_
  simp only[Ua,RR,SS,Nat.reduceEqDiff, ↓reduceIte]
  rw[BL (k:=1) rfl,BL (k:=2) rfl]
  refine AmF_.u ?_
  simp only[FT_,RR,SS,Nat.reduceEqDiff, ↓reduceIte,h1,h2]
  refine Aiy_ (c:=c) J λs3 m3 n3 x3=> ?_
  have y3:=y2.on x3 hb0 λ_ _ h=>h
  have o3:Obj s3 L (.sit a (p+w)):=o2.same m3 n3
  rw[TT_ AqY_]
  cases hk:okN (a.get! p).toNat with
  |true=>
   have e:=AaB_ hk
   rw[hd]at e
   obtain⟨rfl,rfl⟩:c=(a.get! p).toNat/\w=1:=by simpa using e
   refine aG Ho_ ?_ rfl (an hk)
   exact ih (p+1) _ _ _ _ J J Amd_ (λi hi=>by
    by_cases e:i=p
    ·rw[e];exact hk
    ·exact hok i J) y3 o3 (an h1) (an h2) (an h10)
  |false=>
   have e:=Xa_ hk
   rw[hd]at e
   have e':okN c=false:=e
   refine aJ Ho_ ?_ rfl (an e')
   refine ZH_.u ?_
   simp only[MK_,RR,SS,Nat.reduceEqDiff, ↓reduceIte]
   refine aB (rs:=[6]) (vs:=[.int .i64 (p:Nat)]) rfl (.inl XL_) J OF W4 (y3.cx.trans hcx) Y ?_
   exact q2 (W0 hlt hk) p _ y3
theorem Wr_ (hb:s.lim<=s.next)(hn:10*a.size+60<=n)(q1:allN a=true-> ∀s1,Ext Any Non s s1->Q (.int .i64 (-1)) s1)(q2:allN a=false-> ∀(j:Nat) s1,Ext Any Non s s1->Q (.int .i64 (j:Nat)) s1):W (Ac envS (runF envS n) 83 [.string a, .func (.func 68) #[] #[], .bool true]) s Q:=by
 have hb0:(s.cxN cxN).lim<=(s.cxN cxN).next:=hb
 refine Arp_ λtm h h1 h2=> ?_
 refine AqX_.u ?_
 simp only[JZ_,RR,SS]
 refine AcQ_.u ?_
 simp only[PG_,RR,SS,reduceCtorEq, ↓reduceIte,h]
 refine W.tyStr λs1 n1 x1 o1=> ?_
 have ea:(s.cxN cxN).next=s.next:=rfl
 rw[ea]at o1 n1 ⊢
 have y1:=(Ext.refl (F:=Any) (G:=Non) (s.cxN cxN)).on x1 hb0 λ_ _ h=>h
 exact AfA_ (s0:=s.cxN cxN) hb0 (Nat.le_refl _) rfl (λe s2 x2=>q1 e _ x2.cx') (λe j s2 x2=>q2 e j _ x2.cx') a.size 0 _ _ _ _ J J rfl (λi hi=>J) y1 o1 (an h1) (an h2) (by simp[T.get_set];rfl)
theorem Nt_ (hb:s.lim<=s.next)(hn:10*a.size+100<=n)(q: ∀s1,Ext Any Non s s1->Q (.bool (AC a)) s1):W (Ac envS (runF envS n) 49 [.string a]) s Q:=by
 have hb0:(s.cxN cxN).lim<=(s.cxN cxN).next:=hb
 refine XG_ λtm h=> ?_
 refine Ajp_.u ?_
 simp only[QJ_,RR,SS]
 refine Aks_.u ?_
 simp only[Bm_,RR,SS,reduceCtorEq, ↓reduceIte,h]
 have fin: ∀(n':Nat) (tm':T Value) (td:List Item) (s1:St),10<=n'->skim 64 td=Pw->Ext Any Non (s.cxN cxN) s1->T.get tm' 0=some (.string a)->T.get tm' 3=some (.bool (!allN a))->W (runF envS n' ⟨49,KY_,G6,tm',td, .run, .normal,none⟩) s1 λp s1=>Q p.1 (s1.cxN s.cx):=by
  intro n' tm' td s1 hn' hT x1 g0 g3
  refine Aie_.u ?_ hT
  have e0:(a.data.toList==({data:= #[]}:ByteArray).data.toList)=decide (a.size=0):=by
   show(a.data.toList==([]:List UInt8))=decide (a.data.size=0)
   rw[<-Array.length_toList]
   cases a.data.toList<;>rfl
  have go: ∀b:Bool,b=AC a-> ∀(n':Nat) (tm':T Value) (td:List Item),2<=n'->skim 64 td=N6->T.get tm' 2=some (.bool b)->W (runF envS n' ⟨49,KY_,G6,tm',td, .run, .normal,none⟩) s1 λp s1=>Q p.1 (s1.cxN s.cx):=by
   intro b hb' n' tm' td hn' hT g2
   refine aB (rs:=[2]) (vs:=[.bool b]) hT (.inl Anf_) J NB_ Api_ x1.cx (by simp[g2]) ?_
   rw[hb']
   exact q _ x1.cx'
  by_cases hz:a.size=0
  ·simp only[LS,RR,SS, ↓reduceIte,g0,g3,Ke,e0,decide_eq_true hz,Bool.not_true,Bool.false_eq_true]
   exact go false (by unfold AC;rw[decide_eq_false J];rfl) _ _ _ J rfl Y
  ·by_cases hq:a.size<=60
   ·have e2:decide (((a.size:Nat):Int)<=60)=true:=decide_eq_true J
    simp only[LS,RR,SS, ↓reduceIte,K1,g0,g3,Ke,e0,decide_eq_false hz,Bool.not_false,CA A8,e2,A5,Bool.not_not]
    exact go (allN a) (by unfold AC;rw[decide_eq_true J];rfl) _ _ _ J rfl Y
   ·have e2:decide (((a.size:Nat):Int)<=60)=false:=decide_eq_false J
    simp only[LS,RR,SS, ↓reduceIte,K1,g0,g3,Ke,e0,decide_eq_false hz,Bool.not_false,CA A8,e2,Bool.false_eq_true]
    exact go false (by unfold AC;rw[decide_eq_false J];rfl) _ _ _ J rfl Y
 refine Amr_ λtmc c0 c1=> ?_
 refine Aci_.u ?_
 simp only[DJ_,RR,SS]
 refine UX_.u ?_
 simp only[GL_,RR,SS,Nat.reduceEqDiff,reduceCtorEq, ↓reduceIte,c0,c1]
 refine Uw_ λtmi i0 i1=> ?_
 refine Yb_.u ?_
 simp only[Ni_,RR,SS]
 refine Zf_.u ?_
 simp only[UT,RR,SS,Nat.reduceEqDiff,reduceCtorEq, ↓reduceIte,i0,i1]
 refine Wr_ hb0 J (λe s1 x1=> ?_) λe j s1 x1=> ?_
 ·try simp only[SS,Nat.reduceEqDiff,reduceCtorEq, ↓reduceIte]
  refine aB (rs:=[4]) (vs:=[.int .i64 (-1)]) rfl (.inl Cq_) J Ob UG x1.cx Y ?_
  show W _ (s1.cxN cxN) _
  simp only[B9,Kd]
  refine aB (rs:=[4]) (vs:=[.bool false]) rfl (.inl Ix_) J MU KU_ rfl Y ?_
  show W _ ((s1.cxN cxN).cxN cxN) _
  try simp only[Kd]
  exact fin _ _ _ _ J rfl ⟨x1.nxt,x1.lim,rfl,x1.mem,x1.rd,x1.wr⟩ (an h) (an e)
 ·try simp only[SS,Nat.reduceEqDiff,reduceCtorEq, ↓reduceIte]
  refine aB (rs:=[4]) (vs:=[.int .i64 (j:Nat)]) rfl (.inl Cq_) J Ob UG x1.cx Y ?_
  show W _ (s1.cxN cxN) _
  simp only[B9,Kd]
  refine aB (rs:=[4]) (vs:=[.bool true]) rfl (.inl Ix_) J MU KU_ rfl Y ?_
  show W _ ((s1.cxN cxN).cxN cxN) _
  try simp only[Kd]
  exact fin _ _ _ _ J rfl ⟨x1.nxt,x1.lim,rfl,x1.mem,x1.rd,x1.wr⟩ (an h) (an e)
end
theorem BH:slN envS 32=some 1:=X
theorem LE:appT envS 32 32=some (1,1,false,[.int .u8 0]):=X
theorem A2:tyS envS 32=some (1,false):=X
theorem DL (E:Env)(t t2:Nat)(s x:Value)(st:St)(Q:Value->St->Prop):W (AH E .append [t,t2] [s,x]) st Q=W (BV E t t2 s x) st Q:=rfl
theorem CU {l:List Nat}(h: ∀x∈l,False):l=[]:=by
 cases l with
 |nil=>rfl
 |cons y _=>exact(h y am).elim
theorem MkS.one {s:St}{sz n:Nat}{l:List Value}{v:Value}{b:Nat}(h:MkS s sz n l v b):oneCell v=true:=by
 rcases h with⟨rfl,_⟩|⟨h,_⟩
 ·rfl
 ·rw[h.val];rfl
theorem RX (l m:List Nat):u8l (l++m)=u8l l++u8l m:=by unfold u8l;rw[List.map_append]
theorem WH_:Wq_=[]:=X
section
variable {n:Nat}{s:St}
theorem Cz_ {C K blk lbk:Nat}{lv bv:Value}{lb l:List Nat}{tm:T Value}{td:List Item}{Q:Value×FrameMode->St->Prop}(hb:s.lim<=s.next)(h6:Own s K 0 (.pointer (some ⟨blk,0,none⟩)))(h4:Own s C 0 bv)(hl:Own s blk 1 lv)(hm:MkS s 1 lb.length (u8l lb) lv lbk)(hB:Bs s bv l)(hz:lb.length+l.length<=5000000)
  (hK: ¬MkF 1 lb.length lbk K) (hbl: ¬MkF 1 lb.length lbk (blk+1)) (t0:T.get tm 0=some (.pointer (some ⟨K,0,none⟩))) (t3:T.get tm 3=some (.pointer (some ⟨C,0,none⟩))) (hT:skim 64 td=HC) (hn:20<=n) (hcx:s.cx=cxN)
  (q: ∀s1 v b,Ext Any (λx=>x=blk+1\/MkF 1 lb.length lbk x) s s1->Own s1 blk 1 v->MkS s1 1 (lb.length+l.length) (u8l (lb++l)) v b->(b=lbk/\l.length=0\/s.next<=b)->Q (.tuple #[], .run) s1):
  W (runF envS n ⟨51,Afk_,Fk,tm,td, .run, .normal,none⟩) s Q:=by
 refine Vf_.u ?_ hT
 simp only[Rs_,RR,t0,t3,Aa]
 refine aD Ca ((h6.same (s':=dSt s.mem s.next) rfl rfl).at') λrd0 hr0=> ?_
 refine aD Ca ((h6.same (s':=dSt s.mem s.next) rfl rfl).at') λrd1 hr1=> ?_
 try simp only[Aa]
 rw[W_dq λs Q=>AD (s:=s) _ Q]
 dsimp only
 try simp only[Aa]
 rw[W_dq λs Q=>Ab (s:=s) CS al Q]
 dsimp only
 try simp only[Aa]
 refine aD A2 ((hl.same (s':=dSt s.mem s.next) rfl rfl).at') λrd4 hr4=> ?_
 refine aD A2 ((h4.same (s':=dSt s.mem s.next) rfl rfl).at') λrd5 hr5=> ?_
 try simp only[Aa,A0,A3,AW]
 refine aS ?_
 rw[DL]
 refine W.appV (s:=oSt s.mem s.next) (Nat.le_refl _) LE (hm.same rfl rfl) (hB.same (s':=oSt s.mem s.next) rfl rfl).src.g al al J (by rw[Br,Nat.mul_one]) (FF l) λs2 v2 b2 hb2 mk2 x2=>⟨_,_,x2,λrd6 wr6 hr6 hw6=> ?_⟩
 have n2:s.next<=s2.next:=x2.nxt
 try simp only[Aa]
 rw[W_dq λs Q=>AD (s:=s) _ Q]
 dsimp only
 try simp only[Aa]
 rw[W_dq λs Q=>Ab (s:=s) CS al Q,AI]
 refine⟨CP ?_, ?_⟩
 ·simp only[List.reverse_cons,List.reverse_nil,List.nil_append,List.cons_append,allP,BS,List.take,Cu]
  have lts: ∀x,s.next<=x-> ¬x<s.next:=λx h=>J
  have e0: ∀x,x∈rd0->x=K:=λx h=>by have:=hr0 x h;omega
  have e6: ∀x,x∈rd6->x<s.next:=λx h=>(hr6 x h).1
  have w6: ∀x,x∈wr6->x<s.next:=λx h=>(hw6 x h).1
  have g6: ∀x,x∈wr6-> ¬x∈rd0:=λx h1 h2=>hK (by have h3:=(hw6 x h1).2;rw[e0 x h2]at h3;exact h3)
  have a6: ∀x,x∈rd6->s.next<=x->False:=λx h1 h2=>by have:=e6 x h1;omega
  have b6: ∀x,x∈wr6->s.next<=x->False:=λx h1 h2=>by have:=w6 x h1;omega
  simp+contextual [lts,g6]
  exact⟨.inl rfl, .inl rfl, .inl rfl⟩
 ·refine aK (AcM_ _ _ _ _ _ _ _ _ _ _ _ _ _ _) ?_
  simp only[SS]
  generalize hs':(⟨(dSt s2.mem s2.next).mem,(dSt s2.mem s2.next).next,s.lim,_,_,s.cx⟩:St)=s7
  have m7:s7.mem=s2.mem:=by rw[<-hs'];rfl
  have n7:s7.next=s2.next:=by rw[<-hs'];rfl
  have x7:Ext Any (λx=>MkF 1 lb.length lbk x) s s7:=by
   rw[<-hs']
   refine aU (by show s.next<=s2.next;omega) (λx hx hg=>x2.mem x hx hg) ?_ λ_ _ _ _ _=>trivial
   simp only[List.mem_cons,List.not_mem_nil,or_false]
   rintro m (rfl|rfl|rfl|rfl|rfl|rfl|rfl|rfl|rfl) x hx hxl<;>first|(cases hx;done)|exact(hw6 x hx).2
  have hl7:Own s7 blk 1 lv:=hl.ext x7 hbl
  refine aI A2 mk2.one (hl7.same rfl rfl) λs8 n8 x8 o8=> ?_
  have y8:Ext Any (λx=>x=blk+1\/MkF 1 lb.length lbk x) s s8:=(x7.gw hb λ_ _ h=> .inr h).on x8 hb λy _ hq=> .inl (by have h1:=hq.1;have h2:=hq.2;omega)
  refine aB (rs:=[]) (vs:=[]) rfl (.inr WH_) J Eg_ YK_ (y8.cx.trans hcx) rfl ?_
  have mk8:MkS s8 1 (lb.length+l.length) (u8l (lb++l)) v2 b2:=by
   rw[RX]
   refine(mk2.same m7 n7).ext x8 λx hx hq=> ?_
   have h1:=hq.1
   have h2:=hq.2
   have hxe:x=blk+1:=J
   subst hxe
   rcases hb2 with h|h
   ·rw[h.1,h.2,Nat.add_zero]at hx
    exact hbl hx
   ·have h3:=hx.2.1
    have h4:=hl.1
    have h5:(oSt s.mem s.next).next<=b2:=h
    have h6:s.next<=b2:=h5
    omega
  exact q s8 v2 b2 y8 o8 mk8 hb2
end
def An (fs:List FileS)(a:ByteArray):Option Nat:=(fs.map FileS.name).findIdx? λb=>a==b
def AG (fs:List FileS)(a:ByteArray):Value:=match An fs a with
 |none=> .pointer none
 |some j=>match fs[j]? with
  |some f=> .pointer (some ⟨f.blk,0,none⟩)
  |none=> .pointer none
theorem FC (fs:List FileS):(fs.map FileS.ent).map (·.key)=(fs.map FileS.name).map Value.string:=by rw[List.map_map,List.map_map];rfl
theorem Dh {fs:List FileS}{a:ByteArray}{j:Nat}(h:An fs a=some j):j<fs.length:=by
 have:=(List.findIdx?_eq_some_iff_getElem.1 h).1
 simpa using this
theorem DE {s:St}{M mx:Nat}{fs:List FileS}{a:ByteArray}{Q:Value->St->Prop}(ho:Obj s M (.map (fs.map FileS.ent) mx))(q:Q (AG fs a) (s.rdN M)):W (B6 envS 49 false (.map (some M)) (.string a)) s Q:=by
 unfold AG at q
 cases hj:An fs a with
 |none=>
  rw[hj]at q
  exact W.lookS0 FK Aoo_ Fw (FC fs) hj ho q
 |some j=>
  rw[hj]at q
  have hlt:=Dh hj
  simp only[List.getElem?_eq_getElem hlt]at q
  exact W.lookS1 (j:=j) (e:=fs[j].ent) FK Fw (FC fs) hj (by rw[List.getElem?_map,List.getElem?_eq_getElem hlt];rfl) ho q
def DkS.used (k:DkS):Nat:=(k.fs.map λf=>f.sb.length+f.lb.length).sum
theorem DkI.lens {s:St}{col:Nat->Nat}{D M:Nat}{k:DkS}(h:DkI s col D M k): ∀(i:Nat) (e:MapEntry) (n:Nat),(k.fs.map FileS.ent)[i]?=some e->(k.fs.map λf=>f.sb.length+f.lb.length)[i]?=some n->FL s e n:=by
 intro i e n h1 h2
 rw[List.getElem?_map]at h1 h2
 obtain⟨f,hf,rfl⟩:=Option.map_eq_some_iff.1 h1
 rw[hf]at h2
 cases h2
 obtain⟨hi,rfl⟩:=List.getElem?_eq_some_iff.1 hf
 have g:=h.fl i hi
 obtain⟨p1,c1,e1⟩:=g.ms.sl
 obtain⟨p2,c2,e2⟩:=g.ml.sl
 have o0:=g.o0
 have o1:=g.o1
 rw[e1]at o0
 rw[e2]at o1
 exact⟨_,p1,_,c1,p2,_,c2,rfl,o0.at',o1.at',rfl⟩
structure After (s s1:St)(col col':Nat->Nat)(D M:Nat)(k:DkS):Prop where
 inv:DkI s1 col' D M k
 agree: ∀x,x<s.next->col' x=col x
 ext:Ext Any (λx=>col x<1000) s s1
def CV (k:DkS)(a:ByteArray)(blk:Nat)(v:Value)(b:Nat)(l:List Nat):List FileS:=match An k.fs a with
 |some j=>match k.fs[j]? with
  |some f=>k.fs.set j {f with lv:=v,lbk:=b,lb:=f.lb++l}
  |none=>k.fs
 |none=>k.fs++[⟨a,k.mx,blk, .slice none 0 0,0,[],v,b,l⟩]
def Gw (k:DkS)(a:ByteArray):Nat:=match An k.fs a with|some _=>k.mx|none=>k.mx+1
theorem Hr (a b:Int){E:Env}{s:St}{xo yo:Operand}{t:Nat}(Q:Value->St->Prop):W (Cl.get (aBin E .add t xo yo) (.int .i64 a) (.int .i64 b)) s Q=Q (.int .i64 (wrap64 (a+b))) s:=As (UU _ a b)
theorem Py {e:MapEntry}: ∀{es:List MapEntry} {lo n:Nat},AT es lo n=true->lo<=n->e.born=n->AT (es++[e]) lo (n+1)=true
 |[],lo,n,_,hle,he=>by
  show(Nat.ble lo e.born&&Nat.blt e.born (n+1)&&AT [] (e.born+1) (n+1))=true
  rw[he,Nat.ble_eq_true_of_le hle,Bz J]
  rfl
 |x::es,lo,n,h,hle,he=>by
  unfold AT at h
  rw[Bool.and_eq_true,Bool.and_eq_true]at h
  have h2:x.born<n:=Nat.le_of_ble_eq_true h.1.2
  show(Nat.ble lo x.born&&Nat.blt x.born (n+1)&&AT (es++[e]) (x.born+1) (n+1))=true
  rw[h.1.1,Bz J,Py h.2 J he]
  rfl
theorem UJ {α:Type}(x y:α): ∀l:List α,(l++[x]).set l.length y=l++[y]
 |[]=>rfl
 |z::l=>by
  show z::(l++[x]).set l.length y=z::(l++[y])
  rw[UJ x y l]
theorem AbQ_ {l:List Nat}{i:Nat}(h:i<l.length):l[i]<=l.sum:=by
 have e:l=l.take i++l[i]::l.drop (i+1):=by rw[List.getElem_cons_drop,List.take_append_drop]
 have:l.sum=(l.take i).sum+(l[i]+(l.drop (i+1)).sum):=by
  conv=>lhs;rw[e]
  rw[List.sum_append,List.sum_cons]
 omega
theorem aV {k:DkS}{j:Nat}(h:j<k.fs.length):k.fs[j].sb.length+k.fs[j].lb.length<=k.used:=by
 unfold DkS.used
 have:=AbQ_ (l:=k.fs.map λf=>f.sb.length+f.lb.length) (i:=j) (by simpa using h)
 simpa using this
theorem DkI.file {F G:Nat->Prop}{s s':St}{col col':Nat->Nat}{D M j:Nat}{k:DkS}{f':FileS}(h:DkI s col D M k)(hj:j<k.fs.length)(x:Ext F G s s')(hG: ∀y,y<s.next->G y->2+3*j<=col y/\col y<=2+3*j+2)(ec: ∀y,y<s.next->col' y=col y)(hf:FileI s' col' (2+3*j) f')(he:f'.ent=k.fs[j].ent):DkI s' col' D M {k with fs:=k.fs.set j f'}:=by
 have c: ∀o,o<7->D+o<s.next-> ¬G (D+o):=λo ho hn g=>by
  have h1:=hG _ hn g
  have h2:=h.kd (D+o) J J
  omega
 have em:(k.fs.set j f').map FileS.ent=k.fs.map FileS.ent:=by
  rw[List.map_set,he]
  apply List.ext_getElem
  ·simp
  ·intro i h1 h2
   rw[List.getElem_set]
   by_cases c:j=i
   ·subst c;simp
   ·simp[c]
 have b6:=h.d6.1
 refine⟨h.d0.ext x (c 0 al h.d0.1),h.d1.ext x (c 1 al h.d1.1),h.d2.ext x (c 2 al h.d2.1),h.d3.ext x (c 3 al h.d3.1),h.d4.ext x (c 4 al h.d4.1),h.d5.ext x (c 5 al h.d5.1),h.d6.ext x (c 6 al h.d6.1),λy h1 h2=>(ec y J).trans (h.kd y h1 h2), ?_,(ec M h.om.1).trans h.km, ?_,λi hi=> ?_⟩
 ·show Obj s' M (.map ((k.fs.set j f').map FileS.ent) k.mx)
  rw[em]
  exact h.om.ext x λg=>by
   have h1:=hG _ h.om.1 g
   have h2:=h.km
   omega
 ·show AT ((k.fs.set j f').map FileS.ent) 0 k.mx=true
  rw[em]
  exact h.bo
 ·show FileI s' col' (2+3*i) (k.fs.set j f')[i]
  by_cases q:i=j
  ·subst q
   rw[List.getElem_set_self]
   exact hf
  ·have hi':i<k.fs.length:=by simpa using hi
   rw[List.getElem_set_ne J]
   refine((h.fl i hi').col ec).ext x λy hy g=> ?_
   have h1:=hG y hy g
   rw[ec y hy]
   omega
theorem DkI.newF {s s':St}{F:Nat->Prop}{col col':Nat->Nat}{D M:Nat}{k:DkS}{f:FileS}(h:DkI s col D M k)(x:Ext F (λy=>y=M) s s')(ec: ∀y,y<s.next->col' y=col y)(hM:Obj s' M (.map (k.fs.map FileS.ent++[f.ent]) (k.mx+1)))(hb:f.born=k.mx)(hf:FileI s' col' (2+3*k.fs.length) f):DkI s' col' D M {k with fs:=k.fs++[f],mx:=k.mx+1}:=by
 have c: ∀o,o<7-> ¬D+o=M:=λo ho e=>by
  have h2:=h.kd (D+o) J J
  rw[e,h.km]at h2
  omega
 have b6:=h.d6.1
 refine⟨h.d0.ext x (c 0 al),h.d1.ext x (c 1 al),h.d2.ext x (c 2 al),h.d3.ext x (c 3 al),h.d4.ext x (c 4 al),h.d5.ext x (c 5 al),h.d6.ext x (c 6 al),λy h1 h2=>(ec y J).trans (h.kd y h1 h2), ?_,(ec M h.om.1).trans h.km, ?_,λi hi=> ?_⟩
 ·show Obj s' M (.map ((k.fs++[f]).map FileS.ent) (k.mx+1))
  rw[List.map_append]
  exact hM
 ·show AT ((k.fs++[f]).map FileS.ent) 0 (k.mx+1)=true
  rw[List.map_append]
  exact Py h.bo (Nat.zero_le _) hb
 ·show FileI s' col' (2+3*i) (k.fs++[f])[i]
  have hi':i<k.fs.length+1:=by simpa using hi
  rcases Nat.lt_or_ge i k.fs.length with q|q
  ·rw[List.getElem_append_left q]
   refine((h.fl i q).col ec).ext x λy hy g=> ?_
   rw[ec y hy,g,h.km]
   omega
  ·have:i=k.fs.length:=J
   subst this
   rw[List.getElem_append_right (Nat.le_refl _)]
   simp only[Nat.sub_self,List.getElem_cons_zero]
   exact hf
theorem FileI.loose {G:Nat->Prop}{s s':St}{F:Nat->Prop}{col:Nat->Nat}{c b:Nat}{v:Value}{m:List Nat}{f:FileS}(h:FileI s col c f)(x:Ext F (λy=>y=f.blk+1\/MkF 1 f.lb.length f.lbk y) s s')(ho:Own s' f.blk 1 v)(hm:MkS s' 1 m.length (u8l m) v b)(hb:b=f.lbk/\m.length=f.lb.length\/s.next<=b):FileI s' (paint col s.next (c+2)) c {f with lv:=v,lbk:=b,lb:=m}:=by
 have b0:=h.o0.1
 have b1:=h.o1.1
 refine⟨h.o0.ext x λg=> ?_,ho,λy h1 h2=>(AX (by have h3:y<f.blk+2:=h2;omega)).trans (h.k y h1 h2),h.ms.ext x λy hy g=> ?_,λy hy=>(AX (h.ms.lt y hy)).trans (h.ks y hy),hm,λy hy=> ?_⟩
 ·rcases g with g|g
  ·omega
  ·have h1:=h.kl _ g
   have h2:=h.k (f.blk+0) J J
   omega
 ·have h1:=h.ks y hy
  rcases g with g|g
  ·have h2:=h.k y J J
   omega
  ·have h2:=h.kl y g
   omega
 ·have hy':MkF 1 m.length b y:=hy
  rcases hb with⟨h1,h2⟩|h1
  ·rw[h1,h2]at hy'
   exact(AX (h.ml.lt y hy')).trans (h.kl y hy')
  ·exact C2 (by have:=hy'.2.1;omega)
theorem Apo_:buildN envS 74 []=some [.slice none 0 0, .slice none 0 0]:=X
section
variable {n D M C K:Nat}{s:St}{k:DkS}{col:Nat->Nat}{a:ByteArray}{bv:Value}{l:List Nat}
theorem Age_ {Q:Value->St->Prop}(hb:s.lim<=s.next)(hI:DkI s col D M k)(hlen:k.fs.length<=300)(hB:Bs s bv l)(hC:Own s C 0 (.pointer (some ⟨D,0,none⟩)))(hC2:Own s (C+2) 0 (.string a))(hC4:Own s (C+4) 0 bv)(hK:Own s K 0 (AG k.fs a))(kC: ∀x,C<=x->x<C+6->1000<=col x)(kK:1000<=col K)(hBc: ∀x,BsF bv x->x≠K/\1000<=col x)(hKC:K<C\/C+6<=K)(hz:k.used+l.length<=4000000)(hn:100<=n)
  (q: ∀s1 col' blk v b,DkI s1 col' D M {k with fs:=CV k a blk v b l,mx:=Gw k a}->(∀x,x<s.next->col' x=col x)->Ext Any (λx=>col x<1000\/x=K) s s1->Q (.tuple #[]) s1):
  W (Ac envS (runF envS n) 51 [.pointer (some ⟨K,0,none⟩), .pointer (some ⟨C,0,none⟩), .pointer (some ⟨C+2,0,none⟩), .pointer (some ⟨C+4,0,none⟩)]) s Q:=by
 have hb0:(s.cxN cxN).lim<=(s.cxN cxN).next:=hb
 refine Alv_ λtm t0 t1 t2 t3=> ?_
 refine Ael_.u ?_
 simp only[GG_,RR,SS,t0]
 refine aA Ca (hK.same (s':=s.cxN cxN) rfl rfl).at' ?_
 have y1:=(Ext.refl (F:=Any) (G:=Non) (s.cxN cxN)).thenRd hb0 (K+0)
 have hI1:DkI ((s.cxN cxN).rdN (K+0)) col D M k:=hI.same rfl rfl
 have o1:Own ((s.cxN cxN).rdN (K+0)) K 0 (AG k.fs a):=hK.same rfl rfl
 have c0:Own ((s.cxN cxN).rdN (K+0)) C 0 (.pointer (some ⟨D,0,none⟩)):=hC.same rfl rfl
 have c2:Own ((s.cxN cxN).rdN (K+0)) (C+2) 0 (.string a):=hC2.same rfl rfl
 have c4:Own ((s.cxN cxN).rdN (K+0)) (C+4) 0 bv:=hC4.same rfl rfl
 have hB1:Bs ((s.cxN cxN).rdN (K+0)) bv l:=hB.same rfl rfl
 have hn1:((s.cxN cxN).rdN (K+0)).next=s.next:=rfl
 generalize (s.cxN cxN).rdN (K+0)=s1 at *
 cases hj:An k.fs a with
 |some j=>
  have hlt:=Dh hj
  have hv:AG k.fs a= .pointer (some ⟨k.fs[j].blk,0,none⟩):=by
   unfold AG
   rw[hj]
   simp only[List.getElem?_eq_getElem hlt]
  have hadd: ∀blk v b,CV k a blk v b l=k.fs.set j {k.fs[j]with lv:=v,lbk:=b,lb:=k.fs[j].lb++l}:=λblk v b=>by
   unfold CV
   rw[hj]
   simp only[List.getElem?_eq_getElem hlt]
  have hmx:Gw k a=k.mx:=by unfold Gw;rw[hj]
  rw[hv]at o1 ⊢
  have g:=hI1.fl j hlt
  have hused:=aV hlt
  simp only[C5 ED]
  refine aG HI_ ?_
  refine Cz_ (C:=C+4) (K:=K) (y1.bnd hb0) o1 c4 g.o1 g.ml hB1 J (λh=>by have:=g.kl _ h;omega) (λh=>by have h1:=g.kl _ h;have h2:=g.k _ (show k.fs[j].blk<=k.fs[j].blk+1 by omega) J;omega) (an t0) (an t3) rfl J y1.cx λs2 v b x2 o2 mk2 hb2=> ?_
  have hf:FileI s2 (paint col s1.next (2+3*j+2)) (2+3*j) {k.fs[j]with lv:=v,lbk:=b,lb:=k.fs[j].lb++l}:=g.loose (G:=Non) x2 o2 (by rw[List.length_append];exact mk2) (hb2.imp (λh=>⟨h.1,by rw[List.length_append,h.2,Nat.add_zero]⟩) λh=>h)
  have hD:=hI1.file hlt x2 (λy hy h=>by
   rcases h with rfl|h
   ·have:=g.k _ (show k.fs[j].blk<=k.fs[j].blk+1 by omega) J
    omega
   ·have:=g.kl y h
    omega) (λy hy=>AX hy) hf rfl
  refine q (s2.cxN s.cx) (paint col s1.next (2+3*j+2)) 0 v b ?_ (λx hx=>AX J) ((y1.gw hb0 λ_ _ h=>h.elim).on x2 hb0 λy hy h=> .inl ?_).cx'
  ·rw[hadd,hmx]
   exact hD.same rfl rfl
  ·rcases h with rfl|h
   ·have:=g.k _ (show k.fs[j].blk<=k.fs[j].blk+1 by omega) J
    omega
   ·have:=g.kl y h
    omega
 |none=>
  have hv:AG k.fs a= .pointer none:=by unfold AG;rw[hj]
  have hadd: ∀blk v b,CV k a blk v b l=k.fs++[⟨a,k.mx,blk, .slice none 0 0,0,[],v,b,l⟩]:=λblk v b=>by unfold CV;rw[hj]
  have hmx:Gw k a=k.mx+1:=by unfold Gw;rw[hj]
  rw[hv]at o1 ⊢
  simp only[Fb]
  refine aJ HI_ ?_
  refine UA_.u ?_
  simp only[PP_,RR,SS,reduceCtorEq, ↓reduceIte,Ii Apo_,t0]
  refine W.box λs2 n2 x2 r2=> ?_
  rw[FP]at n2 r2
  have n2':s2.next=s.next+3:=by rw[n2,hn1];rfl
  rw[hn1]at r2 ⊢
  have y2:=y1.on x2 hb0 λ_ _ h=>h
  refine aI Ca rfl (o1.ext0 x2) λs3 n3 x3 o3=> ?_
  have x3':Ext Any (λy=>y=K) s2 s3:=x3.weak (y2.bnd hb0) (λ_ _ _=>trivial) λy _ hq=>by have h1:=hq.1;have h2:=hq.2;omega
  have y3:Ext Any (λx=>col x<1000\/x=K) (s.cxN cxN) s3:=(y2.gw hb0 λ_ _ h=>h.elim).on x3' hb0 λy _ h=> .inr h
  have hKs:K<s.next:=by have:=o1.1;omega
  have hI3:DkI s3 col D M k:=(hI1.ext0 x2 hlen).ext x3' hlen λy _ h=>by subst h;exact kK
  have r3:Ai s3 s.next 0 [.slice none 0 0, .slice none 0 0]:=r2.ext x3' λi hi h=>J
  have c03:=(c0.ext0 x2).ext x3' λh=>J
  have c23:=(c2.ext0 x2).ext x3' λh=>J
  have c43:=(c4.ext0 x2).ext x3' λh=>J
  have hB3:Bs s3 bv l:=(hB1.ext0 x2).ext x3' λx hx h=>(hBc x hx).1 h
  have n3':s3.next=s.next+3:=J
  refine Afp_.u ?_
  simp only[SD_,RR,T.get_set,Nat.reduceEqDiff,reduceIte,t0,t1,t2,Aa]
  refine aD Ci ((c03.same (s':=dSt s3.mem s3.next) rfl rfl).at') λrd0 hr0=> ?_
  try simp only[Aa]
  rw[W_dq λs Q=>AD (s:=s) _ Q]
  dsimp only
  try simp only[Aa]
  rw[W_dq λs Q=>Ab (s:=s) B4 al Q]
  dsimp only
  try simp only[Aa]
  refine aD B7 ((hI3.d1.same (s':=dSt s3.mem s3.next) rfl rfl).at') λrd3 hr3=> ?_
  refine aD AQ ((c23.same (s':=dSt s3.mem s3.next) rfl rfl).at') λrd4 hr4=> ?_
  refine aD Ca ((o3.same (s':=dSt s3.mem s3.next) rfl rfl).at') λrd5 hr5=> ?_
  rw[AI]
  refine⟨BZ am am, ?_⟩
  refine aK (Aic_ _ _ _ _ _ _ _ _ _ _ _) ?_
  simp only[SS]
  generalize hs':(⟨(dSt s3.mem s3.next).mem,(dSt s3.mem s3.next).next,s3.lim,_,_,s3.cx⟩:St)=s4
  have x4:Ext Any Non s3 s4:=by
   rw[<-hs']
   exact Ext.draw (F:=Any) (Nat.le_refl _) (λ_ _=>rfl) am λ_ _ _ _ _=>trivial
  have y4:=y3.on x4 hb0 λ_ _ h=>h.elim
  have hI4:=hI3.ext0 x4 hlen
  have n4:s4.next=s3.next:=by rw[<-hs'];rfl
  refine W.mapUpS0 FK Fw (FC k.fs) hj hI4.om λs5 n5 x5 o5=> ?_
  have y5:=y4.on x5 hb0 λy _ h=> .inl (by rw[h];have:=hI4.km;omega)
  have hMs:M<s.next:=hI.om.1
  have r5:Ai s5 s.next 0 [.slice none 0 0, .slice none 0 0]:=(Ai.ext0 r3 x4).ext x5 λi hi h=>J
  have hf5:FileI s5 (paint col s.next (2+3*k.fs.length)) (2+3*k.fs.length) ⟨a,k.mx,s.next, .slice none 0 0,0,[], .slice none 0 0,0,[]⟩:=
   ⟨r5 0 _ rfl,r5 1 _ rfl,λy h1 _=>C2 h1, .inl ⟨rfl,rfl,rfl⟩,λy hy=>absurd hy.1 (Nat.lt_irrefl 0), .inl ⟨rfl,rfl,rfl⟩,λy hy=>absurd hy.1 (Nat.lt_irrefl 0)⟩
  have hI4':DkI s4 (paint col s.next (2+3*k.fs.length)) D M k:=⟨hI4.d0,hI4.d1,hI4.d2,hI4.d3,hI4.d4,hI4.d5,hI4.d6,λx h1 h2=>(AX (by have:=hI.d6.1;omega)).trans (hI4.kd x h1 h2),hI4.om,(AX hMs).trans hI4.km,hI4.bo,λi hi=>by
   have g1:=(hI1.fl i hi).col (col':=paint col s.next (2+3*k.fs.length)) λx hx=>AX J
   have g2:=g1.ext x2 λ_ _ h=>h.elim
   have g3:=g2.ext x3' λy hy h=>by
    rw[h,AX hKs]
    omega
   exact g3.ext x4 λ_ _ h=>h.elim⟩
  have hI5:=hI4'.newF (f:=⟨a,k.mx,s.next, .slice none 0 0,0,[], .slice none 0 0,0,[]⟩) x5 (λ_ _=>rfl) o5 rfl hf5
  have hlt5:k.fs.length<(k.fs++[(⟨a,k.mx,s.next, .slice none 0 0,0,[], .slice none 0 0,0,[]⟩:FileS)]).length:=am
  have g5:FileI s5 (paint col s.next (2+3*k.fs.length)) (2+3*k.fs.length) ⟨a,k.mx,s.next, .slice none 0 0,0,[], .slice none 0 0,0,[]⟩:=hf5
  have o5K:Own s5 K 0 (.pointer (some ⟨s.next,0,none⟩)):=(Own.ext0 o3 x4).ext x5 λh=>by
   have h1:K=M:=J
   have h2:=hI.km
   rw[<-h1]at h2
   omega
  have c45:Own s5 (C+4) 0 bv:=(Own.ext0 c43 x4).ext x5 λh=>by
   have h1:C+4=M:=J
   have h2:=kC (C+4) J J
   rw[h1,hI.km]at h2
   omega
  have hB5:Bs s5 bv l:=(Bs.ext0 hB3 x4).ext x5 λx hx h=>by
   have h1:=(hBc x hx).2
   rw[h,hI.km]at h1
   omega
  refine Cz_ (C:=C+4) (K:=K) (lb:=[]) (lbk:=0) (blk:=s.next) (y5.bnd hb0) o5K c45 g5.o1 g5.ml hB5 (by simp;omega) (λh=>absurd h.1 (Nat.lt_irrefl 0)) (λh=>absurd h.1 (Nat.lt_irrefl 0)) (an t0) (an t3) Yg_ J y5.cx λs6 v b x6 o6 mk6 hb6=> ?_
  have hf6:=g5.loose (G:=Non) (m:=[]++l) x6 o6 (by rw[List.nil_append];simpa using mk6) (hb6.imp (λh=>⟨h.1,by rw[List.nil_append,h.2];rfl⟩) λh=>h)
  rw[List.nil_append]at hf6
  have hD:=hI5.file (j:=k.fs.length) hlt5 x6 (λy hy h=>by
   rcases h with rfl|h
   ·rw[C2 J]
    omega
   ·exact absurd h.1 (Nat.lt_irrefl 0)) (λy hy=>AX hy) hf6 (by
   show _=((k.fs++[(⟨a,k.mx,s.next, .slice none 0 0,0,[], .slice none 0 0,0,[]⟩:FileS)])[k.fs.length]'hlt5).ent
   rw[List.getElem_append_right (Nat.le_refl _)]
   simp only[Nat.sub_self,List.getElem_cons_zero]
   rfl)
  have y6:=y5.on x6 hb0 λy hy h=>by
   rcases h with rfl|h
   ·have h1:s.next+1<s.next:=hy
    omega
   ·exact absurd h.1 (Nat.lt_irrefl 0)
  refine q (s6.cxN s.cx) (paint (paint col s.next (2+3*k.fs.length)) s5.next (2+3*k.fs.length+2)) s.next v b ?_ (λx hx=>(AX (by have:=y5.nxt;have e:(s.cxN cxN).next=s.next:=rfl;omega)).trans (AX hx)) y6.cx'
  rw[hadd,hmx]
  have: ∀f':FileS,(k.fs++[(⟨a,k.mx,s.next, .slice none 0 0,0,[], .slice none 0 0,0,[]⟩:FileS)]).set k.fs.length f'=k.fs++[f']:=λf'=>UJ _ _ _
  have hD':=hD.same (s':=s6.cxN s.cx) rfl rfl
  simp only[this]at hD'
  exact hD'
