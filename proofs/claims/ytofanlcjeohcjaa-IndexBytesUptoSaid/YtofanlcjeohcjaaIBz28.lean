import Derived.Test.YtofanlcjeohcjaaIBz27
noncomputable section
namespace Go.Proofs.Ytofanlcjeohcjaa.Am
open Go.RowKit
def Eh:Nat:=Ao Try.f114
abbrev Mh_:Nat:=17
def LD_:Code:=Try.f114.body.getD .skip
theorem Fv_:envS.fn.get 114=some Try.f114:=X
theorem AtP_:G1 envS 114 17 Eh LD_:=λh=>
 aK Fv_ (h _ X)
theorem AwU_:Try.f114.results.toList=[.tmp 2]:=X
def Iw_:List Item:=skim 64 [.code LD_]
def EU_:=nx Iw_
def Us:=nx EU_
def VG:=bf Us
def Lv:=nx VG
def L7:=nx Lv
def RL_:=bt L7
def RK:=bf L7
def Y9:=nx RL_
def IL_:=nx RK
theorem AaD_:skim 64 Y9.tail=Lv:=X
def Fs_:Rg:=λE u r t=>
 sV 2 (.int .i64 0) t
theorem Akr_:RegEq 114 17 Eh Iw_ Fs_:={}
def Ft_:Rg:=λE u r t=>
 mG t 0 λv4=>
 bN E .lss 4 0 (some v4) λv5=>
 mv (some v5) λv6=>
 sK v6 false (pG t 0) λv7=>
 sK v6 false (oS (some v7) λa=>oS (some (.int .i64 2147483647)) λb=>Cl.get (aBin E .gtr 3 (.tmp 7) (.const (.int .i64 2147483647))) a b) λv8=>
 ae v6 (.bool true) v8 λv9=>
 ac 9 v9 t
theorem AuO_:RegEq 114 17 Eh EU_ Ft_:={}
theorem Anc_:Aj Us=some 9:=X
def Vu:Rg:=λE u r t=>
 sV 3 (.int .i64 1) t
theorem Axb_:RegEq 114 17 Eh VG Vu:={}
def Rw:Rg:=λE u r t=>
 mG t 0 λv10=>
 bN E .geq 10 128 (some v10) λv11=>
 ac 11 v11 t
theorem Ej_:RegEq 114 17 Eh Lv Rw:={}
theorem RN:Aj L7=some 11:=X
def Mv_:Rg:=λE u r t=>
 mG t 0 λv12=>
 bN E .quo 12 128 (some v12) λv13=>
 sV 0 v13 t
theorem AeQ_:RegEq 114 17 Eh RL_ Mv_:={}
def BL_:Rg:=λE u r t=>
 mG t 3 λv16=>
 sV 2 v16 t
theorem Arc_:RegEq 114 17 Eh RK BL_:={}
def Io_:Rg:=λE u r t=>
 mG t 3 λv14=>
 bN E .add 14 1 (some v14) λv15=>
 sV 3 v15 t
theorem AlB_:RegEq 114 17 Eh Y9 Io_:={}
theorem Yd_: ∃k,IL_= .code .ret::k:=⟨IL_.tail,X⟩
def Dg:Nat:=Ao Try.f115
abbrev WD:Nat:=28
def Wq:Code:=Try.f115.body.getD .skip
theorem YK:envS.fn.get 115=some Try.f115:=X
theorem AiG_:G1 envS 115 28 Dg Wq:=λh=>
 aK YK (h _ X)
theorem AcO_:Try.f115.results.toList=[.tmp 2]:=X
def SJ:List Item:=skim 64 [.code Wq]
def Wo:=nx SJ
def Zg:=nx Wo
def KX:=nx Zg
def So:=nx KX
def HR_:=bt So
def Y6:=bf So
def Ma_:=nx HR_
def Sr_:=nx Y6
def Pf:=nx Ma_
def Gk_:=bt Pf
def Ll:=bf Pf
theorem WP_:skim 64 Gk_.tail=Ll:=X
def Ac_:=nx Ll
theorem AlA_:skim 64 Ac_.tail=KX:=X
def QH_:Rg:=λE u r t=>
 sV 2 (.slice none 0 0) t
theorem AsJ_:RegEq 115 28 Dg SJ QH_:={}
def GB_:Rg:=λE u r t=>
 sV 3 (.slice none 0 0) t
theorem Wl_:RegEq 115 28 Dg Wo GB_:={}
def Dq_:Rg:=λE u r t=>
 mG t 0 λv6=>
 cN u r 114 [(some v6)] λv7=>
 bN E .sub 7 1 (some v7) λv8=>
 sV 4 v8 t
theorem Abv_:RegEq 115 28 Dg Zg Dq_:={}
def Qq:Rg:=λE u r t=>
 mG t 4 λv9=>
 bN E .geq 9 0 (some v9) λv10=>
 ac 10 v10 t
theorem Qu_:RegEq 115 28 Dg KX Qq:={}
theorem Lf_:Aj So=some 10:=X
def IQ_:Rg:=λE u r t=>
 mG t 0 λv13=>
 mG t 4 λv14=>
 bM E .mul 3 (.int .i64 7) 14 (some v14) λv15=>
 bT E .shr 3 13 15 v13 v15 λv16=>
 bN E .rem 16 128 (some v16) λv17=>
 sV 5 v17 t
theorem Avt_:RegEq 115 28 Dg HR_ IQ_:={}
def Rs_:Rg:=λE u r t=>
 mG t 3 λv27=>
 sV 2 v27 t
theorem AuU_:RegEq 115 28 Dg Y6 Rs_:={}
def KB_:Rg:=λE u r t=>
 mG t 4 λv18=>
 bN E .gtr 18 0 (some v18) λv19=>
 ac 19 v19 t
theorem ApS_:RegEq 115 28 Dg Ma_ KB_:={}
theorem Aeg_: ∃k,Sr_= .code .ret::k:=⟨Sr_.tail,X⟩
theorem BF_:Aj Pf=some 19:=X
def TM_:Rg:=λE u r t=>
 mG t 5 λv20=>
 bN E .add 20 128 (some v20) λv21=>
 sV 5 v21 t
theorem Xp_:RegEq 115 28 Dg Gk_ TM_:={}
def RQ_:Rg:=λE u r t=>
 mG t 3 λv22=>
 mG t 5 λv23=>
 vB E 3 5 (some v23) λv24=>
 M.bind (oS (seqP [(0,(some v24))]) λps=>BS E 22 1 ps) λv25=>
 lN E .append [22,22] [(some v22),(some v25)] λv26=>
 sV 3 v26 t
theorem AlR_:RegEq 115 28 Dg Ll RQ_:={}
def QZ_:Rg:=λE u r t=>
 mG t 4 λv11=>
 bN E .sub 11 1 (some v11) λv12=>
 sV 4 v12 t
theorem AfB_:RegEq 115 28 Dg Ac_ QZ_:={}
def J6:Nat:=Ao Try.f79
def NX_:Code:=Try.f79.body.getD .skip
theorem HD_:envS.fn.get 79=some Try.f79:=X
theorem AmG_:G2 envS 79 20 J6 NX_:=λh=>
 aK HD_ (h _ X X)
theorem AwA_:Try.f79.results.toList=[]:=X
def Nq_:List Item:=skim 64 [.code NX_]
def W0:=nx Nq_
def Ry:=bf W0
def AxX_:=nx Ry
def Bv_:Rg:=λE u r t=>
 mG t 1 λv4=>
 cN u r 114 [(some v4)] λv5=>
 bN E .eql 5 0 (some v5) λv6=>
 ac 6 v6 t
theorem AnW_:RegEq 79 20 J6 Nq_ Bv_:={}
theorem AlY_:Aj W0=some 6:=X
def Y3:RdW:=λE call round tm=>
 PD (T.get tm 0) λp0=>
 PD (T.get tm 0) λp1=>
 M.bind (apartO (oS (some p1.1) λa=>kNil a)) λp2=>
 FD E 111 0 (some p2.1) λp3=>
 LD E 22 (some p3.1) λp4=>
 PD (T.get tm 1) λp5=>
 CN call round 115 [(some p5.1)] λp6=>
 LN E .append [22,22] [(some p4.1),(some p6.1)] λp7=>
 M.bind (apartO (oS (some p0.1) λa=>kNil a)) λp8=>
 FD E 111 0 (some p8.1) λp9=>
 fJ [p9,p8,p7,p6,p5,p4,p3,p2,p1,p0] tm
theorem Amv_:DrawEq 79 20 J6 Ry [0,0,2,6,14,0,32,126,255,511,1023] Y3:={}
theorem Aqi_ (E:Env)(call round:Ai)(x10 x11 x12 x13 x14 x15 x16 x17 x18 x19:Value)(tm:T Value)(s:St):AK call round (A5 E J6 20 (hdC Ry)) [x19,x18,x17,x16,x15,x14,x13,x12,x11,x10] tm s=(M.bind (oS (some x19) λa=>oS (some x17) λb=>Ax E 22 a b) λ_=>M.pure tm) s:=X
def JA:Nat:=Ao Try.f80
def CH_:Code:=Try.f80.body.getD .skip
theorem Df_:envS.fn.get 80=some Try.f80:=X
theorem Aml_:G2 envS 80 13 JA CH_:=λh=>
 aK Df_ (h _ X X)
theorem YO_:Try.f80.results.toList=[]:=X
def LW_:List Item:=skim 64 [.code CH_]
def NW:=nx LW_
def Ayb_:=nx NW
def Xs:Rg:=λE u r t=>
 M.bind (oS (T.get t 1) λa=>kBox a) λv3=>
 ac 3 v3 t
theorem XK_:RegEq 80 13 JA LW_ Xs:={}
def KR_:RdW:=λE call round tm=>
 PD (T.get tm 0) λp0=>
 PD (T.get tm 0) λp1=>
 M.bind (apartO (oS (some p1.1) λa=>kNil a)) λp2=>
 FD E 111 0 (some p2.1) λp3=>
 LD E 22 (some p3.1) λp4=>
 M.bind (apartO (M.on (T.get tm 3) λa=>M.on (some none) λb=>M.on (some none) λc=>Be E 26 a b c)) λp5=>
 LN E .append [22,22] [(some p4.1),(some p5.1)] λp6=>
 M.bind (apartO (oS (some p0.1) λa=>kNil a)) λp7=>
 FD E 111 0 (some p7.1) λp8=>
 fJ [p8,p7,p6,p5,p4,p3,p2,p1,p0] tm
theorem AuT_:DrawEq 80 13 JA NW [0,0,2,6,14,0,62,127,255,511] KR_:={}
theorem AeI_ (E:Env)(call round:Ai)(x4 x5 x6 x7 x8 x9 x10 x11 x12:Value)(tm:T Value)(s:St):AK call round (A5 E JA 13 (hdC NW)) [x12,x11,x10,x9,x8,x7,x6,x5,x4] tm s=(M.bind (oS (some x12) λa=>oS (some x10) λb=>Ax E 22 a b) λ_=>M.pure tm) s:=X
def QL:Nat:=Ao Try.f88
def Xt:Code:=Try.f88.body.getD .skip
theorem Jf_:envS.fn.get 88=some Try.f88:=X
theorem AxO_:G1 envS 88 6 QL Xt:=λh=>
 aK Jf_ (h _ X)
theorem Zr_:Try.f88.results.toList=[.tmp 2]:=X
def UV_:List Item:=skim 64 [.code Xt]
def YC:=nx UV_
def FB_:=nx YC
def UI:Rg:=λE u r t=>
 sV 2 (.pointer none) t
theorem Auf_:RegEq 88 6 QL UV_ UI:={}
def HU_:Rg:=λE u r t=>
 mG t 0 λv3=>
 M.bind (oS (seqP [(0,(some v3))]) λps=>Br E 122 ps) λv4=>
 M.bind (oS (some v4) λa=>kBox a) λv5=>
 sV 2 v5 t
theorem Aql_:RegEq 88 6 QL YC HU_:={}
theorem Aac_: ∃k,FB_= .code .ret::k:=⟨FB_.tail,X⟩
def Cf:Nat:=Ao Try.f142
abbrev K2:Nat:=64
def Vb_:Code:=Try.f142.body.getD .skip
theorem RJ:envS.fn.get 142=some Try.f142:=X
theorem Yb_:G2 envS 142 64 Cf Vb_:=λh=>
 aK RJ (h _ X X)
theorem Xn:Try.f142.results.toList=[.tmp 4, .tmp 5, .cell 6 116]:=X
def Tn:List Item:=skim 64 [.code Vb_]
def DN_:=nx Tn
def KV:=nx DN_
def DX_:=bt KV
def Dd_:=bf KV
def CK_:=nx DX_
def LK_:=nx Dd_
def J9:=nx LK_
def Mz:=nx J9
def Ez_:=bt Mz
def I9:=bf Mz
def Sj:=nx Ez_
def Ij_:=nx I9
def Ct_:=bt Sj
def OU_:=bf Sj
def SZ_:=nx Ct_
def Vq:=nx OU_
def TI_:=nx Vq
def Sf:=nx TI_
def Ot_:=bt Sf
def Uu:=bf Sf
def Zw:=nx Ot_
def My:=nx Uu
theorem Zp_:skim 64 (brT My)=I9:=X
def IH_:=bf My
theorem Aji_:skim 64 IH_.tail=J9:=X
def Um_:Rg:=λE u r t=>
 mv (some (.int .i64 0)) λv4=>
 setF 4 v4 t λt1=>
 mv (some (.int .i64 0)) λv5=>
 setF 5 v5 t1 λt2=>
 M.bind (A6 E 116) λv6=>
 ac 6 v6 t2
theorem Zf_:RegEq 142 64 Cf Tn Um_:={}
def PG_:Rg:=λE u r t=>
 mG t 1 λv10=>
 mG t 0 λv11=>
 lL E 22 v11 λv12=>
 bT E .lss 3 10 12 v10 v12 λv13=>
 mv (some v13) λv14=>
 sK v14 true (pG t 0) λv15=>
 sK v14 true (pG t 1) λv16=>
 sK v14 true (oS (some v15) λa=>oS (some v16) λb=>BJ E 22 a b) λv17=>
 sK v14 true (oS (some v17) λa=>AE E 5 a) λv18=>
 sK v14 true (oS (some v18) λa=>oS (some (.int .u8 128)) λb=>Cl.get (aBin E .eql 5 (.tmp 18) (.const (.int .u8 128))) a b) λv19=>
 ae v14 v19 (.bool false) λv20=>
 ac 20 v20 t
theorem Ajf_:RegEq 142 64 Cf DN_ PG_:={}
theorem TK:Aj KV=some 20:=X
def Pd_:Rg:=λE u r t=>
 mG t 1 λv21=>
 M.bind (oS (seqP [(0,(some (.int .i64 4))),(1,(some v21))]) λps=>Br E 116 ps) λv22=>
 mv (some (.int .i64 0)) λv4=>
 setF 4 v4 t λt1=>
 mv (some (.int .i64 0)) λv5=>
 setF 5 v5 t1 λt2=>
 sT E 116 (T.get t2 6) (some v22) λ_=>
 M.pure t2
theorem AxG_:RegEq 142 64 Cf DX_ Pd_:={}
def BJ_:Rg:=λE u r t=>
 sV 7 (.int .i64 0) t
theorem Aop_:RegEq 142 64 Cf Dd_ BJ_:={}
theorem AkN_: ∃k,CK_= .code .ret::k:=⟨CK_.tail,X⟩
def Ue_:Rg:=λE u r t=>
 sV 8 (.int .i64 0) t
theorem Asb_:RegEq 142 64 Cf LK_ Ue_:={}
def QI:Rg:=λE u r t=>
 mG t 8 λv23=>
 bN E .lss 23 5 (some v23) λv24=>
 ac 24 v24 t
theorem Be_:RegEq 142 64 Cf J9 QI:={}
theorem Wi_:Aj Mz=some 24:=X
def GO_:Rg:=λE u r t=>
 mG t 1 λv27=>
 mG t 8 λv28=>
 bT E .add 3 27 28 v27 v28 λv29=>
 mG t 0 λv30=>
 lL E 22 v30 λv31=>
 bT E .geq 3 29 31 v29 v31 λv32=>
 ac 32 v32 t
theorem AcG_:RegEq 142 64 Cf Ez_ GO_:={}
def QW_:Rg:=λE u r t=>
 mG t 1 λv62=>
 M.bind (oS (seqP [(0,(some (.int .i64 5))),(1,(some v62))]) λps=>Br E 116 ps) λv63=>
 mv (some (.int .i64 0)) λv4=>
 setF 4 v4 t λt1=>
 mv (some (.int .i64 0)) λv5=>
 setF 5 v5 t1 λt2=>
 sT E 116 (T.get t2 6) (some v63) λ_=>
 M.pure t2
theorem Acm_:RegEq 142 64 Cf I9 QW_:={}
theorem BX_:Aj Sj=some 32:=X
theorem Asy_: ∃k,Ij_= .code .ret::k:=⟨Ij_.tail,X⟩
def TH:Rg:=λE u r t=>
 mG t 0 λv33=>
 lL E 22 v33 λv34=>
 M.bind (oS (seqP [(0,(some (.int .i64 4))),(1,(some v34))]) λps=>Br E 116 ps) λv35=>
 mv (some (.int .i64 0)) λv4=>
 setF 4 v4 t λt1=>
 mv (some (.int .i64 0)) λv5=>
 setF 5 v5 t1 λt2=>
 sT E 116 (T.get t2 6) (some v35) λ_=>
 M.pure t2
theorem AnX_:RegEq 142 64 Cf Ct_ TH:={}
def Se_:Rg:=λE u r t=>
 mG t 0 λv36=>
 mG t 1 λv37=>
 mG t 8 λv38=>
 bT E .add 3 37 38 v37 v38 λv39=>
 iD E 22 (some v36) (some v39) λv40=>
 lD E 5 (some v40) λv41=>
 vB E 5 3 (some v41) λv42=>
 sV 9 v42 t
theorem Ain_:RegEq 142 64 Cf OU_ Se_:={}
theorem ZI_: ∃k,SZ_= .code .ret::k:=⟨SZ_.tail,X⟩
def Je_:Rg:=λE u r t=>
 mG t 7 λv43=>
 bN E .mul 43 128 (some v43) λv44=>
 mG t 9 λv45=>
 bN E .rem 45 128 (some v45) λv46=>
 bT E .add 3 44 46 v44 v46 λv47=>
 sV 7 v47 t
theorem AxR_:RegEq 142 64 Cf Vq Je_:={}
def RG:Rg:=λE u r t=>
 mG t 9 λv48=>
 bN E .lss 48 128 (some v48) λv49=>
 mv (some v49) λv50=>
 sK v50 true (pG t 7) λv51=>
 sK v50 true (oS (some v51) λa=>oS (some (.int .i64 2147483647)) λb=>Cl.get (aBin E .leq 3 (.tmp 51) (.const (.int .i64 2147483647))) a b) λv52=>
 ae v50 v52 (.bool false) λv53=>
 ac 53 v53 t
theorem AmI_:RegEq 142 64 Cf TI_ RG:={}
theorem NU:Aj Sf=some 53:=X
def DW_:Rg:=λE u r t=>
 mG t 7 λv54=>
 mG t 1 λv55=>
 mG t 8 λv56=>
 bT E .add 3 55 56 v55 v56 λv57=>
 bN E .add 57 1 (some v57) λv58=>
 M.bind (oS (seqP []) λps=>Br E 116 ps) λv59=>
 mv (some v54) λv4=>
 setF 4 v4 t λt1=>
 mv (some v58) λv5=>
 setF 5 v5 t1 λt2=>
 sT E 116 (T.get t2 6) (some v59) λ_=>
 M.pure t2
theorem Ake_:RegEq 142 64 Cf Ot_ DW_:={}
def QT:Rg:=λE u r t=>
 mG t 9 λv60=>
 bN E .lss 60 128 (some v60) λv61=>
 ac 61 v61 t
theorem Eb_:RegEq 142 64 Cf Uu QT:={}
theorem Amq_: ∃k,Zw= .code .ret::k:=⟨Zw.tail,X⟩
theorem Ux:Aj My=some 61:=X
def LP_:Rg:=λE u r t=>
 mG t 8 λv25=>
 bN E .add 25 1 (some v25) λv26=>
 sV 8 v26 t
theorem Apw_:RegEq 142 64 Cf IH_ LP_:={}
def CC:Nat:=Ao Try.f123
abbrev Lm_:Nat:=70
def Km_:Code:=Try.f123.body.getD .skip
theorem J3:envS.fn.get 123=some Try.f123:=X
theorem AfF_:G4 envS 123 70 CC Km_:=λh=>
 aK J3 (h _ X X X X)
theorem P8:Try.f123.results.toList=[.tmp 8]:=X
def Bh_:List Item:=skim 64 [.code Km_]
def PS_:=nx Bh_
def M9:=nx PS_
def Hu_:=bt M9
def RH:=bf M9
def VY_:=nx Hu_
def MT:=nx RH
def N8:=nx MT
def Vw_:=bt N8
def MU:=bf N8
theorem AfO_:skim 64 Vw_.tail=MU:=X
def QV:=nx MU
def JS_:=bt QV
def Jm:=bf QV
theorem AgT_:skim 64 JS_.tail=Jm:=X
def Mp:=nx Jm
def YJ:=bt Mp
def OA_:=bf Mp
def Tg_:=nx YJ
def W6:=nx OA_
def Zc:=nx Tg_
def UX:=nx W6
def Ym:Rg:=λE u r t=>
 sV 8 (.int .i64 0) t
theorem AtS_:RegEq 123 70 CC Bh_ Ym:={}
def R3:Rg:=λE u r t=>
 mG t 0 λv12=>
 kN v12 λv13=>
 fD E 122 2 (some v13) λv14=>
 fD E 116 0 (some v14) λv15=>
 lD E 27 (some v15) λv16=>
 bC E .neq 27 16 (.int .i64 0) (some v16) λv17=>
 ac 17 v17 t
theorem Yw_:RegEq 123 70 CC PS_ R3:={}
theorem KA_:Aj M9=some 17:=X
def Jp_:Rg:=λE u r t=>
 sV 8 (.int .i64 0) t
theorem Amr_:RegEq 123 70 CC Hu_ Jp_:={}
def VK_:RdW:=λE call round tm=>
 PD (T.get tm 0) λp0=>
 M.bind (apartO (oS (some p0.1) λa=>kNil a)) λp1=>
 FD E 122 0 (some p1.1) λp2=>
 LD E 22 (some p2.1) λp3=>
 PD (T.get tm 0) λp4=>
 M.bind (apartO (oS (some p4.1) λa=>kNil a)) λp5=>
 FD E 122 1 (some p5.1) λp6=>
 LD E 3 (some p6.1) λp7=>
 CN call round 142 [(some p3.1),(some p7.1)] λp8=>
 PD (some p8.1) λp9=>
 EX 0 (some p9.1) λp10=>
 EX 1 (some p9.1) λp11=>
 EX 2 (some p9.1) λp12=>
 M.bind (apartO (A6 E 116)) λp13=>
 setT 11 p13.1 tm λtm1=>
 PD (some p10.1) λp14=>
 setT 9 p14.1 tm1 λtm2=>
 PD (some p11.1) λp15=>
 setT 10 p15.1 tm2 λtm3=>
 fJ [p15,p14,p13,p12,p11,p10,p9,p8,p7,p6,p5,p4,p3,p2,p1,p0] tm3
theorem Ahp_:DrawEq 123 70 CC RH [0,1,3,7,0,16,48,112,255,511,1023,1023,1023,0,10239,28671,65535] VK_:={}
theorem Asm_ (E:Env)(call round:Ai)(x19 x20 x21 x22 x23 x24 x25 x26 x27 x18 x28 x29 x30 x11 x9 x10:Value)(tm:T Value)(s:St):AK call round (A5 E CC 70 (hdC RH)) [x10,x9,x11,x30,x29,x28,x18,x27,x26,x25,x24,x23,x22,x21,x20,x19] tm s=(M.bind (oS (some x11) λa=>oS (some x30) λb=>Ax E 116 a b) λ_=>M.pure tm) s:=X
theorem AfT_: ∃k,VY_= .code .ret::k:=⟨VY_.tail,X⟩
def Bo_:Rg:=λE u r t=>
 fD E 116 0 (T.get t 11) λv31=>
 lD E 27 (some v31) λv32=>
 bC E .eql 27 32 (.int .i64 0) (some v32) λv33=>
 mv (some v33) λv34=>
 sK v34 true (pG t 9) λv35=>
 sK v34 true (pG t 2) λv36=>
 sK v34 true (oS (some v35) λa=>oS (some v36) λb=>Cl.get (aBin E .gtr 3 (.tmp 35) (.tmp 36)) a b) λv37=>
 ae v34 v37 (.bool false) λv38=>
 ac 38 v38 t
theorem Asn_:RegEq 123 70 CC MT Bo_:={}
theorem Q5:Aj N8=some 38:=X
def TU_:Rg:=λE u r t=>
 mG t 3 λv39=>
 mG t 0 λv40=>
 kN v40 λv41=>
 fD E 122 1 (some v41) λv42=>
 lD E 3 (some v42) λv43=>
 M.bind (oS (seqP [(0,(some v39)),(1,(some v43))]) λps=>Br E 116 ps) λv44=>
 sT E 116 (T.get t 11) (some v44) λ_=>
 M.pure t
theorem AoD_:RegEq 123 70 CC Vw_ TU_:={}
def JC:Rg:=λE u r t=>
 fD E 116 0 (T.get t 11) λv45=>
 lD E 27 (some v45) λv46=>
 bC E .eql 27 46 (.int .i64 0) (some v46) λv47=>
 mv (some v47) λv48=>
 sK v48 true (pG t 9) λv49=>
 sK v48 true (pG t 1) λv50=>
 sK v48 true (oS (some v49) λa=>oS (some v50) λb=>Cl.get (aBin E .lss 3 (.tmp 49) (.tmp 50)) a b) λv51=>
 ae v48 v51 (.bool false) λv52=>
 ac 52 v52 t
theorem Rm:RegEq 123 70 CC MU JC:={}
theorem Ko:Aj QV=some 52:=X
def Ia_:Rg:=λE u r t=>
 mG t 0 λv53=>
 kN v53 λv54=>
 fD E 122 1 (some v54) λv55=>
 lD E 3 (some v55) λv56=>
 M.bind (oS (seqP [(0,(some (.int .i64 5))),(1,(some v56))]) λps=>Br E 116 ps) λv57=>
 sT E 116 (T.get t 11) (some v57) λ_=>
 M.pure t
theorem AfK_:RegEq 123 70 CC JS_ Ia_:={}
def R0:Rg:=λE u r t=>
 fD E 116 0 (T.get t 11) λv58=>
 lD E 27 (some v58) λv59=>
 bC E .neq 27 59 (.int .i64 0) (some v59) λv60=>
 ac 60 v60 t
theorem WW:RegEq 123 70 CC Jm R0:={}
theorem VQ:Aj Mp=some 60:=X
def AD_:Rg:=λE u r t=>
 mG t 0 λv61=>
 lD E 116 (T.get t 11) λv62=>
 kN v61 λv63=>
 fD E 122 2 (some v63) λv64=>
 sT E 116 (some v64) (some v62) λ_=>
 M.pure t
theorem Acp_:RegEq 123 70 CC YJ AD_:={}
def S6:Rg:=λE u r t=>
 mG t 0 λv65=>
 mG t 10 λv66=>
 kN v65 λv67=>
 fD E 122 1 (some v67) λv68=>
 sT E 3 (some v68) (some v66) λ_=>
 M.pure t
theorem Acc_:RegEq 123 70 CC OA_ S6:={}
def Z2:Rg:=λE u r t=>
 sV 8 (.int .i64 0) t
theorem AoL_:RegEq 123 70 CC Tg_ Z2:={}
def WE:Rg:=λE u r t=>
 mG t 9 λv69=>
 sV 8 v69 t
theorem Anz_:RegEq 123 70 CC W6 WE:={}
theorem AcI_: ∃k,Zc= .code .ret::k:=⟨Zc.tail,X⟩
theorem AmU_: ∃k,UX= .code .ret::k:=⟨UX.tail,X⟩
def MJ:Nat:=Ao Try.f90
def Kn_:Code:=Try.f90.body.getD .skip
theorem T9:envS.fn.get 90=some Try.f90:=X
theorem AbL_:G3 envS 90 11 MJ Kn_:=λh=>
 aK T9 (h _ X X X)
theorem AbF_:Try.f90.results.toList=[.tmp 6]:=X
def Ou_:List Item:=skim 64 [.code Kn_]
def ZK:=nx Ou_
def Pi_:=nx ZK
def TQ:Rg:=λE u r t=>
 sV 6 (.int .i64 0) t
theorem Zk_:RegEq 90 11 MJ Ou_ TQ:={}
def Nn_:Rg:=λE u r t=>
 mG t 0 λv7=>
 mG t 1 λv8=>
 mG t 2 λv9=>
 cN u r 123 [(some v7),(some v8),(some v9),(some (.int .i64 5))] λv10=>
 sV 6 v10 t
theorem WY_:RegEq 90 11 MJ ZK Nn_:={}
theorem Aus_: ∃k,Pi_= .code .ret::k:=⟨Pi_.tail,X⟩
def RQ:Nat:=Ao Try.f89
def JL_:Code:=Try.f89.body.getD .skip
theorem Pk_:envS.fn.get 89=some Try.f89:=X
theorem AhV_:G2 envS 89 8 RQ JL_:=λh=>
 aK Pk_ (h _ X X)
theorem Anr_:Try.f89.results.toList=[.tmp 4]:=X
def TP:List Item:=skim 64 [.code JL_]
def Qb_:=nx TP
def Nm_:=nx Qb_
def T2:Rg:=λE u r t=>
 sV 4 (.int .i64 0) t
theorem Yy_:RegEq 89 8 RQ TP T2:={}
def W7:Rg:=λE u r t=>
 mG t 0 λv5=>
 mG t 1 λv6=>
 cN u r 123 [(some v5),(some (.int .i64 0)),(some v6),(some (.int .i64 3))] λv7=>
 sV 4 v7 t
theorem Apc_:RegEq 89 8 RQ Qb_ W7:={}
theorem Akg_: ∃k,Nm_= .code .ret::k:=⟨Nm_.tail,X⟩
def De:Nat:=Ao Try.f124
def Yr:Code:=Try.f124.body.getD .skip
theorem Ju:envS.fn.get 124=some Try.f124:=X
theorem Aln_:G3 envS 124 66 De Yr:=λh=>
 aK Ju (h _ X X X)
theorem MX:Try.f124.results.toList=[.tmp 6]:=X
def U7:List Item:=skim 64 [.code Yr]
def Hq_:=nx U7
def QY:=nx Hq_
def Xb:=bt QY
def MK:=bf QY
def OB_:=nx Xb
def Qh:=nx MK
def KG_:=bt Qh
def N7:=bf Qh
def V0:=nx KG_
def WV:=nx N7
def AC_:=nx V0
def Cw_:=nx WV
def RU_:=nx AC_
def IB_:=nx Cw_
def YX:Rg:=λE u r t=>
 sV 6 (.slice none 0 0) t
theorem AuJ_:RegEq 124 66 De U7 YX:={}
def MB:Rg:=λE u r t=>
 mG t 0 λv8=>
 kN v8 λv9=>
 fD E 122 2 (some v9) λv10=>
 fD E 116 0 (some v10) λv11=>
 lD E 27 (some v11) λv12=>
 bC E .neq 27 12 (.int .i64 0) (some v12) λv13=>
 ac 13 v13 t
theorem Awf_:RegEq 124 66 De Hq_ MB:={}
theorem PX_:Aj QY=some 13:=X
def TG_:Rg:=λE u r t=>
 sV 6 (.slice none 0 0) t
theorem Yi_:RegEq 124 66 De Xb TG_:={}
def RS_:RdW:=λE call round tm=>
 PD (T.get tm 0) λp0=>
 M.bind (apartO (oS (some p0.1) λa=>kNil a)) λp1=>
 FD E 122 0 (some p1.1) λp2=>
 LD E 22 (some p2.1) λp3=>
 LN E .len [22] [(some p3.1)] λp4=>
 PD (T.get tm 0) λp5=>
 M.bind (apartO (oS (some p5.1) λa=>kNil a)) λp6=>
 FD E 122 1 (some p6.1) λp7=>
 LD E 3 (some p7.1) λp8=>
 BI E .sub 3 (.tmp 18) (.tmp 22) (some p4.1) (some p8.1) λp9=>
 PD (T.get tm 1) λp10=>
 fJ [p10,p9,p8,p7,p6,p5,p4,p3,p2,p1,p0] tm
theorem Zh_:DrawEq 124 66 De MK [0,1,3,7,15,0,32,96,224,511,0,2047] RS_:={}
theorem AgH_ (E:Env)(call round:Ai)(x14 x15 x16 x17 x18 x19 x20 x21 x22 x23 x24:Value)(tm:T Value)(s:St):AK call round (A5 E De 66 (hdC MK)) [x24,x23,x22,x21,x20,x19,x18,x17,x16,x15,x14] tm s=(M.bind (oS (some x23) λa=>oS (some x24) λb=>Cl.get (aBin E .lss 3 (.tmp 23) (.tmp 24)) a b) λv25=>setT 25 v25 tm λtm1=>M.pure tm1) s:=X
theorem Afp_: ∃k,OB_= .code .ret::k:=⟨OB_.tail,X⟩
theorem Ri_:Aj Qh=some 25:=X
def Al_:Rg:=λE u r t=>
 mG t 0 λv26=>
 mG t 0 λv27=>
 kN v27 λv28=>
 fD E 122 0 (some v28) λv29=>
 lD E 22 (some v29) λv30=>
 lL E 22 v30 λv31=>
 M.bind (oS (seqP [(0,(some (.int .i64 4))),(1,(some v31))]) λps=>Br E 116 ps) λv32=>
 kN v26 λv33=>
 fD E 122 2 (some v33) λv34=>
 sT E 116 (some v34) (some v32) λ_=>
 M.pure t
theorem AfV_:RegEq 124 66 De KG_ Al_:={}
def ZB:RdW:=λE call round tm=>
 M.bind (apartO (oS (seqP []) λps=>BS E 22 0 ps)) λp0=>
 PD (T.get tm 0) λp1=>
 M.bind (apartO (oS (some p1.1) λa=>kNil a)) λp2=>
 FD E 122 0 (some p2.1) λp3=>
 LD E 22 (some p3.1) λp4=>
 PD (T.get tm 0) λp5=>
 M.bind (apartO (oS (some p5.1) λa=>kNil a)) λp6=>
 FD E 122 1 (some p6.1) λp7=>
 LD E 3 (some p7.1) λp8=>
 PD (T.get tm 0) λp9=>
 M.bind (apartO (oS (some p9.1) λa=>kNil a)) λp10=>
 FD E 122 1 (some p10.1) λp11=>
 LD E 3 (some p11.1) λp12=>
 PD (T.get tm 1) λp13=>
 BI E .add 3 (.tmp 51) (.tmp 52) (some p12.1) (some p13.1) λp14=>
 M.bind (apartO (M.on (some p4.1) λa=>M.on (onO (some p8.1) λv=>some (some v)) λb=>M.on (onO (some p14.1) λv=>some (some v)) λc=>Be E 22 a b c)) λp15=>
 LN E .append [22,22] [(some p0.1),(some p15.1)] λp16=>
 fJ [p16,p15,p14,p13,p12,p11,p10,p9,p8,p7,p6,p5,p4,p3,p2,p1,p0] tm
theorem ApE_:DrawEq 124 66 De N7 [0,0,2,6,14,0,32,96,224,0,512,1536,3584,0,15872,32766,65535,131071] ZB:={}
theorem AlU_ (E:Env)(call round:Ai)(x39 x40 x41 x42 x43 x44 x45 x46 x47 x48 x49 x50 x51 x52 x53 x54 x55:Value)(tm:T Value)(s:St):AK call round (A5 E De 66 (hdC N7)) [x55,x54,x53,x52,x51,x50,x49,x48,x47,x46,x45,x44,x43,x42,x41,x40,x39] tm s=(M.bind (oS (some x55) λa=>M.pure a) λv7=>setT 7 v7 tm λtm1=>M.pure tm1) s:=X
def So_:Rg:=λE u r t=>
 mG t 0 λv35=>
 mG t 2 λv36=>
 kN v35 λv37=>
 fD E 122 1 (some v37) λv38=>
 sT E 3 (some v38) (some v36) λ_=>
 M.pure t
theorem Acq_:RegEq 124 66 De V0 So_:={}
def Gf_:Rg:=λE u r t=>
 mG t 0 λv56=>
 mG t 0 λv57=>
 kN v57 λv58=>
 fD E 122 1 (some v58) λv59=>
 lD E 3 (some v59) λv60=>
 mG t 1 λv61=>
 bT E .add 3 60 61 v60 v61 λv62=>
 kN v56 λv63=>
 fD E 122 1 (some v63) λv64=>
 sT E 3 (some v64) (some v62) λ_=>
 M.pure t
theorem AlI_:RegEq 124 66 De WV Gf_:={}
def Of_:Rg:=λE u r t=>
 sV 6 (.slice none 0 0) t
theorem WA_:RegEq 124 66 De AC_ Of_:={}
def Um:Rg:=λE u r t=>
 mG t 7 λv65=>
 sV 6 v65 t
theorem Zl_:RegEq 124 66 De Cw_ Um:={}
theorem AmP_: ∃k,RU_= .code .ret::k:=⟨RU_.tail,X⟩
theorem ArU_: ∃k,IB_= .code .ret::k:=⟨IB_.tail,X⟩
def Ei:Nat:=Ao Try.f91
abbrev AnD_:Nat:=25
def Uz:Code:=Try.f91.body.getD .skip
theorem Qj_:envS.fn.get 91=some Try.f91:=X
theorem AwJ_:G1 envS 91 25 Ei Uz:=λh=>
 aK Qj_ (h _ X)
theorem Ajn_:Try.f91.results.toList=[.cell 2 26]:=X
def AX_:List Item:=skim 64 [.code Uz]
def OM_:=nx AX_
def VQ_:=nx OM_
def TE_:=nx VQ_
def KN:=nx TE_
def Q7:=nx KN
def XW:=bt Q7
def VN_:=bf Q7
def Da_:=nx XW
def Cy_:=nx VN_
theorem WR_:skim 64 Da_.tail=KN:=X
def TW_:Rg:=λE u r t=>
 M.bind (A6 E 26) λv2=>
 ac 2 v2 t
theorem AtZ_:RegEq 91 25 Ei AX_ TW_:={}
def Fj_:Rg:=λE u r t=>
 M.bind (A6 E 26) λv3=>
 ac 3 v3 t
theorem ApN_:RegEq 91 25 Ei OM_ Fj_:={}
def Yo:Rg:=λE u r t=>
 mG t 0 λv6=>
 mG t 0 λv7=>
 kN v7 λv8=>
 fD E 122 1 (some v8) λv9=>
 lD E 3 (some v9) λv10=>
 cN u r 124 [(some v6),(some (.int .i64 16)),(some v10)] λv11=>
 sV 4 v11 t
theorem YG_:RegEq 91 25 Ei VQ_ Yo:={}
def SQ_:Rg:=λE u r t=>
 sV 5 (.int .i64 0) t
theorem Avi_:RegEq 91 25 Ei TE_ SQ_:={}
def Qj:Rg:=λE u r t=>
 mG t 5 λv12=>
 mG t 4 λv13=>
 lL E 22 v13 λv14=>
 bT E .lss 3 12 14 v12 v14 λv15=>
 ac 15 v15 t
theorem OG_:RegEq 91 25 Ei KN Qj:={}
theorem KO_:Aj Q7=some 15:=X
def PF_:Rg:=λE u r t=>
 mG t 5 λv18=>
 mG t 4 λv19=>
 mG t 5 λv20=>
 iD E 22 (some v19) (some v20) λv21=>
 lD E 5 (some v21) λv22=>
 iD E 26 (T.get t 3) (some v18) λv23=>
 sT E 5 (some v23) (some v22) λ_=>
 M.pure t
theorem AsK_:RegEq 91 25 Ei XW PF_:={}
def OS_:Rg:=λE u r t=>
 lD E 26 (T.get t 3) λv24=>
 sT E 26 (T.get t 2) (some v24) λ_=>
 M.pure t
theorem AgK_:RegEq 91 25 Ei VN_ OS_:={}
def WZ:Rg:=λE u r t=>
 mG t 5 λv16=>
 bN E .add 16 1 (some v16) λv17=>
 sV 5 v17 t
theorem XR_:RegEq 91 25 Ei Da_ WZ:={}
theorem AwN_: ∃k,Cy_= .code .ret::k:=⟨Cy_.tail,X⟩
def Gf:Nat:=Ao Try.f92
abbrev AxT_:Nat:=30
def VS:Code:=Try.f92.body.getD .skip
theorem Hz_:envS.fn.get 92=some Try.f92:=X
theorem Anu_:G1 envS 92 30 Gf VS:=λh=>
 aK Hz_ (h _ X)
theorem AhH_:Try.f92.results.toList=[.cell 2 116]:=X
def Vz_:List Item:=skim 64 [.code VS]
def OZ:=nx Vz_
def O8:=nx OZ
def Un:=bt O8
def Bm_:=bf O8
def Yl:=nx Un
def JH_:=nx Bm_
def Ml_:Rg:=λE u r t=>
 M.bind (A6 E 116) λv2=>
 ac 2 v2 t
theorem AhE_:RegEq 92 30 Gf Vz_ Ml_:={}
def TK_:RdW:=λE call round tm=>
 PD (T.get tm 0) λp0=>
 M.bind (apartO (oS (some p0.1) λa=>kNil a)) λp1=>
 FD E 122 2 (some p1.1) λp2=>
 FD E 116 0 (some p2.1) λp3=>
 LD E 27 (some p3.1) λp4=>
 BI E .eql 27 (.tmp 7) (.const (.int .i64 0)) (some p4.1) (some (.int .i64 0)) λp5=>
 PD (some p5.1) λp6=>
 SK p6.1 true (oS (T.get tm 0) λa=>M.pure a) λp7=>
 SK p6.1 true (oS (some p7.1) λa=>kNil a) λp8=>
 SK p6.1 true (oS (some p8.1) λa=>kFld E 122 a 1) λp9=>
 SK p6.1 true (oS (some p9.1) λa=>AE E 3 a) λp10=>
 SK p6.1 true (oS (T.get tm 0) λa=>M.pure a) λp11=>
 SK p6.1 true (oS (some p11.1) λa=>kNil a) λp12=>
 SK p6.1 true (oS (some p12.1) λa=>kFld E 122 a 0) λp13=>
 SK p6.1 true (oS (some p13.1) λa=>AE E 22 a) λp14=>
 SK p6.1 true (oS (seqO [(some p14.1)]) λl=>Bg E .len [22] l) λp15=>
 SK p6.1 true (oS (some p10.1) λa=>oS (some p15.1) λb=>Cl.get (aBin E .lss 3 (.tmp 13) (.tmp 18)) a b) λp16=>
 fJ [p16,p15,p14,p13,p12,p11,p10,p9,p8,p7,p6,p5,p4,p3,p2,p1,p0] tm
theorem AgY_:DrawEq 92 30 Gf OZ [0,1,3,7,15,31,63,127,255,511,1023,127,2175,6271,14463,30847,65535,131071] TK_:={}
theorem UT_ (E:Env)(call round:Ai)(x3 x4 x5 x6 x7 x8 x9 x10 x11 x12 x13 x14 x15 x16 x17 x18 x19:Value)(tm:T Value)(s:St):AK call round (A5 E Gf 30 (hdC OZ)) [x19,x18,x17,x16,x15,x14,x13,x12,x11,x10,x9,x8,x7,x6,x5,x4,x3] tm s=(M.bind (M.on (some x9) λa=>M.on (some x19) λb=>M.on (some (.bool false)) λc=>Ay a b c) λv20=>setT 20 v20 tm λtm1=>M.pure tm1) s:=X
theorem M5:Aj O8=some 20:=X
def JX_:Rg:=λE u r t=>
 mG t 0 λv21=>
 kN v21 λv22=>
 fD E 122 1 (some v22) λv23=>
 lD E 3 (some v23) λv24=>
 M.bind (oS (seqP [(0,(some (.int .i64 4))),(1,(some v24))]) λps=>Br E 116 ps) λv25=>
 sT E 116 (T.get t 2) (some v25) λ_=>
 M.pure t
theorem YI_:RegEq 92 30 Gf Un JX_:={}
def Se:Rg:=λE u r t=>
 mG t 0 λv26=>
 kN v26 λv27=>
 fD E 122 2 (some v27) λv28=>
 lD E 116 (some v28) λv29=>
 sT E 116 (T.get t 2) (some v29) λ_=>
 M.pure t
theorem Ul_:RegEq 92 30 Gf Bm_ Se:={}
theorem AaZ_: ∃k,Yl= .code .ret::k:=⟨Yl.tail,X⟩
theorem ZV: ∃k,JH_= .code .ret::k:=⟨JH_.tail,X⟩
section
variable {s:St}{E:Env}{t:Nat}{xo yo:Operand}
theorem Aox_ {m:Nat}(hm:m<=9223372036854775807)(Q:Value->St->Prop):W (Cl.get (aBin E .quo t xo yo) (.int .i64 (m:Nat)) (.int .i64 128)) s Q=Q (.int .i64 (m/128:Nat)) s:=Gn_ (n:=128) al hm Q
theorem GL_ {m:Nat}(Q:Value->St->Prop):W (Cl.get (aBin E .rem t xo yo) (.int .i64 (m:Nat)) (.int .i64 128)) s Q=Q (.int .i64 (m%128:Nat)) s:=IT (n:=128) al Q
end
section
variable {n:Nat}{s:St}{Q:Value->St->Prop}
theorem Awx_ {QQ:Value×FrameMode->St->Prop}{N:Nat}(hcx:s.cx=cxN)(q:QQ (.int .i64 (N:Nat), .run) s): ∀(f m k n:Nat) (tm:T Value) (td:List Item),m/128<128^f->m<=2147483647->f<=5->k+f<=100->20*f+20<=n->skim 64 td=Lv->k+digs f (m/128)=N->T.get tm 0=some (.int .i64 (m:Nat))->T.get tm 3=some (.int .i64 (k:Nat))->
  W (runF envS n ⟨114,Mh_,Eh,tm,td, .run, .normal,none⟩) s QQ:=by
 have fin: ∀(k n:Nat) (tm:T Value) (td:List Item),10<=n->skim 64 td=RK->k=N->T.get tm 3=some (.int .i64 (k:Nat))->W (runF envS n ⟨114,Mh_,Eh,tm,td, .run, .normal,none⟩) s QQ:=by
  intro k n tm td hn hT' hk g3
  subst hk
  refine Arc_.u ?_ hT'
  simp only[BL_,RR,SS,Nat.reduceEqDiff,reduceCtorEq, ↓reduceIte,g3]
  exact aB (rs:=[2]) (vs:=[.int .i64 (k:Nat)]) rfl (.inl Yd_) J Fv_ AwU_ hcx Y q
 intro f
 induction f with
 |zero=>
  intro m k n tm td hm hm2 hf hk hn hT' hN g0 g3
  have hm0:m<128:=by rw[Nat.pow_zero]at hm;omega
  refine Ej_.u ?_ hT'
  simp only[Rw,RR,SS,Nat.reduceEqDiff,reduceCtorEq, ↓reduceIte,Ad,Ah,Ab,Ae,Ak,An,Al,Ag,g0]
  refine aE RN ?_
  exact fin k _ _ _ J rfl hN (an g3)
 |succ f ih=>
  intro m k n tm td hm hm2 hf hk hn hT' hN g0 g3
  refine Ej_.u ?_ hT'
  simp only[Rw,RR,SS,Nat.reduceEqDiff,reduceCtorEq, ↓reduceIte,Ad,Ah,Ab,Ae,Ak,An,Al,Ag,g0]
  have hN':k+(if m/128=0 then 0 else 1+digs f (m/128/128))=N:=hN
  by_cases hm0:m/128=0
  ·rw[if_pos hm0]at hN'
   refine aE RN ?_
   exact fin k _ _ _ J rfl hN' (an g3)
  ·rw[if_neg hm0]at hN'
   refine aH RN ?_
   refine AeQ_.u ?_
   simp only[Mv_,RR,SS,Nat.reduceEqDiff,reduceCtorEq, ↓reduceIte,g0]
   rw[Aox_ J]
   refine AlB_.u ?_
   have ei:=eiW (i:=k) J
   simp only[Io_,RR,SS,Nat.reduceEqDiff,reduceCtorEq, ↓reduceIte,Ad,Ah,Ab,Ae,Ak,An,Al,Ag,g3,ei]
   have hm':m/128/128<128^f:=by
    rw[Nat.pow_succ]at hm
    exact Nat.div_lt_of_lt_mul (by rw[Nat.mul_comm];exact hm)
   exact ih (m/128) (k+1) _ _ _ hm' J J J J AaD_ J Y Y
theorem Vf_ {m:Nat}(hm:m<=2147483647)(hn:200<=n)(q:Q (.int .i64 (BU m:Nat)) s):W (Ac envS (runF envS n) 114 [.int .i64 (m:Nat)]) s Q:=by
 refine AtP_ λtm g0=> ?_
 refine Akr_.u ?_
 simp only[Fs_,RR,SS,Nat.reduceEqDiff,reduceCtorEq, ↓reduceIte]
 refine AuO_.u ?_
 have e1:decide (((m:Nat):Int)<0)=false:=decide_eq_false J
 have e2:decide ((2147483647:Int)<((m:Nat):Int))=false:=decide_eq_false J
 simp only[Ft_,RR,SS,Nat.reduceEqDiff,reduceCtorEq, ↓reduceIte,Ad,Ah,Ab,Ae,Ak,An,Al,Ag,g0,e1,e2,Bool.false_eq_true]
 refine aE Anc_ ?_
 refine Axb_.u ?_
 simp only[Vu,RR,SS,Nat.reduceEqDiff,reduceCtorEq, ↓reduceIte]
 refine Awx_ (N:=BU m) rfl ?_ 5 m 1 _ _ _ (Nat.lt_of_le_of_lt (show m/128<=16777216 by omega) al) hm (Nat.le_refl _) J J rfl (Tt hm) (an g0) Y
 exact q
def dgL (m:Nat):Nat->List Nat
 |0=>[]
 |j+1=>(if j=0 then m>>>(7*j)%128 else m>>>(7*j)%128+128)::dgL m j
theorem AmN_ (m:Nat):dgL m (BU m)=numB m:=by
 have hb:=Ed m
 have e0:m>>>(7*0)=m:=am
 have e1:m>>>(7*1)=m/128:=by rw[Nat.shiftRight_eq_div_pow]
 have e2:m>>>(7*2)=m/128/128:=by rw[Nat.shiftRight_eq_div_pow,Nat.div_div_eq_div_mul]
 have e3:m>>>(7*3)=m/128/128/128:=by rw[Nat.shiftRight_eq_div_pow,Nat.div_div_eq_div_mul,Nat.div_div_eq_div_mul]
 have e4:m>>>(7*4)=m/128/128/128/128:=by rw[Nat.shiftRight_eq_div_pow,Nat.div_div_eq_div_mul,Nat.div_div_eq_div_mul,Nat.div_div_eq_div_mul]
 unfold numB
 generalize BU m=k at *
 have:k=1\/k=2\/k=3\/k=4\/k=5:=J
 rcases this with rfl|rfl|rfl|rfl|rfl<;>simp[dgL,hiB,e0,e1,e2,e3,e4]
theorem YD (m:Nat): ∀j,(dgL m j).length=j
 |0=>rfl
 |j+1=>by rw[dgL,List.length_cons,YD m j]
theorem AnE_ {m:Nat}{s0:St}{QQ:Value×FrameMode->St->Prop}(hb0:s0.lim<=s0.next)(hcx:s0.cx=cxN)(hm:m<=2147483647)
  (q: ∀s1 v b,Ext Non Non s0 s1->s0.next<=b->MkS s1 1 (numB m).length (u8l (numB m)) v b->QQ (v, .run) s1):
  ∀(j n:Nat) (acc:List Nat) (v:Value) (b:Nat) (tm:T Value) (s:St) (td:List Item),j<=5->acc.length<=5->acc++dgL m j=numB m->30*j+30<=n->skim 64 td=KX->Ext Non Non s0 s->s0.next<=b->MkS s 1 acc.length (u8l acc) v b->
  T.get tm 0=some (.int .i64 (m:Nat))->T.get tm 3=some v->T.get tm 4=some (.int .i64 (((j:Nat):Int)-1))->
  W (runF envS n ⟨115,WD,Dg,tm,td, .run, .normal,none⟩) s QQ:=by
 intro j
 induction j with
 |zero=>
  intro n acc v b tm s td hj hac hacc hn hT hx hb hmk g0 g3 g4
  rw[show dgL m 0=[]from rfl,List.append_nil]at hacc
  subst hacc
  refine Qu_.u ?_ hT
  simp only[Qq,RR,SS,Nat.reduceEqDiff,reduceCtorEq, ↓reduceIte,Ad,Ah,Ab,Ae,Ak,An,Al,Ag,g4]
  refine aE Lf_ ?_
  refine AuU_.u ?_
  simp only[Rs_,RR,SS,Nat.reduceEqDiff,reduceCtorEq, ↓reduceIte,g3]
  exact aB (rs:=[2]) (vs:=[v]) rfl (.inl Aeg_) J YK AcO_ (hx.cx.trans hcx) Y (q s v b hx hb hmk)
 |succ j ih=>
  intro n acc v b tm s td hj hac hacc hn hT hx hb hmk g0 g3 g4
  rw[show(((j+1:Nat):Int)-1)=((j:Nat):Int) by omega]at g4
  have hbs:=hx.bnd hb0
  refine Qu_.u ?_ hT
  simp only[Qq,RR,SS,Nat.reduceEqDiff,reduceCtorEq, ↓reduceIte,Ad,Ah,Ab,Ae,Ak,An,Al,Ag,g4]
  refine aH Lf_ ?_
  refine Avt_.u ?_
  simp only[IQ_,RR,SS,Nat.reduceEqDiff,reduceCtorEq, ↓reduceIte,g0,g4]
  rw[CF_ J]
  rw[E4 (show 7*j<=btOf .i64 by show 7*j<=64;omega)]
  rw[GL_]
  have tail: ∀(x n':Nat) (tm':T Value) (td':List Item),n<=n'+8->skim 64 td'=Ll->x=(if j=0 then m>>>(7*j)%128 else m>>>(7*j)%128+128)->T.get tm' 0=some (.int .i64 (m:Nat))->T.get tm' 3=some v->T.get tm' 4=some (.int .i64 (j:Nat))->T.get tm' 5=some (.int .i64 (x:Nat))->
    W (runF envS n' ⟨115,WD,Dg,tm',td', .run, .normal,none⟩) s QQ:=by
   intro x n' tm' td' hn' hT' hx' k0 k3 k4 k5
   have hx256:x<256:=by
    have:m>>>(7*j)%128<128:=Nat.mod_lt _ al
    rw[hx'];split<;>omega
   refine AlR_.u ?_ hT'
   simp only[RQ_,RR,SS,Nat.reduceEqDiff,reduceCtorEq, ↓reduceIte,k3,k5,DA MG Hl,wrap_u8,Nat.mod_eq_of_lt hx256]
   refine aM hbs (r:=u8l [x]) DI al rfl (A0 al) λs1 n1 x1 r1=> ?_
   have hB:Bs s1 (.slice (some ⟨s.next,0,none⟩) 1 1) [x]:=Aa.bn (l:=[x]) r1 (A0 am)
   have hb1:=x1.bnd hbs
   rw[CD]
   refine bA hb1 Dr (hmk.ext0 x1) hB.src.g am al al (by show(acc.length+1)*2<=_;omega) (by rw[AQ,Nat.mul_one]) (CG _) λs2 v2 b2 hb2 hmk2 x2=> ?_
   have hx2:Ext Non Non s0 s2:=(hx.step x1 hb0 (λ_ _ h=>h.elim) λ_ h=>h.elim).step x2 hb0 (λy hy h=>by
    have h6:y<s0.lim:=hy
    have h8:s0.next<=s.next:=hx.nxt
    rcases h with h|h
    ·have h7:s.next+0<=y:=h.1
     omega
    ·have h7:=h.2.1
     omega) λy h=>by
    have h7:=h.2.1
    show s0.next<=y
    omega
   refine AfB_.u ?_
   have ej:wrap64 (((j:Nat):Int)-1)=((j:Nat):Int)-1:=AN J J
   simp only[QZ_,RR,SS,Nat.reduceEqDiff,reduceCtorEq, ↓reduceIte,Ad,Ah,Ab,Ae,Ak,An,Al,Ag,k4,ej]
   have e:acc++dgL m (j+1)=(acc++[x])++dgL m j:=by
    rw[List.append_assoc,hx']
    rfl
   rw[e]at hacc
   have hl:(acc++[x]).length=acc.length+1:=am
   have hl5:(acc++[x]).length<=5:=by
    have h1:(acc++[x]++dgL m j).length=(numB m).length:=by rw[hacc]
    rw[List.length_append,YD,F4]at h1
    have:=(Ed m).2
    omega
   refine ih _ (acc++[x]) v2 b2 _ s2 _ J hl5 hacc J AlA_ hx2 (by have h8:s0.next<=s.next:=hx.nxt;have:s.next<=s1.next:=x1.nxt;omega) ?_ (an k0) Y Y
   rw[hl,u8l,List.map_append]
   exact hmk2
  refine ApS_.u ?_
  simp only[KB_,RR,SS,Nat.reduceEqDiff,reduceCtorEq, ↓reduceIte,Ad,Ah,Ab,Ae,Ak,An,Al,Ag,Nat.reduceEqDiff, ↓reduceIte,g4]
  by_cases hj0:j=0
  ·refine aE BF_ ?_
   exact tail (m>>>(7*j)%128) _ _ _ J rfl (by rw[if_pos hj0]) (an g0) (an g3) (an g4) Y
  ·refine aH BF_ ?_
   refine Xp_.u ?_
   have h128:m>>>(7*j)%128<128:=Nat.mod_lt _ al
   have ei:wrap64 (((m>>>(7*j)%128:Nat):Int)+128)=((m>>>(7*j)%128+128:Nat):Int):=by
    rw[AN J J];simp
   simp only[TM_,RR,SS,Nat.reduceEqDiff,reduceCtorEq, ↓reduceIte,Ad,Ah,Ab,Ae,Ak,An,Al,Ag,Nat.reduceEqDiff, ↓reduceIte,ei]
   exact tail (m>>>(7*j)%128+128) _ _ _ J WP_ (by rw[if_neg hj0]) (an g0) (an g3) (an g4) Y
theorem ArY_ {m:Nat}(hb:s.lim<=s.next)(hm:m<=2147483647)(hn:400<=n)(q: ∀s1 v b,Ext Non Non s s1->s.next<=b->MkS s1 1 (numB m).length (u8l (numB m)) v b->Q v s1):W (Ac envS (runF envS n) 115 [.int .i64 (m:Nat)]) s Q:=by
 have hb0:(s.cxN cxN).lim<=(s.cxN cxN).next:=hb
 refine AiG_ λtm g0=> ?_
 refine AsJ_.u ?_
 simp only[QH_,RR,SS,Nat.reduceEqDiff,reduceCtorEq, ↓reduceIte]
 refine Wl_.u ?_
 simp only[GB_,RR,SS,Nat.reduceEqDiff,reduceCtorEq, ↓reduceIte]
 refine Abv_.u ?_
 simp only[Dq_,RR,SS,Nat.reduceEqDiff,reduceCtorEq, ↓reduceIte,g0]
 refine Vf_ hm J ?_
 have hb5:=Ed m
 have ej:wrap64 (((BU m:Nat):Int)-1)=((BU m:Nat):Int)-1:=AN J J
 simp only[SS,Nat.reduceEqDiff,reduceCtorEq, ↓reduceIte,Ad,Ah,Ab,Ae,Ak,An,Al,Ag,ej]
 refine AnE_ (m:=m) hb0 rfl hm (λs1 v b x1 h1 h2=> ?_) (BU m) _ [] (.slice none 0 0) s.next _ _ _ hb5.2 am (by rw[List.nil_append];exact AmN_ m) J rfl (Ext.refl _) (Nat.le_refl _) (.inl ⟨rfl,rfl,rfl⟩) (an g0) Y Y
 exact q _ v b x1.cx' h1 (h2.same rfl rfl)
end
theorem WZ_:C5 envS 116 []=some [.int .i64 0, .int .i64 0]:=X
section
variable {s:St}{E:Env}{t:Nat}{xo yo:Operand}
theorem AfZ_ {m:Nat}(hm:m*128<=9223372036854775807)(Q:Value->St->Prop):W (Cl.get (aBin E .mul t xo yo) (.int .i64 (m:Nat)) (.int .i64 128)) s Q=Q (.int .i64 (m*128:Nat)) s:=K8 (n:=128) hm Q
end
section
variable {v:Value}{l:List Nat}{s0:St}{Q:Value×FrameMode->St->Prop}
theorem Als_ {at0 C:Nat}{res:Option (Nat×List Nat)}(hb0:s0.lim<=s0.next)(hcx:s0.cx=cxN)(hB:Bs s0 v l)(hz:l.length<=1000000000)(hby:Byt l)(hat:at0<=l.length)(hC:Aa s0 C 0 [.int .i64 0, .int .i64 0])
  (q: ∀m r s1,res=some (m,r)->Ext Any (In C 0 2) s0 s1->r=l.drop (l.length-r.length)->r.length<=l.length->Q (.tuple #[.int .i64 (m:Nat), .int .i64 (l.length-r.length:Nat), .agg #[.int .i64 0, .int .i64 0]], .run) s1)
  (p: ∀(e pos:Int) s1,res=none->e≠0->Ext Any (In C 0 2) s0 s1->Q (.tuple #[.int .i64 0, .int .i64 0, .agg #[.int .i64 e, .int .i64 pos]], .run) s1):
  ∀(k i a n:Nat) (tm:T Value) (s:St) (td:List Item),i+k=5->20*k+60<=n->skim 64 td=J9->Ext Any Non s0 s->a<128^i->FW k a (l.drop (at0+i))=res->at0+i<=l.length->
  T.get tm 0=some v->T.get tm 1=some (.int .i64 (at0:Nat))->T.get tm 6=some (.pointer (some ⟨C,0,none⟩))->T.get tm 7=some (.int .i64 (a:Nat))->T.get tm 8=some (.int .i64 (i:Nat))->
  W (runF envS n ⟨142,K2,Cf,tm,td, .run, .normal,none⟩) s Q:=by
 have st: ∀(e pos:Int) (s:St) (Q':Value->St->Prop),Ext Any Non s0 s->(∀s2,Ext Any (In C 0 2) s0 s2->s2.cx=cxN->Aa s2 C 0 [.int .i64 e, .int .i64 pos]-> ∀u,Q' u s2)->W (Ax envS 116 (.pointer (some ⟨C,0,none⟩)) (.agg #[.int .i64 e, .int .i64 pos])) s Q':=by
  intro e pos s Q' hx q'
  refine W.store (b:=C) (o:=0) BQ (v:= .agg #[.int .i64 e, .int .i64 pos]) rfl rfl (λj hj=>Aa.owned (λj u hu=>(hC j u hu).ext0 hx) j (by simpa using hj)) λs2 n2 x2 o2=> ?_
  have y2:Ext Any (In C 0 2) s0 s2:=(hx.weak hb0 (λ_ _ h=>h) λ_ _ h=>h.elim).trans x2 hb0 (λ_ _ _=>trivial) λ_ _ h=>h
  exact q' s2 y2 (y2.cx.trans hcx) o2 _
 have fin: ∀(e pos:Int) (a b:Int) (n:Nat) (tm:T Value) (s2:St) (td:List Item) (P:List Item),10<=n->skim 64 td=P->(∃k,P= .code .ret::k)->Ext Any (In C 0 2) s0 s2->Aa s2 C 0 [.int .i64 e, .int .i64 pos]->T.get tm 4=some (.int .i64 a)->T.get tm 5=some (.int .i64 b)->T.get tm 6=some (.pointer (some ⟨C,0,none⟩))->
   (∀s3,Ext Any (In C 0 2) s0 s3->Q (.tuple #[.int .i64 a, .int .i64 b, .agg #[.int .i64 e, .int .i64 pos]], .run) s3)->W (runF envS n ⟨142,K2,Cf,tm,td, .run, .normal,none⟩) s2 Q:=by
  intro e pos a b n tm s2 td P hn hT hP x2 o2 g4 g5 g6 q'
  refine aT hT (.inl hP) J RJ Xn (x2.cx.trans hcx) (W.resTmp g4 (W.resTmp g5 (W.resCell g6 ?_)))
  refine aJ (b:=C) (o:=0) BQ (Aa.row o2) rfl λs3 m3 n3 x3=> ?_
  exact aN (q' s3 (x2.trans x3 hb0 (λ_ _ _=>trivial) λ_ _ h=>h.elim))
 have over: ∀(n:Nat) (tm:T Value) (s:St) (td:List Item),30<=n->skim 64 td=I9->Ext Any Non s0 s->res=none->T.get tm 1=some (.int .i64 (at0:Nat))->T.get tm 6=some (.pointer (some ⟨C,0,none⟩))->W (runF envS n ⟨142,K2,Cf,tm,td, .run, .normal,none⟩) s Q:=by
  intro n tm s td hn hT hx hr g1 g6
  refine Acm_.u ?_ hT
  simp only[QW_,RR,SS,Nat.reduceEqDiff,reduceCtorEq, ↓reduceIte,g1,g6,Ci (EW 5 _)]
  refine st 5 at0 s _ hx λs2 y2 c2 o2 _=> ?_
  exact fin 5 at0 0 0 _ _ s2 _ _ J rfl Asy_ y2 o2 Y Y (an g6) λs3 y3=>p 5 at0 s3 hr al y3
 intro k
 induction k with
 |zero=>
  intro i a n tm s td hi hn hT hx ha hr hil h0 h1 h6 h7 h8
  have hi5:i=5:=J
  subst hi5
  refine Be_.u ?_ hT
  simp only[QI,RR,SS,Nat.reduceEqDiff,reduceCtorEq, ↓reduceIte,Ad,Ah,Ab,Ae,Ak,An,Al,Ag,h8]
  refine aE Wi_ ?_
  exact over _ _ s _ J rfl hx (by rw[<-hr];rfl) (an h1) (an h6)
 |succ k ih=>
  intro i a n tm s td hi hn hT hx ha hr hil h0 h1 h6 h7 h8
  have hBs:Bs s v l:=hB.ext0 hx
  refine Be_.u ?_ hT
  simp only[QI,RR,SS,Nat.reduceEqDiff,reduceCtorEq, ↓reduceIte,Ad,Ah,Ab,Ae,Ak,An,Al,Ag,h8]
  refine aH Wi_ ?_
  refine AcG_.u ?_
  have ea:wrap64 ((at0:Nat)+(i:Nat):Int)=((at0+i:Nat):Int):=by
   rw[AN J J];simp
  simp only[GO_,RR,SS,Nat.reduceEqDiff,reduceCtorEq, ↓reduceIte,Ad,Ah,Ab,Ae,Ak,An,Al,Ag,h0,h1,h8,ea]
  rw[hBs.len' AH]
  simp only[SS,Nat.reduceEqDiff,reduceCtorEq, ↓reduceIte,Ad,Ah,Ab,Ae,Ak,An,Al,Ag]
  by_cases he:at0+i=l.length
  ·refine aH BX_ ?_ rfl (an he)
   refine AnX_.u ?_
   simp only[TH,RR,SS,Nat.reduceEqDiff,reduceCtorEq, ↓reduceIte,h0,h6]
   rw[hBs.len' AH]
   simp only[SS,Nat.reduceEqDiff,reduceCtorEq, ↓reduceIte,h6,Ci (EW 4 _)]
   refine st 4 _ s _ hx λs2 y2 c2 o2 _=> ?_
   refine fin 4 _ 0 0 _ _ s2 _ _ J rfl ZI_ y2 o2 Y Y (an h6) λs3 y3=>p 4 _ s3 ?_ al y3
   rw[<-hr,List.drop_of_length_le J]
   rfl
  ·have hlt:at0+i<l.length:=J
   obtain⟨vb,vo,vc,ev,hatc,hatF⟩:=hBs.at' hlt
   have hd:l.drop (at0+i)=l[at0+i]::l.drop (at0+i+1):=(List.getElem_cons_drop ..).symm
   have hc256:l[at0+i]<256:=hby _ (List.getElem_mem hlt)
   obtain⟨c,hc⟩: ∃c,l[at0+i]=c:=⟨_,rfl⟩
   rw[hd,hc]at hr
   rw[hc]at hatc hc256
   have hr':(if 128<=c then FW k (a*128+c%128) (l.drop (at0+i+1))else if 2147483647<a*128+c%128 then none else some (a*128+c%128,l.drop (at0+i+1)))=res:=hr
   have ha':a*128+c%128<128^(i+1):=by
    rw[Nat.pow_succ]
    have:c%128<128:=Nat.mod_lt _ al
    omega
   have hi4:i<=4:=J
   have hpw:128^(i+1)<=128^5:=Nat.pow_le_pow_right al J
   have hpw':128^(i+1)<=34359738368:=hpw
   have hc128:c%128<128:=Nat.mod_lt _ al
   refine aE BX_ ?_
   refine Ain_.u ?_
   have ew:IntKind.i64.wrap ((c:Nat):Int)=((c:Nat):Int):=wrap_i64 _ J
   simp only[Se_,RR,SS,Nat.reduceEqDiff,reduceCtorEq, ↓reduceIte,Ad,Ah,Ab,Ae,Ak,An,Al,Ag,h0,h1,h8,ea,ev,AO AH hlt]
   refine aA (b:=vb) (o:=vo+(at0+i)*1) Dd (v:=u8 c) (by rw[Nat.mul_one];exact hatc) ?_
   have hx1:=hx.thenRd hb0 (vb+(vo+(at0+i)*1))
   simp only[SS,Nat.reduceEqDiff,reduceCtorEq, ↓reduceIte,u8,DA IW_ BW_,ew]
   refine AxR_.u ?_
   have es:wrap64 ((a*128:Nat)+(c%128:Nat):Int)=((a*128+c%128:Nat):Int):=by
    rw[AN J J];simp
   simp only[Je_,RR,SS,Nat.reduceEqDiff,reduceCtorEq, ↓reduceIte,Ad,Ah,Ab,Ae,Ak,An,Al,Ag,h7,AfZ_ (show a*128<=9223372036854775807 by omega),GL_,es]
   generalize hm:a*128+c%128=m at *
   refine AmI_.u ?_
   by_cases hcl:c<128
   ·have e1:decide (((c:Nat):Int)<128)=true:=decide_eq_true J
    rw[if_neg J]at hr'
    simp only[RG,RR,SS,Nat.reduceEqDiff,reduceCtorEq, ↓reduceIte,Ad,Ah,Ab,Ae,Ak,An,Al,Ag,Nat.reduceEqDiff, ↓reduceIte,e1]
    by_cases hmx:m<=2147483647
    ·rw[if_neg J]at hr'
     refine aH NU ?_
     refine Ake_.u ?_
     have ea1:wrap64 (((at0+i:Nat):Int)+1)=((at0+i+1:Nat):Int):=by
      rw[AN J J];simp
     simp only[DW_,RR,SS,Nat.reduceEqDiff,reduceCtorEq, ↓reduceIte,Ad,Ah,Ab,Ae,Ak,An,Al,Ag,Nat.reduceEqDiff, ↓reduceIte,h1,h8,h6,ea,ea1,Ci WZ_]
     refine st 0 0 _ _ hx1 λs2 y2 c2 o2 _=> ?_
     have hlr:(l.drop (at0+i+1)).length=l.length-(at0+i+1):=List.length_drop
     have el:at0+i+1=l.length-(l.drop (at0+i+1)).length:=by rw[hlr];omega
     refine fin 0 0 (m:Nat) ((at0+i+1:Nat):Int) _ _ s2 _ _ J rfl Amq_ y2 o2 Y Y (an h6) λs3 y3=> ?_
     have:=q m (l.drop (at0+i+1)) s3 hr'.symm y3 (by rw[<-el]) J
     rw[<-el]at this
     exact this
    ·rw[if_pos J]at hr'
     refine aE NU ?_
     refine Eb_.u ?_
     simp only[QT,RR,SS,Nat.reduceEqDiff,reduceCtorEq, ↓reduceIte,Ad,Ah,Ab,Ae,Ak,An,Al,Ag,Nat.reduceEqDiff, ↓reduceIte,e1]
     refine aH Ux ?_
     exact over _ _ _ _ J Zp_ hx1 hr'.symm (an h1) (an h6)
   ·have e1:decide (((c:Nat):Int)<128)=false:=decide_eq_false J
    rw[if_pos J]at hr'
    simp only[RG,RR,SS,Nat.reduceEqDiff,reduceCtorEq, ↓reduceIte,Ad,Ah,Ab,Ae,Ak,An,Al,Ag,Nat.reduceEqDiff, ↓reduceIte,e1]
    refine aE NU ?_
    refine Eb_.u ?_
    simp only[QT,RR,SS,Nat.reduceEqDiff,reduceCtorEq, ↓reduceIte,Ad,Ah,Ab,Ae,Ak,An,Al,Ag,Nat.reduceEqDiff, ↓reduceIte,e1]
    refine aE Ux ?_
    refine Apw_.u ?_
    have ei:=eiW (i:=i) J
    simp only[LP_,RR,SS,Nat.reduceEqDiff,reduceCtorEq, ↓reduceIte,Ad,Ah,Ab,Ae,Ak,An,Al,Ag,Nat.reduceEqDiff, ↓reduceIte,h8,ei]
    exact ih (i+1) m _ _ _ _ J J Aji_ hx1 ha' hr' J (by simp[T.get_set,h0,ev]) (an h1) (an h6) Y Y
end
section
variable {n at0:Nat}{v:Value}{l:List Nat}{s:St}{Q:Value->St->Prop}
theorem ArD_ (hb:s.lim<=s.next)(hB:Bs s v l)(hz:l.length<=1000000000)(hby:Byt l)(hat:at0<=l.length)(hn:300<=n)
  (q: ∀m r s1,numR (l.drop at0)=some (m,r)->Ext Any Non s s1->r=l.drop (l.length-r.length)->r.length<=l.length->Q (.tuple #[.int .i64 (m:Nat), .int .i64 (l.length-r.length:Nat), .agg #[.int .i64 0, .int .i64 0]]) s1)
  (p: ∀(e pos:Int) s1,numR (l.drop at0)=none->e≠0->Ext Any Non s s1->Q (.tuple #[.int .i64 0, .int .i64 0, .agg #[.int .i64 e, .int .i64 pos]]) s1):
  W (Ac envS (runF envS n) 142 [v, .int .i64 (at0:Nat)]) s Q:=by
 have hb0:(s.cxN cxN).lim<=(s.cxN cxN).next:=hb
 refine Yb_ λtm h0 h1=> ?_
 refine Zf_.u ?_
 simp only[Um_,RR,SS,Nat.reduceEqDiff,reduceCtorEq, ↓reduceIte]
 refine W.alloc FX λs1 n1 x1 o1=> ?_
 have y1:Ext Any Non (s.cxN cxN) s1:=x1.any hb0
 have hb1:=y1.bnd hb0
 have hB1:Bs s1 v l:=(hB.same (s':=s.cxN cxN) rfl rfl).ext0 y1
 have o1':Aa s1 s.next 0 [.int .i64 0, .int .i64 0]:=o1
 have back: ∀s2,Ext Any (In s.next 0 2) s1 s2->Ext Any Non s (s2.cxN s.cx):=λs2 x2=>(y1.trans x2 hb0 (λ_ _ _=>trivial) λy hy hg=>by
  have h1:=hg.1
  have h2:y<s.next:=hy
  omega).cx'
 refine Ajf_.u ?_
 simp only[PG_,RR,SS,Nat.reduceEqDiff,reduceCtorEq, ↓reduceIte,Nat.reduceEqDiff, ↓reduceIte,h0,h1]
 rw[hB1.len' AH]
 simp only[SS,Nat.reduceEqDiff,reduceCtorEq, ↓reduceIte,Ad,Ah,Ab,Ae,Ak,An,Al,Ag]
 have go: ∀(n':Nat) (tm':T Value) (s2:St) (td':List Item),n<=n'+10->skim 64 td'=KV->Ext Any Non s1 s2->(l.drop at0).head?≠some 128->T.get tm' 20=some (.bool false)->T.get tm' 0=some v->T.get tm' 1=some (.int .i64 (at0:Nat))->T.get tm' 6=some (.pointer (some ⟨s.next,0,none⟩))->
   W (runF envS n' ⟨142,K2,Cf,tm',td', .run, .normal,none⟩) s2 λp s1=>Q p.1 (s1.cxN s.cx):=by
  intro n' tm' s2 td' hn' hT' x2 hh g20 g0 g1 g6
  have eR:numR (l.drop at0)=FW 5 0 (l.drop at0):=by unfold numR;rw[if_neg hh]
  refine aE TK ?_ hT' g20
  refine Aop_.u ?_
  simp only[BJ_,RR,SS,Nat.reduceEqDiff,reduceCtorEq, ↓reduceIte]
  refine Asb_.u ?_
  simp only[Ue_,RR,SS,Nat.reduceEqDiff,reduceCtorEq, ↓reduceIte]
  refine Als_ (s0:=s2) (C:=s.next) (at0:=at0) (res:=numR (l.drop at0)) (x2.bnd hb1) ((y1.then0 x2 hb0).cx) (hB1.ext0 x2) hz hby hat (λj u hu=>(o1' j u hu).ext0 x2) (λm r s3 hr x3 e1 e2=> ?_) (λe pos s3 hr he x3=> ?_) 5 0 0 _ _ s2 _ rfl J rfl (Ext.refl _) al (by rw[eR,Nat.add_zero]) J (an g0) (an g1) (an g6) Y Y
  ·exact q m r _ hr (back s3 ((x2.weak hb1 (λ_ _ h=>h) λ_ _ h=>h.elim).trans x3 hb1 (λ_ _ _=>trivial) λ_ _ h=>h)) e1 e2
  ·exact p e pos _ hr he (back s3 ((x2.weak hb1 (λ_ _ h=>h) λ_ _ h=>h.elim).trans x3 hb1 (λ_ _ _=>trivial) λ_ _ h=>h))
 by_cases hl:at0<l.length
 ·have e1:decide (((at0:Nat):Int)<((l.length:Nat):Int))=true:=decide_eq_true J
  obtain⟨vb,vo,vc,ev,hatc,_⟩:=hB1.at' hl
  have hd:(l.drop at0).head?=some l[at0]:=by rw[List.head?_drop];exact List.getElem?_eq_getElem hl
  simp only[SS,e1,Nat.reduceEqDiff,reduceCtorEq, ↓reduceIte,Nat.reduceEqDiff, ↓reduceIte,h0,h1,ev,AO AH hl]
  refine aA (b:=vb) (o:=vo+at0*1) Dd (v:=u8 l[at0]) (by rw[Nat.mul_one];exact hatc) ?_
  have x2:Ext Any Non s1 (s1.rdN (vb+(vo+at0*1))):=(Ext.refl (F:=Any) (G:=Non) s1).thenRd hb1 _
  simp only[SS,Nat.reduceEqDiff,reduceCtorEq, ↓reduceIte,u8,UF]
  by_cases hc:l[at0]=128
  ·refine aH TK ?_ rfl (an hc)
   refine AxG_.u ?_
   simp only[Pd_,RR,SS,Nat.reduceEqDiff,reduceCtorEq, ↓reduceIte,Nat.reduceEqDiff, ↓reduceIte,h1,Ci (EW 4 _)]
   refine W.store (b:=s.next) (o:=0) BQ (v:= .agg #[.int .i64 4, .int .i64 (at0:Nat)]) rfl rfl (λj hj=>Aa.owned (λj u hu=>(o1' j u hu).ext0 x2) j (by simpa using hj)) λs3 n3 x3 o3=> ?_
   have y3:Ext Any (In s.next 0 2) s1 s3:=(x2.weak hb1 (λ_ _ h=>h) λ_ _ h=>h.elim).trans x3 hb1 (λ_ _ _=>trivial) λ_ _ h=>h
   refine aT rfl (.inl AkN_) J RJ Xn (y3.cx.trans y1.cx) (W.resTmp (v:= .int .i64 0) Y (W.resTmp (v:= .int .i64 0) Y (W.resCell (a:=⟨s.next,0,none⟩) (by simp[T.get_set];rfl) ?_)))
   refine aJ (b:=s.next) (o:=0) BQ (Aa.row o3) rfl λs4 m4 n4 x4=> ?_
   refine aN (p 4 (at0:Nat) _ ?_ al (back s4 (y3.trans x4 hb1 (λ_ _ _=>trivial) λ_ _ h=>h.elim)))
   unfold numR
   rw[if_pos (by rw[hd,hc])]
  ·exact go _ _ _ _ J rfl x2 (by rw[hd];exact λh=>hc (Option.some.inj h)) (an hc) (by simp[T.get_set,h0,ev]) (an h1) (by simp[T.get_set];rfl)
 ·have e1:decide (((at0:Nat):Int)<((l.length:Nat):Int))=false:=decide_eq_false J
  simp only[SS,e1,Nat.reduceEqDiff,reduceCtorEq, ↓reduceIte]
  exact go _ _ _ _ J rfl (Ext.refl _) (by rw[List.drop_of_length_le J];simp) Y (an h0) (an h1) (by simp[T.get_set];rfl)
