import Derived.Test.YtofanlcjeohcjaaIMg24
noncomputable section
namespace Go.Proofs.Ytofanlcjeohcjaa.Am
open Go.RowKit
def Dq:Nat:=Ar Try.f65
abbrev TZ:Nat:=18
def Xa:Code:=Try.f65.body.getD .skip
theorem LJ_:envS.fn.get 65=some Try.f65:=by kernel_rfl
theorem VU_:G1 envS 65 18 Dq Xa:=λh=>
 aM LJ_ (h _ (by kernel_rfl))
theorem AkE_:Try.f65.results.toList=[.cell 2 26]:=by kernel_rfl
def Ao_:List Item:=skim 64 [.code Xa]
def W9:=nx Ao_
def LX_:=nx W9
def Jk_:=nx LX_
def LO:=nx Jk_
def MA:=nx LO
def V7:=bt MA
def NC:=bf MA
def Hf_:=nx V7
def AV_:=nx NC
theorem AbT_:skim 64 Hf_.tail=LO:=by kernel_rfl
def Zg:Rg:=λE call round tm=>
 M.bind (AI E 26) λv2=>
 setF 2 v2 tm λtm1=>
 M.pure tm1
theorem Aiz_:RegEq 65 18 Dq Ao_ Zg:={}
def HQ_:Rg:=λE call round tm=>
 M.bind (AI E 26) λv3=>
 setF 3 v3 tm λtm1=>
 M.pure tm1
theorem WL_:RegEq 65 18 Dq W9 HQ_:={}
def KU_:Rg:=λE call round tm=>
 mv (T.get tm 0) λv6=>
 cN call round 107 [(some v6)] λv7=>
 M.bind (AI E 101) λv4=>
 setF 4 v4 tm λtm1=>
 M.bind (oS (some v4) λa=>oS (some v7) λb=>Ao E 101 a b) λ_=>
 M.pure tm1
theorem AeE_:RegEq 65 18 Dq LX_ KU_:={}
def Dw_:Rg:=λE call round tm=>
 mv (some (.int .i64 0)) λv5=>
 setF 5 v5 tm λtm1=>
 M.pure tm1
theorem Yl_:RegEq 65 18 Dq Jk_ Dw_:={}
def RY:Rg:=λE call round tm=>
 mv (T.get tm 5) λv8=>
 bI E .lss 3 (.tmp 8) (.const (.int .i64 16)) (some v8) (some (.int .i64 16)) λv9=>
 setF 9 v9 tm λtm1=>
 M.pure tm1
theorem BM_:RegEq 65 18 Dq LO RY:={}
theorem Vv:Ah MA=some 9:=by kernel_rfl
def US:Rg:=λE call round tm=>
 mv (T.get tm 5) λv12=>
 mv (T.get tm 5) λv13=>
 iD E 101 (T.get tm 4) (some v13) λv14=>
 lD E 5 (some v14) λv15=>
 iD E 26 (T.get tm 3) (some v12) λv16=>
 M.bind (oS (some v16) λa=>oS (some v15) λb=>Ao E 5 a b) λ_=>
 M.pure tm
theorem Aft_:RegEq 65 18 Dq V7 US:={}
def Md_:Rg:=λE call round tm=>
 lD E 26 (T.get tm 3) λv17=>
 M.bind (oS (T.get tm 2) λa=>oS (some v17) λb=>Ao E 26 a b) λ_=>
 M.pure tm
theorem Oy_:RegEq 65 18 Dq NC Md_:={}
def XD:Rg:=λE call round tm=>
 mv (T.get tm 5) λv10=>
 bI E .add 3 (.tmp 10) (.const (.int .i64 1)) (some v10) (some (.int .i64 1)) λv11=>
 mv (some v11) λv5=>
 setF 5 v5 tm λtm1=>
 M.pure tm1
theorem Qv_:RegEq 65 18 Dq Hf_ XD:={}
theorem Ri_: ∃k,AV_= .code .ret::k:=⟨AV_.tail,by kernel_rfl⟩
def B7:Nat:=Ar Try.f107
abbrev K9:Nat:=41
def AL_:Code:=Try.f107.body.getD .skip
theorem Ec_:envS.fn.get 107=some Try.f107:=by kernel_rfl
theorem Acw_:G1 envS 107 41 B7 AL_:=λh=>
 aM Ec_ (h _ (by kernel_rfl))
theorem Aes_:Try.f107.results.toList=[.cell 2 101]:=by kernel_rfl
def Nu_:List Item:=skim 64 [.code AL_]
def TE:=nx Nu_
def IC_:=nx TE
def KH_:=nx IC_
def Js:=nx KH_
def Qg:=nx Js
def Qz:=bt Qg
def L9:=bf Qg
def TH:=nx Qz
def BW_:=nx L9
theorem Pv_:skim 64 TH.tail=Js:=by kernel_rfl
def K0:=nx BW_
def Ma:=nx K0
def YV:=bt Ma
def PW:=bf Ma
def TJ:=nx YV
def UL:=nx PW
theorem TI_:skim 64 TJ.tail=K0:=by kernel_rfl
def EM_:Rg:=λE call round tm=>
 M.bind (AI E 101) λv2=>
 setF 2 v2 tm λtm1=>
 M.pure tm1
theorem Aav_:RegEq 107 41 B7 Nu_ EM_:={}
def T0:Rg:=λE call round tm=>
 M.bind (oS (seqP [(0,(some (.int .u32 1779033703))),(1,(some (.int .u32 3144134277))),(2,(some (.int .u32 1013904242))),(3,(some (.int .u32 2773480762))),(4,(some (.int .u32 1359893119))),(5,(some (.int .u32 2600822924))),(6,(some (.int .u32 528734635))),(7,(some (.int .u32 1541459225)))]) λps=>Bj E 161 ps) λv8=>
 M.bind (AI E 161) λv3=>
 setF 3 v3 tm λtm1=>
 M.bind (oS (some v3) λa=>oS (some v8) λb=>Ao E 161 a b) λ_=>
 M.pure tm1
theorem AhO_:RegEq 107 41 B7 TE T0:={}
def JF_:Rg:=λE call round tm=>
 mv (T.get tm 0) λv9=>
 cN call round 131 [(some v9)] λv10=>
 mv (some v10) λv4=>
 setF 4 v4 tm λtm1=>
 M.pure tm1
theorem AdD_:RegEq 107 41 B7 IC_ JF_:={}
def HN_:Rg:=λE call round tm=>
 mv (some (.int .i64 0)) λv5=>
 setF 5 v5 tm λtm1=>
 M.pure tm1
theorem AfQ_:RegEq 107 41 B7 KH_ HN_:={}
def Ra:Rg:=λE call round tm=>
 mv (T.get tm 5) λv11=>
 mv (T.get tm 4) λv12=>
 lN E .len [22] [(some v12)] λv13=>
 bI E .lss 3 (.tmp 11) (.tmp 13) (some v11) (some v13) λv14=>
 setF 14 v14 tm λtm1=>
 M.pure tm1
theorem Eh_:RegEq 107 41 B7 Js Ra:={}
theorem AQ_:Ah Qg=some 14:=by kernel_rfl
def Kq_:Rd:=λE call round tm=>
 LD E 161 (T.get tm 3) λp0=>
 PD (T.get tm 4) λp1=>
 PD (T.get tm 5) λp2=>
 PD (T.get tm 5) λp3=>
 BI E .add 3 (.tmp 20) (.const (.int .i64 64)) (some p3.1) (some (.int .i64 64)) λp4=>
 M.bind (apartO (M.on (some p1.1) λa=>M.on (onO (some p2.1) λv=>some (some v)) λb=>M.on (onO (some p4.1) λv=>some (some v)) λc=>AW E 22 a b c)) λp5=>
 CN call round 132 [(some p0.1),(some p5.1)] λp6=>
 fJ [p6,p5,p4,p3,p2,p1,p0] tm
theorem Qn_:DrawEq 107 41 B7 Qz [0,0,0,0,8,30,63,127] Kq_:={}
theorem AkM_ (E:Env)(call round:Ac)(x17 x18 x19 x20 x21 x22 x23:Value)(tm:T Value)(s:St):AH call round (A7 E B7 41 (hdC Qz)) [x23,x22,x21,x20,x19,x18,x17] tm s=(M.bind (oS (T.get tm 3) λa=>oS (some x23) λb=>Ao E 161 a b) λ_=>M.pure tm) s:=by kernel_rfl
def Ku_:Rg:=λE call round tm=>
 M.bind (AI E 101) λv6=>
 setF 6 v6 tm λtm1=>
 M.pure tm1
theorem PY_:RegEq 107 41 B7 L9 Ku_:={}
def Sq:Rg:=λE call round tm=>
 mv (T.get tm 5) λv15=>
 bI E .add 3 (.tmp 15) (.const (.int .i64 64)) (some v15) (some (.int .i64 64)) λv16=>
 mv (some v16) λv5=>
 setF 5 v5 tm λtm1=>
 M.pure tm1
theorem Zp_:RegEq 107 41 B7 TH Sq:={}
def T3:Rg:=λE call round tm=>
 mv (some (.int .i64 0)) λv7=>
 setF 7 v7 tm λtm1=>
 M.pure tm1
theorem WK_:RegEq 107 41 B7 BW_ T3:={}
def R7:Rg:=λE call round tm=>
 mv (T.get tm 7) λv24=>
 bI E .lss 3 (.tmp 24) (.const (.int .i64 32)) (some v24) (some (.int .i64 32)) λv25=>
 setF 25 v25 tm λtm1=>
 M.pure tm1
theorem BT_:RegEq 107 41 B7 K0 R7:={}
theorem HG_:Ah Ma=some 25:=by kernel_rfl
def TK:Rg:=λE call round tm=>
 mv (T.get tm 7) λv28=>
 mv (T.get tm 7) λv29=>
 bI E .quo 3 (.tmp 29) (.const (.int .i64 4)) (some v29) (some (.int .i64 4)) λv30=>
 iD E 161 (T.get tm 3) (some v30) λv31=>
 lD E 51 (some v31) λv32=>
 mv (T.get tm 7) λv33=>
 bI E .rem 3 (.tmp 33) (.const (.int .i64 4)) (some v33) (some (.int .i64 4)) λv34=>
 bI E .mul 3 (.const (.int .i64 8)) (.tmp 34) (some (.int .i64 8)) (some v34) λv35=>
 bI E .sub 3 (.const (.int .i64 24)) (.tmp 35) (some (.int .i64 24)) (some v35) λv36=>
 bI E .shr 51 (.tmp 32) (.tmp 36) (some v32) (some v36) λv37=>
 vB E 51 5 (some v37) λv38=>
 iD E 101 (T.get tm 6) (some v28) λv39=>
 M.bind (oS (some v39) λa=>oS (some v38) λb=>Ao E 5 a b) λ_=>
 M.pure tm
theorem AhH_:RegEq 107 41 B7 YV TK:={}
def WC:Rg:=λE call round tm=>
 lD E 101 (T.get tm 6) λv40=>
 M.bind (oS (T.get tm 2) λa=>oS (some v40) λb=>Ao E 101 a b) λ_=>
 M.pure tm
theorem Ts_:RegEq 107 41 B7 PW WC:={}
def TF:Rg:=λE call round tm=>
 mv (T.get tm 7) λv26=>
 bI E .add 3 (.tmp 26) (.const (.int .i64 1)) (some v26) (some (.int .i64 1)) λv27=>
 mv (some v27) λv7=>
 setF 7 v7 tm λtm1=>
 M.pure tm1
theorem AfX_:RegEq 107 41 B7 TJ TF:={}
theorem Ahx_: ∃k,UL= .code .ret::k:=⟨UL.tail,by kernel_rfl⟩
def Cx:Nat:=Ar Try.f131
abbrev K3:Nat:=35
def Xv:Code:=Try.f131.body.getD .skip
theorem ZF:envS.fn.get 131=some Try.f131:=by kernel_rfl
theorem AkA_:G1 envS 131 35 Cx Xv:=λh=>
 aM ZF (h _ (by kernel_rfl))
theorem Ajm_:Try.f131.results.toList=[.tmp 2]:=by kernel_rfl
def GM_:List Item:=skim 64 [.code Xv]
def In_:=nx GM_
def KR_:=nx In_
def KS:=nx KR_
def OU:=nx KS
def BP_:=bt OU
def QL:=bf OU
theorem Amm_:skim 64 BP_.tail=KS:=by kernel_rfl
def Dk_:=nx QL
def JZ:=nx Dk_
def N9:=nx JZ
def Vs:=bt N9
def RL:=bf N9
def Bb_:=nx Vs
def Cr_:=nx RL
theorem Pc_:skim 64 Bb_.tail=JZ:=by kernel_rfl
def Ba_:Rg:=λE call round tm=>
 mv (some (.slice none 0 0)) λv2=>
 setF 2 v2 tm λtm1=>
 M.pure tm1
theorem AdJ_:RegEq 131 35 Cx GM_ Ba_:={}
def GE_:Rg:=λE call round tm=>
 M.bind (oS (seqP []) λps=>AU E 22 0 ps) λv6=>
 mv (T.get tm 0) λv7=>
 lN E .append [22,22] [(some v6),(some v7)] λv8=>
 mv (some v8) λv3=>
 setF 3 v3 tm λtm1=>
 M.pure tm1
theorem RW_:RegEq 131 35 Cx In_ GE_:={}
def KF_:Rg:=λE call round tm=>
 mv (T.get tm 3) λv9=>
 M.bind (oS (seqP [(0,(some (.int .u8 128)))]) λps=>AU E 22 1 ps) λv10=>
 lN E .append [22,22] [(some v9),(some v10)] λv11=>
 mv (some v11) λv3=>
 setF 3 v3 tm λtm1=>
 M.pure tm1
theorem ZJ_:RegEq 131 35 Cx KR_ KF_:={}
def Nf:Rg:=λE call round tm=>
 mv (T.get tm 3) λv12=>
 lN E .len [22] [(some v12)] λv13=>
 bI E .rem 3 (.tmp 13) (.const (.int .i64 64)) (some v13) (some (.int .i64 64)) λv14=>
 bI E .neq 3 (.tmp 14) (.const (.int .i64 56)) (some v14) (some (.int .i64 56)) λv15=>
 setF 15 v15 tm λtm1=>
 M.pure tm1
theorem BV_:RegEq 131 35 Cx KS Nf:={}
theorem XX:Ah OU=some 15:=by kernel_rfl
def EG_:Rg:=λE call round tm=>
 mv (T.get tm 3) λv16=>
 M.bind (oS (seqP [(0,(some (.int .u8 0)))]) λps=>AU E 22 1 ps) λv17=>
 lN E .append [22,22] [(some v16),(some v17)] λv18=>
 mv (some v18) λv3=>
 setF 3 v3 tm λtm1=>
 M.pure tm1
theorem Se_:RegEq 131 35 Cx BP_ EG_:={}
def U1:Rg:=λE call round tm=>
 mv (T.get tm 0) λv19=>
 lN E .len [22] [(some v19)] λv20=>
 bI E .mul 3 (.const (.int .i64 8)) (.tmp 20) (some (.int .i64 8)) (some v20) λv21=>
 mv (some v21) λv4=>
 setF 4 v4 tm λtm1=>
 M.pure tm1
theorem AfR_:RegEq 131 35 Cx QL U1:={}
def Em_:Rg:=λE call round tm=>
 mv (some (.int .i64 7)) λv5=>
 setF 5 v5 tm λtm1=>
 M.pure tm1
theorem RF_:RegEq 131 35 Cx Dk_ Em_:={}
def NX:Rg:=λE call round tm=>
 mv (T.get tm 5) λv22=>
 bI E .geq 3 (.tmp 22) (.const (.int .i64 0)) (some v22) (some (.int .i64 0)) λv23=>
 setF 23 v23 tm λtm1=>
 M.pure tm1
theorem ED_:RegEq 131 35 Cx JZ NX:={}
theorem Wz:Ah N9=some 23:=by kernel_rfl
def JO_:Rg:=λE call round tm=>
 mv (T.get tm 3) λv26=>
 mv (T.get tm 4) λv27=>
 mv (T.get tm 5) λv28=>
 bI E .mul 3 (.const (.int .i64 8)) (.tmp 28) (some (.int .i64 8)) (some v28) λv29=>
 bI E .shr 3 (.tmp 27) (.tmp 29) (some v27) (some v29) λv30=>
 vB E 3 5 (some v30) λv31=>
 M.bind (oS (seqP [(0,(some v31))]) λps=>AU E 22 1 ps) λv32=>
 lN E .append [22,22] [(some v26),(some v32)] λv33=>
 mv (some v33) λv3=>
 setF 3 v3 tm λtm1=>
 M.pure tm1
theorem Uh_:RegEq 131 35 Cx Vs JO_:={}
def Xg:Rg:=λE call round tm=>
 mv (T.get tm 3) λv34=>
 mv (some v34) λv2=>
 setF 2 v2 tm λtm1=>
 M.pure tm1
theorem TJ_:RegEq 131 35 Cx RL Xg:={}
def UA:Rg:=λE call round tm=>
 mv (T.get tm 5) λv24=>
 bI E .sub 3 (.tmp 24) (.const (.int .i64 1)) (some v24) (some (.int .i64 1)) λv25=>
 mv (some v25) λv5=>
 setF 5 v5 tm λtm1=>
 M.pure tm1
theorem AcZ_:RegEq 131 35 Cx Bb_ UA:={}
theorem Ys_: ∃k,Cr_= .code .ret::k:=⟨Cr_.tail,by kernel_rfl⟩
def BO:Nat:=Ar Try.f132
abbrev JL:Nat:=118
def Gv_:Code:=Try.f132.body.getD .skip
theorem Ei_:envS.fn.get 132=some Try.f132:=by kernel_rfl
theorem Afp_:G2 envS 132 118 BO Gv_:=λh=>
 aM Ei_ (h _ (by kernel_rfl) (by kernel_rfl))
theorem AhL_:Try.f132.results.toList=[.cell 4 161]:=by kernel_rfl
def Fq_:List Item:=skim 64 [.code Gv_]
def WZ:=nx Fq_
def Fc_:=nx WZ
def Ej_:=nx Fc_
def Lw:=nx Ej_
def Q2:=nx Lw
def R8:=bt Q2
def Sa:=bf Q2
def Nj:=nx R8
def LZ:=nx Sa
def X0:=nx Nj
def Q1:=nx LZ
def Jo_:=nx X0
def Qb:=bt Q1
def Pq:=bf Q1
theorem AbZ_:skim 64 Jo_.tail=Lw:=by kernel_rfl
def Mx_:=nx Qb
def Tt:=nx Pq
theorem AgK_:skim 64 Mx_.tail=LZ:=by kernel_rfl
def Aq_:Rg:=λE call round tm=>
 M.bind (oS (T.get tm 0) λa=>kBox a) λv2=>
 setF 2 v2 tm λtm1=>
 M.bind (AI E 161) λv4=>
 setF 4 v4 tm1 λtm2=>
 M.pure tm2
theorem AhC_:RegEq 132 118 BO Fq_ Aq_:={}
def WN:Rg:=λE call round tm=>
 mv (T.get tm 1) λv12=>
 cN call round 146 [(some v12)] λv13=>
 cN call round 147 [] λv14=>
 M.bind (AI E 179) λv5=>
 setF 5 v5 tm λtm1=>
 M.bind (AI E 179) λv6=>
 setF 6 v6 tm1 λtm2=>
 M.bind (oS (some v5) λa=>oS (some v13) λb=>Ao E 179 a b) λ_=>
 M.bind (oS (some v6) λa=>oS (some v14) λb=>Ao E 179 a b) λ_=>
 M.pure tm2
theorem RI_:RegEq 132 118 BO WZ WN:={}
def Hq_:Rg:=λE call round tm=>
 lD E 161 (T.get tm 2) λv15=>
 M.bind (AI E 161) λv7=>
 setF 7 v7 tm λtm1=>
 M.bind (oS (some v7) λa=>oS (some v15) λb=>Ao E 161 a b) λ_=>
 M.pure tm1
theorem Wb_:RegEq 132 118 BO Fc_ Hq_:={}
def CC_:Rg:=λE call round tm=>
 mv (some (.int .i64 0)) λv8=>
 setF 8 v8 tm λtm1=>
 M.pure tm1
theorem Ws_:RegEq 132 118 BO Ej_ CC_:={}
def N4:Rg:=λE call round tm=>
 mv (T.get tm 8) λv16=>
 bI E .lss 3 (.tmp 16) (.const (.int .i64 64)) (some v16) (some (.int .i64 64)) λv17=>
 setF 17 v17 tm λtm1=>
 M.pure tm1
theorem Bp_:RegEq 132 118 BO Lw N4:={}
theorem HF_:Ah Q2=some 17:=by kernel_rfl
def WJ:Rd:=λE call round tm=>
 ID E 161 (T.get tm 7) (some (.int .i64 7)) λp0=>
 LD E 51 (some p0.1) λp1=>
 ID E 161 (T.get tm 7) (some (.int .i64 4)) λp2=>
 LD E 51 (some p2.1) λp3=>
 CN call round 148 [(some p3.1),(some (.int .i64 6))] λp4=>
 ID E 161 (T.get tm 7) (some (.int .i64 4)) λp5=>
 LD E 51 (some p5.1) λp6=>
 CN call round 148 [(some p6.1),(some (.int .i64 11))] λp7=>
 BI E .xor 51 (.tmp 24) (.tmp 27) (some p4.1) (some p7.1) λp8=>
 ID E 161 (T.get tm 7) (some (.int .i64 4)) λp9=>
 LD E 51 (some p9.1) λp10=>
 CN call round 148 [(some p10.1),(some (.int .i64 25))] λp11=>
 BI E .xor 51 (.tmp 28) (.tmp 31) (some p8.1) (some p11.1) λp12=>
 BI E .add 51 (.tmp 21) (.tmp 32) (some p1.1) (some p12.1) λp13=>
 ID E 161 (T.get tm 7) (some (.int .i64 4)) λp14=>
 LD E 51 (some p14.1) λp15=>
 ID E 161 (T.get tm 7) (some (.int .i64 5)) λp16=>
 LD E 51 (some p16.1) λp17=>
 BI E .and 51 (.tmp 35) (.tmp 37) (some p15.1) (some p17.1) λp18=>
 ID E 161 (T.get tm 7) (some (.int .i64 4)) λp19=>
 LD E 51 (some p19.1) λp20=>
 M.bind (apartO (oS (some p20.1) λa=>kUn E.P .xor a)) λp21=>
 ID E 161 (T.get tm 7) (some (.int .i64 6)) λp22=>
 LD E 51 (some p22.1) λp23=>
 BI E .and 51 (.tmp 41) (.tmp 43) (some p21.1) (some p23.1) λp24=>
 BI E .xor 51 (.tmp 38) (.tmp 44) (some p18.1) (some p24.1) λp25=>
 BI E .add 51 (.tmp 33) (.tmp 45) (some p13.1) (some p25.1) λp26=>
 PD (T.get tm 8) λp27=>
 ID E 179 (T.get tm 6) (some p27.1) λp28=>
 LD E 51 (some p28.1) λp29=>
 BI E .add 51 (.tmp 46) (.tmp 49) (some p26.1) (some p29.1) λp30=>
 PD (T.get tm 8) λp31=>
 ID E 179 (T.get tm 5) (some p31.1) λp32=>
 LD E 51 (some p32.1) λp33=>
 BI E .add 51 (.tmp 50) (.tmp 53) (some p30.1) (some p33.1) λp34=>
 fJ [p34,p33,p32,p31,p30,p29,p28,p27,p26,p25,p24,p23,p22,p21,p20,p19,p18,p17,p16,p15,p14,p13,p12,p11,p10,p9,p8,p7,p6,p5,p4,p3,p2,p1,p0] tm
theorem Sk_:DrawEq 132 118 BO R8 [0,1,0,4,12,0,32,124,252,0,512,1788,4092,8191,0,16384,0,65536,245760,0,524288,1572864,0,4194304,16252928,33538048,67108863,0,134217728,402653184,1073741823,0,2147483648,6442450944,17179869183,34359738367] WJ:={}
theorem Ail_ (E:Env)(call round:Ac)(x20 x21 x22 x23 x24 x25 x26 x27 x28 x29 x30 x31 x32 x33 x34 x35 x36 x37 x38 x39 x40 x41 x42 x43 x44 x45 x46 x47 x48 x49 x50 x51 x52 x53 x54:Value)(tm:T Value)(s:St):AH call round (A7 E BO 118 (hdC R8)) [x54,x53,x52,x51,x50,x49,x48,x47,x46,x45,x44,x43,x42,x41,x40,x39,x38,x37,x36,x35,x34,x33,x32,x31,x30,x29,x28,x27,x26,x25,x24,x23,x22,x21,x20] tm s=(M.bind (oS (some x54) λa=>M.pure a) λv9=>setT 9 v9 tm λtm1=>M.pure tm1) s:=by kernel_rfl
def FO_:Rg:=λE call round tm=>
 mv (some (.int .i64 0)) λv11=>
 setF 11 v11 tm λtm1=>
 M.pure tm1
theorem AjE_:RegEq 132 118 BO Sa FO_:={}
def Nl_:Rd:=λE call round tm=>
 ID E 161 (T.get tm 7) (some (.int .i64 0)) λp0=>
 LD E 51 (some p0.1) λp1=>
 CN call round 148 [(some p1.1),(some (.int .i64 2))] λp2=>
 ID E 161 (T.get tm 7) (some (.int .i64 0)) λp3=>
 LD E 51 (some p3.1) λp4=>
 CN call round 148 [(some p4.1),(some (.int .i64 13))] λp5=>
 BI E .xor 51 (.tmp 57) (.tmp 60) (some p2.1) (some p5.1) λp6=>
 ID E 161 (T.get tm 7) (some (.int .i64 0)) λp7=>
 LD E 51 (some p7.1) λp8=>
 CN call round 148 [(some p8.1),(some (.int .i64 22))] λp9=>
 BI E .xor 51 (.tmp 61) (.tmp 64) (some p6.1) (some p9.1) λp10=>
 ID E 161 (T.get tm 7) (some (.int .i64 0)) λp11=>
 LD E 51 (some p11.1) λp12=>
 ID E 161 (T.get tm 7) (some (.int .i64 1)) λp13=>
 LD E 51 (some p13.1) λp14=>
 BI E .and 51 (.tmp 67) (.tmp 69) (some p12.1) (some p14.1) λp15=>
 ID E 161 (T.get tm 7) (some (.int .i64 0)) λp16=>
 LD E 51 (some p16.1) λp17=>
 ID E 161 (T.get tm 7) (some (.int .i64 2)) λp18=>
 LD E 51 (some p18.1) λp19=>
 BI E .and 51 (.tmp 72) (.tmp 74) (some p17.1) (some p19.1) λp20=>
 BI E .xor 51 (.tmp 70) (.tmp 75) (some p15.1) (some p20.1) λp21=>
 ID E 161 (T.get tm 7) (some (.int .i64 1)) λp22=>
 LD E 51 (some p22.1) λp23=>
 ID E 161 (T.get tm 7) (some (.int .i64 2)) λp24=>
 LD E 51 (some p24.1) λp25=>
 BI E .and 51 (.tmp 78) (.tmp 80) (some p23.1) (some p25.1) λp26=>
 BI E .xor 51 (.tmp 76) (.tmp 81) (some p21.1) (some p26.1) λp27=>
 BI E .add 51 (.tmp 65) (.tmp 82) (some p10.1) (some p27.1) λp28=>
 fJ [p28,p27,p26,p25,p24,p23,p22,p21,p20,p19,p18,p17,p16,p15,p14,p13,p12,p11,p10,p9,p8,p7,p6,p5,p4,p3,p2,p1,p0] tm
theorem Aaq_:DrawEq 132 118 BO Nj [0,1,3,0,8,31,63,0,128,447,1023,0,2048,0,8192,30720,0,65536,0,262144,983040,2095104,0,4194304,0,16777216,62914560,134215680,268435455,536870911] Nl_:={}
theorem Aaf_ (E:Env)(call round:Ac)(x55 x56 x57 x58 x59 x60 x61 x62 x63 x64 x65 x66 x67 x68 x69 x70 x71 x72 x73 x74 x75 x76 x77 x78 x79 x80 x81 x82 x83:Value)(tm:T Value)(s:St):AH call round (A7 E BO 118 (hdC Nj)) [x83,x82,x81,x80,x79,x78,x77,x76,x75,x74,x73,x72,x71,x70,x69,x68,x67,x66,x65,x64,x63,x62,x61,x60,x59,x58,x57,x56,x55] tm s=(M.bind (oS (some x83) λa=>M.pure a) λv10=>setT 10 v10 tm λtm1=>M.pure tm1) s:=by kernel_rfl
def OF:Rg:=λE call round tm=>
 mv (T.get tm 11) λv104=>
 bI E .lss 3 (.tmp 104) (.const (.int .i64 8)) (some v104) (some (.int .i64 8)) λv105=>
 setF 105 v105 tm λtm1=>
 M.pure tm1
theorem My_:RegEq 132 118 BO LZ OF:={}
def HH_:Rg:=λE call round tm=>
 mv (T.get tm 9) λv84=>
 mv (T.get tm 10) λv85=>
 bI E .add 51 (.tmp 84) (.tmp 85) (some v84) (some v85) λv86=>
 iD E 161 (T.get tm 7) (some (.int .i64 0)) λv87=>
 lD E 51 (some v87) λv88=>
 iD E 161 (T.get tm 7) (some (.int .i64 1)) λv89=>
 lD E 51 (some v89) λv90=>
 iD E 161 (T.get tm 7) (some (.int .i64 2)) λv91=>
 lD E 51 (some v91) λv92=>
 iD E 161 (T.get tm 7) (some (.int .i64 3)) λv93=>
 lD E 51 (some v93) λv94=>
 mv (T.get tm 9) λv95=>
 bI E .add 51 (.tmp 94) (.tmp 95) (some v94) (some v95) λv96=>
 iD E 161 (T.get tm 7) (some (.int .i64 4)) λv97=>
 lD E 51 (some v97) λv98=>
 iD E 161 (T.get tm 7) (some (.int .i64 5)) λv99=>
 lD E 51 (some v99) λv100=>
 iD E 161 (T.get tm 7) (some (.int .i64 6)) λv101=>
 lD E 51 (some v101) λv102=>
 M.bind (oS (seqP [(0,(some v86)),(1,(some v88)),(2,(some v90)),(3,(some v92)),(4,(some v96)),(5,(some v98)),(6,(some v100)),(7,(some v102))]) λps=>Bj E 161 ps) λv103=>
 M.bind (oS (T.get tm 7) λa=>oS (some v103) λb=>Ao E 161 a b) λ_=>
 M.pure tm
theorem OV_:RegEq 132 118 BO X0 HH_:={}
theorem Hw_:Ah Q1=some 105:=by kernel_rfl
def Cq_:Rg:=λE call round tm=>
 mv (T.get tm 8) λv18=>
 bI E .add 3 (.tmp 18) (.const (.int .i64 1)) (some v18) (some (.int .i64 1)) λv19=>
 mv (some v19) λv8=>
 setF 8 v8 tm λtm1=>
 M.pure tm1
theorem AkN_:RegEq 132 118 BO Jo_ Cq_:={}
def V6:Rd:=λE call round tm=>
 PD (T.get tm 11) λp0=>
 PD (T.get tm 11) λp1=>
 ID E 161 (T.get tm 2) (some p1.1) λp2=>
 LD E 51 (some p2.1) λp3=>
 PD (T.get tm 11) λp4=>
 ID E 161 (T.get tm 7) (some p4.1) λp5=>
 LD E 51 (some p5.1) λp6=>
 BI E .add 51 (.tmp 111) (.tmp 114) (some p3.1) (some p6.1) λp7=>
 ID E 161 (T.get tm 2) (some p0.1) λp8=>
 fJ [p8,p7,p6,p5,p4,p3,p2,p1,p0] tm
theorem Afz_:DrawEq 132 118 BO Qb [0,0,2,6,0,16,48,126,255,511] V6:={}
theorem Oh_ (E:Env)(call round:Ac)(x108 x109 x110 x111 x112 x113 x114 x115 x116:Value)(tm:T Value)(s:St):AH call round (A7 E BO 118 (hdC Qb)) [x116,x115,x114,x113,x112,x111,x110,x109,x108] tm s=(M.bind (oS (some x116) λa=>oS (some x115) λb=>Ao E 51 a b) λ_=>M.pure tm) s:=by kernel_rfl
def AR_:Rg:=λE call round tm=>
 lD E 161 (T.get tm 2) λv117=>
 M.bind (oS (T.get tm 4) λa=>oS (some v117) λb=>Ao E 161 a b) λ_=>
 M.pure tm
theorem AlZ_:RegEq 132 118 BO Pq AR_:={}
def MV_:Rg:=λE call round tm=>
 mv (T.get tm 11) λv106=>
 bI E .add 3 (.tmp 106) (.const (.int .i64 1)) (some v106) (some (.int .i64 1)) λv107=>
 mv (some v107) λv11=>
 setF 11 v11 tm λtm1=>
 M.pure tm1
theorem Aij_:RegEq 132 118 BO Mx_ MV_:={}
theorem Aas_: ∃k,Tt= .code .ret::k:=⟨Tt.tail,by kernel_rfl⟩
def B0:Nat:=Ar Try.f146
abbrev KO:Nat:=89
def Sm:Code:=Try.f146.body.getD .skip
theorem Wd:envS.fn.get 146=some Try.f146:=by kernel_rfl
theorem Ada_:G1 envS 146 89 B0 Sm:=λh=>
 aM Wd (h _ (by kernel_rfl))
theorem Akx_:Try.f146.results.toList=[.cell 2 179]:=by kernel_rfl
def GT_:List Item:=skim 64 [.code Sm]
def Iu_:=nx GT_
def W3:=nx Iu_
def Lx:=nx W3
def Oe:=nx Lx
def RZ:=bt Oe
def PV:=bf Oe
def Kk_:=nx RZ
def Jx:=nx PV
theorem AgL_:skim 64 Kk_.tail=Lx:=by kernel_rfl
def RV:=nx Jx
def Po:=bt RV
def N6:=bf RV
def OZ:=nx Po
def HO_:=nx N6
def Iz_:=nx OZ
theorem Ve_:skim 64 Iz_.tail=Jx:=by kernel_rfl
def U5:Rg:=λE call round tm=>
 M.bind (AI E 179) λv2=>
 setF 2 v2 tm λtm1=>
 M.pure tm1
theorem Ade_:RegEq 146 89 B0 GT_ U5:={}
def UD:Rg:=λE call round tm=>
 M.bind (AI E 179) λv3=>
 setF 3 v3 tm λtm1=>
 M.pure tm1
theorem Vn_:RegEq 146 89 B0 Iu_ UD:={}
def BQ_:Rg:=λE call round tm=>
 mv (some (.int .i64 0)) λv4=>
 setF 4 v4 tm λtm1=>
 M.pure tm1
theorem RG_:RegEq 146 89 B0 W3 BQ_:={}
def Sd:Rg:=λE call round tm=>
 mv (T.get tm 4) λv8=>
 bI E .lss 3 (.tmp 8) (.const (.int .i64 16)) (some v8) (some (.int .i64 16)) λv9=>
 setF 9 v9 tm λtm1=>
 M.pure tm1
theorem Ca_:RegEq 146 89 B0 Lx Sd:={}
theorem HI_:Ah Oe=some 9:=by kernel_rfl
def Ih_:Rd:=λE call round tm=>
 PD (T.get tm 4) λp0=>
 PD (T.get tm 0) λp1=>
 PD (T.get tm 4) λp2=>
 BI E .mul 3 (.const (.int .i64 4)) (.tmp 14) (some (.int .i64 4)) (some p2.1) λp3=>
 ID E 22 (some p1.1) (some p3.1) λp4=>
 LD E 5 (some p4.1) λp5=>
 VB E 5 51 (some p5.1) λp6=>
 BI E .shl 51 (.tmp 18) (.const (.int .u64 24)) (some p6.1) (some (.int .u64 24)) λp7=>
 PD (T.get tm 0) λp8=>
 PD (T.get tm 4) λp9=>
 BI E .mul 3 (.const (.int .i64 4)) (.tmp 21) (some (.int .i64 4)) (some p9.1) λp10=>
 BI E .add 3 (.tmp 22) (.const (.int .i64 1)) (some p10.1) (some (.int .i64 1)) λp11=>
 ID E 22 (some p8.1) (some p11.1) λp12=>
 LD E 5 (some p12.1) λp13=>
 VB E 5 51 (some p13.1) λp14=>
 BI E .shl 51 (.tmp 26) (.const (.int .u64 16)) (some p14.1) (some (.int .u64 16)) λp15=>
 BI E .or 51 (.tmp 19) (.tmp 27) (some p7.1) (some p15.1) λp16=>
 PD (T.get tm 0) λp17=>
 PD (T.get tm 4) λp18=>
 BI E .mul 3 (.const (.int .i64 4)) (.tmp 30) (some (.int .i64 4)) (some p18.1) λp19=>
 BI E .add 3 (.tmp 31) (.const (.int .i64 2)) (some p19.1) (some (.int .i64 2)) λp20=>
 ID E 22 (some p17.1) (some p20.1) λp21=>
 LD E 5 (some p21.1) λp22=>
 VB E 5 51 (some p22.1) λp23=>
 BI E .shl 51 (.tmp 35) (.const (.int .u64 8)) (some p23.1) (some (.int .u64 8)) λp24=>
 BI E .or 51 (.tmp 28) (.tmp 36) (some p16.1) (some p24.1) λp25=>
 PD (T.get tm 0) λp26=>
 PD (T.get tm 4) λp27=>
 BI E .mul 3 (.const (.int .i64 4)) (.tmp 39) (some (.int .i64 4)) (some p27.1) λp28=>
 BI E .add 3 (.tmp 40) (.const (.int .i64 3)) (some p28.1) (some (.int .i64 3)) λp29=>
 ID E 22 (some p26.1) (some p29.1) λp30=>
 LD E 5 (some p30.1) λp31=>
 VB E 5 51 (some p31.1) λp32=>
 BI E .or 51 (.tmp 37) (.tmp 44) (some p25.1) (some p32.1) λp33=>
 ID E 179 (T.get tm 3) (some p0.1) λp34=>
 fJ [p34,p33,p32,p31,p30,p29,p28,p27,p26,p25,p24,p23,p22,p21,p20,p19,p18,p17,p16,p15,p14,p13,p12,p11,p10,p9,p8,p7,p6,p5,p4,p3,p2,p1,p0] tm
theorem Alo_:DrawEq 146 89 B0 RZ [0,0,0,4,14,30,62,126,0,0,512,1536,3840,7936,16128,32512,65534,0,0,262144,786432,1966080,4063232,8257536,16646144,33554430,0,0,134217728,402653184,1006632960,2080374784,4227858432,8589934590,17179869183,34359738367] Ih_:={}
theorem Agu_ (E:Env)(call round:Ac)(x12 x13 x14 x15 x16 x17 x18 x19 x20 x21 x22 x23 x24 x25 x26 x27 x28 x29 x30 x31 x32 x33 x34 x35 x36 x37 x38 x39 x40 x41 x42 x43 x44 x45 x46:Value)(tm:T Value)(s:St):AH call round (A7 E B0 89 (hdC RZ)) [x46,x45,x44,x43,x42,x41,x40,x39,x38,x37,x36,x35,x34,x33,x32,x31,x30,x29,x28,x27,x26,x25,x24,x23,x22,x21,x20,x19,x18,x17,x16,x15,x14,x13,x12] tm s=(M.bind (oS (some x46) λa=>oS (some x45) λb=>Ao E 51 a b) λ_=>M.pure tm) s:=by kernel_rfl
def Aa_:Rg:=λE call round tm=>
 mv (some (.int .i64 16)) λv5=>
 setF 5 v5 tm λtm1=>
 M.pure tm1
theorem XE_:RegEq 146 89 B0 PV Aa_:={}
def Bd_:Rg:=λE call round tm=>
 mv (T.get tm 4) λv10=>
 bI E .add 3 (.tmp 10) (.const (.int .i64 1)) (some v10) (some (.int .i64 1)) λv11=>
 mv (some v11) λv4=>
 setF 4 v4 tm λtm1=>
 M.pure tm1
theorem Ajd_:RegEq 146 89 B0 Kk_ Bd_:={}
def OO:Rg:=λE call round tm=>
 mv (T.get tm 5) λv47=>
 bI E .lss 3 (.tmp 47) (.const (.int .i64 64)) (some v47) (some (.int .i64 64)) λv48=>
 setF 48 v48 tm λtm1=>
 M.pure tm1
theorem VD:RegEq 146 89 B0 Jx OO:={}
theorem To:Ah RV=some 48:=by kernel_rfl
def SW:Rd:=λE call round tm=>
 PD (T.get tm 5) λp0=>
 BI E .sub 3 (.tmp 51) (.const (.int .i64 15)) (some p0.1) (some (.int .i64 15)) λp1=>
 ID E 179 (T.get tm 3) (some p1.1) λp2=>
 LD E 51 (some p2.1) λp3=>
 PD (T.get tm 5) λp4=>
 BI E .sub 3 (.tmp 55) (.const (.int .i64 2)) (some p4.1) (some (.int .i64 2)) λp5=>
 ID E 179 (T.get tm 3) (some p5.1) λp6=>
 LD E 51 (some p6.1) λp7=>
 PD (some p3.1) λp8=>
 setT 6 p8.1 tm λtm1=>
 fJ [p8,p7,p6,p5,p4,p3,p2,p1,p0] tm1
theorem RK_:DrawEq 146 89 B0 Po [0,1,3,7,0,16,48,112,15,511] SW:={}
theorem Um_ (E:Env)(call round:Ac)(x51 x52 x53 x54 x55 x56 x57 x58 x6:Value)(tm:T Value)(s:St):AH call round (A7 E B0 89 (hdC Po)) [x6,x58,x57,x56,x55,x54,x53,x52,x51] tm s=(M.bind (oS (some x58) λa=>M.pure a) λv7=>setT 7 v7 tm λtm1=>M.pure tm1) s:=by kernel_rfl
def HE_:Rg:=λE call round tm=>
 lD E 179 (T.get tm 3) λv88=>
 M.bind (oS (T.get tm 2) λa=>oS (some v88) λb=>Ao E 179 a b) λ_=>
 M.pure tm
theorem Yj_:RegEq 146 89 B0 N6 HE_:={}
def HR_:Rd:=λE call round tm=>
 PD (T.get tm 5) λp0=>
 PD (T.get tm 5) λp1=>
 BI E .sub 3 (.tmp 60) (.const (.int .i64 16)) (some p1.1) (some (.int .i64 16)) λp2=>
 ID E 179 (T.get tm 3) (some p2.1) λp3=>
 LD E 51 (some p3.1) λp4=>
 PD (T.get tm 6) λp5=>
 CN call round 148 [(some p5.1),(some (.int .i64 7))] λp6=>
 PD (T.get tm 6) λp7=>
 CN call round 148 [(some p7.1),(some (.int .i64 18))] λp8=>
 BI E .xor 51 (.tmp 65) (.tmp 67) (some p6.1) (some p8.1) λp9=>
 PD (T.get tm 6) λp10=>
 BI E .shr 51 (.tmp 69) (.const (.int .u64 3)) (some p10.1) (some (.int .u64 3)) λp11=>
 BI E .xor 51 (.tmp 68) (.tmp 70) (some p9.1) (some p11.1) λp12=>
 BI E .add 51 (.tmp 63) (.tmp 71) (some p4.1) (some p12.1) λp13=>
 PD (T.get tm 5) λp14=>
 BI E .sub 3 (.tmp 73) (.const (.int .i64 7)) (some p14.1) (some (.int .i64 7)) λp15=>
 ID E 179 (T.get tm 3) (some p15.1) λp16=>
 LD E 51 (some p16.1) λp17=>
 BI E .add 51 (.tmp 72) (.tmp 76) (some p13.1) (some p17.1) λp18=>
 PD (T.get tm 7) λp19=>
 CN call round 148 [(some p19.1),(some (.int .i64 17))] λp20=>
 PD (T.get tm 7) λp21=>
 CN call round 148 [(some p21.1),(some (.int .i64 19))] λp22=>
 BI E .xor 51 (.tmp 79) (.tmp 81) (some p20.1) (some p22.1) λp23=>
 PD (T.get tm 7) λp24=>
 BI E .shr 51 (.tmp 83) (.const (.int .u64 10)) (some p24.1) (some (.int .u64 10)) λp25=>
 BI E .xor 51 (.tmp 82) (.tmp 84) (some p23.1) (some p25.1) λp26=>
 BI E .add 51 (.tmp 77) (.tmp 85) (some p18.1) (some p26.1) λp27=>
 ID E 179 (T.get tm 3) (some p0.1) λp28=>
 fJ [p28,p27,p26,p25,p24,p23,p22,p21,p20,p19,p18,p17,p16,p15,p14,p13,p12,p11,p10,p9,p8,p7,p6,p5,p4,p3,p2,p1,p0] tm
theorem Xe_:DrawEq 146 89 B0 OZ [0,0,2,6,14,0,32,0,224,480,0,1024,4064,8190,0,16384,49152,114688,262142,0,524768,0,3670496,7864800,0,16777216,66585056,134217726,268435455,536870911] HR_:={}
theorem XI_ (E:Env)(call round:Ac)(x59 x60 x61 x62 x63 x64 x65 x66 x67 x68 x69 x70 x71 x72 x73 x74 x75 x76 x77 x78 x79 x80 x81 x82 x83 x84 x85 x86 x87:Value)(tm:T Value)(s:St):AH call round (A7 E B0 89 (hdC OZ)) [x87,x86,x85,x84,x83,x82,x81,x80,x79,x78,x77,x76,x75,x74,x73,x72,x71,x70,x69,x68,x67,x66,x65,x64,x63,x62,x61,x60,x59] tm s=(M.bind (oS (some x87) λa=>oS (some x86) λb=>Ao E 51 a b) λ_=>M.pure tm) s:=by kernel_rfl
theorem AaV_: ∃k,HO_= .code .ret::k:=⟨HO_.tail,by kernel_rfl⟩
def Ed_:Rg:=λE call round tm=>
 mv (T.get tm 5) λv49=>
 bI E .add 3 (.tmp 49) (.const (.int .i64 1)) (some v49) (some (.int .i64 1)) λv50=>
 mv (some v50) λv5=>
 setF 5 v5 tm λtm1=>
 M.pure tm1
theorem Rk_:RegEq 146 89 B0 Iz_ Ed_:={}
def Ni:Nat:=Ar Try.f147
def Gs_:Code:=Try.f147.body.getD .skip
theorem Tg:envS.fn.get 147=some Try.f147:=by kernel_rfl
theorem AeT_:G0 envS 147 2 Ni Gs_:=λh=>
 aM Tg (h _)
theorem WH_:Try.f147.results.toList=[.cell 0 179]:=by kernel_rfl
def Zd:List Item:=skim 64 [.code Gs_]
def Jc_:=nx Zd
def W5:=nx Jc_
def AI_:Rg:=λE call round tm=>
 M.bind (AI E 179) λv0=>
 setF 0 v0 tm λtm1=>
 M.pure tm1
theorem Of_:RegEq 147 2 Ni Zd AI_:={}
def TV:Rg:=λE call round tm=>
 M.bind (oS (seqP [(0,(some (.int .u32 1116352408))),(1,(some (.int .u32 1899447441))),(2,(some (.int .u32 3049323471))),(3,(some (.int .u32 3921009573))),(4,(some (.int .u32 961987163))),(5,(some (.int .u32 1508970993))),(6,(some (.int .u32 2453635748))),(7,(some (.int .u32 2870763221))),(8,(some (.int .u32 3624381080))),(9,(some (.int .u32 310598401))),(10,(some (.int .u32 607225278))),(11,(some (.int .u32 1426881987))),(12,(some (.int .u32 1925078388))),(13,(some (.int .u32 2162078206))),(14,(some (.int .u32 2614888103))),(15,(some (.int .u32 3248222580))),(16,(some (.int .u32 3835390401))),(17,(some (.int .u32 4022224774))),(18,(some (.int .u32 264347078))),(19,(some (.int .u32 604807628))),(20,(some (.int .u32 770255983))),(21,(some (.int .u32 1249150122))),(22,(some (.int .u32 1555081692))),(23,(some (.int .u32 1996064986))),(24,(some (.int .u32 2554220882))),(25,(some (.int .u32 2821834349))),(26,(some (.int .u32 2952996808))),(27,(some (.int .u32 3210313671))),(28,(some (.int .u32 3336571891))),(29,(some (.int .u32 3584528711))),(30,(some (.int .u32 113926993))),(31,(some (.int .u32 338241895))),(32,(some (.int .u32 666307205))),(33,(some (.int .u32 773529912))),(34,(some (.int .u32 1294757372))),(35,(some (.int .u32 1396182291))),(36,(some (.int .u32 1695183700))),(37,(some (.int .u32 1986661051))),(38,(some (.int .u32 2177026350))),(39,(some (.int .u32 2456956037))),(40,(some (.int .u32 2730485921))),(41,(some (.int .u32 2820302411))),(42,(some (.int .u32 3259730800))),(43,(some (.int .u32 3345764771))),(44,(some (.int .u32 3516065817))),(45,(some (.int .u32 3600352804))),(46,(some (.int .u32 4094571909))),(47,(some (.int .u32 275423344))),(48,(some (.int .u32 430227734))),(49,(some (.int .u32 506948616))),(50,(some (.int .u32 659060556))),(51,(some (.int .u32 883997877))),(52,(some (.int .u32 958139571))),(53,(some (.int .u32 1322822218))),(54,(some (.int .u32 1537002063))),(55,(some (.int .u32 1747873779))),(56,(some (.int .u32 1955562222))),(57,(some (.int .u32 2024104815))),(58,(some (.int .u32 2227730452))),(59,(some (.int .u32 2361852424))),(60,(some (.int .u32 2428436474))),(61,(some (.int .u32 2756734187))),(62,(some (.int .u32 3204031479))),(63,(some (.int .u32 3329325298)))]) λps=>Bj E 179 ps) λv1=>
 M.bind (oS (T.get tm 0) λa=>oS (some v1) λb=>Ao E 179 a b) λ_=>
 M.pure tm
theorem Sy_:RegEq 147 2 Ni Jc_ TV:={}
theorem Sh_: ∃k,W5= .code .ret::k:=⟨W5.tail,by kernel_rfl⟩
def Jh:Nat:=Ar Try.f148
def FL_:Code:=Try.f148.body.getD .skip
theorem Lb_:envS.fn.get 148=some Try.f148:=by kernel_rfl
theorem Aev_:G2 envS 148 13 Jh FL_:=λh=>
 aM Lb_ (h _ (by kernel_rfl) (by kernel_rfl))
theorem Wk_:Try.f148.results.toList=[.tmp 4]:=by kernel_rfl
def Yg:List Item:=skim 64 [.code FL_]
def NY:=nx Yg
def Dj_:=nx NY
def EE_:Rg:=λE call round tm=>
 mv (some (.int .u32 0)) λv4=>
 setF 4 v4 tm λtm1=>
 M.pure tm1
theorem AbP_:RegEq 148 13 Jh Yg EE_:={}
def DI_:Rd:=λE call round tm=>
 PD (T.get tm 0) λp0=>
 PD (T.get tm 1) λp1=>
 BI E .shr 51 (.tmp 5) (.tmp 6) (some p0.1) (some p1.1) λp2=>
 PD (T.get tm 0) λp3=>
 PD (T.get tm 1) λp4=>
 BI E .sub 3 (.const (.int .i64 32)) (.tmp 9) (some (.int .i64 32)) (some p4.1) λp5=>
 BI E .shl 51 (.tmp 8) (.tmp 10) (some p3.1) (some p5.1) λp6=>
 BI E .or 51 (.tmp 7) (.tmp 11) (some p2.1) (some p6.1) λp7=>
 fJ [p7,p6,p5,p4,p3,p2,p1,p0] tm
theorem Akg_:DrawEq 148 13 Jh NY [0,0,3,0,0,16,56,127,255] DI_:={}
theorem Sj_ (E:Env)(call round:Ac)(x5 x6 x7 x8 x9 x10 x11 x12:Value)(tm:T Value)(s:St):AH call round (A7 E Jh 13 (hdC NY)) [x12,x11,x10,x9,x8,x7,x6,x5] tm s=(M.bind (oS (some x12) λa=>M.pure a) λv4=>setT 4 v4 tm λtm1=>M.pure tm1) s:=by kernel_rfl
theorem Adm_: ∃k,Dj_= .code .ret::k:=⟨Dj_.tail,by kernel_rfl⟩
theorem Rr_ {x k:Nat}:x>>>k|||x<<<(32-k)%4294967296=rot x k:=by
 unfold rot
 rw[Nat.shiftRight_eq_div_pow,Nat.shiftLeft_eq]
theorem Qk_ {k n x:Nat}(hk:k<=32)(hx:x<4294967296)(hn:10<=n)(s:St):Ab envS (runF envS n) 148 [.int .u32 (x:Nat), .int .i64 (k:Nat)] s= .some (.int .u32 (rot x k:Nat)) s:=by
 have h:W (Ab envS (runF envS n) 148 [.int .u32 (x:Nat), .int .i64 (k:Nat)]) s λv s1=>v= .int .u32 (rot x k:Nat)/\s1=s:=by
  refine Aev_ λtm h0 h1=> ?_
  refine AbP_.u ?_
  simp only[EE_,RR,SS]
  refine Akg_.u ?_
  have e32:wrap64 ((32:Int)-(k:Nat))=((32-k:Nat):Int):=by
   rw[Ax (by omega) (by omega)];omega
  simp only[DI_,RR,T.get_set,Nat.reduceEqDiff, ↓reduceIte,h0,h1,AJ,Ag]
  rw[MO k rfl hk]
  simp only[Ag,IN,e32]
  rw[Kb (32-k) rfl (by omega)]
  simp only[JM]
  rw[Rr_,Nat.mod_eq_of_lt (AQ x k hx),AK]
  refine⟨CI (by simp) (by simp), ?_⟩
  refine aJ (Sj_ _ _ _ _ _ _ _ _ _ _ _ _ _) ?_
  simp only[SS]
  refine aF (rs:=[4]) (vs:=[.int .u32 (rot x k:Nat)]) rfl (.inl Adm_) (by omega) Lb_ Wk_ rfl (by simp[T.get_set]) ?_
  exact⟨rfl,rfl⟩
 obtain⟨v,s1,e,rfl,rfl⟩:=h
 exact e
theorem Hg:CG envS 179=some (List.replicate 64 (.int .u32 0)):=by kernel_rfl
theorem Ga:tyS envS 179=some (64,true):=by kernel_rfl
theorem EV:arrN envS 179=some (64,1):=by kernel_rfl
theorem AY:tyS envS 51=some (1,false):=by kernel_rfl
def w32 (l:List Nat):List Value:=l.map λn=> .int .u32 (n:Nat)
theorem BF (l:List Nat):(w32 l).length=l.length:=List.length_map ..
theorem Dl {l:List Nat}{i:Nat}(h:i<l.length):(w32 l)[i]?=some (.int .u32 (l.getD i 0:Nat)):=by
 unfold w32
 rw[List.getElem?_map,List.getElem?_eq_getElem h,List.getD_eq_getElem?_getD,List.getElem?_eq_getElem h]
 rfl
theorem Aa.set {F:Nat->Prop}{s s':St}{b o i:Nat}{l:List Value}{v:Value}(h:Aa s b o l)(e:Ext F (In b (o+i) 1) s s')(k:Own s' b (o+i) v):Aa s' b o (l.set i v):=λj u hj=>by
 rw[List.getElem?_set]at hj
 by_cases hij:i=j
 ·subst hij
  rw[if_pos rfl]at hj
  split at hj
  ·cases hj
   exact k
  ·cases hj
 ·rw[if_neg hij]at hj
  exact(h j u hj).ext e λhx=>hij (by have h1:=hx.1;have h2:=hx.2;omega)
theorem NQ (l:List Nat)(i x:Nat):(w32 l).set i (.int .u32 (x:Nat))=w32 (l.set i x):=by
 unfold w32
 rw[List.map_set]
section
variable {E:Env}{t:Nat}{xo yo:Operand}{γ:Type}{f:Value×OpLog->M γ}{mem:T Cell}{next:Nat}{Q:γ->St->Prop}
theorem Lz {c:Nat}:W (M.bind (apartO (BZ envS 5 51 (.int .u8 (c:Nat)))) f) (dSt mem next) Q=W (f (.int .u32 (c%4294967296:Nat),⟨next,next,[],[]⟩)) (dSt mem next) Q:=by
 rw[W_dq λs Q=>Cu (s:=s) Ty CR_ Q,wrap_u32]
theorem J0 {i:Nat}(h:4*i<=9223372036854775807):W (M.bind (apartO (Cl.get (aBin E .mul t xo yo) (.int .i64 4) (.int .i64 (i:Nat)))) f) (dSt mem next) Q=W (f (.int .i64 (4*i:Nat),⟨next,next,[],[]⟩)) (dSt mem next) Q:=W_dq λ_ Q=>SG h Q
theorem KX {b o c k len:Nat}{kd:IntKind}(hk:k<len):W (M.bind (apartO (BE envS 22 (.slice (some ⟨b,o,none⟩) len c) (.int kd (k:Nat)))) f) (dSt mem next) Q=W (f (.pointer (some ⟨b,o+k*1,none⟩),⟨next,next,[],[]⟩)) (dSt mem next) Q:=W_dq λ_ Q=>AL Al hk Q
theorem DV {call:Ac}{round:Ac}{i:Int}{n x:Nat}(k:Nat)(e:i=(k:Nat))(hk:k<=32)(hc:call=Ab envS (runF envS n))(hx:x<4294967296)(hn:10<=n):W (M.bind (apartO (Bk call round (.func (.func 148) #[] #[]) [.int .u32 (x:Nat), .int .i64 i])) f) (dSt mem next) Q=W (f (.int .u32 (rot x k:Nat),⟨next,next,[],[]⟩)) (dSt mem next) Q:=by
 subst e;subst hc
 refine W_dq λs Q=> ?_
 rw[HG]
 exact AC (Qk_ hk hx hn s)
end
theorem Agk_ {a b c d:Nat}(ha:a<256)(hb:b<256)(hc:c<256)(hd:d<256):(((a%4294967296)<<<24%4294967296|||(b%4294967296)<<<16%4294967296)%4294967296|||(c%4294967296)<<<8%4294967296)%4294967296|||d%4294967296=Sha.be a b c d:=by
 unfold Sha.be
 rw[Nat.mod_eq_of_lt (show a<4294967296 by omega),Nat.mod_eq_of_lt (show b<4294967296 by omega),Nat.mod_eq_of_lt (show c<4294967296 by omega),Nat.mod_eq_of_lt (show d<4294967296 by omega),Nat.shiftLeft_eq,Nat.shiftLeft_eq,Nat.shiftLeft_eq,
  Nat.mod_eq_of_lt (show a*2^24<4294967296 by omega),Nat.mod_eq_of_lt (show b*2^16<4294967296 by omega),Nat.mod_eq_of_lt (show c*2^8<4294967296 by omega),Nat.mod_eq_of_lt (Sha.or_lt (show a*2^24<4294967296 by omega) (show b*2^16<4294967296 by omega)),Nat.mod_eq_of_lt (Sha.or_lt (Sha.or_lt (show a*2^24<4294967296 by omega) (show b*2^16<4294967296 by omega)) (show c*2^8<4294967296 by omega))]
section
variable {b o cc B C:Nat}{l:List Nat}{Q:Value×FrameMode->St->Prop}{s0:St}
theorem Alw_ (hb0:s0.lim<=s0.next)(hBl:s0.lim<=B)(hrow:Row s0 b o (u8l l))(hdis: ∀x,In b o 64 x-> ¬In B 0 64 x)(hl64:l.length=64)(hby:Byt l): ∀(k i n:Nat) (tm:T Value) (s:St) (td:List Item) (ws:List Nat),i+k=16->6*k+30<=n->skim 64 td=Lx->Ext (In b o 64) (In B 0 64) s0 s->Aa s B 0 (w32 ws)->ws.length=64->(∀j,j<i->ws.getD j 0=Sha.sch (λj=>l.getD j 0) j)->
  T.get tm 0=some (.slice (some ⟨b,o,none⟩) 64 cc)->T.get tm 2=some (.pointer (some ⟨C,0,none⟩))->T.get tm 3=some (.pointer (some ⟨B,0,none⟩))->T.get tm 4=some (.int .i64 (i:Nat))->
  (∀n' tm' s1 td' ws',n<=n'+6*k+10->skim 64 td'=PV->Ext (In b o 64) (In B 0 64) s0 s1->Aa s1 B 0 (w32 ws')->ws'.length=64->(∀j,j<16->ws'.getD j 0=Sha.sch (λj=>l.getD j 0) j)->T.get tm' 2=some (.pointer (some ⟨C,0,none⟩))->T.get tm' 3=some (.pointer (some ⟨B,0,none⟩))->W (runF envS n' ⟨146,KO,B0,tm',td', .run, .normal,none⟩) s1 Q)->
  W (runF envS n ⟨146,KO,B0,tm,td, .run, .normal,none⟩) s Q:=by
 intro k
 induction k with
 |zero=>
  intro i n tm s td ws hi hn hT hx ho hw hws h0 h2 h3 h4 q
  refine Ca_.u ?_ hT
  simp only[Sd,RR,SS,Ak,h4]
  refine aH HI_ ?_
  obtain rfl:i=16:=by omega
  exact q _ _ _ _ ws (by omega) rfl hx ho hw hws (by simp[T.get_set,h2]) (by simp[T.get_set,h3])
 |succ k ih=>
  intro i n tm s td ws hi hn hT hx ho hw hws h0 h2 h3 h4 q
  refine Ca_.u ?_ hT
  simp only[Sd,RR,SS,Ak,h4]
  refine aI HI_ ?_
  have hat: ∀j,j<64->At s b (o+j*1) (.int .u8 (l.getD j 0:Nat)):=λj hj=>by
   have h1:At s0 b (o+j) (.int .u8 (l.getD j 0:Nat)):=hrow j _ (by unfold u8l;rw[List.getElem?_map,List.getD_eq_getElem?_getD,List.getElem?_eq_getElem (by omega)];rfl)
   rw[Nat.mul_one]
   exact h1.ext hx (hdis _ ⟨by omega,by omega⟩)
  have hc: ∀j,l.getD j 0<256:=λj=>by
   rw[List.getD_eq_getElem?_getD]
   cases h:l[j]? with
   |none=>exact(by decide:0<256)
   |some x=>exact hby x (List.mem_of_getElem? h)
  obtain⟨F,hF⟩: ∃F:Nat->Prop,F=In b o 64:=⟨_,rfl⟩
  have w1:wrap64 (((4*i:Nat):Int)+1)=((4*i+1:Nat):Int):=by rw[Ax (by omega) (by omega)];simp
  have w2:wrap64 (((4*i:Nat):Int)+2)=((4*i+2:Nat):Int):=by rw[Ax (by omega) (by omega)];simp
  have w3:wrap64 (((4*i:Nat):Int)+3)=((4*i+3:Nat):Int):=by rw[Ax (by omega) (by omega)];simp
  refine Alo_.rd (F:=F) rfl (by omega) ?_
  simp only[Ih_,RR,T.get_set,Nat.reduceEqDiff, ↓reduceIte,h0,h3,h4,AJ,Ag,J0 (show 4*i<=9223372036854775807 by omega),KX (show 4*i<64 by omega)]
  refine aC Cd ((hat (4*i) (by omega)).same rfl rfl) λrd0 hr0=> ?_
  simp only[Ag,Lz,Kb (i:=24) 24 rfl (by decide),J0 (show 4*i<=9223372036854775807 by omega),JO,w1,KX (show 4*i+1<64 by omega)]
  refine aC Cd ((hat (4*i+1) (by omega)).same rfl rfl) λrd1 hr1=> ?_
  simp only[Ag,Lz,Kb (i:=16) 16 rfl (by decide),JM,J0 (show 4*i<=9223372036854775807 by omega),JO,w2,KX (show 4*i+2<64 by omega)]
  refine aC Cd ((hat (4*i+2) (by omega)).same rfl rfl) λrd2 hr2=> ?_
  simp only[Ag,Lz,Kb (i:=8) 8 rfl (by decide),JM,J0 (show 4*i<=9223372036854775807 by omega),JO,w3,KX (show 4*i+3<64 by omega)]
  refine aC Cd ((hat (4*i+3) (by omega)).same rfl rfl) λrd3 hr3=> ?_
  simp only[Lz,JM,Bm (i:=((i:Nat):Int)) (k:=i) rfl EV (show i<64 by omega)]
  have l0: ∀x∈rd0,F x:=λx hx=>by rw[hF,hr0 x hx];exact⟨by omega,by omega⟩
  have l1: ∀x∈rd1,F x:=λx hx=>by rw[hF,hr1 x hx];exact⟨by omega,by omega⟩
  have l2: ∀x∈rd2,F x:=λx hx=>by rw[hF,hr2 x hx];exact⟨by omega,by omega⟩
  have l3: ∀x∈rd3,F x:=λx hx=>by rw[hF,hr3 x hx];exact⟨by omega,by omega⟩
  rw[Agk_ (hc _) (hc _) (hc _) (hc _),Nat.mod_eq_of_lt (Sha.be_lt (hc _) (hc _) (hc _) (hc _)),<-Sha.sch_lo (B:=λj=>l.getD j 0) (show i<16 by omega),AK]
  refine⟨rfl,by simp, ?_,λs' m' n' x'=> ?_⟩
  ·dsimp only
   simp only[List.forall_mem_cons]
   repeat' apply And.intro
   all_goals first|trivial|assumption|(intro x hx;cases hx)
  refine aJ (Agu_ ..) ?_
  simp only[SS]
  have hb':s.lim<=s.next:=hx.bnd hb0
  have hx':Ext (In b o 64) (In B 0 64) s0 s':=hx.trans x' hb0 (λy _ h=>by rw[hF]at h;exact h) λ_ _ h=>h.elim
  have ho':Aa s' B 0 (w32 ws):=λj v e=>(ho j v e).ext x' id
  have hown:=ho' i _ (Dl (show i<ws.length by omega))
  refine aL (o:=0+i*1) AY rfl (by rw[Nat.mul_one];exact hown) λs2 n2 x2 o2=> ?_
  rw[Nat.mul_one]at x2 o2
  have ho2:Aa s2 B 0 (w32 (ws.set i (Sha.sch (λj=>l.getD j 0) i))):=by
   rw[<-NQ]
   exact ho'.set x2 o2
  have hx2:Ext (In b o 64) (In B 0 64) s0 s2:=hx'.trans x2 hb0 (λy hy h=>by have h1:B+(0+i)<=y:=h.1;omega) λy _ h=>by
   have h1:B+(0+i)<=y:=h.1
   have h2:y<B+(0+i)+1:=h.2
   exact⟨by omega,by omega⟩
  refine Ajd_.u ?_
  have ei:=eiW (i:=i) (by omega)
  simp only[Bd_,RR,SS,Nat.reduceEqDiff, ↓reduceIte,Aw,h4,ei]
  refine ih (i+1) _ _ _ _ (ws.set i (Sha.sch (λj=>l.getD j 0) i)) (by omega) (by omega) AgL_ hx2 ho2 (by rw[List.length_set];exact hw) (λj hj=> ?_) (by simp[T.get_set,h0]) (by simp[T.get_set,h2]) (by simp[T.get_set,h3]) (by simp[T.get_set]) λn' tm' s3 td' ws' e=>q n' tm' s3 td' ws' (by omega)
  rw[List.getD_eq_getElem?_getD,List.getElem?_set]
  by_cases hij:i=j
  ·subst hij
   rw[if_pos rfl,if_pos (by omega)]
   rfl
  ·rw[if_neg hij,<-List.getD_eq_getElem?_getD]
   exact hws j (by omega)
end
theorem Yx_ (s:St):BZ envS 22 9 (.slice none 0 0) s= .some (.string (txt [])) s:=by kernel_rfl
theorem W.strA {v:Value}{l:List Nat}{s:St}{Q:Value->St->Prop}(h:Bs s v l)(q: ∀s1,s1.mem=s.mem->s1.next=s.next->Ext (BsF v) Non s s1->Q (.string (txt l)) s1):W (BZ envS 22 9 v) s Q:=by
 rcases h with⟨rfl,rfl⟩|⟨b,o,c,rfl,h1,h2,h3⟩
 ·exact a8 (Yx_ s) (q s rfl rfl (Ext.refl _))
 ·exact W.str (.inr ⟨b,o,c,rfl,h1,h2,h3⟩) (.inr ⟨b,o,c,rfl⟩) VE_ AlF_ q
theorem Alg_ {va vb:Value}{l:List Nat}{n:Nat}{s:St}{Q:Value->St->Prop}(hbd:s.lim<=s.next)(ha:Bs s va l)(hb:Bs s vb l)(hn:20<=n)
  (q: ∀s1,Ext (λx=>BsF va x\/BsF vb x) Non s s1->s1.mem=s.mem->s1.next=s.next->Q (.bool true) s1):W (Ab envS (runF envS n) 19 [va,vb]) s Q:=by
 refine RO_ λtm h0 h1=> ?_
 have ha':Bs (s.cxN cxN) va l:=ha.same rfl rfl
 have hb':Bs (s.cxN cxN) vb l:=hb.same rfl rfl
 refine AbY_.u ?_
 simp only[Ik_,RR,SS]
 refine Acy_.u ?_
 simp only[EI_,RR,SS,Nat.reduceEqDiff,reduceCtorEq, ↓reduceIte,h0,h1]
 refine W.strA ha' λsa ma na xa=> ?_
 refine W.strA (hb'.same ma na) λsb mb nb xb=> ?_
 have hx:Ext (λx=>BsF va x\/BsF vb x) Non (s.cxN cxN) sb:=(xa.weak hbd (λ_ _ h=> .inl h) λ_ _ h=>h).step xb hbd (λ_ _ h=> .inr h) λ_ h=>h.elim
 simp only[Up_,beq_self_eq_true]
 refine aF (rs:=[4]) (vs:=[.bool true]) rfl (.inl AhE_) (by omega) UM Xx_ hx.cx (by simp[T.get_set]) ?_
 exact q _ hx.cx' (mb.trans ma) (nb.trans na)
theorem Fw_: ∀{l m:List Nat},Byt l->Byt m->l.map UInt8.ofNat=m.map UInt8.ofNat->l=m
 |[],[],_,_,_=>rfl
 |[],_::_,_,_,e=>by cases e
 |_::_,[],_,_,e=>by cases e
 |a::l,b::m,h1,h2,e=>by
  have e1:UInt8.ofNat a=UInt8.ofNat b:=(List.cons.inj e).1
  have e2:l.map UInt8.ofNat=m.map UInt8.ofNat:=(List.cons.inj e).2
  have ha:=h1 a (by simp)
  have hb:=h2 b (by simp)
  have e3:=congrArg UInt8.toNat e1
  rw[UInt8.toNat_ofNat',UInt8.toNat_ofNat']at e3
  have:a=b:=by
   rw[Nat.mod_eq_of_lt ha,Nat.mod_eq_of_lt hb]at e3
   exact e3
  rw[this,Fw_ (λx hx=>h1 x (by simp[hx])) (λx hx=>h2 x (by simp[hx])) e2]
theorem Ke_ {l m:List Nat}(h1:Byt l)(h2:Byt m):((txt l).data.toList==(txt m).data.toList)=decide (l=m):=by
 unfold txt
 show(((l.map UInt8.ofNat).toArray).toList==((m.map UInt8.ofNat).toArray).toList)=_
 by_cases h:l=m
 ·rw[h,decide_eq_true rfl,beq_self_eq_true]
 ·rw[decide_eq_false h]
  exact beq_eq_false_iff_ne.2 λe=>h (Fw_ h1 h2 (by simpa using e))
theorem Ajf_ {n:Nat}{s:St}{v:Value}{l:List Nat}{Q:Value->St->Prop}(hbd:s.lim<=s.next)(h:Bn s v l)(hb:Byt l)(h5:5<=l.length)(hz:l.length<=900000)(hn:120*l.length+400<=n)
  (q1:GOk l-> ∀s1 w b,s.next<=b->Ext (BsF v) Non s s1->EmB s1 (l.take (l.length-4)) w b->Q (.tuple #[w, .int .i64 0]) s1) (q2: ¬GOk l-> ∀s1,Ext (BsF v) Non s s1->Q (.tuple #[.slice none 0 0, .int .i64 4]) s1):
  W (Ab envS (runF envS n) 87 [v]) s Q:=by
 refine Ou_ λtm h0=> ?_
 have hc:Bn (s.cxN cxN) v l:=h.same rfl rfl
 refine AbS_.u ?_
 simp only[EZ_,RR,SS]
 refine Alv_.u ?_
 simp only[BA_,RR,SS,reduceCtorEq, ↓reduceIte,h0]
 rw[hc.bs.len Al]
 simp only[Ak]
 refine aH YC_ ?_
 refine Aea_.u ?_
 simp only[EF_,RR,SS,reduceCtorEq, ↓reduceIte,h0]
 refine aK (s:=s.cxN cxN) hbd (r:=[]) Ck (by decide) rfl (Az (by decide)) λs1 n1 x1 r1=> ?_
 have hb1:s1.lim<=s1.next:=x1.bnd hbd
 have hx1:Ext (BsF v) Non (s.cxN cxN) s1:=(Ext.refl _).step x1 hbd (λ_ _ h=>h.elim) λ_ h=>h.elim
 have hc1:=hc.ext0 hx1
 have ek:wrap64 (((l.length:Nat):Int)-4)=((l.length-4:Nat):Int):=by
  rw[Ax (by omega) (by omega)];omega
 rw[hc1.bs.len Al]
 simp only[Cq,ek]
 refine W.cut hc1 Al (i:=0) (j:=l.length-4) rfl rfl (Nat.zero_le _) (by omega) λv2 hv2 hF2=> ?_
 have hcut:(l.take (l.length-4)).drop 0=l.take (l.length-4):=rfl
 rw[hcut]at hv2
 have hl1:(l.take (l.length-4)).length=l.length-4:=by rw[List.length_take];omega
 refine W.appBy hb1 EmB.nil hv2.bs (by show 0+_<=_;rw[hl1];omega) λs3 w3 b3 hb3 h3 x3=> ?_
 have hnm: ∀y,¬MkF 1 ([]:List Nat).length s.next y:=λy hy=>absurd hy.1 (by simp)
 have x3':Ext (BsF v) Non s1 s3:=x3.weak hb1 (λy _ hy=>hy.elim (λh=>hF2 y h) λhy=>(hnm y hy).elim) λy _ hy=>hnm y hy
 have hx3:Ext (BsF v) Non (s.cxN cxN) s3:=hx1.step x3' hbd (λ_ _ h=>h) λ_ h=>h.elim
 have hb3':s3.lim<=s3.next:=hx3.bnd hbd
 rw[List.nil_append]at h3
 have hB1:Byt (l.take (l.length-4)):=λx hx=>hb x (List.mem_of_mem_take hx)
 have hs3:s.next<=b3:=by
  have:s.next<=s1.next:=x1.nxt
  rcases hb3 with rfl|hb3
  ·exact Nat.le_refl _
  ·omega
 have hn3:s.next<=s3.next:=hx3.nxt
 refine AhQ_.u ?_
 simp only[Ky_,RR,T.get_set,Nat.reduceEqDiff, ↓reduceIte,h0,AJ,Cw,B5,B8,BU,DW,Ag]
 have h3n:Bn s3 w3 (l.take (l.length-4)):=h3.bn (by rw[hl1];omega)
 refine aU (Akp_ (Nat.le_refl _) (by rw[hl1];omega) (h3n.same (s':=oSt s3.mem s3.next) rfl rfl) hB1 (by rw[hl1];omega) λs4 w4 b4 hb4 x4 h4=>⟨_,x4,λrd4 hr4=> ?_⟩)
 have hn4:s3.next<=s4.next:=x4.nxt
 have hgl:(gput (l.take (l.length-4))).length=l.length:=by rw[Nw,hl1];omega
 have h4n:Bn s4 w4 (gput (l.take (l.length-4))):=h4.bn (by rw[hgl];omega)
 simp only[AJ]
 refine aU (W.strA (h4n.bs.same (s':=oSt s4.mem s4.next) rfl rfl) λs5 m5 n5 x5=>⟨_,x5,λrd5 hr5=> ?_⟩)
 have n5':s5.next=s4.next:=n5
 simp only[Ag]
 have hc5:Bs (oSt s5.mem s5.next) v l:=((((hc.ext0 hx3).bs.same (s':=oSt s3.mem s3.next) rfl rfl).ext0 x4).same m5 n5')
 refine aU (W.strA hc5 λs6 m6 n6 x6=>⟨_,x6,λrd6 hr6=> ?_⟩)
 have n6':s6.next=s5.next:=n6
 rw[AK]
 have hwF: ∀y,BsF w4 y->s3.next<=y:=λy hy=>by
  obtain⟨c,rfl⟩:=h4.at
  have h1:b4+0<=y:=hy.1
  have h2:s3.next<=b4:=hb4
  omega
 refine⟨D3 ?_, ?_⟩
 ·simp only[List.reverse_cons,List.reverse_nil,List.nil_append,List.cons_append,allP,CF,List.take,DB]
  have hold: ∀x,x∈rd6-> ¬s3.next<=x:=λx hx=>Nat.not_le_of_lt ((hc.ext0 hx3).lt x (hr6 x hx).2)
  simp+contextual [n5',hold]
  exact .inl rfl
 ·refine aJ (Qm_ ..) ?_
  simp only[SS]
  have m7:s6.mem=s4.mem:=m6.trans m5
  have n7:s6.next=s4.next:=n6'.trans n5'
  generalize hs7:(⟨(dSt s6.mem s6.next).mem,(dSt s6.mem s6.next).next,s3.lim,_,_,s3.cx⟩:St)=s7
  have e7m:s7.mem=s4.mem:=by rw[<-hs7];exact m7
  have e7n:s7.next=s4.next:=by rw[<-hs7];exact n7
  have x7:Ext (λy=>BsF v y\/s.next<=y) Non s3 s7:=by
   rw[<-hs7]
   refine Ext.draw (by show s3.next<=s6.next;omega) (λx hx=>by show T.get s6.mem x=_;rw[m7];exact x4.mem x hx id) (by simp) ?_
   simp only[List.mem_cons,List.not_mem_nil,or_false]
   rintro m (rfl|rfl|rfl|rfl|rfl) x hx _<;>first|(cases hx;done)|skip
   ·exact .inl (hr6 x hx).2
   ·exact .inr (by have:=hwF x (hr5 x hx).2;omega)
   ·have h1:=(hr4 x hx).2
    obtain⟨c,hc⟩:=h3.at
    rw[hc]at h1
    have h2:b3+0<=x:=h1.1
    exact .inr (by omega)
  have y7:Ext (BsF v) Non (s.cxN cxN) s7:=hx3.step x7 hbd (λx hx h=>h.elim id λh=>absurd hx (by show ¬x<s.lim;omega)) λ_ h=>h.elim
  rw[FX_,Ke_ (Byt.gput hB1) hb]
  by_cases hg:gput (l.take (l.length-4))=l
  ·refine aH JX_ ?_ rfl (by simp[T.get_set,hg])
   refine Alj_.u ?_
   simp only[Ek_,RR,SS,Nat.reduceEqDiff, ↓reduceIte]
   refine aF (rs:=[2,3]) (vs:=[w3, .int .i64 0]) rfl (.inl Abj_) (by omega) On Ax_ y7.cx (by simp[T.get_set]) ?_
   exact q1 ⟨by omega,hg⟩ _ w3 b3 hs3 y7.cx' ((((h3.same (s':=oSt s3.mem s3.next) rfl rfl).ext0 x4).same e7m e7n).same rfl rfl)
  ·refine aI JX_ ?_ rfl (by simp[T.get_set,hg])
   refine Tu_.u ?_
   simp only[Sh,RR,SS]
   exact aF (rs:=[2,3]) (vs:=[.slice none 0 0, .int .i64 4]) rfl (.inl SC_) (by omega) On Ax_ y7.cx (by simp[T.get_set]) (q2 (λh=>hg h.2) _ y7.cx')
theorem Md {n:Nat}{s:St}{Q:Value->St->Prop}(a:Int)(hn:20<=n)(q:Q (.int .i64 (Ce a)) s):W (Ab envS (runF envS n) 21 [.int .i64 a]) s Q:=by
 refine AbF_ λtm h0=> ?_
 refine VL_.u ?_
 simp only[GU_,RR,SS]
 refine Aiq_.u ?_
 simp only[JD_,RR,SS,reduceCtorEq, ↓reduceIte,Ak,h0]
 by_cases h1:a<1
 ·rw[decide_eq_true h1]
  simp only[AK,EN,Dr, ↓reduceIte]
  refine aI Ns ?_
  refine JL_.u ?_
  simp only[R5,RR,SS]
  refine aF (rs:=[2]) (vs:=[.int .i64 0]) rfl (.inl Jy_) (by omega) Jm QA rfl (by simp[T.get_set]) ?_
  have e:Ce a=0:=if_pos (.inl h1)
  rw[e]at q
  exact q
 ·rw[decide_eq_false h1]
  simp only[SS,reduceCtorEq, ↓reduceIte,Cr]
  by_cases h2:1024<a
  ·refine aI Ns ?_ rfl (by simp[T.get_set,h2])
   refine JL_.u ?_
   simp only[R5,RR,SS]
   refine aF (rs:=[2]) (vs:=[.int .i64 0]) rfl (.inl Jy_) (by omega) Jm QA rfl (by simp[T.get_set]) ?_
   have e:Ce a=0:=if_pos (.inr h2)
   rw[e]at q
   exact q
  ·refine aH Ns ?_ rfl (by simp[T.get_set,h2])
   refine AbW_.u ?_
   have ea:wrap64 (a+26)=a+26:=Ax (by omega) (by omega)
   simp only[UV,RR,SS,reduceCtorEq, ↓reduceIte,Aw,h0,ea]
   refine aF (rs:=[2]) (vs:=[.int .i64 (a+26)]) rfl (.inl YS_) (by omega) Jm QA rfl (by simp[T.get_set]) ?_
   have e:Ce a=a+26:=if_neg λh=>h.elim h1 h2
   rw[e]at q
   exact q
section
variable {s:St}{E:Env}{t:Nat}{xo yo:Operand}
theorem Ajb_ (m n:Nat)(hn:1<=n)(hm:m<=9223372036854775807):Cl.get (aBin E .quo t xo yo) (.int .i64 (m:Nat)) (.int .i64 (n:Nat)) s= .some (.int .i64 (m/n:Nat)) s:=by
 show int3 quoK (AD E .quo t xo yo) (.int .i64 (.ofNat m)) (.int .i64 (.ofNat n)) s=_
 show Option.rec (motive:=λ_=>R Value) _ (λv=> .some v s) (quoK .i64 .i64 m n)=_
 have:quoK .i64 .i64 m n=some (.int .i64 (m/n:Nat)):=by
  unfold quoK BN
  rw[Nat.beq_refl,Nat.ble_eq_true_of_le hn]
  exact Rb (Nat.le_trans (Nat.div_le_self m n) hm)
 rw[this]
theorem Lq_ {m n:Nat}(hn:1<=n)(hm:m<=9223372036854775807)(Q:Value->St->Prop):W (Cl.get (aBin E .quo t xo yo) (.int .i64 (m:Nat)) (.int .i64 (n:Nat))) s Q=Q (.int .i64 (m/n:Nat)) s:=AC (Ajb_ m n hn hm)
theorem Wc_ {m:Nat}(hm:m<=9223372036854775807)(Q:Value->St->Prop):W (Cl.get (aBin E .quo t xo yo) (.int .i64 (m:Nat)) (.int .i64 256)) s Q=Q (.int .i64 (m/256:Nat)) s:=Lq_ (n:=256) (by decide) hm Q
theorem AfA_ {m:Nat}(Q:Value->St->Prop):W (Cl.get (aBin E .rem t xo yo) (.int .i64 (m:Nat)) (.int .i64 256)) s Q=Q (.int .i64 (m%256:Nat)) s:=Kf (n:=256) (by decide) Q
end
theorem Amq_ {k:Nat}(hk:k<=65535):[k/256%256,k%256%256,(255-k/256)%256,(255-k%256)%256]=BP k:=by
 have e:k>>>8=k/256:=Nat.shiftRight_eq_div_pow k 8
 unfold BP
 rw[e,show k/256%256=k/256 by omega,show k%256%256=k%256 by omega,show(255-k/256)%256=255-k/256 by omega,show(255-k%256)%256=255-k%256 by omega]
theorem ZX_ {k n:Nat}{s:St}{Q:Value->St->Prop}(hk:k<=65535)(hbd:s.lim<=s.next)(hn:800<=n)(q: ∀s1 w b,s.next<=b->Ext Non Non s s1->EmB s1 (CS k) w b->Q w s1):W (Ab envS (runF envS n) 66 [.int .i64 (k:Nat)]) s Q:=by
 refine Zq_ λtm h0=> ?_
 refine Aco_.u ?_
 simp only[Jb_,RR,SS]
 refine Us_.u ?_
 have e1:wrap64 ((255:Int)-(k/256:Nat))=((255-k/256:Nat):Int):=by
  rw[Ax (by omega) (by omega)];omega
 have e2:wrap64 ((255:Int)-(k%256:Nat))=((255-k%256:Nat):Int):=by
  rw[Ax (by omega) (by omega)];omega
 simp only[TU,RR,SS,reduceCtorEq, ↓reduceIte,Cq,h0,Wc_ (show k<=9223372036854775807 by omega),AfA_,e1,e2,Cu Jd Dy,wrap_u8]
 refine aK (s:=s.cxN cxN) hbd (r:=u8l [k/256%256,k%256%256,(255-k/256)%256,(255-k%256)%256]) Ck (by decide) rfl (Az (by decide)) λs1 n1 x1 r1=> ?_
 rw[Amq_ hk]at r1
 have hb1:s1.lim<=s1.next:=x1.bnd hbd
 have hB:Bn s1 (.slice (some ⟨s.next,0,none⟩) 4 4) (BP k):=(Aa.bn (l:=BP k) r1 (Az (by simp[BP]))).bn' (by simp[BP])
 refine ZA_.u ?_
 simp only[Yd,RR,SS, ↓reduceIte]
 refine Ym (l:=BP k) hb1 (by simp[BP];omega) hB (TC k) (by simp[BP]) λs2 m2 n2 x2=> ?_
 have hb2:s2.lim<=s2.next:=x2.bnd hb1
 have hx2:Ext Non Non (s.cxN cxN) s2:=x1.step x2 hbd (λy hy h=>by
  have h6:y<s.lim:=hy
  have h7:s.next+0<=y:=h.1
  omega) λ_ h=>h.elim
 refine Pz_.u ?_
 generalize hS:BX 0 (BP k)=S
 simp only[MC_,RR,SS,Nat.reduceEqDiff, ↓reduceIte,Cu Gg Dy,wrap_u8,Gt (k:= .u32) (by decide)]
 refine aK hb2 (r:=u8l [S%256,S>>>8%256]) Ck (by decide) rfl (Az (by decide)) λs3 n3 x3 r3=> ?_
 have hb3:s3.lim<=s3.next:=x3.bnd hb2
 have hx3:=hx2.step x3 hbd (λ_ _ h=>h.elim) λ_ h=>h.elim
 have hB2:Bs s3 (.slice (some ⟨s2.next,0,none⟩) 2 2) [S%256,S>>>8%256]:=Aa.bn r3 (Az (by simp))
 have hr1:Row s3 s.next 0 (u8l (BP k)):=λi v e=>((r1.row i v e).same m2 n2).ext x3 id
 rw[CC]
 refine W.appLit hb3 GF (len:=4) hr1 rfl hB2.src.g (Nat.succ_pos _) (by decide) (by decide) (by decide) (Nat.le_of_ble_eq_true rfl) (by rfl) (Bx _) λs4 w b hf x4=> ?_
 have hx4:Ext Non Non (s.cxN cxN) s4:=hx3.step x4 hbd (λy hy h=>by
  have h6:y<s.lim:=hy
  have h8:s.next<=s2.next:=hx2.nxt
  rcases h with h|h
  ·have h7:s2.next+0<=y:=h.1
   omega
  ·have h7:s.next+0<=y:=h.1
   omega) λ_ h=>h.elim
 refine aF (rs:=[2]) (vs:=[w]) rfl (.inl TN_) (by omega) GI_ AjD_ hx4.cx (by simp[T.get_set]) ?_
 refine q _ _ b ?_ hx4.cx' ?_
 ·have h8:s.next<=s3.next:=hx3.nxt
  have:=hf.new
  omega
 ·have hm:EmB s4 (CS k) w b:=by
   refine .inr ⟨?_,Nat.succ_pos _⟩
   have e:u8l (CS k)=u8l (BP k)++u8l [S%256,S>>>8%256]:=by
    rw[<-hS]
    rfl
   rw[e]
   exact hf.marked
  exact hm.same rfl rfl
def okAt (l:List Nat)(a:Int):Bool:=decide (0<=a/\a+6<=(l.length:Nat))&&Ct l a.toNat
theorem Yu_ {a b:Nat}(hb:b<256):len2 a b=256*a+b:=by
 unfold len2
 rw[<-Nat.shiftLeft_add_eq_or_of_lt (show b<2^8 from hb),Nat.shiftLeft_eq]
 omega
theorem Akb_ {E:Env}{t:Nat}{s:St}{n:Nat}{xo yo:Operand}(hn:256*n<=9223372036854775807)(Q:Value->St->Prop):W (Cl.get (aBin E .mul t xo yo) (.int .i64 256) (.int .i64 (n:Nat))) s Q=Q (.int .i64 (256*n:Nat)) s:=Qn (m:=256) hn Q
theorem AfM_ {n:Nat}{a:Int}{s:St}{v:Value}{l:List Nat}{Q:Value->St->Prop}(hbs:Bs s v l)(ha: ¬(0<=a/\a+6<=(l.length:Nat)))(hz:l.length<=1000000)(hn:60<=n)(q:Q (.tuple #[.int .i64 0, .bool false]) s):W (Ab envS (runF envS n) 69 [v, .int .i64 a]) s Q:=by
 refine DA_ λtm h0 h1=> ?_
 have hb0:Bs (s.cxN cxN) v l:=hbs.same rfl rfl
 refine KO_.u ?_
 simp only[RI,RR,SS]
 refine Vr.u ?_
 have e6:wrap64 (((l.length:Nat):Int)-6)=((l.length:Nat):Int)-6:=Ax (by omega) (by omega)
 simp only[Pu,RR,SS,Nat.reduceEqDiff,reduceCtorEq, ↓reduceIte,Ak,h0,h1]
 have fin: ∀(n':Nat) (tm':T Value) (td:List Item),20<=n'->skim 64 td=QD->W (runF envS n' ⟨69,Is_,Da,tm',td, .run, .normal,none⟩) (s.cxN cxN) λp s1=>Q p.1 (s1.cxN s.cx):=λn' tm' td hn' hT=>by
  refine Ol_.u ?_ hT
  simp only[TN,RR,SS]
  exact aF (rs:=[4,5]) (vs:=[.int .i64 0, .bool false]) rfl (.inl Ahs_) (by omega) Le PB rfl (by simp[T.get_set]) q
 by_cases h:a<0
 ·rw[decide_eq_true h]
  simp only[AK,EN,Dr, ↓reduceIte]
  refine aI MY ?_
  exact fin _ _ _ (by omega) rfl
 ·rw[decide_eq_false h]
  simp only[SS,reduceCtorEq, ↓reduceIte,Cq,Cr,hb0.len Al,e6]
  refine aI MY ?_
  exact fin _ _ _ (by omega) rfl
theorem Agw_ {n k:Nat}{s:St}{v:Value}{l:List Nat}{Q:Value->St->Prop}(hbd:s.lim<=s.next)(hbs:Bs s v l)(hby:Byt l)(hk:k+6<=l.length)(hz:l.length<=1000000)(hn:1200<=n)
  (q1:Ct l k=true-> ∀s1,Ext (BsF v) Non s s1->Q (.tuple #[.int .i64 (AE l k:Nat), .bool true]) s1) (q2:Ct l k=false-> ∀s1,Ext (BsF v) Non s s1->Q (.tuple #[.int .i64 0, .bool false]) s1):W (Ab envS (runF envS n) 69 [v, .int .i64 (k:Nat)]) s Q:=by
 refine DA_ λtm h0 h1=> ?_
 have hb0:Bs (s.cxN cxN) v l:=hbs.same rfl rfl
 have hka:k<l.length:=by omega
 have hkb:k+1<l.length:=by omega
 refine KO_.u ?_
 simp only[RI,RR,SS]
 refine Vr.u ?_
 have e6:wrap64 (((l.length:Nat):Int)-6)=((l.length-6:Nat):Int):=by
  rw[Ax (by omega) (by omega)];omega
 simp only[Pu,RR,SS,Nat.reduceEqDiff,reduceCtorEq, ↓reduceIte,Ak,h0,h1]
 rw[decide_eq_false (show ¬((k:Nat):Int)<0 by omega)]
 simp only[SS,reduceCtorEq, ↓reduceIte,Cq,Cr,hb0.len Al,e6]
 refine aH MY ?_
 obtain⟨ba,oa,ca,rfl,ga,fa⟩:=hb0.at hka
 obtain⟨bb,ob,cb,e,gb,fb⟩:=hb0.at hkb
 cases e
 refine ZS_.u ?_
 have hA:l[k]<256:=hby _ (List.getElem_mem hka)
 have hB:l[k+1]<256:=hby _ (List.getElem_mem hkb)
 have ei:=eiW (i:=k) (by omega)
 simp only[Cp_,RR,T.get_set,Nat.reduceEqDiff, ↓reduceIte,h0,h1,AJ,Ag]
 rw[W_dq λs Q=>AL (s:=s) Al hka Q]
 refine aC Cd (ga.same rfl rfl) λrd1 hr1=> ?_
 rw[W_dq λs Q=>Cu (s:=s) JX JQ Q,wrap_i64 _ (by omega),W_dq λs Q=>Akb_ (s:=s) (by omega) Q]
 simp only[Ag]
 rw[W_dq λs Q=>Aw (s:=s) ((k:Nat):Int) 1,ei,W_dq λs Q=>AL (s:=s) Al hkb Q]
 refine aC Cd (gb.same rfl rfl) λrd2 hr2=> ?_
 have es:wrap64 (((256*l[k]:Nat):Int)+((l[k+1]:Nat):Int))=((AE l k:Nat):Int):=by
  rw[Ax (by omega) (by omega)]
  unfold AE
  rw[List.getD_eq_getElem?_getD,List.getD_eq_getElem?_getD,List.getElem?_eq_getElem hka,List.getElem?_eq_getElem hkb]
  show _=((len2 l[k] l[k+1]:Nat):Int)
  rw[Yu_ hB]
  omega
 rw[W_dq λs Q=>Cu (s:=s) JX JQ Q,wrap_i64 _ (by omega),W_dq λs Q=>Aw (s:=s) _ _,es]
 rw[AK]
 refine⟨CI (by simp) (by simp), ?_⟩
 refine aJ (Wj_ ..) ?_
 simp only[SS]
 generalize hs':(⟨(dSt (s.cxN cxN).mem (s.cxN cxN).next).mem,(dSt (s.cxN cxN).mem (s.cxN cxN).next).next,(s.cxN cxN).lim,_,_,(s.cxN cxN).cx⟩:St)=s1
 have hx1:Ext (BsF (.slice (some ⟨ba,oa,none⟩) l.length ca)) Non (s.cxN cxN) s1:=by
  rw[<-hs']
  refine Ext.draw (F:=BsF (.slice (some ⟨ba,oa,none⟩) l.length ca)) (Nat.le_refl _) (λ_ _=>rfl) (by simp) (by
   simp only[List.mem_cons,List.not_mem_nil,or_false]
   rintro m (rfl|rfl|rfl|rfl|rfl|rfl|rfl|rfl|rfl|rfl|rfl|rfl|rfl) x hx _<;>first|(exact fa _ (hr1 _ hx))|(exact fb _ (hr2 _ hx))|(cases hx))
 have hb1:s1.lim<=s1.next:=hx1.bnd hbd
 have hB1:Bn s1 (.slice (some ⟨ba,oa,none⟩) l.length ca) l:=by
  rcases hb0.ext0 hx1 with⟨h,_⟩|h
  ·cases h
  ·exact h
 have hN:AE l k<65536:=by
  unfold AE
  rw[List.getD_eq_getElem?_getD,List.getD_eq_getElem?_getD,List.getElem?_eq_getElem hka,List.getElem?_eq_getElem hkb]
  exact(YT hA hB).2
 unfold Ct at q1 q2
 generalize hNN:AE l k=N at q1 q2 hN
 rw[<-VS]at q1 q2
 refine Afl_.u ?_
 simp only[CK_,RR,T.get_set,Nat.reduceEqDiff, ↓reduceIte,h0,h1,AJ,Cw,B5,B8,BU,DW,Ag]
 refine bA (Md _ (by omega) ⟨rfl, ?_⟩)
 rw[W_dq λs Q=>Di (s:=s) _ _]
 simp only[Ag,Cs,El]
 have ep:decide (0<Ce ((N:Nat):Int))= !decide (Ce ((N:Nat):Int)=0):=by
  unfold Ce
  split
  ·rfl
  ·rw[decide_eq_true (by omega),decide_eq_false (by omega)];rfl
 rw[ep]at q1 q2
 have fin0: ∀(n':Nat) (s2:St) (tm':T Value) (td:List Item),20<=n'->s2.cx=cxN->skim 64 td=Oa->Q (.tuple #[.int .i64 0, .bool false]) (s2.cxN s.cx)->W (runF envS n' ⟨69,Is_,Da,tm',td, .run, .normal,none⟩) s2 λp s1=>Q p.1 (s1.cxN s.cx):=λn' s2 tm' td hn' hc hT q=>by
  refine AlS_.u ?_ hT
  simp only[AE_,RR,SS]
  exact aF (rs:=[4,5]) (vs:=[.int .i64 0, .bool false]) rfl (.inl Aly_) (by omega) Le PB hc (by simp[T.get_set]) q
 cases hp:decide (Ce ((N:Nat):Int)=0)with
 |true=>
  rw[hp]at q2
  simp only[EN,if_f,Ag]
  rw[AK]
  refine⟨CI (by simp) (by simp), ?_⟩
  refine aJ (CO_ ..) ?_
  simp only[SS, ↓reduceIte]
  generalize hs2:(⟨(dSt s1.mem s1.next).mem,(dSt s1.mem s1.next).next,s1.lim,_,_,s1.cx⟩:St)=s2
  have hx2:Ext (BsF (.slice (some ⟨ba,oa,none⟩) l.length ca)) Non (s.cxN cxN) s2:=by
   rw[<-hs2]
   exact hx1.step (aP (F:=Non) (G:=Non) (Nat.le_refl _) (λ_ _ _=>rfl) (by simp) (by simp)) hbd (λ_ _ h=>h.elim) λ_ h=>h.elim
  refine aI Mc ?_
  exact fin0 _ _ _ _ (by omega) hx2.cx rfl (q2 rfl _ hx2.cx')
 |false=>
  rw[hp]at q1 q2
  have hsz:N<=1024:=by
   unfold Ce at hp
   split at hp
   ·cases hp
   ·omega
  simp only[Iz,if_t,Ag]
  have e6:wrap64 (((k:Nat):Int)+6)=((k+6:Nat):Int):=by
   rw[Ax (by omega) (by omega)];omega
  rw[W_dq λs Q=>Aw (s:=s) _ _,e6]
  have hBo:Bn (oSt s1.mem s1.next) (.slice (some ⟨ba,oa,none⟩) l.length ca) l:=hB1.same rfl rfl
  refine bA (W.cut hBo Al (i:=k) (j:=k+6) rfl rfl (by omega) hk λv' hv' hF'=>⟨rfl, ?_⟩)
  simp only[Ag]
  generalize hseg:(l.take (k+6)).drop k=seg at *
  have hsegB:Byt seg:=IA hby λx hx=>by rw[<-hseg]at hx;exact List.mem_of_mem_take (List.mem_of_mem_drop hx)
  refine aU (W.strA hv'.bs λs2 m2 n2 x2=>⟨_,x2,λrd2' hr2'=> ?_⟩)
  have n2':s2.next=s1.next:=n2
  simp only[Ag]
  refine aU (ZX_ (k:=N) (by omega) (Nat.le_refl _) (by omega) λs3 w3 b3 hb3 x3 h3=>⟨_,x3,λrd3 hr3=> ?_⟩)
  have n3':s2.next<=s3.next:=x3.nxt
  simp only[Ag]
  refine aU (W.strA ((h3.bn (by rw[VF];decide)).bs.same (s':=oSt s3.mem s3.next) rfl rfl) λs4 m4 n4 x4=>⟨_,x4,λrd4 hr4=> ?_⟩)
  have n4':s4.next=s3.next:=n4
  simp only[Ag]
  have hHB:Byt (CS N):=AgI_ N
  rw[W_dq λs Q=>FX_ (s:=s) _ _ Q,Ke_ hsegB hHB,AK]
  have hold: ∀x,x∈rd2'-> ¬s1.next<=x:=λx hx=>Nat.not_le_of_lt (hr2' x hx).1
  have hr3': ∀x,x∈rd3->False:=λx hx=>(hr3 x hx).2
  have hr4': ∀x,x∈rd4->s2.next<=x:=λx hx=>by
   have h1:=(hr4 x hx).2
   obtain⟨c,hc⟩:=h3.at
   rw[hc]at h1
   have h2:b3+0<=x:=h1.1
   have h4:s2.next<=b3:=hb3
   omega
  refine⟨D3 ?_, ?_⟩
  ·simp only[List.reverse_cons,List.reverse_nil,List.nil_append,List.cons_append,allP,CF,List.take,DB]
   simp+contextual [n2',n4',hold]
   exact .inl rfl
  ·refine aJ (CO_ ..) ?_
   simp only[SS,reduceCtorEq, ↓reduceIte]
   generalize hs5:(⟨(dSt s4.mem s4.next).mem,(dSt s4.mem s4.next).next,s1.lim,_,_,s1.cx⟩:St)=s5
   have hx5:Ext (BsF (.slice (some ⟨ba,oa,none⟩) l.length ca)) Non (s.cxN cxN) s5:=by
    rw[<-hs5]
    refine hx1.step (Ext.draw (F:=λx=>BsF (.slice (some ⟨ba,oa,none⟩) l.length ca) x\/s1.next<=x) (by show s1.next<=s4.next;omega) (λx hx=> ?_) (by simp) ?_) hbd (λx hx h=> ?_) λ_ h=>h.elim
    ·show T.get s4.mem x=_
     have e4:T.get s4.mem x=T.get s3.mem x:=by rw[m4];rfl
     have e3:T.get s3.mem x=T.get s2.mem x:=x3.mem x (by show x<s2.next;omega) id
     have e2:T.get s2.mem x=T.get s1.mem x:=by rw[m2];rfl
     rw[e4,e3,e2]
    ·simp only[List.mem_cons,List.not_mem_nil,or_false]
     rintro m (rfl|rfl|rfl|rfl|rfl|rfl|rfl|rfl|rfl|rfl|rfl|rfl|rfl|rfl) x hx _<;>first|(cases hx;done)|(exact .inl (hF' _ (hr2' x hx).2))|(exact(hr3' x hx).elim)|(exact .inr (by have:=hr4' x hx;omega))
    ·have h2:x<s.lim:=hx
     have h3:s.next<=s1.next:=hx1.nxt
     rcases h with h|h
     ·exact h
     ·omega
   by_cases hq:seg=CS N
   ·rw[decide_eq_true hq]at q1
    refine aH Mc ?_ rfl (by simp[T.get_set,hq])
    refine Abm_.u ?_
    simp only[ET_,RR,SS,Nat.reduceEqDiff, ↓reduceIte]
    exact aF (rs:=[4,5]) (vs:=[.int .i64 (N:Nat), .bool true]) rfl (.inl WE_) (by omega) Le PB hx5.cx (by simp[T.get_set]) (q1 rfl _ hx5.cx')
   ·rw[decide_eq_false hq]at q2
    refine aI Mc ?_ rfl (by simp[T.get_set,hq])
    exact fin0 _ _ _ _ (by omega) hx5.cx rfl (q2 rfl _ hx5.cx')
theorem WO_ {n:Nat}{a:Int}{s:St}{v:Value}{l:List Nat}{Q:Value->St->Prop}(hbd:s.lim<=s.next)(hbs:Bs s v l)(hby:Byt l)(hz:l.length<=1000000)(hn:1200<=n)
  (q1:okAt l a=true-> ∀s1,Ext (BsF v) Non s s1->Q (.tuple #[.int .i64 (AE l a.toNat:Nat), .bool true]) s1) (q2:okAt l a=false-> ∀s1,Ext (BsF v) Non s s1->Q (.tuple #[.int .i64 0, .bool false]) s1):W (Ab envS (runF envS n) 69 [v, .int .i64 a]) s Q:=by
 by_cases h:0<=a/\a+6<=(l.length:Nat)
 ·obtain⟨k,rfl⟩: ∃k:Nat,a=(k:Nat):=⟨a.toNat,by omega⟩
  unfold okAt at q1 q2
  rw[decide_eq_true h,Bool.true_and]at q1 q2
  exact Agw_ hbd hbs hby (by omega) hz hn q1 q2
 ·exact AfM_ hbs h hz (by omega) (q2 (by unfold okAt;rw[decide_eq_false h,Bool.false_and]) s (Ext.refl _))
def blk (x:List Nat)(q:Nat):List Nat:=(x.take (64*q+64)).drop (64*q)
def CK (x:List Nat):Nat->Sha.St8
 |0=>Dc
 |q+1=>Sha.next (CK x q) λj=>(blk x q).getD j 0
theorem AfB_ {x y:List Nat}{q:Nat}(h:64*q+64<=x.length):blk (x++y) q=blk x q:=by
 unfold blk
 rw[List.take_append_of_le_length h]
theorem RM {x y:List Nat}: ∀{q:Nat},64*q<=x.length->CK (x++y) q=CK x q
 |0,_=>rfl
 |q+1,h=>by
  unfold CK
  rw[RM (q:=q) (by omega),AfB_ (by omega)]
theorem Ajr_ (x:List Nat): ∀q,(CK x q).Ok
 |0=>Tr
 |q+1=>Sha.plus_ok _ _
structure Told8 (d:DS)(x:List Nat):Prop where
 n:d.n=x.length
 len:d.w.length=64
 st:d.st=CK x (x.length/64)
 w:d.w.take (x.length%64)=x.drop (64*(x.length/64))
theorem Told8.new:Told8 DS.new []:=⟨rfl,by simp[DS.new],rfl,rfl⟩
theorem Told8.step {d:DS}{x b:List Nat}(h:Told8 d x):Told8 (d.step b) (x++b.take (d.k b)):=by
 obtain⟨hn,hl,hs,hw⟩:=h
 have hm:x.length%64<64:=Nat.mod_lt _ (by decide)
 have hq:x.length=64*(x.length/64)+x.length%64:=by omega
 generalize hqe:x.length/64=q at *
 generalize hme:x.length%64=m at *
 have hdm:d.n%64=m:=by rw[hn,hme]
 have hk:d.k b=Nat.min (64-m) b.length:=by unfold DS.k;rw[hdm]
 have hk1:d.k b<=64-m:=by rw[hk];exact Nat.min_le_left _ _
 have hk2:d.k b<=b.length:=by rw[hk];exact Nat.min_le_right _ _
 have hkc:d.k b=64-m\/d.k b=b.length:=by
  rw[hk]
  rcases Nat.le_total (64-m) b.length with h|h
  ·exact .inl (Nat.min_eq_left h)
  ·exact .inr (Nat.min_eq_right h)
 have htl:(b.take (d.k b)).length=d.k b:=by rw[List.length_take];omega
 have hxl:(x++b.take (d.k b)).length=64*q+(m+d.k b):=by rw[List.length_append,htl];omega
 have hdl:(d.w.take m).length=m:=by rw[List.length_take];omega
 have hdrop:(x++b.take (d.k b)).drop (64*q)=d.w.take m++b.take (d.k b):=by
  rw[List.drop_append_of_le_length (by omega),hw]
 have hw':d.w' b=d.w.take m++(b.take (d.k b)++d.w.drop (m+d.k b)):=by unfold DS.w';rw[hdm]
 have hwl:(d.w' b).length=64:=by
  rw[hw',List.length_append,List.length_append,hdl,htl,List.length_drop]
  omega
 refine⟨?_,hwl, ?_, ?_⟩
 ·show d.n+d.k b=_
  rw[hxl,hn]
  omega
 ·show(if d.n%64+d.k b=64 then Sha.next d.st (λj=>(d.w' b).getD j 0)else d.st)=_
  rw[hdm,hxl]
  by_cases he:m+d.k b=64
  ·rw[if_pos he,he,show(64*q+64)/64=q+1 by omega]
   show _=Sha.next (CK (x++b.take (d.k b)) q) λj=>(blk (x++b.take (d.k b)) q).getD j 0
   have e1:blk (x++b.take (d.k b)) q=d.w' b:=by
    unfold blk
    rw[List.take_of_length_le (by rw[hxl,he];exact Nat.le_refl _),hdrop,hw',he,List.drop_of_length_le (by rw[hl];exact Nat.le_refl _),List.append_nil]
   rw[e1,RM (by omega),hs]
  ·rw[if_neg he,show(64*q+(m+d.k b))/64=q by omega,RM (by omega),hs]
 ·rw[hxl]
  show(d.w' b).take _=_
  by_cases he:m+d.k b=64
  ·rw[he,show(64*q+64)%64=0 by omega,show(64*q+64)/64=q+1 by omega,List.take_zero,List.drop_of_length_le (by rw[hxl];omega)]
  ·rw[show(64*q+(m+d.k b))%64=m+d.k b by omega,show(64*q+(m+d.k b))/64=q by omega,hdrop,hw',<-List.append_assoc,List.take_append_of_le_length (by rw[List.length_append,hdl,htl];exact Nat.le_refl _)]
   exact List.take_of_length_le (by rw[List.length_append,hdl,htl];exact Nat.le_refl _)
theorem Told8.write: ∀(f:Nat) {d:DS} {x b:List Nat},b.length<=f->Told8 d x->Told8 (DS.write f d b) (x++b)
 |0,d,x,b,hf,h=>by
  obtain rfl:b=[]:=List.eq_nil_of_length_eq_zero (by omega)
  rw[List.append_nil]
  exact h
 |f+1,d,x,b,hf,h=>by
  unfold DS.write
  by_cases hb:b.length=0
  ·obtain rfl:b=[]:=List.eq_nil_of_length_eq_zero hb
   rw[if_pos (show([]:List Nat).length=0 from rfl),List.append_nil]
   exact h
  ·rw[if_neg hb]
   have hk0:0<d.k b:=by
    have hm:d.n%64<64:=Nat.mod_lt _ (by decide)
    unfold DS.k
    exact Nat.lt_min.2 ⟨by omega,by omega⟩
   have:=Told8.write f (b:=b.drop (d.k b)) (by rw[List.length_drop];omega) (h.step (b:=b))
   rw[List.append_assoc,List.take_append_drop]at this
   exact this
def padB (n:Nat):List Nat:=128::List.replicate ((119-n%64)%64) 0++tl8 (8*n) 8
def C4 (b:List Nat):List Nat:=b++padB b.length
theorem Wf_ (n:Nat):(padB n).length=(119-n%64)%64+9:=by
 unfold padB
 rw[List.length_append,List.length_cons,List.length_replicate,OJ]
theorem AF_ (b:List Nat):(C4 b).length=64*((b.length+72)/64):=by
 unfold C4
 rw[List.length_append,Wf_]
 omega
theorem AcB_ (n:Nat):Byt (padB n):=λx hx=>by
 rcases List.mem_append.1 hx with hx|hx
 ·rcases List.mem_cons.1 hx with rfl|hx
  ·decide
  ·rw[List.mem_replicate]at hx;omega
 ·exact M6 _ _ x hx
theorem Zb_ {b:List Nat}(h:Byt b):Byt (C4 b):=λx hx=>by
 rcases List.mem_append.1 hx with hx|hx
 ·exact h x hx
 ·exact AcB_ _ x hx
theorem ZL_ (b:List Nat):sumB b=outs (st8L (CK (C4 b) ((b.length+72)/64))):=by
 unfold sumB DS.sum DS.fin
 have h1:Told8 (DS.write b.length DS.new b) b:=Told8.write b.length (Nat.le_refl _) Told8.new
 generalize DS.write b.length DS.new b=d at *
 have hp:d.pad=padB b.length:=by
  unfold DS.pad DS.pad0 padB
  rw[h1.n]
 have h2:Told8 (DS.write d.pad.length d d.pad) (b++d.pad):=Told8.write _ (Nat.le_refl _) h1
 rw[h2.st,hp]
 have e:(b++padB b.length).length/64=(b.length+72)/64:=by
  have:=AF_ b
  unfold C4 at this
  rw[this]
  omega
 rw[e]
 rfl
theorem xm32 {a b:Nat}(ha:a<4294967296)(hb:b<4294967296):(a^^^b)%4294967296=a^^^b:=Nat.mod_eq_of_lt (Sha.xor_lt ha hb)
theorem Afq_ {x:Nat}(hx:x<4294967296):((rot x 7^^^rot x 18)%4294967296^^^x>>>3)%4294967296=Sha.s0 x:=by
 have h3:x>>>3<4294967296:=JR hx 3
 rw[xm32 (AQ x 7 hx) (AQ x 18 hx),xm32 (Sha.xor_lt (AQ x 7 hx) (AQ x 18 hx)) h3,Nat.shiftRight_eq_div_pow]
 rfl
theorem XR_ {x:Nat}(hx:x<4294967296):((rot x 17^^^rot x 19)%4294967296^^^x>>>10)%4294967296=Sha.s1 x:=by
 have h3:x>>>10<4294967296:=JR hx 10
 rw[xm32 (AQ x 17 hx) (AQ x 19 hx),xm32 (Sha.xor_lt (AQ x 17 hx) (AQ x 19 hx)) h3,Nat.shiftRight_eq_div_pow]
 rfl
def schL (f:Nat->Nat):List Nat:=(List.range 64).map (Sha.sch f)
theorem Akt_ {f:Nat->Nat}{ws:List Nat}(hl:ws.length=64)(h: ∀j,j<64->ws.getD j 0=Sha.sch f j):ws=schL f:=by
 apply List.ext_getElem?
 intro j
 unfold schL
 rw[List.getElem?_map]
 by_cases hj:j<64
 ·have:=h j hj
  rw[List.getD_eq_getElem?_getD,List.getElem?_eq_getElem (by omega)]at this
  rw[List.getElem?_eq_getElem (by omega),List.getElem?_range hj]
  exact congrArg some this
 ·rw[List.getElem?_eq_none (by omega),List.getElem?_eq_none (by simp;omega)]
  rfl
section
variable {B C:Nat}{f:Nat->Nat}{Q:Value×FrameMode->St->Prop}{s0:St}
theorem Su_ (hb0:s0.lim<=s0.next)(hBl:s0.lim<=B)(hf: ∀j,f j<256): ∀(k i n:Nat) (tm:T Value) (s:St) (td:List Item) (ws:List Nat),i+k=64->16<=i->8*k+30<=n->skim 64 td=Jx->Ext Non (In B 0 64) s0 s->Aa s B 0 (w32 ws)->ws.length=64->(∀j,j<i->ws.getD j 0=Sha.sch f j)->
  T.get tm 2=some (.pointer (some ⟨C,0,none⟩))->T.get tm 3=some (.pointer (some ⟨B,0,none⟩))->T.get tm 5=some (.int .i64 (i:Nat))->
  (∀n' tm' s1 td',n<=n'+8*k+10->skim 64 td'=N6->Ext Non (In B 0 64) s0 s1->Aa s1 B 0 (w32 (schL f))->T.get tm' 2=some (.pointer (some ⟨C,0,none⟩))->T.get tm' 3=some (.pointer (some ⟨B,0,none⟩))->W (runF envS n' ⟨146,KO,B0,tm',td', .run, .normal,none⟩) s1 Q)->
  W (runF envS n ⟨146,KO,B0,tm,td, .run, .normal,none⟩) s Q:=by
 intro k
 induction k with
 |zero=>
  intro i n tm s td ws hi hi16 hn hT hx ho hw hws h2 h3 h5 q
  refine VD.u ?_ hT
  simp only[OO,RR,SS,Ak,h5]
  refine aH To ?_
  obtain rfl:i=64:=by omega
  rw[Akt_ hw hws]at ho
  exact q _ _ _ _ (by omega) rfl hx ho (by simp[T.get_set,h2]) (by simp[T.get_set,h3])
 |succ k ih=>
  intro i n tm s td ws hi hi16 hn hT hx ho hw hws h2 h3 h5 q
  refine VD.u ?_ hT
  simp only[OO,RR,SS,Ak,h5]
  refine aI To ?_
  have hb:s.lim<=s.next:=hx.bnd hb0
  have hat: ∀{s':St} (j:Nat),Aa s' B 0 (w32 ws)->j<i->At (dSt s'.mem s'.next) B (0+j*1) (.int .u32 (Sha.sch f j:Nat)):=λ{s'} j ho hj=>by
   have h1:=ho j _ (Dl (show j<ws.length by omega))
   rw[hws j hj]at h1
   rw[Nat.mul_one]
   exact h1.at'.same rfl rfl
  obtain⟨F,hF⟩: ∃F:Nat->Prop,F=In B 0 64:=⟨_,rfl⟩
  have w15:wrap64 ((i:Nat)-15:Int)=((i-15:Nat):Int):=by rw[Ax (by omega) (by omega)];omega
  have w2:wrap64 ((i:Nat)-2:Int)=((i-2:Nat):Int):=by rw[Ax (by omega) (by omega)];omega
  have w16:wrap64 ((i:Nat)-16:Int)=((i-16:Nat):Int):=by rw[Ax (by omega) (by omega)];omega
  have w7:wrap64 ((i:Nat)-7:Int)=((i-7:Nat):Int):=by rw[Ax (by omega) (by omega)];omega
  have hwk: ∀{F':Nat->Prop} {s':St},Ext F Non s s'->Ext Non (In B 0 64) s0 s':=λx'=>hx.trans x' hb0 (λy hy h=>by rw[hF]at h;have h1:=h.1;omega) λ_ _ h=>h.elim
  refine RK_.rd (F:=F) rfl (by omega) ?_
  simp only[SW,RR,T.get_set,Nat.reduceEqDiff, ↓reduceIte,h3,h5,AJ,Ag,IN,w15,Bm (i:=((i-15:Nat):Int)) (k:=i-15) rfl EV (show i-15<64 by omega)]
  refine aC AY (hat (i-15) ho (by omega)) λrd0 hr0=> ?_
  simp only[Ag,IN,w2,Bm (i:=((i-2:Nat):Int)) (k:=i-2) rfl EV (show i-2<64 by omega)]
  refine aC AY (hat (i-2) ho (by omega)) λrd1 hr1=> ?_
  simp only[Ag,FS]
  rw[AK]
  have l0: ∀x∈rd0,F x:=λx hx=>by rw[hF,hr0 x hx];exact⟨by omega,by omega⟩
  have l1: ∀x∈rd1,F x:=λx hx=>by rw[hF,hr1 x hx];exact⟨by omega,by omega⟩
  refine⟨rfl,by simp, ?_,λs' m' n' x'=> ?_⟩
  ·dsimp only
   simp only[List.forall_mem_cons]
   repeat' apply And.intro
   all_goals first|trivial|assumption|(intro x hx;cases hx)
  refine aJ (Um_ ..) ?_
  simp only[SS]
  have hX:Sha.sch f (i-15)<4294967296:=Sha.sch_lt hf _
  have hY:Sha.sch f (i-2)<4294967296:=Sha.sch_lt hf _
  have hsch:=Sha.sch_hi (B:=f) hi16
  generalize hxe:Sha.sch f (i-15)=X at *
  generalize hye:Sha.sch f (i-2)=Y at *
  have ho':Aa s' B 0 (w32 ws):=λj v e=>(ho j v e).ext x' id
  have hx':Ext Non (In B 0 64) s0 s':=hwk (F':=F) x'
  have hb':s'.lim<=s'.next:=hx'.bnd hb0
  have hat16:At (dSt s'.mem s'.next) B (0+(i-16)*1) (.int .u32 (Sha.sch f (i-16):Nat)):=by
   have h1:=ho' (i-16) _ (Dl (show i-16<ws.length by omega))
   rw[hws (i-16) (by omega)]at h1
   rw[Nat.mul_one]
   exact h1.at'.same rfl rfl
  have hat7:At (dSt s'.mem s'.next) B (0+(i-7)*1) (.int .u32 (Sha.sch f (i-7):Nat)):=by
   have h1:=ho' (i-7) _ (Dl (show i-7<ws.length by omega))
   rw[hws (i-7) (by omega)]at h1
   rw[Nat.mul_one]
   exact h1.at'.same rfl rfl
  refine Xe_.rd (F:=F) rfl (by omega) ?_
  simp only[HR_,RR,T.get_set,Nat.reduceEqDiff, ↓reduceIte,h3,h5,AJ,Ag,IN,w16,Bm (i:=((i-16:Nat):Int)) (k:=i-16) rfl EV (show i-16<64 by omega)]
  refine aC AY hat16 λrd2 hr2=> ?_
  simp only[Cw,B5,B8,BU,Ag,IN,w7,DV (i:=7) (n:=n-1-1-1-1) 7 rfl (by decide) rfl hX (by omega),DV (i:=18) (n:=n-1-1-1-1) 18 rfl (by decide) rfl hX (by omega),Eu,MO (i:=3) 3 rfl (by decide),Fc,Bm (i:=((i-7:Nat):Int)) (k:=i-7) rfl EV (show i-7<64 by omega)]
  refine aC AY hat7 λrd3 hr3=> ?_
  simp only[Ag,DV (i:=17) (n:=n-1-1-1-1) 17 rfl (by decide) rfl hY (by omega),DV (i:=19) (n:=n-1-1-1-1) 19 rfl (by decide) rfl hY (by omega),Eu,MO (i:=10) 10 rfl (by decide),Fc,Bm (i:=((i:Nat):Int)) (k:=i) rfl EV (show i<64 by omega)]
  rw[Afq_ hX,XR_ hY,<-hsch,AK]
  have l2: ∀x∈rd2,F x:=λx hx=>by rw[hF,hr2 x hx];exact⟨by omega,by omega⟩
  have l3: ∀x∈rd3,F x:=λx hx=>by rw[hF,hr3 x hx];exact⟨by omega,by omega⟩
  refine⟨rfl,by simp, ?_,λs2 m2 n2 x2=> ?_⟩
  ·dsimp only
   simp only[List.forall_mem_cons]
   repeat' apply And.intro
   all_goals first|trivial|assumption|(intro x hx;cases hx)
  refine aJ (XI_ ..) ?_
  simp only[SS]
  have hx2:Ext Non (In B 0 64) s0 s2:=hx'.trans x2 hb0 (λy hy h=>by rw[hF]at h;have h1:=h.1;omega) λ_ _ h=>h.elim
  have ho2:Aa s2 B 0 (w32 ws):=λj v e=>(ho' j v e).ext x2 id
  have hown:=ho2 i _ (Dl (show i<ws.length by omega))
  refine aL (o:=0+i*1) AY rfl (by rw[Nat.mul_one];exact hown) λs3 n3 x3 o3=> ?_
  rw[Nat.mul_one]at x3 o3
  have ho3:Aa s3 B 0 (w32 (ws.set i (Sha.sch f i))):=by
   rw[<-NQ]
   exact ho2.set x3 o3
  have hx3:Ext Non (In B 0 64) s0 s3:=hx2.trans x3 hb0 (λy hy h=>by have h1:B+(0+i)<=y:=h.1;omega) λy _ h=>by
   have h1:B+(0+i)<=y:=h.1
   have h2:y<B+(0+i)+1:=h.2
   exact⟨by omega,by omega⟩
  refine Rk_.u ?_
  have ei:=eiW (i:=i) (by omega)
  simp only[Ed_,RR,SS,Nat.reduceEqDiff, ↓reduceIte,Aw,h5,ei]
  refine ih (i+1) _ _ _ _ (ws.set i (Sha.sch f i)) (by omega) (by omega) (by omega) Ve_ hx3 ho3 (by rw[List.length_set];exact hw) (λj hj=> ?_) (by simp[T.get_set,h2]) (by simp[T.get_set,h3]) (by simp[T.get_set]) λn' tm' s3 td' e=>q n' tm' s3 td' (by omega)
  rw[List.getD_eq_getElem?_getD,List.getElem?_set]
  by_cases hij:i=j
  ·subst hij
   rw[if_pos rfl,if_pos (by omega)]
   rfl
  ·rw[if_neg hij,<-List.getD_eq_getElem?_getD]
   exact hws j (by omega)
