import Derived.Test.YtofanlcjeohcjaaIMg16
noncomputable section
namespace Go.Proofs.Ytofanlcjeohcjaa.Am
open Go.RowKit
def H1:Nat:=Ar Try.f20
def Wj:Code:=Try.f20.body.getD .skip
theorem Jj:envS.fn.get 20=some Try.f20:=by kernel_rfl
theorem YL_:G1 envS 20 11 H1 Wj:=λh=>
 aM Jj (h _ (by kernel_rfl))
theorem P8:Try.f20.results.toList=[.tmp 2]:=by kernel_rfl
def XN:List Item:=skim 64 [.code Wj]
def Iq_:=nx XN
def MN:=nx Iq_
def S4:=bt MN
def CZ_:=bf MN
def Ur:=nx S4
def Wb:=nx CZ_
def WE:Rg:=λE call round tm=>
 mv (some (.int .i64 0)) λv2=>
 setF 2 v2 tm λtm1=>
 M.pure tm1
theorem PT_:RegEq 20 11 H1 XN WE:={}
def BD_:Rg:=λE call round tm=>
 mv (T.get tm 0) λv3=>
 bI E .lss 3 (.tmp 3) (.const (.int .i64 1)) (some v3) (some (.int .i64 1)) λv4=>
 mv (some v4) λv5=>
 sK v5 false (oS (T.get tm 0) λa=>M.pure a) λv6=>
 sK v5 false (oS (some v6) λa=>oS (some (.int .i64 1024)) λb=>Cl.get (aBin E .gtr 3 (.tmp 6) (.const (.int .i64 1024))) a b) λv7=>
 M.bind (M.on (some v5) λa=>M.on (some (.bool true)) λb=>M.on (some v7) λc=>A3 a b c) λv8=>
 setF 8 v8 tm λtm1=>
 M.pure tm1
theorem XP_:RegEq 20 11 H1 Iq_ BD_:={}
theorem R3:Ah MN=some 8:=by kernel_rfl
def OT:Rg:=λE call round tm=>
 mv (some (.int .i64 0)) λv2=>
 setF 2 v2 tm λtm1=>
 M.pure tm1
theorem IO_:RegEq 20 11 H1 S4 OT:={}
def Zj:Rg:=λE call round tm=>
 mv (T.get tm 0) λv9=>
 bI E .add 3 (.tmp 9) (.const (.int .i64 26)) (some v9) (some (.int .i64 26)) λv10=>
 mv (some v10) λv2=>
 setF 2 v2 tm λtm1=>
 M.pure tm1
theorem AkQ_:RegEq 20 11 H1 CZ_ Zj:={}
theorem Lv_: ∃k,Ur= .code .ret::k:=⟨Ur.tail,by kernel_rfl⟩
theorem Vi_: ∃k,Wb= .code .ret::k:=⟨Wb.tail,by kernel_rfl⟩
def H2:Nat:=Ar Try.f62
def Wk:Code:=Try.f62.body.getD .skip
theorem IJ_:envS.fn.get 62=some Try.f62:=by kernel_rfl
theorem TZ_:G1 envS 62 31 H2 Wk:=λh=>
 aM IJ_ (h _ (by kernel_rfl))
theorem Tj_:Try.f62.results.toList=[.cell 2 89]:=by kernel_rfl
def IT_:List Item:=skim 64 [.code Wk]
def Vo:=nx IT_
def YY:=nx Vo
def Vx:=nx YY
def LY_:=nx Vx
def JU_:Rg:=λE call round tm=>
 M.bind (AI E 89) λv2=>
 setF 2 v2 tm λtm1=>
 M.pure tm1
theorem VZ_:RegEq 62 31 H2 IT_ JU_:={}
def TA:Rg:=λE call round tm=>
 mv (T.get tm 0) λv6=>
 bI E .shr 3 (.tmp 6) (.const (.int .u64 8)) (some v6) (some (.int .u64 8)) λv7=>
 vB E 3 5 (some v7) λv8=>
 mv (T.get tm 0) λv9=>
 vB E 3 5 (some v9) λv10=>
 mv (some v8) λv3=>
 setF 3 v3 tm λtm1=>
 mv (some v10) λv4=>
 setF 4 v4 tm1 λtm2=>
 M.pure tm2
theorem Rv_:RegEq 62 31 H2 Vo TA:={}
def YS:Rg:=λE call round tm=>
 mv (T.get tm 3) λv11=>
 mv (T.get tm 4) λv12=>
 mv (T.get tm 3) λv13=>
 M.bind (oS (some v13) λa=>kUn E.P .xor a) λv14=>
 mv (T.get tm 4) λv15=>
 M.bind (oS (some v15) λa=>kUn E.P .xor a) λv16=>
 M.bind (oS (seqP [(0,(some v11)),(1,(some v12)),(2,(some v14)),(3,(some v16))]) λps=>AU E 22 4 ps) λv17=>
 cN call round 105 [(some v17)] λv18=>
 mv (some v18) λv5=>
 setF 5 v5 tm λtm1=>
 M.pure tm1
theorem AjL_:RegEq 62 31 H2 YY YS:={}
def CV_:Rg:=λE call round tm=>
 mv (T.get tm 3) λv19=>
 mv (T.get tm 4) λv20=>
 mv (T.get tm 3) λv21=>
 M.bind (oS (some v21) λa=>kUn E.P .xor a) λv22=>
 mv (T.get tm 4) λv23=>
 M.bind (oS (some v23) λa=>kUn E.P .xor a) λv24=>
 mv (T.get tm 5) λv25=>
 vB E 51 5 (some v25) λv26=>
 mv (T.get tm 5) λv27=>
 bI E .shr 51 (.tmp 27) (.const (.int .u64 8)) (some v27) (some (.int .u64 8)) λv28=>
 vB E 51 5 (some v28) λv29=>
 M.bind (oS (seqP [(0,(some v19)),(1,(some v20)),(2,(some v22)),(3,(some v24)),(4,(some v26)),(5,(some v29))]) λps=>Bj E 89 ps) λv30=>
 M.bind (oS (T.get tm 2) λa=>oS (some v30) λb=>Ao E 89 a b) λ_=>
 M.pure tm
theorem NT_:RegEq 62 31 H2 Vx CV_:={}
theorem Wa_: ∃k,LY_= .code .ret::k:=⟨LY_.tail,by kernel_rfl⟩
def Ew:Nat:=Ar Try.f71
abbrev AbG_:Nat:=45
def Ml_:Code:=Try.f71.body.getD .skip
theorem KA:envS.fn.get 71=some Try.f71:=by kernel_rfl
theorem Lo_:G2 envS 71 45 Ew Ml_:=λh=>
 aM KA (h _ (by kernel_rfl) (by kernel_rfl))
theorem N7:Try.f71.results.toList=[.tmp 4, .tmp 5]:=by kernel_rfl
def UY:List Item:=skim 64 [.code Ml_]
def Sj:=nx UY
def NS:=nx Sj
def Ln_:=bt NS
def OA:=bf NS
def Ti:=nx Ln_
def JJ:=nx OA
def Hj_:=nx JJ
def MI:Rg:=λE call round tm=>
 mv (some (.int .i64 0)) λv4=>
 setF 4 v4 tm λtm1=>
 mv (some (.bool false)) λv5=>
 setF 5 v5 tm1 λtm2=>
 M.pure tm2
theorem BC_:RegEq 71 45 Ew UY MI:={}
def Pt:Rg:=λE call round tm=>
 mv (T.get tm 1) λv7=>
 bI E .lss 3 (.tmp 7) (.const (.int .i64 0)) (some v7) (some (.int .i64 0)) λv8=>
 mv (some v8) λv9=>
 sK v9 false (oS (T.get tm 1) λa=>M.pure a) λv10=>
 sK v9 false (oS (T.get tm 0) λa=>M.pure a) λv11=>
 sK v9 false (oS (seqO [(some v11)]) λl=>AS E .len [22] l) λv12=>
 sK v9 false (oS (some v12) λa=>oS (some (.int .i64 6)) λb=>Cl.get (aBin E .sub 3 (.tmp 12) (.const (.int .i64 6))) a b) λv13=>
 sK v9 false (oS (some v10) λa=>oS (some v13) λb=>Cl.get (aBin E .gtr 3 (.tmp 10) (.tmp 13)) a b) λv14=>
 M.bind (M.on (some v9) λa=>M.on (some (.bool true)) λb=>M.on (some v14) λc=>A3 a b c) λv15=>
 setF 15 v15 tm λtm1=>
 M.pure tm1
theorem Wg:RegEq 71 45 Ew Sj Pt:={}
theorem GP_:Ah NS=some 15:=by kernel_rfl
def CD_:Rg:=λE call round tm=>
 mv (some (.int .i64 0)) λv4=>
 setF 4 v4 tm λtm1=>
 mv (some (.bool false)) λv5=>
 setF 5 v5 tm1 λtm2=>
 M.pure tm2
theorem AiC_:RegEq 71 45 Ew Ln_ CD_:={}
def CG_:Rd:=λE call round tm=>
 PD (T.get tm 0) λp0=>
 PD (T.get tm 1) λp1=>
 ID E 22 (some p0.1) (some p1.1) λp2=>
 LD E 5 (some p2.1) λp3=>
 VB E 5 3 (some p3.1) λp4=>
 BI E .shl 3 (.tmp 20) (.const (.int .u64 8)) (some p4.1) (some (.int .u64 8)) λp5=>
 PD (T.get tm 0) λp6=>
 PD (T.get tm 1) λp7=>
 BI E .add 3 (.tmp 23) (.const (.int .i64 1)) (some p7.1) (some (.int .i64 1)) λp8=>
 ID E 22 (some p6.1) (some p8.1) λp9=>
 LD E 5 (some p9.1) λp10=>
 VB E 5 3 (some p10.1) λp11=>
 BI E .or 3 (.tmp 21) (.tmp 27) (some p5.1) (some p11.1) λp12=>
 fJ [p12,p11,p10,p9,p8,p7,p6,p5,p4,p3,p2,p1,p0] tm
theorem Aat_:DrawEq 71 45 Ew OA [0,0,3,7,15,31,0,0,128,448,960,1984,4095,8191] CG_:={}
theorem Adj_ (E:Env)(call round:Ac)(x16 x17 x18 x19 x20 x21 x22 x23 x24 x25 x26 x27 x28:Value)(tm:T Value)(s:St):AH call round (A7 E Ew 45 (hdC OA)) [x28,x27,x26,x25,x24,x23,x22,x21,x20,x19,x18,x17,x16] tm s=(M.bind (oS (some x28) λa=>M.pure a) λv6=>setT 6 v6 tm λtm1=>M.pure tm1) s:=by kernel_rfl
theorem Qa_: ∃k,Ti= .code .ret::k:=⟨Ti.tail,by kernel_rfl⟩
def De_:Rd:=λE call round tm=>
 PD (T.get tm 6) λp0=>
 PD (T.get tm 6) λp1=>
 CN call round 20 [(some p1.1)] λp2=>
 BI E .gtr 3 (.tmp 31) (.const (.int .i64 0)) (some p2.1) (some (.int .i64 0)) λp3=>
 PD (some p3.1) λp4=>
 SK p4.1 true (oS (T.get tm 0) λa=>M.pure a) λp5=>
 SK p4.1 true (oS (T.get tm 1) λa=>M.pure a) λp6=>
 SK p4.1 true (oS (T.get tm 1) λa=>M.pure a) λp7=>
 SK p4.1 true (oS (some p7.1) λa=>oS (some (.int .i64 6)) λb=>Cl.get (aBin E .add 3 (.tmp 36) (.const (.int .i64 6))) a b) λp8=>
 SK p4.1 true (M.on (some p5.1) λa=>M.on (onO (some p6.1) λv=>some (some v)) λb=>M.on (onO (some p8.1) λv=>some (some v)) λc=>AW E 22 a b c) λp9=>
 SK p4.1 true (oS (some p9.1) λa=>Dd E 89 a) λp10=>
 SK p4.1 true (oS (some p10.1) λa=>A5 E 89 a) λp11=>
 SK p4.1 true (oS (T.get tm 6) λa=>M.pure a) λp12=>
 SK p4.1 true (M.on (some (.func (.func 62) #[] #[])) λf=>M.on (seqO [(some p12.1)]) λl=>Bk call round f l) λp13=>
 SK p4.1 true (oS (some p11.1) λa=>oS (some p13.1) λb=>Cl.get (aBin E .eql 89 (.tmp 40) (.tmp 42)) a b) λp14=>
 M.bind (apartO (M.on (some p4.1) λa=>M.on (some p14.1) λb=>M.on (some (.bool false)) λc=>A3 a b c)) λp15=>
 PD (some p0.1) λp16=>
 setT 4 p16.1 tm λtm1=>
 fJ [p16,p15,p14,p13,p12,p11,p10,p9,p8,p7,p6,p5,p4,p3,p2,p1,p0] tm1
theorem Po_:DrawEq 71 45 Ew JJ [0,0,2,6,14,30,30,30,158,510,1022,2046,30,4126,16382,32766,12319,131071] De_:={}
theorem UG (E:Env)(call round:Ac)(x29 x30 x31 x32 x33 x34 x35 x36 x37 x38 x39 x40 x41 x42 x43 x44 x4:Value)(tm:T Value)(s:St):AH call round (A7 E Ew 45 (hdC JJ)) [x4,x44,x43,x42,x41,x40,x39,x38,x37,x36,x35,x34,x33,x32,x31,x30,x29] tm s=(M.bind (oS (some x44) λa=>M.pure a) λv5=>setT 5 v5 tm λtm1=>M.pure tm1) s:=by kernel_rfl
theorem Y7: ∃k,Hj_= .code .ret::k:=⟨Hj_.tail,by kernel_rfl⟩
def Eb:Nat:=Ar Try.f72
abbrev Fo_:Nat:=39
def Ir_:Code:=Try.f72.body.getD .skip
theorem Nz:envS.fn.get 72=some Try.f72:=by kernel_rfl
theorem Tq_:G3 envS 72 39 Eb Ir_:=λh=>
 aM Nz (h _ (by kernel_rfl) (by kernel_rfl) (by kernel_rfl))
theorem FT_:Try.f72.results.toList=[.cell 6 26, .tmp 7, .tmp 8]:=by kernel_rfl
def UQ:List Item:=skim 64 [.code Ir_]
def Bg_:=nx UQ
def LU_:=nx Bg_
def Qe:=nx LU_
def YC:=bt Qe
def S7:=bf Qe
def Fu_:=nx YC
def Ky:=nx S7
def N2:=nx Ky
def AT_:Rg:=λE call round tm=>
 M.bind (AI E 26) λv6=>
 setF 6 v6 tm λtm1=>
 mv (some (.slice none 0 0)) λv7=>
 setF 7 v7 tm1 λtm2=>
 mv (some (.bool false)) λv8=>
 setF 8 v8 tm2 λtm3=>
 M.pure tm3
theorem SU_:RegEq 72 39 Eb UQ AT_:={}
def Bj_:Rg:=λE call round tm=>
 mv (T.get tm 0) λv13=>
 mv (T.get tm 1) λv14=>
 bI E .add 3 (.tmp 14) (.const (.int .i64 6)) (some v14) (some (.int .i64 6)) λv15=>
 mv (T.get tm 1) λv16=>
 mv (T.get tm 2) λv17=>
 cN call round 20 [(some v17)] λv18=>
 bI E .add 3 (.tmp 16) (.tmp 18) (some v16) (some v18) λv19=>
 M.bind (M.on (some v13) λa=>M.on (onO (some v15) λv=>some (some v)) λb=>M.on (onO (some v19) λv=>some (some v)) λc=>AW E 22 a b c) λv20=>
 cN call round 81 [(some v20)] λv21=>
 mv (some v21) λv12=>
 eX 0 (some v12) λv22=>
 eX 1 (some v12) λv23=>
 mv (some v22) λv9=>
 setF 9 v9 tm λtm1=>
 mv (some v23) λv10=>
 setF 10 v10 tm1 λtm2=>
 M.pure tm2
theorem AcG_:RegEq 72 39 Eb Bg_ Bj_:={}
def QJ:Rg:=λE call round tm=>
 mv (T.get tm 10) λv24=>
 bI E .neq 27 (.tmp 24) (.const (.int .i64 0)) (some v24) (some (.int .i64 0)) λv25=>
 setF 25 v25 tm λtm1=>
 M.pure tm1
theorem MX_:RegEq 72 39 Eb LU_ QJ:={}
theorem IH_:Ah Qe=some 25:=by kernel_rfl
def LQ_:Rg:=λE call round tm=>
 M.bind (oS (seqP []) λps=>Bj E 26 ps) λv26=>
 M.bind (oS (T.get tm 6) λa=>oS (some v26) λb=>Ao E 26 a b) λ_=>
 mv (some (.slice none 0 0)) λv7=>
 setF 7 v7 tm λtm1=>
 mv (some (.bool false)) λv8=>
 setF 8 v8 tm1 λtm2=>
 M.pure tm2
theorem AkX_:RegEq 72 39 Eb YC LQ_:={}
def MN_:Rg:=λE call round tm=>
 mv (T.get tm 9) λv27=>
 M.bind (M.on (some v27) λa=>M.on (some none) λb=>M.on (onO (some (.int .i64 16)) λv=>some (some v)) λc=>AW E 22 a b c) λv28=>
 M.bind (oS (some v28) λa=>Dd E 26 a) λv29=>
 lD E 26 (some v29) λv30=>
 M.bind (AI E 26) λv11=>
 setF 11 v11 tm λtm1=>
 M.bind (oS (some v11) λa=>oS (some v30) λb=>Ao E 26 a b) λ_=>
 M.pure tm1
theorem AaP_:RegEq 72 39 Eb S7 MN_:={}
theorem WZ_: ∃k,Fu_= .code .ret::k:=⟨Fu_.tail,by kernel_rfl⟩
def HL_:Rd:=λE call round tm=>
 LD E 26 (T.get tm 11) λp0=>
 PD (T.get tm 9) λp1=>
 M.bind (apartO (M.on (some p1.1) λa=>M.on (onO (some (.int .i64 16)) λv=>some (some v)) λb=>M.on (some none) λc=>AW E 22 a b c)) λp2=>
 PD (T.get tm 9) λp3=>
 M.bind (apartO (M.on (some p3.1) λa=>M.on (onO (some (.int .i64 16)) λv=>some (some v)) λb=>M.on (some none) λc=>AW E 22 a b c)) λp4=>
 CN call round 32 [(some p4.1)] λp5=>
 LD E 26 (T.get tm 11) λp6=>
 BI E .eql 26 (.tmp 36) (.tmp 37) (some p5.1) (some p6.1) λp7=>
 M.bind (apartO (oS (T.get tm 6) λa=>oS (some p0.1) λb=>Ao E 26 a b)) λp8=>
 PD (some p2.1) λp9=>
 setT 7 p9.1 tm λtm1=>
 M.pure (([p9.1,p7.1,p6.1,p5.1,p4.1,p3.1,p2.1,p1.1,p0.1],tm1),[p9.2,p8.2,p7.2,p6.2,p5.2,p4.2,p3.2,p2.2,p1.2,p0.2])
theorem AbK_:DrawEq 72 39 Eb Ky [0,0,2,0,8,24,0,120,57,319,1023] HL_:={}
theorem AkS_ (E:Env)(call round:Ac)(x31 x32 x33 x34 x35 x36 x37 x38 x7:Value)(tm:T Value)(s:St):AH call round (A7 E Eb 39 (hdC Ky)) [x7,x38,x37,x36,x35,x34,x33,x32,x31] tm s=(M.bind (oS (some x38) λa=>M.pure a) λv8=>setT 8 v8 tm λtm1=>M.pure tm1) s:=by kernel_rfl
theorem TU_: ∃k,N2= .code .ret::k:=⟨N2.tail,by kernel_rfl⟩
def RJ:Nat:=Ar Try.f68
def GQ_:Code:=Try.f68.body.getD .skip
theorem FD_:envS.fn.get 68=some Try.f68:=by kernel_rfl
theorem YI_:G1 envS 68 4 RJ GQ_:=λh=>
 aM FD_ (h _ (by kernel_rfl))
theorem NX_:Try.f68.results.toList=[.tmp 2]:=by kernel_rfl
def Gt_:List Item:=skim 64 [.code GQ_]
def ZI:=nx Gt_
def Ev_:=nx ZI
def Lm_:Rg:=λE call round tm=>
 M.bind (oS (T.get tm 0) λa=>kBox a) λv1=>
 setF 1 v1 tm λtm1=>
 mv (some .nilFunc) λv2=>
 setF 2 v2 tm1 λtm2=>
 M.pure tm2
theorem VA_:RegEq 68 4 RJ Gt_ Lm_:={}
def Fa_:Rg:=λE call round tm=>
 M.bind (oS (seqO []) λa=>oS (seqO [(T.get tm 1)]) λb=>M.pure (.func (.func 109) a.toArray b.toArray)) λv3=>
 mv (some v3) λv2=>
 setF 2 v2 tm λtm1=>
 M.pure tm1
theorem YT_:RegEq 68 4 RJ ZI Fa_:={}
theorem AiO_: ∃k,Ev_= .code .ret::k:=⟨Ev_.tail,by kernel_rfl⟩
def Bz:Nat:=Ar Try.f109
abbrev DT:Nat:=66
def Ms_:Code:=Try.f109.body.getD .skip
theorem BR_:envS.fn.get 109=some Try.f109:=by kernel_rfl
theorem Xy_:G2 envS 109 66 Bz Ms_:=λh=>
 aM BR_ (h _ (by kernel_rfl) (by kernel_rfl))
theorem SV_:Try.f109.results.toList=[]:=by kernel_rfl
def Yu:List Item:=skim 64 [.code Ms_]
def Gc:=nx Yu
def Mb_:=nx Gc
def Jf_:=nx Mb_
def No:=nx Jf_
def SB:=bt No
def Vd:=bf No
def Ie:=nx SB
def Pr:=nx Vd
def UF_:=nx Ie
def H8:=bt Pr
def JF:=bf Pr
def MC:=bt H8
def V4:=bf H8
theorem FZ_:skim 64 JF.tail=H8:=by kernel_rfl
theorem AeG_:skim 64 MC.tail=Ie:=by kernel_rfl
def Se:=nx V4
def LJ:=bt Se
theorem Th_:skim 64 (brF Se)=Ie:=by kernel_rfl
def Qa:=nx LJ
def Cu_:=nx Qa
def Go_:=bf Cu_
theorem Aio_:skim 64 Go_.tail=Gc:=by kernel_rfl
def IU_:Rg:=λE call round tm=>
 mv (some (.int .i64 0)) λv3=>
 setF 3 v3 tm λtm1=>
 M.pure tm1
theorem VI_:RegEq 109 66 Bz Yu IU_:={}
def RH:Rg:=λE call round tm=>
 lD E 22 (T.get tm 1) λv11=>
 mv (T.get tm 3) λv12=>
 cN call round 71 [(some v11),(some v12)] λv13=>
 mv (some v13) λv10=>
 eX 0 (some v10) λv14=>
 eX 1 (some v10) λv15=>
 mv (some v14) λv4=>
 setF 4 v4 tm λtm1=>
 mv (some v15) λv5=>
 setF 5 v5 tm1 λtm2=>
 M.pure tm2
theorem ZU:RegEq 109 66 Bz Gc RH:={}
def O1:Rg:=λE call round tm=>
 mv (some (.int .i64 2)) λv6=>
 setF 6 v6 tm λtm1=>
 M.pure tm1
theorem Td:RegEq 109 66 Bz Mb_ O1:={}
def N5:Rg:=λE call round tm=>
 mv (T.get tm 3) λv17=>
 lD E 22 (T.get tm 1) λv18=>
 lN E .len [22] [(some v18)] λv19=>
 bI E .eql 3 (.tmp 17) (.tmp 19) (some v17) (some v19) λv20=>
 mv (some v20) λv16=>
 setF 16 v16 tm λtm1=>
 M.pure tm1
theorem Tx:RegEq 109 66 Bz Jf_ N5:={}
theorem Ol:Ah No=some 16:=by kernel_rfl
def Nm:Rg:=λE call round tm=>
 mv (some (.int .i64 0)) λv6=>
 setF 6 v6 tm λtm1=>
 M.pure tm1
theorem SP:RegEq 109 66 Bz SB Nm:={}
def MH_:Rg:=λE call round tm=>
 lD E 22 (T.get tm 1) λv22=>
 lN E .len [22] [(some v22)] λv23=>
 mv (T.get tm 3) λv24=>
 bI E .sub 3 (.tmp 23) (.tmp 24) (some v23) (some v24) λv25=>
 bI E .lss 3 (.tmp 25) (.const (.int .i64 6)) (some v25) (some (.int .i64 6)) λv26=>
 mv (some v26) λv21=>
 setF 21 v21 tm λtm1=>
 M.pure tm1
theorem AlE_:RegEq 109 66 Bz Vd MH_:={}
def UC:Rg:=λE call round tm=>
 mv (T.get tm 0) λv61=>
 mv (T.get tm 3) λv62=>
 mv (T.get tm 6) λv63=>
 M.bind (oS (seqP [(2,(some v63))]) λps=>Bj E 97 ps) λv64=>
 M.bind (M.on (some v61) λf=>M.on (seqO [(some v62),(some v64)]) λl=>Bk call round f l) λv65=>
 M.pure tm
theorem Xu_:RegEq 109 66 Bz Ie UC:={}
theorem Ly_:Ah Pr=some 21:=by kernel_rfl
theorem J3:Ah H8=some 21:=by kernel_rfl
def Qv:Rd:=λE call round tm=>
 PD (T.get tm 5) λp0=>
 PD (some p0.1) λp1=>
 SK p1.1 true (oS (T.get tm 1) λa=>A5 E 22 a) λp2=>
 SK p1.1 true (oS (seqO [(some p2.1)]) λl=>AS E .len [22] l) λp3=>
 SK p1.1 true (oS (T.get tm 3) λa=>M.pure a) λp4=>
 SK p1.1 true (oS (some p3.1) λa=>oS (some p4.1) λb=>Cl.get (aBin E .sub 3 (.tmp 30) (.tmp 31)) a b) λp5=>
 SK p1.1 true (oS (T.get tm 4) λa=>M.pure a) λp6=>
 SK p1.1 true (M.on (some (.func (.func 20) #[] #[])) λf=>M.on (seqO [(some p6.1)]) λl=>Bk call round f l) λp7=>
 SK p1.1 true (oS (some p5.1) λa=>oS (some p7.1) λb=>Cl.get (aBin E .lss 3 (.tmp 32) (.tmp 34)) a b) λp8=>
 M.bind (apartO (M.on (some p1.1) λa=>M.on (some p8.1) λb=>M.on (some (.bool false)) λc=>A3 a b c)) λp9=>
 fJ [p9,p8,p7,p6,p5,p4,p3,p2,p1,p0] tm
theorem Xl_:DrawEq 109 66 Bz JF [0,1,3,7,3,31,3,67,255,511,1023] Qv:={}
theorem Fb_ (E:Env)(call round:Ac)(x27 x28 x29 x30 x31 x32 x33 x34 x35 x36:Value)(tm:T Value)(s:St):AH call round (A7 E Bz 66 (hdC JF)) [x36,x35,x34,x33,x32,x31,x30,x29,x28,x27] tm s=(M.bind (oS (some x36) λa=>M.pure a) λv21=>setT 21 v21 tm λtm1=>M.pure tm1) s:=by kernel_rfl
def IX_:Rg:=λE call round tm=>
 mv (some (.int .i64 1)) λv6=>
 setF 6 v6 tm λtm1=>
 M.pure tm1
theorem AcY_:RegEq 109 66 Bz MC IX_:={}
def Px:Rg:=λE call round tm=>
 mv (T.get tm 5) λv38=>
 mv (some v38) λv37=>
 setF 37 v37 tm λtm1=>
 M.pure tm1
theorem XT:RegEq 109 66 Bz V4 Px:={}
theorem Wl:Ah Se=some 37:=by kernel_rfl
def JQ_:Rg:=λE call round tm=>
 lD E 22 (T.get tm 1) λv40=>
 mv (T.get tm 3) λv41=>
 mv (T.get tm 4) λv42=>
 cN call round 72 [(some v40),(some v41),(some v42)] λv43=>
 mv (some v43) λv39=>
 eX 0 (some v39) λv44=>
 eX 1 (some v39) λv45=>
 eX 2 (some v39) λv46=>
 M.bind (AI E 26) λv7=>
 setF 7 v7 tm λtm1=>
 M.bind (oS (some v7) λa=>oS (some v44) λb=>Ao E 26 a b) λ_=>
 mv (some v45) λv8=>
 mv (some v46) λv9=>
 setF 9 v9 tm1 λtm2=>
 M.pure tm2
theorem AbU_:RegEq 109 66 Bz LJ JQ_:={}
def Jw_:Rg:=λE call round tm=>
 mv (T.get tm 0) λv47=>
 mv (T.get tm 3) λv48=>
 lD E 26 (T.get tm 7) λv49=>
 mv (T.get tm 3) λv50=>
 mv (T.get tm 4) λv51=>
 M.bind (oS (seqP [(0,(some v49)),(1,(some v50)),(2,(some v51))]) λps=>Bj E 35 ps) λv52=>
 mv (T.get tm 9) λv53=>
 M.bind (oS (seqP [(0,(some v52)),(1,(some v53)),(2,(some (.int .i64 (-1))))]) λps=>Bj E 97 ps) λv54=>
 M.bind (M.on (some v47) λf=>M.on (seqO [(some v48),(some v54)]) λl=>Bk call round f l) λv55=>
 M.bind (oS (some v55) λa=>kUn E.P .not a) λv56=>
 setF 56 v56 tm λtm1=>
 M.pure tm1
theorem Wn_:RegEq 109 66 Bz Qa Jw_:={}
theorem AiN_:Ah Cu_=some 56:=by kernel_rfl
def Dx_:Rg:=λE call round tm=>
 mv (T.get tm 3) λv57=>
 mv (T.get tm 4) λv58=>
 cN call round 20 [(some v58)] λv59=>
 bI E .add 3 (.tmp 57) (.tmp 59) (some v57) (some v59) λv60=>
 mv (some v60) λv3=>
 setF 3 v3 tm λtm1=>
 M.pure tm1
theorem Zw_:RegEq 109 66 Bz Go_ Dx_:={}
def Br:Nat:=Ar Try.f24
abbrev Ez:Nat:=33
def Jq_:Code:=Try.f24.body.getD .skip
theorem Y8:envS.fn.get 24=some Try.f24:=by kernel_rfl
theorem Ajo_:G1 envS 24 33 Br Jq_:=λh=>
 aM Y8 (h _ (by kernel_rfl))
theorem XO_:Try.f24.results.toList=[.cell 2 36, .cell 3 3, .cell 4 3, .cell 5 3]:=by kernel_rfl
def Io_:List Item:=skim 64 [.code Jq_]
def Gi_:=nx Io_
def EY:=nx Gi_
def J2:Code:=asC EY
def LC:Code:=bdC EY
theorem So_:rfP EY=some (9,[10,11],J2,LC):=by kernel_rfl
theorem Ajk_:Km_ EY=[.code J2, .beginRound, .code LC]:=by kernel_rfl
def Ls:=nx EY
def Ms:List Item:=skim 64 (Km_ EY)
def Cx_:=nx Ls
def II_:=nx Ms
def Kw:=nx II_
def Ah_:=nx Kw
def OL:=nx Ah_
def JS:=bt OL
def Yw:=bf OL
def Hx:=nx JS
def Mq:=nx Yw
def OE:=bt Mq
def Py:=bf Mq
theorem Xi:skim 64 OE.tail=Hx:=by kernel_rfl
theorem Afw_:skim 64 Py.tail=Hx:=by kernel_rfl
def Nw_:Rg:=λE call round tm=>
 M.bind (AI E 36) λv2=>
 setF 2 v2 tm λtm1=>
 M.bind (AI E 3) λv3=>
 setF 3 v3 tm1 λtm2=>
 M.bind (AI E 3) λv4=>
 setF 4 v4 tm2 λtm3=>
 M.bind (AI E 3) λv5=>
 setF 5 v5 tm3 λtm4=>
 M.pure tm4
theorem Rf_:RegEq 24 33 Br Io_ Nw_:={}
def XL:Rg:=λE call round tm=>
 mv (T.get tm 0) λv8=>
 cN call round 68 [(some v8)] λv9=>
 setF 9 v9 tm λtm1=>
 M.pure tm1
theorem Ajw_:RegEq 24 33 Br Gi_ XL:={}
def MG_:Rd:=λE call round tm=>
 LD E 36 (T.get tm 2) λp0=>
 LD E 3 (T.get tm 3) λp1=>
 LD E 3 (T.get tm 4) λp2=>
 LD E 3 (T.get tm 5) λp3=>
 M.bind (apartO (oS (T.get tm 2) λa=>oS (some p0.1) λb=>Ao E 36 a b)) λp4=>
 M.bind (apartO (oS (T.get tm 3) λa=>oS (some p1.1) λb=>Ao E 3 a b)) λp5=>
 M.bind (apartO (oS (T.get tm 4) λa=>oS (some p2.1) λb=>Ao E 3 a b)) λp6=>
 M.pure (([p3.1,p2.1,p1.1,p0.1],tm),[p6.2,p5.2,p4.2,p3.2,p2.2,p1.2,p0.2])
theorem Agz_:DrawEq 24 33 Br Ls [0,0,0,0,1,19,55,127] MG_:={}
theorem AgF_ (E:Env)(call round:Ac)(x29 x30 x31 x32:Value)(tm:T Value)(s:St):AH call round (A7 E Br 33 (hdC Ls)) [x32,x31,x30,x29] tm s=(M.bind (oS (T.get tm 5) λa=>oS (some x32) λb=>Ao E 3 a b) λ_=>M.pure tm) s:=by kernel_rfl
def Tn:Rg:=λE call round tm=>
 mv (T.get tm 10) λv6=>
 setF 6 v6 tm λtm1=>
 M.pure tm1
theorem NY_:RegEq 24 33 Br Ms Tn:={}
theorem QY_: ∃k,Cx_= .code .ret::k:=⟨Cx_.tail,by kernel_rfl⟩
def IL_:Rg:=λE call round tm=>
 M.bind (AI E 97) λv7=>
 setF 7 v7 tm λtm1=>
 M.bind (oS (some v7) λa=>oS (T.get tm1 11) λb=>Ao E 97 a b) λ_=>
 M.pure tm1
theorem Ajc_:RegEq 24 33 Br II_ IL_:={}
theorem SY_:Kw= .beginRound::Kw.tail:=by kernel_rfl
def Hi_:Rg:=λE call round tm=>
 fD E 97 2 (T.get tm 7) λv15=>
 lD E 3 (some v15) λv16=>
 bI E .geq 3 (.tmp 16) (.const (.int .i64 0)) (some v16) (some (.int .i64 0)) λv17=>
 mv (some v17) λv14=>
 setF 14 v14 tm λtm1=>
 M.pure tm1
theorem QU_:RegEq 24 33 Br Ah_ Hi_:={}
theorem AX_:Ah OL=some 14:=by kernel_rfl
def WT:Rd:=λE call round tm=>
 PD (T.get tm 6) λp0=>
 FD E 97 2 (T.get tm 7) λp1=>
 LD E 3 (some p1.1) λp2=>
 M.bind (apartO (oS (T.get tm 3) λa=>oS (some p0.1) λb=>Ao E 3 a b)) λp3=>
 M.pure (([p2.1,p1.1,p0.1],tm),[p3.2,p2.2,p1.2,p0.2])
theorem AlN_:DrawEq 24 33 Br JS [0,0,2,1,15] WT:={}
theorem ZK_ (E:Env)(call round:Ac)(x18 x19 x20:Value)(tm:T Value)(s:St):AH call round (A7 E Br 33 (hdC JS)) [x20,x19,x18] tm s=(M.bind (oS (T.get tm 5) λa=>oS (some x20) λb=>Ao E 3 a b) λ_=>M.pure tm) s:=by kernel_rfl
def Dn_:Rg:=λE call round tm=>
 fD E 97 1 (T.get tm 7) λv22=>
 lD E 4 (some v22) λv23=>
 mv (some v23) λv21=>
 setF 21 v21 tm λtm1=>
 M.pure tm1
theorem ZG_:RegEq 24 33 Br Yw Dn_:={}
theorem XG:Ah Mq=some 21:=by kernel_rfl
def Va:Rg:=λE call round tm=>
 lD E 36 (T.get tm 2) λv24=>
 fD E 97 0 (T.get tm 7) λv25=>
 lD E 35 (some v25) λv26=>
 M.bind (oS (seqP [(0,(some v26))]) λps=>AU E 36 1 ps) λv27=>
 lN E .append [36,36] [(some v24),(some v27)] λv28=>
 M.bind (oS (T.get tm 2) λa=>oS (some v28) λb=>Ao E 36 a b) λ_=>
 M.pure tm
theorem AfC_:RegEq 24 33 Br OE Va:={}
def AH_:Rg:=λE call round tm=>
 lD E 3 (T.get tm 4) λv12=>
 bI E .add 3 (.tmp 12) (.const (.int .i64 1)) (some v12) (some (.int .i64 1)) λv13=>
 M.bind (oS (T.get tm 4) λa=>oS (some v13) λb=>Ao E 3 a b) λ_=>
 M.pure tm
theorem AcU_:RegEq 24 33 Br Py AH_:={}
def Ce (a:Int):Int:=if a<1\/1024<a then 0 else a+26
theorem JN {n:Nat}{s:St}{Q:Value->St->Prop}(a:Int)(hn:20<=n)(q:Q (.int .i64 (Ce a)) s):W (Ab envS (runF envS n) 20 [.int .i64 a]) s Q:=by
 refine YL_ λtm h0=> ?_
 refine PT_.u ?_
 simp -implicitDefEqProofs only[WE,RR,SS]
 refine XP_.u ?_
 simp -implicitDefEqProofs only[BD_,RR,SS,reduceCtorEq, ↓reduceIte,Ak,h0]
 by_cases h1:a<1
 ·rw[decide_eq_true h1]
  simp -implicitDefEqProofs only[AK,EN,Dr, ↓reduceIte]
  refine aI R3 ?_
  refine IO_.u ?_
  simp -implicitDefEqProofs only[OT,RR,SS]
  refine aF (rs:=[2]) (vs:=[.int .i64 0]) rfl (.inl Lv_) (by omega) Jj P8 rfl (by simp[T.get_set]) ?_
  have e:Ce a=0:=if_pos (.inl h1)
  rw[e]at q
  exact q
 ·rw[decide_eq_false h1]
  simp -implicitDefEqProofs only[SS,reduceCtorEq, ↓reduceIte,Cr]
  by_cases h2:1024<a
  ·refine aI R3 ?_ rfl (by simp[T.get_set,h2])
   refine IO_.u ?_
   simp -implicitDefEqProofs only[OT,RR,SS]
   refine aF (rs:=[2]) (vs:=[.int .i64 0]) rfl (.inl Lv_) (by omega) Jj P8 rfl (by simp[T.get_set]) ?_
   have e:Ce a=0:=if_pos (.inr h2)
   rw[e]at q
   exact q
  ·refine aH R3 ?_ rfl (by simp[T.get_set,h2])
   refine AkQ_.u ?_
   have ea:wrap64 (a+26)=a+26:=Ax (by omega) (by omega)
   simp -implicitDefEqProofs only[Zj,RR,SS,reduceCtorEq, ↓reduceIte,Aw,h0,ea]
   refine aF (rs:=[2]) (vs:=[.int .i64 (a+26)]) rfl (.inl Vi_) (by omega) Jj P8 rfl (by simp[T.get_set]) ?_
   have e:Ce a=a+26:=if_neg λh=>h.elim h1 h2
   rw[e]at q
   exact q
theorem AgQ_ (m:Nat)(hm:m<=255):Nat.xor 255 m=255-m:=by
 have h: ∀m:Fin 256,Nat.xor 255 m.val=255-m.val:=by decide+kernel
 exact h ⟨m,by omega⟩
theorem NL_ (P:Program)(m:Nat)(hm:m<=255)(s:St):kUn P .xor (.int .u8 (m:Nat)) s= .some (.int .u8 (255-m:Nat)) s:=by
 show Option.rec (motive:=λ_=>M Value) (CD P .xor (.int .u8 (.ofNat m))) (λx=>M.pure x) (notK .u8 m) s=_
 have:notK .u8 m=some (.int .u8 (255-m:Nat)):=by
  unfold notK
  show sOpt true (fitI .u8 (Nat.xor 255 m))=_
  rw[AgQ_ m hm]
  unfold fitI
  rw[Nat.ble_eq_true_of_le (show 255-m<=mxOf .u8 from Nat.sub_le _ _)]
  show mkI .u8 (255-m)=_
  unfold mkI
  rw[Aj]
  rfl
 rw[this]
 rfl
theorem Jl {P:Program}{m:Nat}{s:St}(hm:m<=255)(Q:Value->St->Prop):W (kUn P .xor (.int .u8 (m:Nat))) s Q=Q (.int .u8 (255-m:Nat)) s:=AC (NL_ P m hm s)
theorem Acq_:arrN envS 89=some (6,1):=by kernel_rfl
theorem MU:tyS envS 89=some (6,true):=by kernel_rfl
theorem Ra_:CG envS 89=some (List.replicate 6 (.int .u8 0)):=by kernel_rfl
theorem AkT_ (a b c d e f:Nat):Cv envS 89 [(0, .int .u8 (a:Nat)),(1, .int .u8 (b:Nat)),(2, .int .u8 (c:Nat)),(3, .int .u8 (d:Nat)),(4, .int .u8 (e:Nat)),(5, .int .u8 (f:Nat))]=some (u8l [a,b,c,d,e,f]):=by kernel_rfl
def BP (n:Nat):List Nat:=[n>>>8%256,n%256,255-n>>>8%256,255-n%256]
def CS (n:Nat):List Nat:=[n>>>8%256,n%256,255-n>>>8%256,255-n%256,BX 0 (BP n)%256,BX 0 (BP n)>>>8%256]
theorem TC (n:Nat):Byt (BP n):=λx hx=>by
 simp -implicitDefEqProofs only[BP,List.mem_cons,List.not_mem_nil,or_false]at hx
 omega
theorem AgI_ (n:Nat):Byt (CS n):=λx hx=>by
 simp -implicitDefEqProofs only[CS,List.mem_cons,List.not_mem_nil,or_false]at hx
 omega
theorem AcI_ {k n:Nat}{s:St}{Q:Value->St->Prop}(hbd:s.lim<=s.next)(hn:40<=n)(q: ∀s1,Ext Non Non s s1->Q (.agg (u8l (CS k)).toArray) s1):W (Ab envS (runF envS n) 62 [.int .i64 (k:Nat)]) s Q:=by
 refine TZ_ λtm h0=> ?_
 refine VZ_.u ?_
 simp -implicitDefEqProofs only[JU_,RR,SS]
 refine W.alloc Ra_ λsa na xa oa=> ?_
 have na':sa.next=s.next+7:=na
 have hxa:Ext Non Non (s.cxN cxN) sa:=xa
 refine Rv_.u ?_
 simp -implicitDefEqProofs only[TA,RR,SS,reduceCtorEq, ↓reduceIte,h0,Gt (k:= .i64) (by decide),Cu Jd Dy,wrap_u8]
 refine AjL_.u ?_
 have m1:k>>>8%256<=255:=by omega
 have m2:k%256<=255:=by omega
 simp -implicitDefEqProofs only[YS,RR,SS,Nat.reduceEqDiff, ↓reduceIte,Jl m1,Jl m2]
 refine aK (xa.bnd hbd) (r:=u8l (BP k)) Ck (by decide) rfl (Az (by decide)) λsb nb xb ob=> ?_
 have hxb:Ext Non Non (s.cxN cxN) sb:=hxa.step xb hbd (λ_ _ h=>h.elim) λ_ h=>h.elim
 have hB:Bs sb (.slice (some ⟨sa.next,0,none⟩) 4 4) (BP k):=Aa.bn ob (Az (by simp[BP]))
 refine Y1 (by omega) (hB.bn' (by simp[BP])) (TC k) (by simp[BP]) λsc mc nc xc=> ?_
 have hxc:Ext Non Non (s.cxN cxN) sc:=hxb.step xc hbd (λx hx h=>by
  have h2:x<s.lim:=hx
  have h3:sa.next+0<=x:=h.1
  omega) λ_ h=>h.elim
 have hoc:An sc s.next 0 6:=((Aa.owned oa).ext1 xb λ_ _ h=>h).ext1 xc λ_ _ h=>h
 refine NT_.u ?_
 generalize hS:BX 0 (BP k)=S
 simp -implicitDefEqProofs only[CV_,RR,SS,Nat.reduceEqDiff, ↓reduceIte,Jl m1,Jl m2,Cu Gg Dy,wrap_u8,Gt (k:= .u32) (by decide),CA (AkT_ _ _ _ _ _ _)]
 refine W.store MU rfl (Bx _) hoc λsd nd xd od=> ?_
 have hG: ∀x,In s.next 0 6 x->s.next<=x:=λx h=>by have:=h.1;omega
 have hxd:Ext Non Non (s.cxN cxN) sd:=hxc.step xd hbd (λx hx h=>by
  have h2:x<s.lim:=hx
  have:=hG x h
  omega) hG
 refine bB (r:=2) rfl (.inl Wa_) (by omega) IJ_ Tj_ hxd.cx (by simp[T.get_set];rfl) ?_
 refine aG MU od.row rfl λse me ne xe=> ?_
 have hxe:Ext Non Non (s.cxN cxN) se:=hxd.step xe hbd (λx hx h=>by
  have h2:x<s.lim:=hx
  have:=hG x h
  omega) λ_ h=>h.elim
 have:=q _ hxe.cx'
 unfold CS at this
 rw[hS]at this
 exact this
theorem JX:hasT envS 5=true:=by kernel_rfl
theorem JQ:intK envS 3=some .i64:=by kernel_rfl
theorem wrap_i64 (n:Nat)(h:n<9223372036854775808):IntKind.i64.wrap ((n:Nat):Int)=((n:Nat):Int):=by
 rw[<-Jf]
 exact Ax (by omega) (by omega)
def len2 (a b:Nat):Nat:=a<<<8|||b
theorem YT {a b:Nat}(ha:a<256)(hb:b<256):a<<<8<65536/\len2 a b<65536:=by
 have h:a<<<8<2^16:=by rw[Nat.shiftLeft_eq];omega
 exact⟨h,Nat.or_lt_two_pow h (by omega)⟩
theorem Xr_ {n k:Nat}{s:St}{v:Value}{l:List Nat}{Q:Value->St->Prop}(hbd:s.lim<=s.next)(hbs:Bs s v l)(hby:Byt l)(hk:k+6<=l.length)(hz:l.length<=1000000)(hn:60<=n)
  (q: ∀n' tm' s1 td',n<=n'+10->skim 64 td'=JJ->Ext (BsF v) Non (s.cxN cxN) s1->s1.mem=s.mem->s1.next=s.next->T.get tm' 0=some v->T.get tm' 1=some (.int .i64 (k:Nat))->T.get tm' 6=some (.int .i64 (len2 (l.getD k 0) (l.getD (k+1) 0):Nat))->W (runF envS n' ⟨71,AbG_,Ew,tm',td', .run, .normal,none⟩) s1 λp s2=>Q p.1 (s2.cxN s.cx)):W (Ab envS (runF envS n) 71 [v, .int .i64 (k:Nat)]) s Q:=by
 refine Lo_ λtm h0 h1=> ?_
 have hb0:Bs (s.cxN cxN) v l:=hbs.same rfl rfl
 have hka:k<l.length:=by omega
 have hkb:k+1<l.length:=by omega
 refine BC_.u ?_
 simp -implicitDefEqProofs only[MI,RR,SS]
 refine Wg.u ?_
 have e6:wrap64 (((l.length:Nat):Int)-6)=((l.length-6:Nat):Int):=by
  rw[Ax (by omega) (by omega)];omega
 simp -implicitDefEqProofs only[Pt,RR,SS,Nat.reduceEqDiff,reduceCtorEq, ↓reduceIte,Ak,h0,h1]
 rw[decide_eq_false (show ¬((k:Nat):Int)<0 by omega)]
 simp -implicitDefEqProofs only[SS,reduceCtorEq, ↓reduceIte,Cq,Cr,hb0.len Al,e6]
 refine aH GP_ ?_
 obtain⟨ba,oa,ca,rfl,ga,fa⟩:=hb0.at hka
 obtain⟨bb,ob,cb,e,gb,fb⟩:=hb0.at hkb
 cases e
 refine Aat_.u ?_
 have hA:l[k]<256:=hby _ (List.getElem_mem hka)
 have hB:l[k+1]<256:=hby _ (List.getElem_mem hkb)
 obtain⟨hs1,hs2⟩:=YT hA hB
 have ei:=eiW (i:=k) (by omega)
 simp -implicitDefEqProofs only[CG_,RR,T.get_set,Nat.reduceEqDiff, ↓reduceIte,h0,h1,AJ,Ag]
 rw[W_dq λs Q=>AL (s:=s) Al hka Q]
 refine aC Cd (ga.same rfl rfl) λrd1 hr1=> ?_
 rw[W_dq λs Q=>Cu (s:=s) JX JQ Q,wrap_i64 _ (by omega),W_dq λs Q=>AhD_ (s:=s) (by omega) Q]
 simp -implicitDefEqProofs only[Ag]
 rw[W_dq λs Q=>Aw (s:=s) ((k:Nat):Int) 1,ei,W_dq λs Q=>AL (s:=s) Al hkb Q]
 refine aC Cd (gb.same rfl rfl) λrd2 hr2=> ?_
 rw[W_dq λs Q=>Cu (s:=s) JX JQ Q,wrap_i64 _ (by omega),W_dq λs Q=>W_or (s:=s) (show l[k]<<<8|||l[k+1]<=9223372036854775807 from by unfold len2 at hs2;omega) Q]
 rw[AK]
 refine⟨CI (by simp) (by simp), ?_⟩
 refine aJ (Adj_ _ _ _ _ _ _ _ _ _ _ _ _ _ _ _ _ _ _) ?_
 simp -implicitDefEqProofs only[SS]
 generalize hs':(⟨(dSt (s.cxN cxN).mem (s.cxN cxN).next).mem,(dSt (s.cxN cxN).mem (s.cxN cxN).next).next,(s.cxN cxN).lim,_,_,(s.cxN cxN).cx⟩:St)=s'
 have hx':Ext (BsF (.slice (some ⟨ba,oa,none⟩) l.length ca)) Non (s.cxN cxN) s':=by
  rw[<-hs']
  refine Ext.draw (F:=BsF (.slice (some ⟨ba,oa,none⟩) l.length ca)) (Nat.le_refl _) (λ_ _=>rfl) (by simp) (by
   simp -implicitDefEqProofs only[List.mem_cons,List.not_mem_nil,or_false]
   rintro m (rfl|rfl|rfl|rfl|rfl|rfl|rfl|rfl|rfl|rfl|rfl|rfl|rfl) x hx _<;>first|(exact fa _ (hr1 _ hx))|(exact fb _ (hr2 _ hx))|(cases hx))
 have hm':s'.mem=s.mem:=by rw[<-hs'];rfl
 have hn':s'.next=s.next:=by rw[<-hs'];rfl
 refine q _ _ s' _ (by omega) rfl hx' hm' hn' (by simp[T.get_set,h0]) (by simp[T.get_set,h1]) ?_
 rw[List.getD_eq_getElem?_getD,List.getD_eq_getElem?_getD,List.getElem?_eq_getElem hka,List.getElem?_eq_getElem hkb]
 simp[T.get_set,len2]
theorem Aif_ {n k:Nat}{s:St}{v:Value}{l:List Nat}{Q:Value->St->Prop}(hbs:Bs s v l)(hk:l.length<k+6)(hz:l.length<=1000000)(hn:60<=n)(q:Q (.tuple #[.int .i64 0, .bool false]) s):W (Ab envS (runF envS n) 71 [v, .int .i64 (k:Nat)]) s Q:=by
 refine Lo_ λtm h0 h1=> ?_
 have hb0:Bs (s.cxN cxN) v l:=hbs.same rfl rfl
 refine BC_.u ?_
 simp -implicitDefEqProofs only[MI,RR,SS]
 refine Wg.u ?_
 have e6:wrap64 (((l.length:Nat):Int)-6)=((l.length:Nat):Int)-6:=Ax (by omega) (by omega)
 simp -implicitDefEqProofs only[Pt,RR,SS,Nat.reduceEqDiff,reduceCtorEq, ↓reduceIte,Ak,h0,h1]
 rw[decide_eq_false (show ¬((k:Nat):Int)<0 by omega)]
 simp -implicitDefEqProofs only[SS,reduceCtorEq, ↓reduceIte,Cq,Cr,hb0.len Al,e6]
 refine aI GP_ ?_
 refine AiC_.u ?_
 simp -implicitDefEqProofs only[CD_,RR,SS]
 exact aF (rs:=[4,5]) (vs:=[.int .i64 0, .bool false]) rfl (.inl Qa_) (by omega) KA N7 rfl (by simp[T.get_set]) q
section
variable {α:Type}
theorem El (m:M α):M.chk true m=m:=rfl
theorem if_t (x y:M α):aT true x y=x:=rfl
theorem if_f (x y:M α):aT false x y=y:=rfl
theorem DW (call round:Ac)(f:Nat)(l:List Value):Bk call round (.func (.func f) #[] #[]) l=call f l:=by
 show call f ([]++(l++[]))=_
 rw[List.append_nil,List.nil_append]
end
theorem SU {n0:Nat}{l:List OpLog}{bef:List Nat}(hl:l.length<=bef.length)(h: ∀m∈l,m.wr=[]/\ ∀x∈m.rd,x<n0):Ca n0 l bef=true:=
 XH hl (λk m b e1 _=>⟨(h m (List.mem_of_getElem? e1)).1,λi a _ _=> .inr λx hx hn=>absurd ((h m (List.mem_of_getElem? e1)).2 x hx) (Nat.not_lt_of_le hn)⟩) λm hm=>(h m hm).1
theorem WC_:arrB envS.P 89=some 6:=by kernel_rfl
def AE (l:List Nat)(k:Nat):Nat:=len2 (l.getD k 0) (l.getD (k+1) 0)
def Ct (l:List Nat)(k:Nat):Bool:=decide (1<=AE l k/\AE l k<=1024)&&decide ((l.take (k+6)).drop k=CS (AE l k))
theorem VF (n:Nat):(CS n).length=6:=rfl
theorem VS (n:Nat):decide (0<Ce ((n:Nat):Int))=decide (1<=n/\n<=1024):=by
 unfold Ce
 by_cases h:((n:Nat):Int)<1\/1024<((n:Nat):Int)
 ·rw[if_pos h,decide_eq_decide];omega
 ·rw[if_neg h,decide_eq_decide];omega
theorem Ahr_ {n k:Nat}{s:St}{v:Value}{l:List Nat}{Q:Value->St->Prop}(hbd:s.lim<=s.next)(hbs:Bs s v l)(hby:Byt l)(hk:k+6<=l.length)(hz:l.length<=1000000)(hn:200<=n)
  (q: ∀s1,Ext (BsF v) Non s s1->Q (.tuple #[.int .i64 (AE l k:Nat), .bool (Ct l k)]) s1):W (Ab envS (runF envS n) 71 [v, .int .i64 (k:Nat)]) s Q:=by
 refine Xr_ hbd hbs hby hk hz (by omega) λn' tm' s1 td' hn' hT hx1 hm1 hn1 h0 h1 h6=> ?_
 have hne:l≠[]:=λh=>by rw[h]at hk;simp at hk
 have hB1:Bn s1 v l:=(hbs.bn' hne).same hm1 hn1
 have hb1:s1.lim<=s1.next:=hx1.bnd hbd
 have hNN:len2 (l.getD k 0) (l.getD (k+1) 0)=AE l k:=rfl
 rw[hNN]at h6
 unfold Ct at q
 generalize AE l k=N at h6 q
 rw[<-VS]at q
 refine Po_.u ?_ hT
 simp -implicitDefEqProofs only[De_,RR,h0,h1,h6,AJ,Cw,B5,B8,BU,DW,Ag]
 refine bA (JN _ (by omega) ⟨rfl, ?_⟩)
 rw[W_dq λs Q=>Cr (s:=s) _ _]
 simp -implicitDefEqProofs only[Ag,Cs,El]
 cases hp:decide (0<Ce ((N:Nat):Int))with
 |false=>
  rw[hp]at q
  simp -implicitDefEqProofs only[Fj,if_f,Ag]
  rw[W_dq λs Q=>CO (s:=s) _ _ _ _]
  simp -implicitDefEqProofs only[Bool.false_eq_true,reduceIte,Ag,FS,AK]
  refine⟨CI (by simp) (by simp), ?_⟩
  refine aJ (UG _ _ _ _ _ _ _ _ _ _ _ _ _ _ _ _ _ _ _ _ _ _) ?_
  simp -implicitDefEqProofs only[SS]
  refine aF (rs:=[4,5]) (vs:=[.int .i64 (N:Nat), .bool false]) rfl (.inl Y7) (by omega) KA N7 hx1.cx (by simp[T.get_set]) (q _ ?_)
  refine(hx1.step (aP (F:=BsF v) (G:=Non) (Nat.le_refl _) (λ_ _ _=>rfl) (by simp) (by simp)) hbd (λ_ _ h=>h) λ_ h=>h.elim).cx'
 |true=>
  rw[hp]at q
  simp -implicitDefEqProofs only[Ha,if_t,Ag]
  have e6:wrap64 (((k:Nat):Int)+6)=((k+6:Nat):Int):=by
   rw[Ax (by omega) (by omega)];omega
  rw[W_dq λs Q=>Aw (s:=s) _ _,e6]
  have hBo:Bn (oSt s1.mem s1.next) v l:=hB1.same rfl rfl
  refine bA (W.cut hBo Al (i:=k) (j:=k+6) rfl rfl (by omega) hk λv' hv' hF'=>⟨rfl, ?_⟩)
  obtain⟨b,o,c,rfl,g1,g2,g3⟩:=hv'
  have hlen:((l.take (k+6)).drop k).length=6:=by rw[List.length_drop,List.length_take];omega
  generalize (l.take (k+6)).drop k=seg at *
  have hrow:Row (dSt s1.mem s1.next) b o (u8l seg):=λi u e=>(g3 i u e).same rfl rfl
  rw[W_dq λs Q=>R0 (s:=s) Acq_ (show 6<=seg.length by omega) (by omega) Q]
  refine aV MU hrow (by rw[Av];exact hlen) λmem1 rd1 hm hr=> ?_
  subst hm
  simp -implicitDefEqProofs only[Ag]
  refine aU (AcI_ (Nat.le_refl _) (by omega) λs2 x2=>⟨Non,x2,λrd2 hr2=> ?_⟩)
  rw[W_dq λs Q=>Sc (s:=s) WC_ hlen (VF N) Q]
  rw[W_dq λs Q=>CO (s:=s) _ _ _ _]
  simp -implicitDefEqProofs only[reduceIte,Ag,FS,AK]
  have hold: ∀x,In b o 6 x->x<s1.next:=λx hx=>by
   have h5:=(g3 (x-(b+o)) _ (List.getElem?_eq_getElem (show x-(b+o)<(u8l seg).length by rw[Av,hlen];have:=hx.1;have:=hx.2;omega))).1
   have h6:b+(o+(x-(b+o)))<s1.next:=h5
   have:=hx.1
   omega
  have hrd2: ∀x∈rd2,False:=λx hx=>(hr2 x hx).2
  refine⟨SU (by simp) (by
   simp -implicitDefEqProofs only[List.reverse_cons,List.reverse_nil,List.nil_append,List.cons_append,List.mem_cons,List.not_mem_nil,or_false]
   rintro m (rfl|rfl|rfl|rfl|rfl|rfl|rfl|rfl|rfl|rfl|rfl|rfl|rfl|rfl|rfl|rfl|rfl)<;>refine⟨rfl,λx hx=> ?_⟩<;>first|(exact hold _ (hr _ hx))|(exact(hrd2 _ hx).elim)|(cases hx)), ?_⟩
  refine aJ (UG _ _ _ _ _ _ _ _ _ _ _ _ _ _ _ _ _ _ _ _ _ _) ?_
  simp -implicitDefEqProofs only[SS]
  have hx9:Ext (BsF v) Non (s.cxN cxN) s1:=hx1
  refine aF (rs:=[4,5]) (vs:=[.int .i64 (N:Nat), .bool (decide (seg=CS N))]) rfl (.inl Y7) (by omega) KA N7 hx1.cx (by simp[T.get_set]) ?_
  rw[Bool.true_and]at q
  refine q _ (hx9.step (aP (F:=BsF v) (G:=Non) x2.nxt (λx hx _=>x2.mem x hx id) (by
    simp -implicitDefEqProofs only[List.mem_cons,List.not_mem_nil,or_false]
    rintro m (rfl|rfl|rfl|rfl|rfl|rfl|rfl|rfl|rfl|rfl|rfl|rfl|rfl|rfl|rfl|rfl|rfl) x hx<;>cases hx) (by
    simp -implicitDefEqProofs only[List.mem_cons,List.not_mem_nil,or_false]
    rintro m (rfl|rfl|rfl|rfl|rfl|rfl|rfl|rfl|rfl|rfl|rfl|rfl|rfl|rfl|rfl|rfl|rfl) x hx _<;>first|(exact hF' _ ⟨(hr _ hx).1,by rw[hlen];exact(hr _ hx).2⟩)|(exact(hrd2 _ hx).elim)|(cases hx))) hbd (λ_ _ h=>h) λ_ h=>h.elim).cx'
def GP (l:List Nat)(k:Nat):Nat×Bool:=if k+6<=l.length then(AE l k,Ct l k)else(0,false)
theorem UI {n k:Nat}{s:St}{v:Value}{l:List Nat}{Q:Value->St->Prop}(hbd:s.lim<=s.next)(hbs:Bs s v l)(hby:Byt l)(hz:l.length<=1000000)(hn:200<=n)
  (q: ∀s1,Ext (BsF v) Non s s1->Q (.tuple #[.int .i64 ((GP l k).1:Nat), .bool (GP l k).2]) s1):W (Ab envS (runF envS n) 71 [v, .int .i64 (k:Nat)]) s Q:=by
 unfold GP at q
 by_cases hk:k+6<=l.length
 ·rw[if_pos hk]at q
  exact Ahr_ hbd hbs hby hk hz hn q
 ·rw[if_neg hk]at q
  exact Aif_ hbs (by omega) hz (by omega) (q s (Ext.refl s))
theorem Bn.lt {s:St}{v:Value}{l:List Nat}(h:Bn s v l): ∀x,BsF v x->x<s.next:=λx hx=>by
 obtain⟨b,o,c,rfl,_,_,h3⟩:=h
 obtain⟨h1,h2⟩:=hx
 have hi:x-(b+o)<(u8l l).length:=by rw[Av];omega
 have h5:=(h3 (x-(b+o)) _ (List.getElem?_eq_getElem hi)).1
 have h6:b+(o+(x-(b+o)))<s.next:=h5
 omega
theorem VW:arrB envS.P 26=some 16:=by kernel_rfl
theorem Als_:Cv envS 26 []=some (u8l (List.replicate 16 0)):=by kernel_rfl
def Cc (l:List Nat)(k n:Nat):List Nat:=(l.take (k+26+n)).drop (k+6)
theorem PZ {l:List Nat}{k n:Nat}(h:k+26+n<=l.length):(Cc l k n).length=n+20:=by
 unfold Cc
 rw[List.length_drop,List.length_take]
 omega
def BG (l:List Nat)(k n:Nat):List Nat:=(Cc l k n).take (n+16)
theorem Ij {l:List Nat}{k n:Nat}(h:k+26+n<=l.length):(BG l k n).length=n+16:=by
 unfold BG
 rw[List.length_take,PZ h]
 omega
def A9 (l:List Nat)(k n:Nat):List Nat:=(BG l k n).take 16
def BM (l:List Nat)(k n:Nat):List Nat:=(BG l k n).drop 16
theorem Iu {l:List Nat}{k n:Nat}(h:k+26+n<=l.length):(A9 l k n).length=16:=by
 unfold A9
 rw[List.length_take,Ij h]
 omega
theorem NL {l:List Nat}{k n:Nat}(h:k+26+n<=l.length):(BM l k n).length=n:=by
 unfold BM
 rw[List.length_drop,Ij h]
 omega
theorem IA {l m:List Nat}(h:Byt l)(hs: ∀x∈m,x∈l):Byt m:=λx hx=>h x (hs x hx)
theorem Om {l:List Nat}(h:Byt l)(k n:Nat):Byt (Cc l k n):=IA h λx hx=>List.mem_of_mem_take (List.mem_of_mem_drop hx)
theorem S1 {l:List Nat}(h:Byt l)(k n:Nat):Byt (BG l k n):=IA (Om h k n) λx hx=>List.mem_of_mem_take hx
structure MkO (s:St)(v:Value)(l:List Nat)(b o:Nat):Prop where
 val:v= .slice (some ⟨b,o,none⟩) l.length (capU*((b+o+l.length)*1024+1)+l.length)
 own:Aa s b o (u8l l)
 tok:T.get s.mem (b+o+l.length)=some (.O (.tok false 1025))
 lt:b+o+l.length<s.next
theorem MkO.same {s s':St}{v:Value}{l:List Nat}{b o:Nat}(h:MkO s v l b o)(hm:s'.mem=s.mem)(hn:s'.next=s.next):MkO s' v l b o:=
 ⟨h.val,λi u e=>(h.own i u e).same hm hn,by rw[hm];exact h.tok,by rw[hn];exact h.lt⟩
theorem MkO.ext {F G:Nat->Prop}{s s':St}{v:Value}{l:List Nat}{b o:Nat}(h:MkO s v l b o)(e:Ext F G s s')(hG: ∀x,In b o (l.length+1) x-> ¬G x):MkO s' v l b o:=
 ⟨h.val,λi u q=>(h.own i u q).ext e (hG _ ⟨by omega,by have:=(List.getElem?_eq_some_iff.1 q).1;rw[Av]at this;omega⟩),by rw[e.mem _ h.lt (hG _ ⟨by omega,by omega⟩)];exact h.tok,Nat.lt_of_lt_of_le h.lt e.nxt⟩
theorem MkG.cut {E:Env}{t:Nat}{s:St}{v:Value}{l:List Nat}{b i:Nat}{lo:Option Value}{Q:Value->St->Prop}(h:MkG s v l b)(ht:slN E t=some 1)(hlo:bndV lo 0=some i)(hi:i<l.length)(hz:l.length<=1073741824)
  (q: ∀v',MkO s v' (l.drop i) b i->Q v' s):W (AW E t v lo none) s Q:=by
 have hm:=FX (q:=(b+l.length)*1024+1) (Az hz)
 have hok:=Ep (m:=b+l.length) (sz:=1) (Az hz) (by decide)
 rw[h.val,GX ht hlo (h:=l.length) rfl (Nat.le_of_lt hi) (by rw[hm];exact Nat.le_refl _) hok,if_pos (by rw[hm];exact hi)]
 have hl:(l.drop i).length=l.length-i:=List.length_drop
 have e1:b+i+(l.length-i)=b+l.length:=by omega
 refine q _ ⟨?_, ?_,by rw[hl,e1];exact h.tok,by rw[hl,e1];exact h.lt⟩
 ·rw[hl,e1,Nat.zero_add,Nat.mul_one]
  congr 1
  omega
 ·have:=Aa.drop (n:=i) h.own
  rw[Nat.zero_add]at this
  unfold u8l
  rw[List.map_drop]
  exact this
theorem Uv_ {C6 C11 n k m:Nat}{w:Value}{l:List Nat}{tm:T Value}{td:List Item}{s s0:St}{Q:Value->St->Prop}(hb:s.lim<=s.next)(hlen:k+26+m<=l.length)(hby:Byt l)(hm0:m<=1024)(hm1:1<=m)(hn:25000<=n)(hcx:s.cx=cxN)(hs0:s0.next<=C6)(h611:C6+16<=C11)(h11:C11+16<=s.next)
  (hw:Bn s w (BG l k m)) (hwn: ∀x,BsF w x->s0.next<=x/\ ¬In C6 0 16 x) (ho6:An s C6 0 16) (ho11:Aa s C11 0 (u8l (A9 l k m))) (hT:skim 64 td=Ky) (h6:T.get tm 6=some (.pointer (some ⟨C6,0,none⟩))) (h9:T.get tm 9=some w) (h11t:T.get tm 11=some (.pointer (some ⟨C11,0,none⟩)))
  {nb:Nat} (hM:MkG s w (BG l k m) nb) (hnb:C6+16<=nb)
  (q: ∀s1 w1,Ext (λx=>s0.next<=x) (λx=>s0.next<=x) s s1->MkO s1 w1 (BM l k m) nb 16->Q (.tuple #[.agg (u8l (A9 l k m)).toArray,w1, .bool (decide (idB (BM l k m)=A9 l k m))]) (s1.cxN s0.cx)):
  W (runF envS n ⟨72,Fo_,Eb,tm,td, .run, .normal,none⟩) s λp s1=>Q p.1 (s1.cxN s0.cx):=by
 have hI:=Iu hlen
 have hC:=NL hlen
 have hX:=Ij hlen
 have hIl:(u8l (A9 l k m)).length=16:=by rw[Av];exact hI
 refine AbK_.u ?_ hT
 simp -implicitDefEqProofs only[HL_,RR,h6,h9,h11t,AJ,Cw,B5,B8,BU,DW]
 have ho11':Aa (dSt s.mem s.next) C11 0 (u8l (A9 l k m)):=λi v e=>(ho11 i v e).same rfl rfl
 refine aV BB ho11'.row hIl λmem1 rd1 hm1' hr1=> ?_
 subst hm1'
 simp -implicitDefEqProofs only[Ag]
 have hwo:Bn (oSt s.mem s.next) w (BG l k m):=hw.same rfl rfl
 have htk:((BG l k m).take (n:=(BG l k m).length)).drop 16=BM l k m:=by rw[List.take_length];rfl
 refine bA (MkG.cut (hM.same (s':=oSt s.mem s.next) rfl rfl) Al (i:=16) rfl (by omega) (by omega) λw1 hw1=>⟨rfl, ?_⟩)
 have hw1:MkO (oSt s.mem s.next) w1 (BM l k m) nb 16:=hw1
 simp -implicitDefEqProofs only[Ag]
 refine bA (W.cut hwo Al (i:=16) (j:=(BG l k m).length) rfl rfl (by omega) (Nat.le_refl _) λw2 hw2 hF2=>⟨rfl, ?_⟩)
 rw[htk]at hw2
 refine aU (Zh_ (Nat.le_refl _) hw2.bs (λx hx=>hw2.lt x hx) (IA (S1 hby k m) λx hx=>List.mem_of_mem_drop hx) (by omega) (by omega) λs2 x2=>⟨BsF w2,x2,λrd2 hr2=> ?_⟩)
 have hn2:s.next<=s2.next:=x2.nxt
 have ho11s:Aa s2 C11 0 (u8l (A9 l k m)):=λi v e=>((ho11 i v e).same (s':=oSt s.mem s.next) rfl rfl).ext0 x2
 refine aV BB (λi v e=>((ho11s i v e).same (s':=dSt s2.mem s2.next) rfl rfl).at') hIl λmem3 rd3 hm3 hr3=> ?_
 subst hm3
 rw[W_dq λs Q=>Sc (s:=s) VW (Lj _) hI Q]
 have ho6s:An (oSt s2.mem s2.next) C6 0 16:=λj hj=>by
  obtain⟨u,hu⟩:=ho6 j hj
  exact⟨u,((hu.same (s':=oSt s.mem s.next) rfl rfl).ext0 x2).same rfl rfl⟩
 refine W.dopG (W.store BB hIl (Bx _) ho6s λs3 n3 x3 o3=>⟨In C6 0 16,In C6 0 16,x3,λrd4 wr4 hr4 hw4=> ?_⟩)
 simp -implicitDefEqProofs only[Ag,FS,AK]
 have n3':s3.next=s2.next:=n3
 have lt6: ∀x,In C6 0 16 x->x<s.next:=λx h=>by have:=h.2;omega
 have lt11: ∀x,In C11 0 16 x->x<s.next:=λx h=>by have:=h.2;omega
 refine⟨D3 ?_, ?_⟩
 ·simp -implicitDefEqProofs only[List.reverse_cons,List.reverse_nil,List.nil_append,List.cons_append,allP,CF,List.take,DB]
  have f1: ∀x,x∈rd1-> ¬s.next<=x:=λx hx=>Nat.not_le_of_lt (lt11 x (hr1 x hx))
  have f2: ∀x,x∈rd2-> ¬s.next<=x:=λx hx=>Nat.not_le_of_lt (hr2 x hx).1
  have f3: ∀x,x∈rd3-> ¬s.next<=x:=λx hx=>Nat.not_le_of_lt (lt11 x (hr3 x hx))
  have f4: ∀x,x∈rd4-> ¬s.next<=x:=λx hx=>Nat.not_le_of_lt (lt6 x (hr4 x hx).2)
  have g4: ∀x,x∈wr4-> ¬s.next<=x:=λx hx=>Nat.not_le_of_lt (lt6 x (hw4 x hx).2)
  have d43: ∀x,x∈wr4-> ¬x∈rd3:=λx hx hy=>by
   have h1:=(hw4 x hx).2.2
   have h2:=(hr3 x hy).1
   omega
  have d41: ∀x,x∈wr4-> ¬x∈rd1:=λx hx hy=>by
   have h1:=(hw4 x hx).2.2
   have h2:=(hr1 x hy).1
   omega
  simp+contextual [f1,f2,f3,f4,g4,d43,d41]
  exact .inl rfl
 ·refine aJ (AkS_ _ _ _ _ _ _ _ _ _ _ _ _ _ _) ?_
  simp -implicitDefEqProofs only[SS]
  have hb3:s.next<=s3.next:=by omega
  have fin: ∀(s':St) (n':Nat) (tm':T Value) (td':List Item),s'.mem=s3.mem->s'.next=s3.next->2<=n'->Ext (λx=>s0.next<=x) (λx=>s0.next<=x) s s'->skim 64 td'=N2->T.get tm' 6=some (.pointer (some ⟨C6,0,none⟩))->T.get tm' 7=some w1->T.get tm' 8=some (.bool (decide (idB (BM l k m)=A9 l k m)))->
    W (runF envS n' ⟨72,Fo_,Eb,tm',td', .run, .normal,none⟩) s' λp s1=>Q p.1 (s1.cxN s0.cx):=λs' n' tm' td' e1 e2 hn' hx' hT' h6' h7' h8'=>by
   refine W.endG hT' (.inl TU_) hn' Nz FT_ (hx'.cx.trans hcx) (aO h6' ?_)
   have o3':Aa s' C6 0 (u8l (A9 l k m)):=λi v e=>(o3 i v e).same e1 e2
   refine aG BB o3'.row hIl λs5 m5 n5 x5=> ?_
   refine aR h7' (aR h8' (aZ ?_))
   have hx5:Ext (λx=>s0.next<=x) (λx=>s0.next<=x) s s5:=hx'.trans x5 hb (λx _ h=>by have:=h.1;omega) λ_ _ h=>h.elim
   refine q s5 w1 hx5 ?_
   have hw1':MkO s3 w1 (BM l k m) nb 16:=(((hw1.same (s':=oSt s.mem s.next) rfl rfl).ext x2 λ_ _ h=>h).same (s':=oSt s2.mem s2.next) rfl rfl).ext x3 λx hx h=>by
    have h1:=hx.1
    have h2:=h.2
    omega
   exact hw1'.same (m5.trans e1) (n5.trans e2)
  refine fin _ _ _ _ rfl rfl (by omega) (aP (by rw[n3'];exact hn2) (λx hx hg=>(x3.mem x (by show x<s2.next;omega) λh=>hg (by have:=h.1;omega)).trans (x2.mem x hx id)) ?_ ?_) rfl (by simp[T.get_set,h6]) (by simp[T.get_set]) (by simp[T.get_set])
  ·simp -implicitDefEqProofs only[List.mem_cons,List.not_mem_nil,or_false]
   rintro m (rfl|rfl|rfl|rfl|rfl|rfl|rfl|rfl|rfl|rfl) x hx _<;>first|(cases hx;done)|(have:=(hw4 x hx).2.1;omega)
  ·simp -implicitDefEqProofs only[List.mem_cons,List.not_mem_nil,or_false]
   rintro m (rfl|rfl|rfl|rfl|rfl|rfl|rfl|rfl|rfl|rfl) x hx _<;>first|(cases hx;done)|(have:=(hr1 x hx).1;omega)|(have:=(hr3 x hx).1;omega)|(have:=(hr4 x hx).2.1;omega)|(exact(hwn x (hF2 x (hr2 x hx).2)).1)
theorem Im {n:Nat}(h1:1<=n)(h2:n<=1024):Ce ((n:Nat):Int)=((n+26:Nat):Int):=by
 unfold Ce
 rw[if_neg (by omega)]
 omega
theorem MkO.bn {s:St}{v:Value}{l:List Nat}{b o:Nat}(h:MkO s v l b o)(hl:l.length<=1073741824):Bn s v l:=
 ⟨b,o,_,h.val,by rw[FX (Az hl)];exact Nat.le_refl _,Ep (Az hl) (by decide),h.own.row⟩
theorem Pw_ {n k m:Nat}{v:Value}{l:List Nat}{s:St}{Q:Value->St->Prop}(hbd:s.lim<=s.next)(hbs:Bs s v l)(hby:Byt l)(hz:l.length<=900000)(hm1:1<=m)(hm2:m<=1024)(hlen:k+26+m<=l.length)(hn:40000<=n)
  (q1:GOk (Cc l k m)-> ∀s1 w1 nb,Ext (BsF v) Non s s1->MkO s1 w1 (BM l k m) nb 16->s.next<=nb->Q (.tuple #[.agg (u8l (A9 l k m)).toArray,w1, .bool (decide (idB (BM l k m)=A9 l k m))]) s1)
  (q2: ¬GOk (Cc l k m)-> ∀s1,Ext (BsF v) Non s s1->Q (.tuple #[.agg (u8l (List.replicate 16 0)).toArray, .slice none 0 0, .bool false]) s1):
  W (Ab envS (runF envS n) 72 [v, .int .i64 (k:Nat), .int .i64 (m:Nat)]) s Q:=by
 refine Tq_ λtm h0 h1 h2=> ?_
 have hne:l≠[]:=λh=>by rw[h]at hlen;simp at hlen
 have hB0:Bn (s.cxN cxN) v l:=(hbs.bn' hne).same rfl rfl
 refine SU_.u ?_
 simp -implicitDefEqProofs only[AT_,RR,SS]
 refine W.alloc Ei λsa na xa oa=> ?_
 have na':sa.next=s.next+17:=na
 have hxa:Ext (BsF v) Non (s.cxN cxN) sa:=(Ext.refl _).step xa hbd (λ_ _ h=>h.elim) λ_ h=>h.elim
 refine AcG_.u ?_
 have e6:wrap64 (((k:Nat):Int)+6)=((k+6:Nat):Int):=by
  rw[Ax (by omega) (by omega)];omega
 have e26:wrap64 (((k:Nat):Int)+((m+26:Nat):Int))=((k+26+m:Nat):Int):=by
  rw[Ax (by omega) (by omega)];omega
 simp -implicitDefEqProofs only[Bj_,RR,SS,Nat.reduceEqDiff,reduceCtorEq, ↓reduceIte,Aw,h0,h1,h2,e6]
 refine JN _ (by omega) ?_
 rw[Im hm1 hm2]
 simp -implicitDefEqProofs only[Aw,e26]
 refine W.cut (hB0.ext0 hxa) Al (i:=k+6) (j:=k+26+m) rfl rfl (by omega) hlen λv1 hv1 hF1=> ?_
 have hch:(l.take (k+26+m)).drop (k+6)=Cc l k m:=rfl
 rw[hch]at hv1
 have hcl:=PZ hlen
 refine OA_ (hxa.bnd hbd) hv1 (Om hby k m) (by omega) (by omega) (λhg sb w xb hw hmk=> ?_) λhg sb xb=> ?_
 ·have hxb:Ext (BsF v) Non (s.cxN cxN) sb:=hxa.step xb hbd (λx _ h=>hF1 x h) λ_ h=>h.elim
  rw[AX (k:=0) rfl,AX (k:=1) rfl]
  refine MX_.u ?_
  simp -implicitDefEqProofs only[QJ,RR,SS, ↓reduceIte,CQ]
  refine aH IH_ ?_
  refine AaP_.u ?_
  have hX:(Cc l k m).take ((Cc l k m).length-4)=BG l k m:=by
   rw[hcl];rfl
  obtain⟨nb,hmk,hnb⟩:=hmk (by omega)
  rw[hX]at hw hmk
  have hXl:=Ij hlen
  simp -implicitDefEqProofs only[MN_,RR,SS,Nat.reduceEqDiff, ↓reduceIte]
  have h16:((BG l k m).take 16).drop 0=A9 l k m:=rfl
  refine W.cut hw.bn Al (i:=0) (j:=16) rfl rfl (Nat.zero_le _) (by omega) λv2 hv2 hF2=> ?_
  rw[h16]at hv2
  obtain⟨b,o,c,rfl,g1,g2,g3⟩:=hv2
  have hI:=Iu hlen
  have hIl:(u8l (A9 l k m)).length=16:=by rw[Av];exact hI
  rw[R0 Kt (show 16<=(A9 l k m).length by omega) (by omega)]
  refine aG BB g3 hIl λsc mc nc xc=> ?_
  have hinv: ∀x,In b o 16 x->sa.next<=x:=λx h=>hw.new x (hF2 x ⟨h.1,by rw[hI];exact h.2⟩)
  have hxc:Ext (BsF v) Non (s.cxN cxN) sc:=hxb.step xc hbd (λx hx h=>by
   have h2:x<s.lim:=hx
   have:=hinv x h
   omega) λ_ h=>h.elim
  refine W.alloc Ei λsd nd xd od=> ?_
  have nd':sd.next=sc.next+17:=nd
  have nbc:sb.next<=sc.next:=xc.nxt
  have nab:sa.next<=sb.next:=xb.nxt
  have hxd:Ext (BsF v) Non (s.cxN cxN) sd:=hxc.step xd hbd (λ_ _ h=>h.elim) λ_ h=>h.elim
  refine W.store BB hIl (Bx _) (Aa.owned od) λse ne xe oe=> ?_
  have ne':se.next=sd.next:=ne
  have hG: ∀x,In sc.next 0 16 x->sc.next<=x:=λx h=>by have:=h.1;omega
  have hxe:Ext (BsF v) Non (s.cxN cxN) se:=hxd.step xe hbd (λx hx h=>by
   have h2:x<s.lim:=hx
   have:=hG x h
   have h3:s.next<=sc.next:=hxc.nxt
   omega) λx h=>Nat.le_trans hxc.nxt (hG x h)
  have hwlt: ∀x,BsF w x->x<sb.next:=λx hx=>hw.bn.lt x hx
  have hwe:Bn se w (BG l k m):=(((hw.bn.ext0 xc).ext0 xd).ext xe λx hx h=>by
   have h1:=hwlt x hx
   have h2:=hG x h
   omega)
  have ho6:An se s.next 0 16:=((((Aa.owned oa).ext1 xb λ_ _ h=>h).ext1 xc λ_ _ h=>h).ext1 xd λ_ _ h=>h).ext1 xe λx h h'=>by
   have h1:x<s.next+0+16:=h.2
   have h2:=hG x h'
   omega
  refine Uv_ (C6:=s.next) (C11:=sc.next) (k:=k) (m:=m) (w:=w) (l:=l) (s0:=s) (hxe.bnd hbd) hlen hby hm2 hm1 (by omega) hxe.cx (Nat.le_refl _) (by omega) (by omega) hwe (λx hx=> ?_) ho6 oe rfl (by simp[T.get_set]) (by simp[T.get_set]) (by simp[T.get_set]) (((hmk.ext xc λ_ _ h=>h).ext xd λ_ _ h=>h).ext xe λx h h'=>by
   have h2:=hG x h'
   have h3:=h.2
   have h4:=hmk.lt
   omega) (by omega) λsf w1 xf hw1=> ?_
  ·have h1:=hw.new x hx
   refine⟨by omega,λh=> ?_⟩
   have h2:x<s.next+0+16:=h.2
   omega
  ·have hxf:Ext (BsF v) Non (s.cxN cxN) sf:=hxe.step xf hbd (λx hx h=>by
    have h2:x<s.lim:=hx
    have h3:s.next<=x:=h
    omega) λ_ h=>h
   exact q1 hg _ w1 nb hxf.cx' (hw1.same rfl rfl) (by omega)
 ·have hxb:Ext (BsF v) Non (s.cxN cxN) sb:=hxa.step xb hbd (λx _ h=>hF1 x h) λ_ h=>h.elim
  rw[AX (k:=0) rfl,AX (k:=1) rfl]
  refine MX_.u ?_
  simp -implicitDefEqProofs only[QJ,RR,SS, ↓reduceIte,CQ]
  refine aI IH_ ?_
  refine AkX_.u ?_
  simp -implicitDefEqProofs only[LQ_,RR,SS,Nat.reduceEqDiff, ↓reduceIte,CA Als_]
  have ho6:An sb s.next 0 16:=(Aa.owned oa).ext1 xb λ_ _ h=>h
  refine W.store BB rfl (Bx _) ho6 λsc nc xc oc=> ?_
  have hG: ∀x,In s.next 0 16 x->s.next<=x:=λx h=>by have:=h.1;omega
  have hxc:Ext (BsF v) Non (s.cxN cxN) sc:=hxb.step xc hbd (λx hx h=>by
   have h2:x<s.lim:=hx
   have:=hG x h
   omega) hG
  refine W.endG rfl (.inl WZ_) (by omega) Nz FT_ hxc.cx (aO (a:=⟨s.next,0,none⟩) (by simp[T.get_set];rfl) ?_)
  refine aG BB oc.row rfl λsd md nd xd=> ?_
  have hxd:Ext (BsF v) Non (s.cxN cxN) sd:=hxc.step xd hbd (λx hx h=>by
   have h2:x<s.lim:=hx
   have:=hG x h
   omega) λ_ h=>h.elim
  refine aR (v:= .slice none 0 0) (by simp[T.get_set]) (aR (v:= .bool false) (by simp[T.get_set]) (aZ ?_))
  exact q2 hg _ hxd.cx'
theorem Afi_ {n k m:Nat}{v:Value}{l:List Nat}{s:St}{Q:Value->St->Prop}(hbd:s.lim<=s.next)(hbs:Bs s v l)(hby:Byt l)(hz:l.length<=900000)(hm1:1<=m)(hm2:m<=1024)(hlen:k+26+m<=l.length)(hn:40000<=n)
  (q1:GOk (Cc l k m)-> ∀s1 w1,Ext (BsF v) Non s s1->Bn s1 w1 (BM l k m)->(∀x,BsF w1 x->s.next<=x)->Q (.tuple #[.agg (u8l (A9 l k m)).toArray,w1, .bool (decide (idB (BM l k m)=A9 l k m))]) s1)
  (q2: ¬GOk (Cc l k m)-> ∀s1,Ext (BsF v) Non s s1->Q (.tuple #[.agg (u8l (List.replicate 16 0)).toArray, .slice none 0 0, .bool false]) s1):
  W (Ab envS (runF envS n) 72 [v, .int .i64 (k:Nat), .int .i64 (m:Nat)]) s Q:=by
 refine Pw_ hbd hbs hby hz hm1 hm2 hlen hn (λhg s1 w1 nb x h hnb=> ?_) q2
 refine q1 hg s1 w1 x (h.bn (by rw[NL hlen];omega)) λy hy=> ?_
 rw[h.val]at hy
 have:=hy.1
 omega
theorem AeS_:CG envS 97=some (List.replicate 16 (.int .u8 0)++[.int .i64 0, .int .i64 0, .bool false, .int .i64 0]):=by kernel_rfl
theorem Ain_:tyS envS 97=some (20,true):=by kernel_rfl
theorem AbV_:fldN envS 97 0=some (0,18,true):=by kernel_rfl
theorem Wo_:fldN envS 97 1=some (18,1,false):=by kernel_rfl
theorem Mm_:fldN envS 97 2=some (19,1,false):=by kernel_rfl
theorem Kd:tyS envS 35=some (18,true):=by kernel_rfl
theorem AT:tyS envS 3=some (1,false):=by kernel_rfl
theorem WA_:tyS envS 4=some (1,false):=by kernel_rfl
theorem Cn:tyS envS 36=some (1,false):=by kernel_rfl
theorem Ho:elT envS 36=some (18,32,List.replicate 16 (.int .u8 0)++[.int .i64 0, .int .i64 0]):=by kernel_rfl
theorem Gk:appT envS 36 36=some (18,32,false,List.replicate 16 (.int .u8 0)++[.int .i64 0, .int .i64 0]):=by kernel_rfl
theorem Xq_:CG envS 36=some [.slice none 0 0]:=by kernel_rfl
theorem MD:CG envS 3=some [.int .i64 0]:=by kernel_rfl
abbrev Hd:Type:=List Nat×Nat×Nat
def A2 (h:Hd):List Value:=u8l h.1++[.int .i64 (h.2.1:Nat), .int .i64 (h.2.2:Nat)]
theorem E8 {h:Hd}(h16:h.1.length=16):(A2 h).length=18:=by
 unfold A2
 rw[List.length_append,Av,h16]
 rfl
theorem JV (h:Hd):(A2 h).all oneCell=true:=by
 unfold A2
 rw[List.all_append,Bx]
 rfl
def AV:List Hd->List Value
 |[]=>[]
 |h::l=>A2 h++AV l
theorem Re: ∀{l:List Hd},(∀h∈l,h.1.length=16)->(AV l).length=l.length*18
 |[],_=>rfl
 |h::l,hl=>by
  unfold AV
  rw[List.length_append,E8 (hl h (by simp)),Re λx hx=>hl x (by simp[hx]),List.length_cons]
  omega
theorem MM (h:Hd): ∀l:List Hd,AV (l++[h])=AV l++A2 h
 |[]=>by show A2 h++[]=_;rw[List.append_nil];rfl
 |x::l=>by
  show A2 x++AV (l++[h])=(A2 x++AV l)++A2 h
  rw[MM h l,List.append_assoc]
def recC (h:Hd)(good:Bool)(rest:Int):List Value:=A2 h++[.bool good, .int .i64 rest]
theorem MJ_ {h:Hd}(h16:h.1.length=16)(g:Bool)(r:Int):(recC h g r).length=20:=by
 unfold recC
 rw[List.length_append,E8 h16]
 rfl
theorem QV_ (h:Hd)(g:Bool)(r:Int):(recC h g r).all oneCell=true:=by
 unfold recC
 rw[List.all_append,JV]
 rfl
theorem Qh {h:Hd}(h16:h.1.length=16)(g:Bool)(r:Int):(recC h g r)[18]?=some (.bool g)/\(recC h g r)[19]?=some (.int .i64 r):=by
 unfold recC
 have:=E8 h16
 constructor
 ·rw[List.getElem?_append_right (by omega),this];rfl
 ·rw[List.getElem?_append_right (by omega),this];rfl
def CJ (s:St)(D:Nat)(v:Value)(hs:List Hd):Prop:=(v= .slice none 0 0/\hs=[])\/ ∃b,D+2<=b/\Marked s 18 hs.length (AV hs) v b/\hs≠[]
abbrev CU (tm:T Value)(st:LoopState)(D:Nat):AObj:= .loop st none 24 Ez Br tm [10,11] J2 LC D
structure ScI (A D:Nat)(tm:T Value)(st:LoopState)(s:St)(hs:List Hd)(bad size rest:Nat):Prop where
 lo:Obj s (D+1) (CU tm st D)
 de:Obj s D (.deferred (some []))
 c2: ∃v,Own s A 0 v/\CJ s D v hs
 c3:Own s (A+2) 0 (.int .i64 (size:Nat))
 c4:Own s (A+4) 0 (.int .i64 (bad:Nat))
 c5:Own s (A+6) 0 (.int .i64 (rest:Nat))
 all16: ∀h∈hs,h.1.length=16
 sep:A+8<=D
abbrev ScZ (A D:Nat):Nat->Prop:=λx=>A<=x/\(x<A+8\/D+1<=x)
theorem CJ.ext {F G:Nat->Prop}{s s':St}{D:Nat}{v:Value}{hs:List Hd}(h:CJ s D v hs)(e:Ext F G s s')(hG: ∀x,D+2<=x->x<s.next-> ¬G x):CJ s' D v hs:=by
 rcases h with h|⟨b,h1,h2,h3⟩
 ·exact .inl h
 ·refine .inr ⟨b,h1,h2.ext e λx hx=>hG x (by have:=hx.1;omega) ?_,h3⟩
  have h4:=h2.lt
  have h5:x<b+0+(hs.length*18+1):=hx.2
  omega
theorem ScI.ext0 {F:Nat->Prop}{A D:Nat}{tm:T Value}{st:LoopState}{s s':St}{hs:List Hd}{bad size rest:Nat}(h:ScI A D tm st s hs bad size rest)(e:Ext F Non s s'):ScI A D tm st s' hs bad size rest:=
 ⟨h.lo.ext e id,h.de.ext e id,let ⟨v,h1,h2⟩:=h.c2;⟨v,h1.ext0 e,h2.ext e λ_ _ _=>id⟩,h.c3.ext0 e,h.c4.ext0 e,h.c5.ext0 e,h.all16,h.sep⟩
theorem CJ.same {s s':St}{D:Nat}{v:Value}{hs:List Hd}(h:CJ s D v hs)(hm:s'.mem=s.mem)(hn:s'.next=s.next):CJ s' D v hs:=by
 rcases h with h|⟨b,h1,h2,h3⟩
 ·exact .inl h
 ·exact .inr ⟨b,h1,h2.same hm hn,h3⟩
theorem ScI.same {A D:Nat}{tm:T Value}{st:LoopState}{s s':St}{hs:List Hd}{bad size rest:Nat}(h:ScI A D tm st s hs bad size rest)(hm:s'.mem=s.mem)(hn:s'.next=s.next):ScI A D tm st s' hs bad size rest:=
 ⟨h.lo.same hm hn,h.de.same hm hn,let ⟨v,h1,h2⟩:=h.c2;⟨v,h1.same hm hn,h2.same hm hn⟩,h.c3.same hm hn,h.c4.same hm hn,h.c5.same hm hn,h.all16,h.sep⟩
theorem ScI.turn {A D:Nat}{tm:T Value}{st st':LoopState}{s:St}{hs:List Hd}{bad size rest:Nat}(h:ScI A D tm st s hs bad size rest):ScI A D tm st' ((s.rdN (D+1)).wrN (D+1) (.O (CU tm st' D))) hs bad size rest:=by
 have e:Ext (λx=>x=D+1) (λx=>x=D+1) s ((s.rdN (D+1)).wrN (D+1) (.O (CU tm st' D))):=by
  obtain⟨d1,p1,p2⟩:=(Ext.rdN (F:=λx=>x=D+1) (G:=λx=>x=D+1) s (D+1) λ_=>rfl).rd
  obtain⟨d2,p3,p4⟩:=(Ext.wrN (F:=λx=>x=D+1) (G:=λx=>x=D+1) (s.rdN (D+1)) (D+1) (.O (CU tm st' D)) rfl).wr
  refine⟨Nat.le_refl _,rfl,rfl,λx _ hx=> ?_,⟨d1,p1,p2⟩,⟨d2,p3,p4⟩⟩
  show T.get (T.set s.mem (D+1) _) x=_
  rw[T.get_set,if_neg]
  exact hx
 have hD:=h.de.1
 have sep:=h.sep
 refine⟨⟨h.lo.1, ?_⟩,h.de.ext e (by omega), ?_,h.c3.ext e (by omega),h.c4.ext e (by omega),h.c5.ext e (by omega),h.all16,h.sep⟩
 ·show T.get (T.set s.mem (D+1) _) (D+1)=_
  rw[T.get_set,if_pos rfl]
 ·obtain⟨v,h1,h2⟩:=h.c2
  exact⟨v,h1.ext e (by omega),h2.ext e λx hx _ hq=>by omega⟩
theorem OC {A D:Nat}{s:St}(c:Cell)(h:A+8<=D):Ext (ScZ A D) (ScZ A D) s ((s.rdN (D+1)).wrN (D+1) c):=by
 obtain⟨d1,p1,p2⟩:=(Ext.rdN (F:=ScZ A D) (G:=ScZ A D) s (D+1) λ_=>⟨by omega, .inr (by omega)⟩).rd
 obtain⟨d2,p3,p4⟩:=(Ext.wrN (F:=ScZ A D) (G:=ScZ A D) (s.rdN (D+1)) (D+1) c ⟨by omega, .inr (by omega)⟩).wr
 refine⟨Nat.le_refl _,rfl,rfl,λx _ hx=> ?_,⟨d1,p1,p2⟩,⟨d2,p3,p4⟩⟩
 show T.get (T.set s.mem (D+1) _) x=_
 rw[T.get_set,if_neg]
 intro h2
 exact hx ⟨by omega, .inr (by omega)⟩
theorem Age_:Nat.testBit Br 10=true:=by kernel_rfl
theorem AfK_:Nat.testBit Br 11=true:=by kernel_rfl
theorem AgG_ (a b:Value)(tm:T Value):Hb Br [10,11] [a,b] tm=T.set (T.set tm 10 a) 11 b:=by
 show putG Br 11 b (putG Br 10 a tm)=_
 unfold putG
 rw[Age_,AfK_]
theorem Rz_:Hx=[]:=by kernel_rfl
theorem AeN_:skim 64 [.code J2, .beginRound, .code LC]=Ms:=by rw[<-Ajk_];exact rfl
theorem NO {A D n:Nat}{tm tm':T Value}{td:List Item}{s:St}{hs:List Hd}{bad size rest:Nat}{Q:Value×FrameMode->St->Prop}(h:ScI A D tm .busy s hs bad size rest)(hT:skim 64 td=Hx)(hn:1<=n)
  (q: ∀s1,ScI A D tm .ready s1 hs bad size rest->Ext (ScZ A D) (ScZ A D) s s1->s1.next=s.next->Q (.bool true, .run) s1):W (runF envS n ⟨24,Ez,Br,tm',td, .run, .normal,some (D+1)⟩) s Q:=by
 rw[Rz_]at hT
 exact W.endR hT h.lo (by omega) (q _ h.turn (OC _ h.sep) rfl)
structure ScF (A R:Nat)(at':Nat)(tm:T Value):Prop where
 t2:T.get tm 2=some (.pointer (some ⟨A,0,none⟩))
 t3:T.get tm 3=some (.pointer (some ⟨A+2,0,none⟩))
 t4:T.get tm 4=some (.pointer (some ⟨A+4,0,none⟩))
 t5:T.get tm 5=some (.pointer (some ⟨A+6,0,none⟩))
 t6:T.get tm 6=some (.int .i64 (at':Nat))
 t7:T.get tm 7=some (.pointer (some ⟨R,0,none⟩))
theorem In1 {b x:Nat}:In b 0 1 x↔x=b:=⟨λh=>by have:=h.1;have:=h.2;omega,λh=>⟨by omega,by omega⟩⟩
theorem YZ_ {A D R n at' r:Nat}{h:Hd}{g:Bool}{tm tm':T Value}{td:List Item}{s:St}{hs:List Hd}{bad size rest:Nat}{Q:Value×FrameMode->St->Prop}(hb:s.lim<=s.next)(hI:ScI A D tm .busy s hs bad size rest)(hF:ScF A R at' tm')(h16:h.1.length=16)(hR:Aa s R 0 (recC h g (r:Nat)))(hRD:D+2<=R)(hT:skim 64 td=JS)(hn:10<=n)
  (q: ∀s1,ScI A D tm .ready s1 hs bad at' r->Ext (ScZ A D) (ScZ A D) s s1->Q (.bool true, .run) s1):W (runF envS n ⟨24,Ez,Br,tm',td, .run, .normal,some (D+1)⟩) s Q:=by
 have sep:=hI.sep
 refine AlN_.u ?_ hT
 simp -implicitDefEqProofs only[WT,RR,hF.t3,hF.t6,hF.t7,AJ,Ag]
 rw[W_dq λs Q=>Au (s:=s) Mm_ (by decide) Q]
 have hr19:Own (dSt s.mem s.next) R (0+19) (.int .i64 (r:Nat)):=(hR 19 _ (Qh h16 g _).2).same rfl rfl
 refine aC AT hr19.at' λrd1 hr1=> ?_
 have h3:Own (oSt s.mem s.next) (A+2) 0 (.int .i64 (size:Nat)):=hI.c3.same rfl rfl
 refine W.dopG (aL AT rfl h3 λs2 n2 x2 o2=>⟨In (A+2) 0 1,In (A+2) 0 1,x2,λrd2 wr2 hr2 hw2=> ?_⟩)
 rw[AK]
 have n2':s2.next=s.next:=n2
 have lt:=hI.lo.1
 have hRn:R+19<s.next:=by have:=hr19.1;have h0:(dSt s.mem s.next).next=s.next:=rfl;omega
 refine⟨D3 ?_, ?_⟩
 ·simp -implicitDefEqProofs only[List.reverse_cons,List.reverse_nil,List.nil_append,List.cons_append,allP,CF,List.take,DB]
  have f1: ∀x,x∈rd1-> ¬s.next<=x:=λx hx=>by have:=hr1 x hx;omega
  have f2: ∀x,x∈rd2-> ¬s.next<=x:=λx hx=>Nat.not_le_of_lt (hr2 x hx).1
  have g2: ∀x,x∈wr2-> ¬s.next<=x:=λx hx=>Nat.not_le_of_lt (hw2 x hx).1
  have d21: ∀x,x∈wr2-> ¬x∈rd1:=λx hx hy=>by
   have h1:=In1.1 (hw2 x hx).2
   have h2:=hr1 x hy
   omega
  simp+contextual [f1,f2,g2,d21]
 ·refine aJ (ZK_ _ _ _ _ _ _ _ _) ?_
  simp -implicitDefEqProofs only[hF.t5,AJ]
  have hx2: ∀s',s'.mem=s2.mem->s'.next=s2.next->Ext (ScZ A D) (ScZ A D) s s'->ScI A D tm .busy s' hs bad at' rest:=λs' e1 e2 hx=>by
   have own: ∀(b o:Nat) (v:Value),b+o≠A+2->Own s b o v->Own s' b o v:=λb o v hne hv=>((hv.same (s':=oSt s.mem s.next) rfl rfl).ext x2 λh=>hne (In1.1 h)).same e1 e2
   refine⟨?_, ?_, ?_,o2.same e1 e2,own _ _ _ (by omega) hI.c4,own _ _ _ (by omega) hI.c5,hI.all16,sep⟩
   ·exact((hI.lo.same (s':=oSt s.mem s.next) rfl rfl).ext x2 λh=>by have:=In1.1 h;omega).same e1 e2
   ·exact((hI.de.same (s':=oSt s.mem s.next) rfl rfl).ext x2 λh=>by have:=In1.1 h;omega).same e1 e2
   ·obtain⟨v,c1,c2⟩:=hI.c2
    refine⟨v,own _ _ _ (by omega) c1, ?_⟩
    exact((c2.same (s':=oSt s.mem s.next) rfl rfl).ext x2 λx hx _ h=>by have:=In1.1 h;omega).same e1 e2
  generalize hs':(⟨(dSt s2.mem s2.next).mem,(dSt s2.mem s2.next).next,s.lim,_,_,s.cx⟩:St)=s'
  have hx':Ext (ScZ A D) (ScZ A D) s s':=by
   rw[<-hs']
   refine aP (by rw[n2'];exact Nat.le_refl _) (λx hx hg=>x2.mem x hx λh=>hg ⟨by have:=In1.1 h;omega, .inl (by have:=In1.1 h;omega)⟩) ?_ ?_
   ·simp -implicitDefEqProofs only[List.mem_cons,List.not_mem_nil,or_false]
    rintro m (rfl|rfl|rfl|rfl) x hx _<;>first|(cases hx;done)|(have:=In1.1 (hw2 x hx).2;exact⟨by omega, .inl (by omega)⟩)
   ·simp -implicitDefEqProofs only[List.mem_cons,List.not_mem_nil,or_false]
    rintro m (rfl|rfl|rfl|rfl) x hx _<;>first|(cases hx;done)|(have:=hr1 x hx;exact⟨by omega, .inr (by omega)⟩)|(have:=In1.1 (hr2 x hx).2;exact⟨by omega, .inl (by omega)⟩)
  have hI':=hx2 s' (by rw[<-hs'];rfl) (by rw[<-hs'];rfl) hx'
  refine W.bind (aL AT rfl hI'.c5 λs3 n3 x3 o3=>W.pure ?_)
  have own: ∀(b o:Nat) (v:Value),b+o≠A+6->Own s' b o v->Own s3 b o v:=λb o v hne hv=>hv.ext x3 λh=>hne (In1.1 h)
  have hI3:ScI A D tm .busy s3 hs bad at' r:=by
   refine⟨hI'.lo.ext x3 λh=>by have:=In1.1 h;omega,hI'.de.ext x3 λh=>by have:=In1.1 h;omega, ?_,own _ _ _ (by omega) hI'.c3,own _ _ _ (by omega) hI'.c4,o3,hI.all16,sep⟩
   obtain⟨v,c1,c2⟩:=hI'.c2
   exact⟨v,own _ _ _ (by omega) c1,c2.ext x3 λx hx _ h=>by have:=In1.1 h;omega⟩
  have hx3:Ext (ScZ A D) (ScZ A D) s s3:=hx'.trans x3 hb (λx _ h=>⟨by have:=In1.1 h;omega, .inl (by have:=In1.1 h;omega)⟩) λx _ h=>⟨by have:=In1.1 h;omega, .inl (by have:=In1.1 h;omega)⟩
  refine NO hI3 rfl (by omega) λs4 hI4 x4 _=> ?_
  exact q s4 hI4 (hx3.trans x4 hb (λ_ _ h=>h) λ_ _ h=>h)
theorem XJ_ {A D R n at':Nat}{tm tm':T Value}{td:List Item}{s:St}{hs:List Hd}{bad size rest:Nat}{Q:Value×FrameMode->St->Prop}(hb:s.lim<=s.next)(hI:ScI A D tm .busy s hs bad size rest)(hF:ScF A R at' tm')(hbad:bad<=1000000)(hT:skim 64 td=Py)(hn:10<=n)
  (q: ∀s1,ScI A D tm .ready s1 hs (bad+1) size rest->Ext (ScZ A D) (ScZ A D) s s1->Q (.bool true, .run) s1):W (runF envS n ⟨24,Ez,Br,tm',td, .run, .normal,some (D+1)⟩) s Q:=by
 have sep:=hI.sep
 refine AcU_.u ?_ hT
 have e1:wrap64 (((bad:Nat):Int)+1)=((bad+1:Nat):Int):=by
  rw[Ax (by omega) (by omega)];omega
 simp -implicitDefEqProofs only[AH_,RR,SS,hF.t4]
 refine aB AT hI.c4.at' ?_
 simp -implicitDefEqProofs only[Aw,e1]
 have hx1:Ext (ScZ A D) (ScZ A D) s (s.rdN (A+4+0)):=Ext.rdN s _ λ_=>⟨by omega, .inl (by omega)⟩
 have hI1:ScI A D tm .busy (s.rdN (A+4+0)) hs bad size rest:=hI.same rfl rfl
 generalize s.rdN (A+4+0)=s' at hx1 hI1
 refine aL AT rfl hI1.c4 λs3 n3 x3 o3=> ?_
 have own: ∀(b o:Nat) (v:Value),b+o≠A+4->Own s' b o v->Own s3 b o v:=λb o v hne hv=>hv.ext x3 λh=>hne (In1.1 h)
 have hI3:ScI A D tm .busy s3 hs (bad+1) size rest:=by
  refine⟨hI1.lo.ext x3 λh=>by have:=In1.1 h;omega,hI1.de.ext x3 λh=>by have:=In1.1 h;omega, ?_,own _ _ _ (by omega) hI1.c3,o3,own _ _ _ (by omega) hI1.c5,hI.all16,sep⟩
  obtain⟨v,c1,c2⟩:=hI1.c2
  exact⟨v,own _ _ _ (by omega) c1,c2.ext x3 λx hx _ h=>by have:=In1.1 h;omega⟩
 have hx3:Ext (ScZ A D) (ScZ A D) s s3:=hx1.trans x3 hb (λx _ h=>⟨by have:=In1.1 h;omega, .inl (by have:=In1.1 h;omega)⟩) λx _ h=>⟨by have:=In1.1 h;omega, .inl (by have:=In1.1 h;omega)⟩
 refine NO hI3 Afw_ (by omega) λs4 hI4 x4 _=> ?_
 exact q s4 hI4 (hx3.trans x4 hb (λ_ _ h=>h) λ_ _ h=>h)
