import Derived.Test.YtndednnianphoaaGreatDoorJo16
noncomputable section
namespace Go.Proofs.YtndednnianphoaaGreatDoor.Am
open Go.RowKit
def Gm:Nat:=Ar Tryz.f23
def QD:Code:=Tryz.f23.body.getD .skip
theorem S7:envS.fn.get 23=some Tryz.f23:=by kernel_rfl
theorem Aam_:G1 envS 23 16 Gm QD:=λh=>
 aI S7 (h _ (by kernel_rfl))
theorem OO_:Tryz.f23.results.toList=[.tmp 2, .tmp 3]:=by kernel_rfl
def Cz_:List Item:=skim 64 [.code QD]
def XK:=nx Cz_
def HG_:=nx XK
def Uw:=nx HG_
def Xc:=nx Uw
def Gm_:=bf Xc
def FM_:=nx Gm_
def QP:Rg:=λE call round tm=>
 mv (some (.pointer none)) λv2=>
 setF 2 v2 tm λtm1=>
 mv (some (.int .i64 0)) λv3=>
 setF 3 v3 tm1 λtm2=>
 M.pure tm2
theorem LP_:RegEq 23 16 Gm Cz_ QP:={}
def Ap_:Rg:=λE call round tm=>
 M.bind (De) λv6=>
 M.bind (oS (seqP [(0,(some (.bool true))),(1,(some v6))]) λps=>BP E 78 ps) λv7=>
 M.bind (oS (some v7) λa=>kBox a) λv8=>
 mv (some v8) λv4=>
 setF 4 v4 tm λtm1=>
 M.pure tm1
theorem SL_:RegEq 23 16 Gm XK Ap_:={}
def YG:Rg:=λE call round tm=>
 mv (T.get tm 4) λv9=>
 mv (T.get tm 0) λv10=>
 cN call round 55 [(some v9),(some v10)] λv11=>
 mv (some v11) λv5=>
 setF 5 v5 tm λtm1=>
 M.pure tm1
theorem Pn_:RegEq 23 16 Gm HG_ YG:={}
def U5:Rg:=λE call round tm=>
 mv (T.get tm 5) λv12=>
 bI E .neq 29 (.tmp 12) (.const (.int .i64 0)) (some v12) (some (.int .i64 0)) λv13=>
 setF 13 v13 tm λtm1=>
 M.pure tm1
theorem ZI_:RegEq 23 16 Gm Uw U5:={}
theorem OF_:Ak Xc=some 13:=by kernel_rfl
def Ft_:Rg:=λE call round tm=>
 mv (T.get tm 4) λv15=>
 mv (some v15) λv2=>
 setF 2 v2 tm λtm1=>
 mv (some (.int .i64 0)) λv3=>
 setF 3 v3 tm1 λtm2=>
 M.pure tm2
theorem Qv_:RegEq 23 16 Gm Gm_ Ft_:={}
theorem Aah_: ∃k,FM_= .code .ret::k:=⟨FM_.tail,by kernel_rfl⟩
def GD:Nat:=Ar Tryz.f55
def Xk:Code:=Tryz.f55.body.getD .skip
theorem Qn:envS.fn.get 55=some Tryz.f55:=by kernel_rfl
theorem AbZ_:G2 envS 55 19 GD Xk:=λh=>
 aI Qn (h _ (by kernel_rfl) (by kernel_rfl))
theorem MR_:Tryz.f55.results.toList=[.tmp 4]:=by kernel_rfl
def UV:List Item:=skim 64 [.code Xk]
def VH:=nx UV
def QJ:=nx VH
def GP_:=bf QJ
def EX_:=nx GP_
def So:=bf EX_
def QC:=nx So
def T3:=nx QC
def U6:Rg:=λE call round tm=>
 mv (some (.int .i64 0)) λv4=>
 setF 4 v4 tm λtm1=>
 M.pure tm1
theorem RA_:RegEq 55 19 GD UV U6:={}
def Sq:Rg:=λE call round tm=>
 mv (T.get tm 0) λv6=>
 cN call round 46 [(some v6)] λv7=>
 mv (some v7) λv5=>
 setF 5 v5 tm λtm1=>
 M.pure tm1
theorem Abn_:RegEq 55 19 GD VH Sq:={}
theorem Vb_:Ak QJ=some 5:=by kernel_rfl
def ZJ:Rg:=λE call round tm=>
 mv (T.get tm 1) λv9=>
 bI E .lss 3 (.tmp 9) (.const (.int .i64 0)) (some v9) (some (.int .i64 0)) λv10=>
 mv (some v10) λv11=>
 sK v11 false (oS (T.get tm 1) λa=>M.pure a) λv12=>
 sK v11 false (oS (some v12) λa=>oS (some (.int .i64 16777216)) λb=>Cl.get (aBin E .gtr 3 (.tmp 12) (.const (.int .i64 16777216))) a b) λv13=>
 M.bind (M.on (some v11) λa=>M.on (some (.bool true)) λb=>M.on (some v13) λc=>Aw a b c) λv14=>
 mv (some v14) λv8=>
 setF 8 v8 tm λtm1=>
 M.pure tm1
theorem XG_:RegEq 55 19 GD GP_ ZJ:={}
theorem YB_:Ak EX_=some 8:=by kernel_rfl
def Yg:Rg:=λE call round tm=>
 mv (T.get tm 0) λv15=>
 mv (T.get tm 1) λv16=>
 M.bind (oS (some v15) λa=>kNil a) λv17=>
 fD E 78 2 (some v17) λv18=>
 M.bind (oS (some v18) λa=>oS (some v16) λb=>AB E 3 a b) λ_=>
 M.pure tm
theorem WT_:RegEq 55 19 GD So Yg:={}
def Qk:Rg:=λE call round tm=>
 mv (some (.int .i64 0)) λv4=>
 setF 4 v4 tm λtm1=>
 M.pure tm1
theorem Abp_:RegEq 55 19 GD QC Qk:={}
theorem Wp_: ∃k,T3= .code .ret::k:=⟨T3.tail,by kernel_rfl⟩
def MV:Nat:=Ar Tryz.f46
def Up:Code:=Tryz.f46.body.getD .skip
theorem BE_:envS.fn.get 46=some Tryz.f46:=by kernel_rfl
theorem Yb_:G1 envS 46 12 MV Up:=λh=>
 aI BE_ (h _ (by kernel_rfl))
theorem Xn_:Tryz.f46.results.toList=[.tmp 2]:=by kernel_rfl
def DN_:List Item:=skim 64 [.code Up]
def Eh_:=nx DN_
def XB:=nx Eh_
def DD_:Rg:=λE call round tm=>
 mv (some (.bool false)) λv2=>
 setF 2 v2 tm λtm1=>
 M.pure tm1
theorem TC_:RegEq 46 12 MV DN_ DD_:={}
def Cc_:Rg:=λE call round tm=>
 mv (T.get tm 0) λv3=>
 bI E .eql 25 (.tmp 3) (.const (.pointer none)) (some v3) (some (.pointer none)) λv4=>
 mv (some v4) λv5=>
 sK v5 false (oS (T.get tm 0) λa=>M.pure a) λv6=>
 sK v5 false (oS (some v6) λa=>kNil a) λv7=>
 sK v5 false (oS (some v7) λa=>kFld E 78 a 0) λv8=>
 sK v5 false (oS (some v8) λa=>AQ E 4 a) λv9=>
 sK v5 false (oS (some v9) λa=>kUn E.P .not a) λv10=>
 M.bind (M.on (some v5) λa=>M.on (some (.bool true)) λb=>M.on (some v10) λc=>Aw a b c) λv11=>
 mv (some v11) λv2=>
 setF 2 v2 tm λtm1=>
 M.pure tm1
theorem OB_:RegEq 46 12 MV Eh_ Cc_:={}
theorem Aby_: ∃k,XB= .code .ret::k:=⟨XB.tail,by kernel_rfl⟩
def Gz:Nat:=Ar Tryz.f32
def Gd_:Code:=Tryz.f32.body.getD .skip
theorem MP:envS.fn.get 32=some Tryz.f32:=by kernel_rfl
theorem MJ_:G1 envS 32 11 Gz Gd_:=λh=>
 aI MP (h _ (by kernel_rfl))
theorem Rz:Tryz.f32.results.toList=[.tmp 2]:=by kernel_rfl
def Wo:List Item:=skim 64 [.code Gd_]
def Hk_:=nx Wo
def Nu:=nx Hk_
def Px_:=bt Nu
def RF:=bf Nu
def P3:=nx Px_
def On:=nx RF
def Gv_:=bt On
def Cl_:=bf On
theorem Kg_:skim 64 Gv_.tail=P3:=by kernel_rfl
def Sj:=nx Cl_
def Wq:Rg:=λE call round tm=>
 mv (some (.int .i64 0)) λv2=>
 setF 2 v2 tm λtm1=>
 M.pure tm1
theorem XL_:RegEq 32 11 Gz Wo Wq:={}
def RY:Rg:=λE call round tm=>
 mv (T.get tm 0) λv4=>
 cN call round 46 [(some v4)] λv5=>
 mv (some v5) λv3=>
 setF 3 v3 tm λtm1=>
 M.pure tm1
theorem YZ_:RegEq 32 11 Gz Hk_ RY:={}
theorem Tu_:Ak Nu=some 3:=by kernel_rfl
def SI:Rg:=λE call round tm=>
 mv (T.get tm 0) λv7=>
 M.bind (oS (some v7) λa=>kNil a) λv8=>
 fD E 78 6 (some v8) λv9=>
 lD E 4 (some v9) λv10=>
 mv (some v10) λv6=>
 setF 6 v6 tm λtm1=>
 M.pure tm1
theorem Su_:RegEq 32 11 Gz RF SI:={}
theorem IP_: ∃k,P3= .code .ret::k:=⟨P3.tail,by kernel_rfl⟩
theorem Fn_:Ak On=some 6:=by kernel_rfl
def Aq_:Rg:=λE call round tm=>
 mv (some (.int .i64 10)) λv2=>
 setF 2 v2 tm λtm1=>
 M.pure tm1
theorem Tm_:RegEq 32 11 Gz Gv_ Aq_:={}
def DG_:Rg:=λE call round tm=>
 mv (some (.int .i64 0)) λv2=>
 setF 2 v2 tm λtm1=>
 M.pure tm1
theorem Adk_:RegEq 32 11 Gz Cl_ DG_:={}
theorem IC_: ∃k,Sj= .code .ret::k:=⟨Sj.tail,by kernel_rfl⟩
def CQ:Nat:=Ar Tryz.f35
abbrev Oh_:Nat:=36
def BT_:Code:=Tryz.f35.body.getD .skip
theorem KU:envS.fn.get 35=some Tryz.f35:=by kernel_rfl
theorem My_:G2 envS 35 36 CQ BT_:=λh=>
 aI KU (h _ (by kernel_rfl) (by kernel_rfl))
theorem YP:Tryz.f35.results.toList=[.tmp 4]:=by kernel_rfl
def RQ:List Item:=skim 64 [.code BT_]
def CI_:=nx RQ
def N5:=nx CI_
def DJ_:=bt N5
def Zj:=bf N5
def V7:=nx DJ_
def O0:=nx Zj
def Do_:=nx V7
def XU:=bt O0
def JJ:=bf O0
theorem TR_:skim 64 XU.tail=JJ:=by kernel_rfl
def CC_:=nx JJ
def By_:=nx CC_
def Gl_:=nx By_
def TX:Rg:=λE call round tm=>
 mv (some (.int .i64 0)) λv4=>
 setF 4 v4 tm λtm1=>
 M.pure tm1
theorem Xk_:RegEq 35 36 CQ RQ TX:={}
def HE_:Rg:=λE call round tm=>
 mv (T.get tm 0) λv5=>
 M.bind (oS (some v5) λa=>kNil a) λv6=>
 fD E 78 4 (some v6) λv7=>
 lD E 4 (some v7) λv8=>
 mv (some v8) λv9=>
 sK v9 true (oS (T.get tm 0) λa=>M.pure a) λv10=>
 sK v9 true (oS (some v10) λa=>kNil a) λv11=>
 sK v9 true (oS (some v11) λa=>kFld E 78 a 5) λv12=>
 sK v9 true (oS (some v12) λa=>AQ E 3 a) λv13=>
 sK v9 true (oS (some v13) λa=>oS (some (.int .i64 0)) λb=>Cl.get (aBin E .eql 3 (.tmp 13) (.const (.int .i64 0))) a b) λv14=>
 M.bind (M.on (some v9) λa=>M.on (some v14) λb=>M.on (some (.bool false)) λc=>Aw a b c) λv15=>
 setF 15 v15 tm λtm1=>
 M.pure tm1
theorem Rn_:RegEq 35 36 CQ CI_ HE_:={}
theorem Ol:Ak N5=some 15:=by kernel_rfl
def Tw:Rg:=λE call round tm=>
 mv (T.get tm 0) λv16=>
 M.bind (oS (some v16) λa=>kNil a) λv17=>
 fD E 78 6 (some v17) λv18=>
 M.bind (oS (some v18) λa=>oS (some (.bool true)) λb=>AB E 4 a b) λ_=>
 M.pure tm
theorem Ach_:RegEq 35 36 CQ DJ_ Tw:={}
def LG:Rg:=λE call round tm=>
 mv (T.get tm 0) λv19=>
 M.bind (oS (some v19) λa=>kNil a) λv20=>
 fD E 78 4 (some v20) λv21=>
 lD E 4 (some v21) λv22=>
 setF 22 v22 tm λtm1=>
 M.pure tm1
theorem Yy:RegEq 35 36 CQ Zj LG:={}
def Dt_:Rg:=λE call round tm=>
 mv (some (.int .i64 10)) λv4=>
 setF 4 v4 tm λtm1=>
 M.pure tm1
theorem LF_:RegEq 35 36 CQ V7 Dt_:={}
theorem Ww:Ak O0=some 22:=by kernel_rfl
theorem AaX_: ∃k,Do_= .code .ret::k:=⟨Do_.tail,by kernel_rfl⟩
def AE_:Rg:=λE call round tm=>
 mv (T.get tm 0) λv23=>
 M.bind (oS (some v23) λa=>kNil a) λv24=>
 fD E 78 5 (some v24) λv25=>
 lD E 3 (some v25) λv26=>
 bI E .sub 3 (.tmp 26) (.const (.int .i64 1)) (some v26) (some (.int .i64 1)) λv27=>
 M.bind (oS (some v23) λa=>kNil a) λv28=>
 fD E 78 5 (some v28) λv29=>
 M.bind (oS (some v29) λa=>oS (some v27) λb=>AB E 3 a b) λ_=>
 M.pure tm
theorem WU_:RegEq 35 36 CQ XU AE_:={}
def Ab_:Rg:=λE call round tm=>
 mv (T.get tm 0) λv30=>
 M.bind (oS (some v30) λa=>kNil a) λv31=>
 fD E 78 3 (some v31) λv32=>
 cN call round 59 [(some v32),(some (.int .i64 1))] λv33=>
 M.pure tm
theorem Wt_:RegEq 35 36 CQ JJ Ab_:={}
def CX_:Rg:=λE call round tm=>
 mv (T.get tm 1) λv34=>
 M.bind (M.on (some v34) λf=>M.on (seqO []) λl=>Be call round f l) λv35=>
 M.pure tm
theorem QN_:RegEq 35 36 CQ CC_ CX_:={}
def UB:Rg:=λE call round tm=>
 mv (some (.int .i64 0)) λv4=>
 setF 4 v4 tm λtm1=>
 M.pure tm1
theorem VX_:RegEq 35 36 CQ By_ UB:={}
theorem TN_: ∃k,Gl_= .code .ret::k:=⟨Gl_.tail,by kernel_rfl⟩
def Cc:Nat:=Ar Tryz.f11
abbrev Aai_:Nat:=48
def Cj_:Code:=Tryz.f11.body.getD .skip
theorem HJ:envS.fn.get 11=some Tryz.f11:=by kernel_rfl
theorem Nh_:G3 envS 11 48 Cc Cj_:=λh=>
 aI HJ (h _ (by kernel_rfl) (by kernel_rfl) (by kernel_rfl))
theorem I3:Tryz.f11.results.toList=[.tmp 6]:=by kernel_rfl
def SC:List Item:=skim 64 [.code Cj_]
def Sr:=nx SC
def Wt:=nx Sr
def KV:=nx Wt
def XR:=bt KV
def L0:=bf KV
def Yz:=nx XR
def Ta:=nx L0
def NS:=nx Ta
def AcG_:=bt NS
def Wg:=bf NS
def KQ:=nx AcG_
def P0:=nx Wg
def Kt:=bt P0
def Jb:=bf P0
def Fd_:=bt Kt
def UJ:=bf Kt
theorem Y2:skim 64 Jb.tail=Kt:=by kernel_rfl
theorem Nd_:skim 64 Fd_.tail=KQ:=by kernel_rfl
def Ih_:=nx UJ
def Y1:Rg:=λE call round tm=>
 M.bind (oS (T.get tm 0) λa=>kBox a) λv3=>
 setF 3 v3 tm λtm1=>
 M.bind (oS (T.get tm1 1) λa=>kBox a) λv4=>
 setF 4 v4 tm1 λtm2=>
 M.bind (oS (T.get tm2 2) λa=>kBox a) λv5=>
 setF 5 v5 tm2 λtm3=>
 mv (some (.int .i64 0)) λv6=>
 setF 6 v6 tm3 λtm4=>
 M.pure tm4
theorem OS_:RegEq 11 48 Cc SC Y1:={}
def Ce_:Rg:=λE call round tm=>
 lD E 25 (T.get tm 3) λv9=>
 cN call round 32 [(some v9)] λv10=>
 mv (some v10) λv7=>
 setF 7 v7 tm λtm1=>
 M.pure tm1
theorem Mm_:RegEq 11 48 Cc Sr Ce_:={}
def PR:Rg:=λE call round tm=>
 mv (T.get tm 7) λv11=>
 bI E .neq 29 (.tmp 11) (.const (.int .i64 0)) (some v11) (some (.int .i64 0)) λv12=>
 setF 12 v12 tm λtm1=>
 M.pure tm1
theorem AaZ_:RegEq 11 48 Cc Wt PR:={}
theorem Hi_:Ak KV=some 12:=by kernel_rfl
def QN:Rg:=λE call round tm=>
 mv (T.get tm 7) λv13=>
 mv (some v13) λv6=>
 setF 6 v6 tm λtm1=>
 M.pure tm1
theorem RD_:RegEq 11 48 Cc XR QN:={}
def VW:RdW:=λE call round tm=>
 LD E 25 (T.get tm 3) λp0=>
 M.bind (apartO (oS (some p0.1) λa=>kNil a)) λp1=>
 FD E 78 1 (some p1.1) λp2=>
 LD E 71 (some p2.1) λp3=>
 LD E 9 (T.get tm 4) λp4=>
 M.bind (apartO (oS (some p3.1) λa=>oS (some p4.1) λb=>Cs E 71 false a b)) λp5=>
 M.bind (apartO (Ce E 70)) λp6=>
 setT 8 p6.1 tm λtm1=>
 fJ [p6,p5,p4,p3,p2,p1,p0] tm1
theorem Xw_:DrawEq 11 48 Cc L0 [0,1,3,7,0,31,0,127] VW:={}
theorem LL_ (E:Env)(call round:Ah)(x14 x15 x16 x17 x18 x19 x8:Value)(tm:T Value)(s:St):AH call round (Bg E Cc 48 (hdC L0)) [x8,x19,x18,x17,x16,x15,x14] tm s=(M.bind (oS (some x8) λa=>oS (some x19) λb=>AB E 70 a b) λ_=>M.pure tm) s:=by kernel_rfl
theorem Ji_: ∃k,Yz= .code .ret::k:=⟨Yz.tail,by kernel_rfl⟩
def Q6:Rg:=λE call round tm=>
 lD E 9 (T.get tm 4) λv21=>
 cN call round 33 [(some v21)] λv22=>
 M.bind (oS (some v22) λa=>kUn E.P .not a) λv23=>
 mv (some v23) λv20=>
 setF 20 v20 tm λtm1=>
 M.pure tm1
theorem SU_:RegEq 11 48 Cc Ta Q6:={}
theorem Sq_:Ak NS=some 20:=by kernel_rfl
def TV:Rg:=λE call round tm=>
 lD E 70 (T.get tm 8) λv25=>
 bI E .eql 70 (.tmp 25) (.const (.pointer none)) (some v25) (some (.pointer none)) λv26=>
 mv (some v26) λv27=>
 sK v27 true (oS (T.get tm 3) λa=>AQ E 25 a) λv28=>
 sK v27 true (oS (some v28) λa=>kNil a) λv29=>
 sK v27 true (oS (some v29) λa=>kFld E 78 a 1) λv30=>
 sK v27 true (oS (some v30) λa=>AQ E 71 a) λv31=>
 sK v27 true (oS (seqO [(some v31)]) λl=>A8 E .len [71] l) λv32=>
 sK v27 true (oS (some v32) λa=>oS (some (.int .i64 1000)) λb=>Cl.get (aBin E .geq 3 (.tmp 32) (.const (.int .i64 1000))) a b) λv33=>
 M.bind (M.on (some v27) λa=>M.on (some v33) λb=>M.on (some (.bool false)) λc=>Aw a b c) λv34=>
 mv (some v34) λv24=>
 setF 24 v24 tm λtm1=>
 M.pure tm1
theorem AaO_:RegEq 11 48 Cc Wg TV:={}
theorem OJ_: ∃k,KQ= .code .ret::k:=⟨KQ.tail,by kernel_rfl⟩
theorem Ee_:Ak P0=some 24:=by kernel_rfl
theorem DW_:Ak Kt=some 24:=by kernel_rfl
def Z2:RdW:=λE call round tm=>
 LD E 25 (T.get tm 3) λp0=>
 CN call round 34 [(some p0.1)] λp1=>
 LD E 23 (T.get tm 5) λp2=>
 LN E .len [23] [(some p2.1)] λp3=>
 BI E .add 3 (.tmp 36) (.tmp 38) (some p1.1) (some p3.1) λp4=>
 LD E 25 (T.get tm 3) λp5=>
 M.bind (apartO (oS (some p5.1) λa=>kNil a)) λp6=>
 FD E 78 2 (some p6.1) λp7=>
 LD E 3 (some p7.1) λp8=>
 BI E .gtr 3 (.tmp 39) (.tmp 43) (some p4.1) (some p8.1) λp9=>
 fJ [p9,p8,p7,p6,p5,p4,p3,p2,p1,p0] tm
theorem Kb_:DrawEq 11 48 Cc Jb [0,1,0,4,15,0,32,96,224,511,1023] Z2:={}
theorem Xd_ (E:Env)(call round:Ah)(x35 x36 x37 x38 x39 x40 x41 x42 x43 x44:Value)(tm:T Value)(s:St):AH call round (Bg E Cc 48 (hdC Jb)) [x44,x43,x42,x41,x40,x39,x38,x37,x36,x35] tm s=(M.bind (oS (some x44) λa=>M.pure a) λv24=>setT 24 v24 tm λtm1=>M.pure tm1) s:=by kernel_rfl
def UD:Rg:=λE call round tm=>
 mv (some (.int .i64 8)) λv6=>
 setF 6 v6 tm λtm1=>
 M.pure tm1
theorem AaE_:RegEq 11 48 Cc Fd_ UD:={}
def Gx_:Rg:=λE call round tm=>
 lD E 25 (T.get tm 3) λv45=>
 M.bind (oS (seqO []) λa=>oS (seqO [(T.get tm 8),(T.get tm 3),(T.get tm 4),(T.get tm 5)]) λb=>M.pure (.func (.func 36) a.toArray b.toArray)) λv46=>
 cN call round 35 [(some v45),(some v46)] λv47=>
 mv (some v47) λv6=>
 setF 6 v6 tm λtm1=>
 M.pure tm1
theorem AbW_:RegEq 11 48 Cc UJ Gx_:={}
theorem Td: ∃k,Ih_= .code .ret::k:=⟨Ih_.tail,by kernel_rfl⟩
def EI:Nat:=Ar Tryz.f36
abbrev TH_:Nat:=23
def Ri:Code:=Tryz.f36.body.getD .skip
theorem Yi:envS.fn.get 36=some Tryz.f36:=by kernel_rfl
theorem Yx_:G4 envS 36 23 EI Ri:=λh=>
 aI Yi (h _ (by kernel_rfl) (by kernel_rfl) (by kernel_rfl) (by kernel_rfl))
theorem Np_:Tryz.f36.results.toList=[]:=by kernel_rfl
def HL_:List Item:=skim 64 [.code Ri]
def P4:=nx HL_
def Xn:=bt P4
def G6:=bf P4
def PC:=nx Xn
def Lo_:=nx G6
theorem MP_:skim 64 PC.tail=G6:=by kernel_rfl
def ZM:Rg:=λE call round tm=>
 lD E 70 (T.get tm 0) λv4=>
 bI E .eql 70 (.tmp 4) (.const (.pointer none)) (some v4) (some (.pointer none)) λv5=>
 setF 5 v5 tm λtm1=>
 M.pure tm1
theorem SG_:RegEq 36 23 EI HL_ ZM:={}
theorem Al_:Ak P4=some 5:=by kernel_rfl
def Go_:Rg:=λE call round tm=>
 M.bind (oS (seqP []) λps=>BP E 83 ps) λv6=>
 M.bind (oS (some v6) λa=>kBox a) λv7=>
 M.bind (oS (T.get tm 0) λa=>oS (some v7) λb=>AB E 70 a b) λ_=>
 M.pure tm
theorem JX_:RegEq 36 23 EI Xn Go_:={}
def HA_:RdW:=λE call round tm=>
 LD E 70 (T.get tm 0) λp0=>
 LD E 70 (T.get tm 0) λp1=>
 M.bind (apartO (oS (some p1.1) λa=>kNil a)) λp2=>
 FD E 83 1 (some p2.1) λp3=>
 LD E 23 (some p3.1) λp4=>
 LD E 23 (T.get tm 3) λp5=>
 LN E .append [23,23] [(some p4.1),(some p5.1)] λp6=>
 M.bind (apartO (oS (some p0.1) λa=>kNil a)) λp7=>
 FD E 83 1 (some p7.1) λp8=>
 fJ [p8,p7,p6,p5,p4,p3,p2,p1,p0] tm
theorem Kr_:DrawEq 36 23 EI G6 [0,0,2,6,14,0,62,127,255,511] HA_:={}
theorem Ro_ (E:Env)(call round:Ah)(x14 x15 x16 x17 x18 x19 x20 x21 x22:Value)(tm:T Value)(s:St):AH call round (Bg E EI 23 (hdC G6)) [x22,x21,x20,x19,x18,x17,x16,x15,x14] tm s=(M.bind (oS (some x22) λa=>oS (some x20) λb=>AB E 23 a b) λ_=>M.pure tm) s:=by kernel_rfl
def Iv_:RdW:=λE call round tm=>
 LD E 25 (T.get tm 1) λp0=>
 M.bind (apartO (oS (some p0.1) λa=>kNil a)) λp1=>
 FD E 78 1 (some p1.1) λp2=>
 LD E 71 (some p2.1) λp3=>
 LD E 9 (T.get tm 2) λp4=>
 LD E 70 (T.get tm 0) λp5=>
 fJ [p5,p4,p3,p2,p1,p0] tm
theorem TK_:DrawEq 36 23 EI PC [0,1,3,7,0,0,63] Iv_:={}
theorem VZ_ (E:Env)(call round:Ah)(x8 x9 x10 x11 x12 x13:Value)(tm:T Value)(s:St):AH call round (Bg E EI 23 (hdC PC)) [x13,x12,x11,x10,x9,x8] tm s=(M.bind (M.on (some x11) λa=>M.on (some x12) λb=>M.on (some x13) λc=>DC E 71 a b c) λ_=>M.pure tm) s:=by kernel_rfl
def DB:Nat:=Ar Tryz.f12
def Fe_:Code:=Tryz.f12.body.getD .skip
theorem Ic:envS.fn.get 12=some Tryz.f12:=by kernel_rfl
theorem WE_:G2 envS 12 23 DB Fe_:=λh=>
 aI Ic (h _ (by kernel_rfl) (by kernel_rfl))
theorem Jf:Tryz.f12.results.toList=[.tmp 4]:=by kernel_rfl
def Bv_:List Item:=skim 64 [.code Fe_]
def Vm:=nx Bv_
def Z7:=nx Vm
def LP:=nx Z7
def Uk:=bt LP
def Tq:=bf LP
def Bw_:=nx Uk
def TT:=nx Tq
def Pp:=nx TT
def Wj:=bt Pp
def Xl:=bf Pp
def Dv_:=nx Wj
def V3:=nx Xl
def Ah_:Rg:=λE call round tm=>
 mv (some (.int .i64 0)) λv4=>
 setF 4 v4 tm λtm1=>
 M.pure tm1
theorem Lg_:RegEq 12 23 DB Bv_ Ah_:={}
def Be_:Rg:=λE call round tm=>
 mv (T.get tm 0) λv7=>
 cN call round 32 [(some v7)] λv8=>
 mv (some v8) λv5=>
 setF 5 v5 tm λtm1=>
 M.pure tm1
theorem PA_:RegEq 12 23 DB Vm Be_:={}
def PA:Rg:=λE call round tm=>
 mv (T.get tm 5) λv9=>
 bI E .neq 29 (.tmp 9) (.const (.int .i64 0)) (some v9) (some (.int .i64 0)) λv10=>
 setF 10 v10 tm λtm1=>
 M.pure tm1
theorem Xy_:RegEq 12 23 DB Z7 PA:={}
theorem Xf:Ak LP=some 10:=by kernel_rfl
def EQ_:Rg:=λE call round tm=>
 mv (T.get tm 5) λv11=>
 mv (some v11) λv4=>
 setF 4 v4 tm λtm1=>
 M.pure tm1
theorem TJ_:RegEq 12 23 DB Uk EQ_:={}
def Ss:Rg:=λE call round tm=>
 mv (T.get tm 0) λv12=>
 M.bind (oS (some v12) λa=>kNil a) λv13=>
 fD E 78 1 (some v13) λv14=>
 lD E 71 (some v14) λv15=>
 mv (T.get tm 1) λv16=>
 M.bind (oS (some v15) λa=>oS (some v16) λb=>Cs E 71 false a b) λv17=>
 M.bind (Ce E 70) λv6=>
 setF 6 v6 tm λtm1=>
 M.bind (oS (some v6) λa=>oS (some v17) λb=>AB E 70 a b) λ_=>
 M.pure tm1
theorem OE_:RegEq 12 23 DB Tq Ss:={}
theorem JD_: ∃k,Bw_= .code .ret::k:=⟨Bw_.tail,by kernel_rfl⟩
def DT_:Rg:=λE call round tm=>
 lD E 70 (T.get tm 6) λv18=>
 bI E .eql 70 (.tmp 18) (.const (.pointer none)) (some v18) (some (.pointer none)) λv19=>
 setF 19 v19 tm λtm1=>
 M.pure tm1
theorem PB_:RegEq 12 23 DB TT DT_:={}
theorem Z4:Ak Pp=some 19:=by kernel_rfl
def Bo_:Rg:=λE call round tm=>
 mv (some (.int .i64 6)) λv4=>
 setF 4 v4 tm λtm1=>
 M.pure tm1
theorem Act_:RegEq 12 23 DB Wj Bo_:={}
def FB_:Rg:=λE call round tm=>
 mv (T.get tm 0) λv20=>
 M.bind (oS (seqO []) λa=>oS (seqO [(T.get tm 6)]) λb=>M.pure (.func (.func 37) a.toArray b.toArray)) λv21=>
 cN call round 35 [(some v20),(some v21)] λv22=>
 mv (some v22) λv4=>
 setF 4 v4 tm λtm1=>
 M.pure tm1
theorem Xx_:RegEq 12 23 DB Xl FB_:={}
theorem MF_: ∃k,Dv_= .code .ret::k:=⟨Dv_.tail,by kernel_rfl⟩
theorem Vy: ∃k,V3= .code .ret::k:=⟨V3.tail,by kernel_rfl⟩
def Qd:Nat:=Ar Tryz.f37
def SP:Code:=Tryz.f37.body.getD .skip
theorem Ej_:envS.fn.get 37=some Tryz.f37:=by kernel_rfl
theorem OZ_:G1 envS 37 16 Qd SP:=λh=>
 aI Ej_ (h _ (by kernel_rfl))
theorem QG_:Tryz.f37.results.toList=[]:=by kernel_rfl
def MN:List Item:=skim 64 [.code SP]
def WB_:=nx MN
def UI:RdW:=λE call round tm=>
 LD E 70 (T.get tm 0) λp0=>
 LD E 70 (T.get tm 0) λp1=>
 LD E 70 (T.get tm 0) λp2=>
 M.bind (apartO (oS (some p2.1) λa=>kNil a)) λp3=>
 FD E 83 0 (some p3.1) λp4=>
 LD E 23 (some p4.1) λp5=>
 LD E 70 (T.get tm 0) λp6=>
 M.bind (apartO (oS (some p6.1) λa=>kNil a)) λp7=>
 FD E 83 1 (some p7.1) λp8=>
 LD E 23 (some p8.1) λp9=>
 LN E .append [23,23] [(some p5.1),(some p9.1)] λp10=>
 M.bind (apartO (oS (some p0.1) λa=>kNil a)) λp11=>
 FD E 83 0 (some p11.1) λp12=>
 M.bind (apartO (oS (some p12.1) λa=>oS (some p10.1) λb=>AB E 23 a b)) λp13=>
 M.bind (apartO (oS (some p1.1) λa=>kNil a)) λp14=>
 FD E 83 1 (some p14.1) λp15=>
 M.pure (([p15.1,p14.1,p12.1,p11.1,p10.1,p9.1,p8.1,p7.1,p6.1,p5.1,p4.1,p3.1,p2.1,p1.1,p0.1],tm),[p15.2,p14.2,p13.2,p12.2,p11.2,p10.2,p9.2,p8.2,p7.2,p6.2,p5.2,p4.2,p3.2,p2.2,p1.2,p0.2])
theorem PS_:DrawEq 37 16 Qd MN [0,0,0,4,12,28,0,64,192,448,1020,2045,4093,8189,16383,32767,65535] UI:={}
theorem Aad_ (E:Env)(call round:Ah)(x1 x2 x3 x4 x5 x6 x7 x8 x9 x10 x11 x12 x13 x14 x15:Value)(tm:T Value)(s:St):AH call round (Bg E Qd 16 (hdC MN)) [x15,x14,x13,x12,x11,x10,x9,x8,x7,x6,x5,x4,x3,x2,x1] tm s=(M.bind (oS (some x15) λa=>oS (some (.slice none 0 0)) λb=>AB E 23 a b) λ_=>M.pure tm) s:=by kernel_rfl
def Dw:Nat:=Ar Tryz.f21
def Sp:Code:=Tryz.f21.body.getD .skip
theorem IG:envS.fn.get 21=some Tryz.f21:=by kernel_rfl
theorem XM_:G2 envS 21 31 Dw Sp:=λh=>
 aI IG (h _ (by kernel_rfl) (by kernel_rfl))
theorem O8:Tryz.f21.results.toList=[.tmp 4, .tmp 5]:=by kernel_rfl
def U3:List Item:=skim 64 [.code Sp]
def BD_:=nx U3
def TZ:=nx BD_
def Mv:=nx TZ
def Qm:=bt Mv
def Xy:=bf Mv
def Sn:=nx Qm
def U8:=nx Xy
def Pq:=nx U8
def Xu:=bt Pq
def LB:=bf Pq
def ZD:=nx Xu
def Ak_:=nx LB
def YT:Rg:=λE call round tm=>
 mv (some (.slice none 0 0)) λv4=>
 setF 4 v4 tm λtm1=>
 mv (some (.int .i64 0)) λv5=>
 setF 5 v5 tm1 λtm2=>
 M.pure tm2
theorem Adc_:RegEq 21 31 Dw U3 YT:={}
def S2:Rg:=λE call round tm=>
 mv (T.get tm 0) λv8=>
 cN call round 32 [(some v8)] λv9=>
 mv (some v9) λv6=>
 setF 6 v6 tm λtm1=>
 M.pure tm1
theorem Jt_:RegEq 21 31 Dw BD_ S2:={}
def OP:Rg:=λE call round tm=>
 mv (T.get tm 6) λv10=>
 bI E .neq 29 (.tmp 10) (.const (.int .i64 0)) (some v10) (some (.int .i64 0)) λv11=>
 setF 11 v11 tm λtm1=>
 M.pure tm1
theorem UU_:RegEq 21 31 Dw TZ OP:={}
theorem QI:Ak Mv=some 11:=by kernel_rfl
def Ci_:Rg:=λE call round tm=>
 mv (T.get tm 6) λv12=>
 mv (some (.slice none 0 0)) λv4=>
 setF 4 v4 tm λtm1=>
 mv (some v12) λv5=>
 setF 5 v5 tm1 λtm2=>
 M.pure tm2
theorem Kh_:RegEq 21 31 Dw Qm Ci_:={}
def Zb:Rg:=λE call round tm=>
 mv (T.get tm 0) λv13=>
 M.bind (oS (some v13) λa=>kNil a) λv14=>
 fD E 78 1 (some v14) λv15=>
 lD E 71 (some v15) λv16=>
 mv (T.get tm 1) λv17=>
 M.bind (oS (some v16) λa=>oS (some v17) λb=>Cs E 71 false a b) λv18=>
 mv (some v18) λv7=>
 setF 7 v7 tm λtm1=>
 M.pure tm1
theorem Vc_:RegEq 21 31 Dw Xy Zb:={}
theorem Oy_: ∃k,Sn= .code .ret::k:=⟨Sn.tail,by kernel_rfl⟩
def NY:Rg:=λE call round tm=>
 mv (T.get tm 7) λv19=>
 bI E .eql 70 (.tmp 19) (.const (.pointer none)) (some v19) (some (.pointer none)) λv20=>
 setF 20 v20 tm λtm1=>
 M.pure tm1
theorem WJ_:RegEq 21 31 Dw U8 NY:={}
theorem X7:Ak Pq=some 20:=by kernel_rfl
def Ht_:Rg:=λE call round tm=>
 mv (some (.slice none 0 0)) λv4=>
 setF 4 v4 tm λtm1=>
 mv (some (.int .i64 6)) λv5=>
 setF 5 v5 tm1 λtm2=>
 M.pure tm2
theorem RS_:RegEq 21 31 Dw Xu Ht_:={}
def Yd:RdW:=λE call round tm=>
 PD (T.get tm 7) λp0=>
 M.bind (apartO (oS (some p0.1) λa=>kNil a)) λp1=>
 FD E 83 0 (some p1.1) λp2=>
 LD E 23 (some p2.1) λp3=>
 PD (T.get tm 7) λp4=>
 M.bind (apartO (oS (some p4.1) λa=>kNil a)) λp5=>
 FD E 83 1 (some p5.1) λp6=>
 LD E 23 (some p6.1) λp7=>
 M.bind (apartO (oS (seqP [(0,(some p3.1)),(1,(some p7.1))]) λps=>BY E 114 2 ps)) λp8=>
 CN call round 43 [(some p8.1)] λp9=>
 PD (some p9.1) λp10=>
 setT 4 p10.1 tm λtm1=>
 fJ [p10,p9,p8,p7,p6,p5,p4,p3,p2,p1,p0] tm1
theorem MN_:DrawEq 21 31 Dw LB [0,1,3,7,0,16,48,112,255,511,1023,2047] Yd:={}
theorem IG_ (E:Env)(call round:Ah)(x21 x22 x23 x24 x25 x26 x27 x28 x29 x30 x4:Value)(tm:T Value)(s:St):AH call round (Bg E Dw 31 (hdC LB)) [x4,x30,x29,x28,x27,x26,x25,x24,x23,x22,x21] tm s=(M.bind (oS (some (.int .i64 0)) λa=>M.pure a) λv5=>setT 5 v5 tm λtm1=>M.pure tm1) s:=by kernel_rfl
theorem IF_: ∃k,ZD= .code .ret::k:=⟨ZD.tail,by kernel_rfl⟩
theorem Re_: ∃k,Ak_= .code .ret::k:=⟨Ak_.tail,by kernel_rfl⟩
def Hr:Nat:=Ar Tryz.f18
def Yq:Code:=Tryz.f18.body.getD .skip
theorem EV_:envS.fn.get 18=some Tryz.f18:=by kernel_rfl
theorem Lt_:G2 envS 18 17 Hr Yq:=λh=>
 aI EV_ (h _ (by kernel_rfl) (by kernel_rfl))
theorem VJ_:Tryz.f18.results.toList=[.tmp 4]:=by kernel_rfl
def QW:List Item:=skim 64 [.code Yq]
def Eu_:=nx QW
def Ys:=nx Eu_
def BR_:=bf Ys
def GQ_:=nx BR_
def TJ:=nx GQ_
def T7:Rg:=λE call round tm=>
 M.bind (oS (T.get tm 1) λa=>kBox a) λv3=>
 setF 3 v3 tm λtm1=>
 mv (some (.slice none 0 0)) λv4=>
 setF 4 v4 tm1 λtm2=>
 M.pure tm2
theorem Xi_:RegEq 18 17 Hr QW T7:={}
def Dw_:Rg:=λE call round tm=>
 mv (T.get tm 0) λv6=>
 cN call round 46 [(some v6)] λv7=>
 setF 7 v7 tm λtm1=>
 M.pure tm1
theorem QB_:RegEq 18 17 Hr Eu_ Dw_:={}
theorem AaF_:Ak Ys=some 7:=by kernel_rfl
def VY:Rg:=λE call round tm=>
 mv (T.get tm 0) λv8=>
 M.bind (oS (some v8) λa=>kNil a) λv9=>
 fD E 78 1 (some v9) λv10=>
 lD E 71 (some v10) λv11=>
 cN call round 48 [(some v11)] λv12=>
 cN call round 47 [(some v12)] λv13=>
 mv (some v13) λv5=>
 setF 5 v5 tm λtm1=>
 M.pure tm1
theorem Jn_:RegEq 18 17 Hr BR_ VY:={}
def Rv:Rg:=λE call round tm=>
 mv (T.get tm 5) λv14=>
 M.bind (oS (seqO []) λa=>oS (seqO [(T.get tm 3)]) λb=>M.pure (.func (.func 50) a.toArray b.toArray)) λv15=>
 cN call round 49 [(some v14),(some v15)] λv16=>
 mv (some v16) λv4=>
 setF 4 v4 tm λtm1=>
 M.pure tm1
theorem TM_:RegEq 18 17 Hr GQ_ Rv:={}
theorem OT_: ∃k,TJ= .code .ret::k:=⟨TJ.tail,by kernel_rfl⟩
def NJ:Nat:=Ar Tryz.f50
def HR_:Code:=Tryz.f50.body.getD .skip
theorem BU_:envS.fn.get 50=some Tryz.f50:=by kernel_rfl
theorem TU_:G2 envS 50 8 NJ HR_:=λh=>
 aI BU_ (h _ (by kernel_rfl) (by kernel_rfl))
theorem Yw_:Tryz.f50.results.toList=[.tmp 3]:=by kernel_rfl
def Zr:List Item:=skim 64 [.code HR_]
def SU:=nx Zr
def XF:=nx SU
def SM:Rg:=λE call round tm=>
 mv (some (.bool false)) λv3=>
 setF 3 v3 tm λtm1=>
 M.pure tm1
theorem On_:RegEq 50 8 NJ Zr SM:={}
def Z3:Rg:=λE call round tm=>
 mv (T.get tm 0) λv4=>
 lD E 9 (T.get tm 1) λv5=>
 cN call round 51 [(some v4),(some v5)] λv6=>
 M.bind (oS (some v6) λa=>kUn E.P .not a) λv7=>
 mv (some v7) λv3=>
 setF 3 v3 tm λtm1=>
 M.pure tm1
theorem AaT_:RegEq 50 8 NJ SU Z3:={}
theorem UF_: ∃k,XF= .code .ret::k:=⟨XF.tail,by kernel_rfl⟩
def Lt:Nat:=Ar Tryz.f28
def UN:Code:=Tryz.f28.body.getD .skip
theorem Ca_:envS.fn.get 28=some Tryz.f28:=by kernel_rfl
theorem Yr_:G1 envS 28 13 Lt UN:=λh=>
 aI Ca_ (h _ (by kernel_rfl))
theorem Ui_:Tryz.f28.results.toList=[.tmp 2]:=by kernel_rfl
def EH_:List Item:=skim 64 [.code UN]
def R0:=nx EH_
def Ho_:=nx R0
def Av_:Rg:=λE call round tm=>
 mv (some (.bool false)) λv2=>
 setF 2 v2 tm λtm1=>
 M.pure tm1
theorem SA_:RegEq 28 13 Lt EH_ Av_:={}
def VJ:Rg:=λE call round tm=>
 mv (T.get tm 0) λv3=>
 cN call round 46 [(some v3)] λv4=>
 M.bind (oS (some v4) λa=>kUn E.P .not a) λv5=>
 mv (some v5) λv6=>
 sK v6 true (oS (T.get tm 0) λa=>M.pure a) λv7=>
 sK v6 true (oS (some v7) λa=>kNil a) λv8=>
 sK v6 true (oS (some v8) λa=>kFld E 78 a 6) λv9=>
 sK v6 true (oS (some v9) λa=>AQ E 4 a) λv10=>
 sK v6 true (oS (some v10) λa=>kUn E.P .not a) λv11=>
 M.bind (M.on (some v6) λa=>M.on (some v11) λb=>M.on (some (.bool false)) λc=>Aw a b c) λv12=>
 mv (some v12) λv2=>
 setF 2 v2 tm λtm1=>
 M.pure tm1
theorem VG_:RegEq 28 13 Lt R0 VJ:={}
theorem Sz_: ∃k,Ho_= .code .ret::k:=⟨Ho_.tail,by kernel_rfl⟩
def Gi:Nat:=Ar Tryz.f24
def Dy_:Code:=Tryz.f24.body.getD .skip
theorem UM:envS.fn.get 24=some Tryz.f24:=by kernel_rfl
theorem Aab_:G2 envS 24 18 Gi Dy_:=λh=>
 aI UM (h _ (by kernel_rfl) (by kernel_rfl))
theorem RH_:Tryz.f24.results.toList=[.tmp 4]:=by kernel_rfl
def Gf_:List Item:=skim 64 [.code Dy_]
def RM:=nx Gf_
def R3:=nx RM
def CP_:=bf R3
def X8:=nx CP_
def WN:=bf X8
def FT_:=nx WN
def Qx:=nx FT_
def Zx:Rg:=λE call round tm=>
 mv (some (.int .i64 0)) λv4=>
 setF 4 v4 tm λtm1=>
 M.pure tm1
theorem Pq_:RegEq 24 18 Gi Gf_ Zx:={}
def YS:Rg:=λE call round tm=>
 mv (T.get tm 0) λv6=>
 cN call round 46 [(some v6)] λv7=>
 mv (some v7) λv5=>
 setF 5 v5 tm λtm1=>
 M.pure tm1
theorem Aba_:RegEq 24 18 Gi RM YS:={}
theorem ZO_:Ak R3=some 5:=by kernel_rfl
def DC_:Rg:=λE call round tm=>
 mv (T.get tm 1) λv9=>
 bI E .lss 3 (.tmp 9) (.const (.int .i64 0)) (some v9) (some (.int .i64 0)) λv10=>
 mv (some v10) λv8=>
 setF 8 v8 tm λtm1=>
 M.pure tm1
theorem PW_:RegEq 24 18 Gi CP_ DC_:={}
theorem WF_:Ak X8=some 8:=by kernel_rfl
def FR_:Rg:=λE call round tm=>
 mv (T.get tm 0) λv11=>
 mv (T.get tm 0) λv12=>
 mv (T.get tm 1) λv13=>
 M.bind (oS (some v11) λa=>kNil a) λv14=>
 fD E 78 4 (some v14) λv15=>
 M.bind (oS (some v15) λa=>oS (some (.bool true)) λb=>AB E 4 a b) λ_=>
 M.bind (oS (some v12) λa=>kNil a) λv16=>
 fD E 78 5 (some v16) λv17=>
 M.bind (oS (some v17) λa=>oS (some v13) λb=>AB E 3 a b) λ_=>
 M.pure tm
theorem XE_:RegEq 24 18 Gi WN FR_:={}
def RL:Rg:=λE call round tm=>
 mv (some (.int .i64 0)) λv4=>
 setF 4 v4 tm λtm1=>
 M.pure tm1
theorem Mn_:RegEq 24 18 Gi FT_ RL:={}
theorem AaR_: ∃k,Qx= .code .ret::k:=⟨Qx.tail,by kernel_rfl⟩
def BB:Nat:=Ar Tryz.f29
abbrev Hb:Nat:=73
def XI:Code:=Tryz.f29.body.getD .skip
theorem Zm:envS.fn.get 29=some Tryz.f29:=by kernel_rfl
theorem PI_:G2 envS 29 73 BB XI:=λh=>
 aI Zm (h _ (by kernel_rfl) (by kernel_rfl))
theorem UA_:Tryz.f29.results.toList=[.tmp 4]:=by kernel_rfl
def S6:List Item:=skim 64 [.code XI]
def R5:=nx S6
def Hu_:=nx R5
def Rl:=bf Hu_
def IF:=nx Rl
def Ml:=nx IF
def Yw:=bt Ml
def OY:=bf Ml
def Dz_:=nx Yw
def Rb:=nx OY
def FI_:=nx Dz_
def Hx_:=nx Rb
def Ou:=nx FI_
def BV_:=bt Ou
def GW:=bf Ou
def Fk_:=nx BV_
def Nc:=nx GW
theorem Wn_:skim 64 Fk_.tail=GW:=by kernel_rfl
theorem Mf_:skim 64 Nc.tail=IF:=by kernel_rfl
def FY_:Rg:=λE call round tm=>
 mv (some (.int .i64 0)) λv4=>
 setF 4 v4 tm λtm1=>
 M.pure tm1
theorem La_:RegEq 29 73 BB S6 FY_:={}
def Y8:Rg:=λE call round tm=>
 mv (T.get tm 0) λv10=>
 cN call round 46 [(some v10)] λv11=>
 setF 11 v11 tm λtm1=>
 M.pure tm1
theorem Abi_:RegEq 29 73 BB R5 Y8:={}
theorem IU_:Ak Hu_=some 11:=by kernel_rfl
def VN:Rg:=λE call round tm=>
 mv (T.get tm 0) λv12=>
 cN call round 18 [(some v12),(some (.string {data:= #[]}))] λv13=>
 setF 13 v13 tm λtm1=>
 lN E .len [41] [(some v13)] λv14=>
 setF 14 v14 tm1 λtm2=>
 mv (some (.int .i64 0)) λv15=>
 setF 15 v15 tm2 λtm3=>
 M.pure tm3
theorem QU_:RegEq 29 73 BB Rl VN:={}
def Ob:Rg:=λE call round tm=>
 bI E .lss 3 (.tmp 15) (.tmp 14) (T.get tm 15) (T.get tm 14) λv16=>
 setF 16 v16 tm λtm1=>
 M.pure tm1
theorem GI_:RegEq 29 73 BB IF Ob:={}
theorem ZA:Ak Ml=some 16:=by kernel_rfl
def Zv:Rg:=λE call round tm=>
 mv (T.get tm 15) λv17=>
 iD E 41 (T.get tm 13) (T.get tm 15) λv18=>
 lD E 9 (some v18) λv19=>
 mv (some v17) λv5=>
 setF 5 v5 tm λtm1=>
 mv (some v19) λv6=>
 setF 6 v6 tm1 λtm2=>
 M.pure tm2
theorem Xq_:RegEq 29 73 BB Yw Zv:={}
def QL:Rg:=λE call round tm=>
 mv (T.get tm 0) λv64=>
 mv (T.get tm 0) λv65=>
 mv (T.get tm 0) λv66=>
 M.bind (oS (some v64) λa=>kNil a) λv67=>
 fD E 78 6 (some v67) λv68=>
 M.bind (oS (some v68) λa=>oS (some (.bool false)) λb=>AB E 4 a b) λ_=>
 M.bind (oS (some v65) λa=>kNil a) λv69=>
 fD E 78 4 (some v69) λv70=>
 M.bind (oS (some v70) λa=>oS (some (.bool false)) λb=>AB E 4 a b) λ_=>
 M.bind (oS (some v66) λa=>kNil a) λv71=>
 fD E 78 5 (some v71) λv72=>
 M.bind (oS (some v72) λa=>oS (some (.int .i64 0)) λb=>AB E 3 a b) λ_=>
 M.pure tm
theorem Sv_:RegEq 29 73 BB OY QL:={}
def QY:Rg:=λE call round tm=>
 mv (T.get tm 0) λv20=>
 M.bind (oS (some v20) λa=>kNil a) λv21=>
 fD E 78 1 (some v21) λv22=>
 lD E 71 (some v22) λv23=>
 mv (T.get tm 6) λv24=>
 M.bind (oS (some v23) λa=>oS (some v24) λb=>Cs E 71 false a b) λv25=>
 mv (some v25) λv7=>
 setF 7 v7 tm λtm1=>
 mv (some (.int .i64 0)) λv8=>
 setF 8 v8 tm1 λtm2=>
 M.pure tm2
theorem IY_:RegEq 29 73 BB Dz_ QY:={}
def Ql:Rg:=λE call round tm=>
 mv (some (.int .i64 0)) λv4=>
 setF 4 v4 tm λtm1=>
 M.pure tm1
theorem Rj_:RegEq 29 73 BB Rb Ql:={}
def Tr:Rg:=λE call round tm=>
 mv (T.get tm 5) λv26=>
 mv (T.get tm 1) λv27=>
 lN E .len [63] [(some v27)] λv28=>
 bI E .lss 3 (.tmp 26) (.tmp 28) (some v26) (some v28) λv29=>
 setF 29 v29 tm λtm1=>
 M.pure tm1
theorem Ls_:RegEq 29 73 BB FI_ Tr:={}
theorem Aae_: ∃k,Hx_= .code .ret::k:=⟨Hx_.tail,by kernel_rfl⟩
theorem V6:Ak Ou=some 29:=by kernel_rfl
def SF:Rg:=λE call round tm=>
 mv (T.get tm 7) λv30=>
 M.bind (oS (some v30) λa=>kNil a) λv31=>
 fD E 83 1 (some v31) λv32=>
 lD E 23 (some v32) λv33=>
 lN E .len [23] [(some v33)] λv34=>
 bI E .add 3 (.tmp 34) (.const (.int .i64 1)) (some v34) (some (.int .i64 1)) λv35=>
 mv (some v35) λv9=>
 setF 9 v9 tm λtm1=>
 M.pure tm1
theorem Xe_:RegEq 29 73 BB BV_ SF:={}
def Sd:RdW:=λE call round tm=>
 PD (T.get tm 7) λp0=>
 PD (T.get tm 7) λp1=>
 PD (T.get tm 7) λp2=>
 M.bind (apartO (oS (some p2.1) λa=>kNil a)) λp3=>
 FD E 83 0 (some p3.1) λp4=>
 LD E 23 (some p4.1) λp5=>
 PD (T.get tm 7) λp6=>
 M.bind (apartO (oS (some p6.1) λa=>kNil a)) λp7=>
 FD E 83 1 (some p7.1) λp8=>
 LD E 23 (some p8.1) λp9=>
 PD (T.get tm 8) λp10=>
 M.bind (apartO (M.on (some p9.1) λa=>M.on (some none) λb=>M.on (onO (some p10.1) λv=>some (some v)) λc=>Bz E 23 a b c)) λp11=>
 LN E .append [23,23] [(some p5.1),(some p11.1)] λp12=>
 M.bind (apartO (oS (some p0.1) λa=>kNil a)) λp13=>
 FD E 83 0 (some p13.1) λp14=>
 M.bind (apartO (oS (some p14.1) λa=>oS (some p12.1) λb=>AB E 23 a b)) λp15=>
 M.bind (apartO (oS (some p1.1) λa=>kNil a)) λp16=>
 FD E 83 1 (some p16.1) λp17=>
 M.pure (([p17.1,p16.1,p14.1,p13.1,p12.1,p11.1,p10.1,p9.1,p8.1,p7.1,p6.1,p5.1,p4.1,p3.1,p2.1,p1.1,p0.1],tm),[p17.2,p16.2,p15.2,p14.2,p13.2,p12.2,p11.2,p10.2,p9.2,p8.2,p7.2,p6.2,p5.2,p4.2,p3.2,p2.2,p1.2,p0.2])
theorem Aax_:DrawEq 29 73 BB GW [0,0,0,4,12,28,0,64,192,448,0,1984,4092,8189,16381,32765,65535,131071,262143] Sd:={}
theorem Aar_ (E:Env)(call round:Ah)(x46 x47 x48 x49 x50 x51 x52 x53 x54 x55 x56 x57 x58 x59 x60 x61 x62:Value)(tm:T Value)(s:St):AH call round (Bg E BB 73 (hdC GW)) [x62,x61,x60,x59,x58,x57,x56,x55,x54,x53,x52,x51,x50,x49,x48,x47,x46] tm s=(M.bind (oS (some x62) λa=>oS (some (.slice none 0 0)) λb=>AB E 23 a b) λ_=>M.pure tm) s:=by kernel_rfl
def Fi_:Rg:=λE call round tm=>
 mv (T.get tm 1) λv36=>
 mv (T.get tm 5) λv37=>
 iD E 63 (some v36) (some v37) λv38=>
 lD E 3 (some v38) λv39=>
 mv (T.get tm 9) λv40=>
 bI E .rem 3 (.tmp 39) (.tmp 40) (some v39) (some v40) λv41=>
 mv (T.get tm 9) λv42=>
 bI E .add 3 (.tmp 41) (.tmp 42) (some v41) (some v42) λv43=>
 mv (T.get tm 9) λv44=>
 bI E .rem 3 (.tmp 43) (.tmp 44) (some v43) (some v44) λv45=>
 mv (some v45) λv8=>
 setF 8 v8 tm λtm1=>
 M.pure tm1
theorem Acp_:RegEq 29 73 BB Fk_ Fi_:={}
def Bh_:Rg:=λE call round tm=>
 bI E .add 3 (.tmp 15) (.const (.int .i64 1)) (T.get tm 15) (some (.int .i64 1)) λv63=>
 mv (some v63) λv15=>
 setF 15 v15 tm λtm1=>
 M.pure tm1
theorem YH_:RegEq 29 73 BB Nc Bh_:={}
