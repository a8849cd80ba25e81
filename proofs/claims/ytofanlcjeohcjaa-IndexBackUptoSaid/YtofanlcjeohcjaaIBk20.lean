import Derived.Test.YtofanlcjeohcjaaIBk15
import Derived.Test.YtofanlcjeohcjaaIBk07
import Derived.KernelRfl
import Derived.Test.YtofanlcjeohcjaaIBk19
import Derived.Test.YtofanlcjeohcjaaIBk18
noncomputable section
namespace Go.Proofs.Ytofanlcjeohcjaa.Am
open Go.RowKit
def BL:Nat:=Ba Try.f43
abbrev Kt:Nat:=65
def Gv_:Code:=Try.f43.body.getD .skip
theorem IX:envS.fn.get 43=some Try.f43:=by kernel_rfl
theorem Ma_ {a0:Value}{n:Nat}{s:St}{Q:Value->St->Prop}(h: ∀tm,T.get tm 0=some a0->W (runF envS n ⟨43,65,BL,tm,[.code Gv_], .run, .normal,none⟩) (s.cxN cxN) λp s1=>Q p.1 (s1.cxN s.cx)):W (Ay envS (runF envS n) 43 [a0]) s Q:=
 W.call (by kernel_rfl) (by kernel_rfl) IX (by kernel_rfl) rfl rfl (by simp) (h _ (by kernel_rfl))
theorem O5:Try.f43.results.toList=[.tmp 2]:=by kernel_rfl
def RI:List Item:=skim 64 [.code Gv_]
def KW:List Item:=skim 64 RI.tail
theorem AdP_:skim 64 RI.tail=KW:=by kernel_rfl
def Oi:List Item:=skim 64 KW.tail
theorem WM_:skim 64 KW.tail=Oi:=by kernel_rfl
def IA:List Item:=skim 64 Oi.tail
theorem AdB_:skim 64 Oi.tail=IA:=by kernel_rfl
def Ih:List Item:=skim 64 IA.tail
theorem Z9:skim 64 IA.tail=Ih:=by kernel_rfl
def Ld:List Item:=skim 64 (brT Ih)
theorem Xp_:skim 64 (brT Ih)=Ld:=by kernel_rfl
def Mv:List Item:=skim 64 (brF Ih)
theorem Abd_:skim 64 (brF Ih)=Mv:=by kernel_rfl
def Lr:List Item:=skim 64 Ld.tail
theorem Yo_:skim 64 Ld.tail=Lr:=by kernel_rfl
def FJ:List Item:=skim 64 Mv.tail
theorem TT:skim 64 Mv.tail=FJ:=by kernel_rfl
def Qm:List Item:=skim 64 Lr.tail
theorem AbI_:skim 64 Lr.tail=Qm:=by kernel_rfl
def MX:List Item:=skim 64 (brT FJ)
theorem AdW_:skim 64 (brT FJ)=MX:=by kernel_rfl
def Lv:List Item:=skim 64 (brF FJ)
theorem OU_:skim 64 (brF FJ)=Lv:=by kernel_rfl
theorem ZI_:skim 64 Qm.tail=IA:=by kernel_rfl
def UP:List Item:=skim 64 MX.tail
theorem KS_:skim 64 MX.tail=UP:=by kernel_rfl
def Is:List Item:=skim 64 Lv.tail
theorem Alm_:skim 64 Lv.tail=Is:=by kernel_rfl
def GL:List Item:=skim 64 Is.tail
theorem Hi_:skim 64 Is.tail=GL:=by kernel_rfl
def MI:List Item:=skim 64 (brT GL)
theorem WD_:skim 64 (brT GL)=MI:=by kernel_rfl
def PJ:List Item:=skim 64 (brF GL)
theorem OF_:skim 64 (brF GL)=PJ:=by kernel_rfl
def NY:List Item:=skim 64 MI.tail
theorem AjX_:skim 64 MI.tail=NY:=by kernel_rfl
def IE:List Item:=skim 64 PJ.tail
theorem KW_:skim 64 PJ.tail=IE:=by kernel_rfl
def IM:List Item:=skim 64 NY.tail
theorem Hf_:skim 64 NY.tail=IM:=by kernel_rfl
def GB:List Item:=skim 64 IE.tail
theorem FE_:skim 64 IE.tail=GB:=by kernel_rfl
def O0:List Item:=skim 64 (brT IM)
theorem AdY_:skim 64 (brT IM)=O0:=by kernel_rfl
def Sm:List Item:=skim 64 (brF IM)
theorem Ajr_:skim 64 (brF IM)=Sm:=by kernel_rfl
def MD:List Item:=skim 64 (brT GB)
theorem Aki_:skim 64 (brT GB)=MD:=by kernel_rfl
def Pq:List Item:=skim 64 (brF GB)
theorem TH_:skim 64 (brF GB)=Pq:=by kernel_rfl
def Sr:List Item:=skim 64 O0.tail
theorem AfR_:skim 64 O0.tail=Sr:=by kernel_rfl
theorem Ya_:skim 64 Sm.tail=Is:=by kernel_rfl
def JE:List Item:=skim 64 MD.tail
theorem RL_:skim 64 MD.tail=JE:=by kernel_rfl
def TN:List Item:=skim 64 Pq.tail
theorem AiO_:skim 64 Pq.tail=TN:=by kernel_rfl
def Gd:List Item:=skim 64 JE.tail
theorem Qs:skim 64 JE.tail=Gd:=by kernel_rfl
def Lh:List Item:=skim 64 (brT Gd)
theorem Rp_:skim 64 (brT Gd)=Lh:=by kernel_rfl
def Tp:List Item:=skim 64 (brF Gd)
theorem AiG_:skim 64 (brF Gd)=Tp:=by kernel_rfl
def SU:List Item:=skim 64 Lh.tail
theorem QA_:skim 64 Lh.tail=SU:=by kernel_rfl
theorem Aim_:skim 64 Tp.tail=IE:=by kernel_rfl
def Fk_ (E:Env)(call round:Ad)(tm:T Value):M (T Value):=
 mv (some (.int .i64 0)) λv2=>
 setF 2 v2 tm λtm1=>
 M.pure tm1
theorem TT_:RegEq 43 65 BL RI Fk_:=⟨by kernel_rfl,λ_ _ _ _ _ _ _ _ _=>by kernel_rfl⟩
def Fx_ (E:Env)(call round:Ad)(tm:T Value):M (T Value):=
 mv (some (.int .i64 0)) λv3=>
 setF 3 v3 tm λtm1=>
 M.pure tm1
theorem KY_:RegEq 43 65 BL KW Fx_:=⟨by kernel_rfl,λ_ _ _ _ _ _ _ _ _=>by kernel_rfl⟩
def XM (E:Env)(call round:Ad)(tm:T Value):M (T Value):=
 mv (T.get tm 0) λv10=>
 setF 10 v10 tm λtm1=>
 M.bind (oS (seqO [(some v10)]) λl=>A6 E .len [55] l) λv11=>
 setF 11 v11 tm1 λtm2=>
 mv (some (.int .i64 0)) λv12=>
 setF 12 v12 tm2 λtm3=>
 M.pure tm3
theorem AdM_:RegEq 43 65 BL Oi XM:=⟨by kernel_rfl,λ_ _ _ _ _ _ _ _ _=>by kernel_rfl⟩
def Ri (E:Env)(call round:Ad)(tm:T Value):M (T Value):=
 M.bind (oS (T.get tm 12) λa=>oS (T.get tm 11) λb=>Cl.get (aBin E .lss 3 (.tmp 12) (.tmp 11)) a b) λv13=>
 setF 13 v13 tm λtm1=>
 M.pure tm1
theorem W3:RegEq 43 65 BL IA Ri:=⟨by kernel_rfl,λ_ _ _ _ _ _ _ _ _=>by kernel_rfl⟩
theorem Yi:A5 Ih=some 13:=by kernel_rfl
def VK (E:Env)(call round:Ad)(tm:T Value):M (T Value):=
 M.bind (oS (T.get tm 10) λa=>oS (T.get tm 12) λb=>Bt E 55 a b) λv14=>
 M.bind (oS (some v14) λa=>AD E 85 a) λv15=>
 M.bind (BV E 85) λv5=>
 setF 5 v5 tm λtm1=>
 M.bind (oS (some v5) λa=>oS (some v15) λb=>Bo E 85 a b) λ_=>
 M.pure tm1
theorem AeR_:RegEq 43 65 BL Ld VK:=⟨by kernel_rfl,λ_ _ _ _ _ _ _ _ _=>by kernel_rfl⟩
def Gy_ (E:Env)(call round:Ad)(tm:T Value):M (T Value):=
 mv (T.get tm 0) λv22=>
 M.bind (oS (seqO [(some v22)]) λl=>A6 E .len [55] l) λv23=>
 M.bind (oS (some v23) λa=>oS (some (.int .i64 500)) λb=>Cl.get (aBin E .gtr 3 (.tmp 23) (.const (.int .i64 500))) a b) λv24=>
 mv (some v24) λv25=>
 M.bind (M.chk (isK v25) (aC (isB v25 false) (oS (T.get tm 3) λa=>M.pure a) (M.pure undef))) λv26=>
 M.bind (M.chk (isK v25) (aC (isB v25 false) (oS (some v26) λa=>oS (some (.int .i64 20000)) λb=>Cl.get (aBin E .gtr 3 (.tmp 26) (.const (.int .i64 20000))) a b) (M.pure undef))) λv27=>
 M.bind (M.on (some v25) λa=>M.on (some (.bool true)) λb=>M.on (some v27) λc=>Bp a b c) λv28=>
 setF 28 v28 tm λtm1=>
 M.pure tm1
theorem AaK_:RegEq 43 65 BL Mv Gy_:=⟨by kernel_rfl,λ_ _ _ _ _ _ _ _ _=>by kernel_rfl⟩
def Hk_ (E:Env)(call round:Ad)(tm:T Value):M (T Value):=
 mv (T.get tm 3) λv16=>
 M.bind (oS (T.get tm 5) λa=>kFld E 85 a 2) λv17=>
 M.bind (oS (some v17) λa=>AD E 36 a) λv18=>
 M.bind (oS (seqO [(some v18)]) λl=>A6 E .len [36] l) λv19=>
 M.bind (oS (some v16) λa=>oS (some v19) λb=>Cl.get (aBin E .add 3 (.tmp 16) (.tmp 19)) a b) λv20=>
 mv (some v20) λv3=>
 setF 3 v3 tm λtm1=>
 M.pure tm1
theorem AeX_:RegEq 43 65 BL Lr Hk_:=⟨by kernel_rfl,λ_ _ _ _ _ _ _ _ _=>by kernel_rfl⟩
theorem Eq_:A5 FJ=some 28:=by kernel_rfl
def Zi (E:Env)(call round:Ad)(tm:T Value):M (T Value):=
 M.bind (oS (T.get tm 12) λa=>oS (some (.int .i64 1)) λb=>Cl.get (aBin E .add 3 (.tmp 12) (.const (.int .i64 1))) a b) λv21=>
 mv (some v21) λv12=>
 setF 12 v12 tm λtm1=>
 M.pure tm1
theorem Aji_:RegEq 43 65 BL Qm Zi:=⟨by kernel_rfl,λ_ _ _ _ _ _ _ _ _=>by kernel_rfl⟩
def Ja_ (E:Env)(call round:Ad)(tm:T Value):M (T Value):=
 mv (some (.int .i64 3)) λv2=>
 setF 2 v2 tm λtm1=>
 M.pure tm1
theorem UJ_:RegEq 43 65 BL MX Ja_:=⟨by kernel_rfl,λ_ _ _ _ _ _ _ _ _=>by kernel_rfl⟩
def Fu_ (E:Env)(call round:Ad)(tm:T Value):M (T Value):=
 mv (T.get tm 0) λv29=>
 setF 29 v29 tm λtm1=>
 M.bind (oS (seqO [(some v29)]) λl=>A6 E .len [55] l) λv30=>
 setF 30 v30 tm1 λtm2=>
 mv (some (.int .i64 0)) λv31=>
 setF 31 v31 tm2 λtm3=>
 M.pure tm3
theorem AhJ_:RegEq 43 65 BL Lv Fu_:=⟨by kernel_rfl,λ_ _ _ _ _ _ _ _ _=>by kernel_rfl⟩
theorem Abb_: ∃k,UP= .code .ret::k:=⟨UP.tail,by kernel_rfl⟩
def UN (E:Env)(call round:Ad)(tm:T Value):M (T Value):=
 M.bind (oS (T.get tm 31) λa=>oS (T.get tm 30) λb=>Cl.get (aBin E .lss 3 (.tmp 31) (.tmp 30)) a b) λv32=>
 setF 32 v32 tm λtm1=>
 M.pure tm1
theorem Gk_:RegEq 43 65 BL Is UN:=⟨by kernel_rfl,λ_ _ _ _ _ _ _ _ _=>by kernel_rfl⟩
theorem CS_:A5 GL=some 32:=by kernel_rfl
def FI_ (E:Env)(call round:Ad)(tm:T Value):M (T Value):=
 M.bind (oS (T.get tm 29) λa=>oS (T.get tm 31) λb=>Bt E 55 a b) λv33=>
 M.bind (oS (some v33) λa=>AD E 85 a) λv34=>
 M.bind (BV E 85) λv7=>
 setF 7 v7 tm λtm1=>
 M.bind (oS (some v7) λa=>oS (some v34) λb=>Bo E 85 a b) λ_=>
 M.pure tm1
theorem SI_:RegEq 43 65 BL MI FI_:=⟨by kernel_rfl,λ_ _ _ _ _ _ _ _ _=>by kernel_rfl⟩
def Kl_ (E:Env)(call round:Ad)(tm:T Value):M (T Value):=
 mv (T.get tm 0) λv39=>
 setF 39 v39 tm λtm1=>
 M.bind (oS (seqO [(some v39)]) λl=>A6 E .len [55] l) λv40=>
 setF 40 v40 tm1 λtm2=>
 mv (some (.int .i64 0)) λv41=>
 setF 41 v41 tm2 λtm3=>
 M.pure tm3
theorem AeS_:RegEq 43 65 BL PJ Kl_:=⟨by kernel_rfl,λ_ _ _ _ _ _ _ _ _=>by kernel_rfl⟩
def ZA (E:Env)(call round:Ad)(tm:T Value):M (T Value):=
 M.bind (oS (T.get tm 7) λa=>AD E 85 a) λv35=>
 M.bind (M.on (some (.func (.func 94) #[] #[])) λf=>M.on (seqO [(some v35)]) λl=>AW call round f l) λv36=>
 M.bind (oS (some v36) λa=>kUn E.P .not a) λv37=>
 setF 37 v37 tm λtm1=>
 M.pure tm1
theorem Ry_:RegEq 43 65 BL NY ZA:=⟨by kernel_rfl,λ_ _ _ _ _ _ _ _ _=>by kernel_rfl⟩
def U0 (E:Env)(call round:Ad)(tm:T Value):M (T Value):=
 M.bind (oS (T.get tm 41) λa=>oS (T.get tm 40) λb=>Cl.get (aBin E .lss 3 (.tmp 41) (.tmp 40)) a b) λv42=>
 setF 42 v42 tm λtm1=>
 M.pure tm1
theorem Gc_:RegEq 43 65 BL IE U0:=⟨by kernel_rfl,λ_ _ _ _ _ _ _ _ _=>by kernel_rfl⟩
theorem Kg_:A5 IM=some 37:=by kernel_rfl
theorem IQ_:A5 GB=some 42:=by kernel_rfl
def Ir_ (E:Env)(call round:Ad)(tm:T Value):M (T Value):=
 mv (some (.int .i64 5)) λv2=>
 setF 2 v2 tm λtm1=>
 M.pure tm1
theorem LU_:RegEq 43 65 BL O0 Ir_:=⟨by kernel_rfl,λ_ _ _ _ _ _ _ _ _=>by kernel_rfl⟩
def CX_ (E:Env)(call round:Ad)(tm:T Value):M (T Value):=
 M.bind (oS (T.get tm 31) λa=>oS (some (.int .i64 1)) λb=>Cl.get (aBin E .add 3 (.tmp 31) (.const (.int .i64 1))) a b) λv38=>
 mv (some v38) λv31=>
 setF 31 v31 tm λtm1=>
 M.pure tm1
theorem Zs_:RegEq 43 65 BL Sm CX_:=⟨by kernel_rfl,λ_ _ _ _ _ _ _ _ _=>by kernel_rfl⟩
def VP (E:Env)(call round:Ad)(tm:T Value):M (T Value):=
 mv (T.get tm 41) λv43=>
 M.bind (oS (T.get tm 39) λa=>oS (T.get tm 41) λb=>Bt E 55 a b) λv44=>
 M.bind (oS (some v44) λa=>AD E 85 a) λv45=>
 M.bind (BV E 85) λv9=>
 setF 9 v9 tm λtm1=>
 mv (some v43) λv8=>
 setF 8 v8 tm1 λtm2=>
 M.bind (oS (some v9) λa=>oS (some v45) λb=>Bo E 85 a b) λ_=>
 M.pure tm2
theorem Zo_:RegEq 43 65 BL MD VP:=⟨by kernel_rfl,λ_ _ _ _ _ _ _ _ _=>by kernel_rfl⟩
def Jx_ (E:Env)(call round:Ad)(tm:T Value):M (T Value):=
 mv (some (.int .i64 0)) λv2=>
 setF 2 v2 tm λtm1=>
 M.pure tm1
theorem Abc_:RegEq 43 65 BL Pq Jx_:=⟨by kernel_rfl,λ_ _ _ _ _ _ _ _ _=>by kernel_rfl⟩
theorem TA_: ∃k,Sr= .code .ret::k:=⟨Sr.tail,by kernel_rfl⟩
def YY (E:Env)(call round:Ad)(tm:T Value):M ((Rho×T Value)×List OpLog):=
 M.bind (apartO (oS (T.get tm 8) λa=>M.pure a)) λp0=>
 M.bind (apartO (oS (some p0.1) λa=>oS (some (.int .i64 0)) λb=>Cl.get (aBin E .gtr 3 (.tmp 46) (.const (.int .i64 0))) a b)) λp1=>
 M.bind (apartO (oS (some p1.1) λa=>M.pure a)) λp2=>
 M.bind (apartO (M.chk (isK p2.1) (aC (isB p2.1 true) (oS (T.get tm 9) λa=>kFld E 85 a 0) (M.pure undef)))) λp3=>
 M.bind (apartO (M.chk (isK p2.1) (aC (isB p2.1 true) (oS (some p3.1) λa=>AD E 3 a) (M.pure undef)))) λp4=>
 M.bind (apartO (M.chk (isK p2.1) (aC (isB p2.1 true) (oS (T.get tm 0) λa=>M.pure a) (M.pure undef)))) λp5=>
 M.bind (apartO (M.chk (isK p2.1) (aC (isB p2.1 true) (oS (T.get tm 8) λa=>M.pure a) (M.pure undef)))) λp6=>
 M.bind (apartO (M.chk (isK p2.1) (aC (isB p2.1 true) (oS (some p6.1) λa=>oS (some (.int .i64 1)) λb=>Cl.get (aBin E .sub 3 (.tmp 52) (.const (.int .i64 1))) a b) (M.pure undef)))) λp7=>
 M.bind (apartO (M.chk (isK p2.1) (aC (isB p2.1 true) (oS (some p5.1) λa=>oS (some p7.1) λb=>Bt E 55 a b) (M.pure undef)))) λp8=>
 M.bind (apartO (M.chk (isK p2.1) (aC (isB p2.1 true) (oS (some p8.1) λa=>kFld E 85 a 0) (M.pure undef)))) λp9=>
 M.bind (apartO (M.chk (isK p2.1) (aC (isB p2.1 true) (oS (some p9.1) λa=>AD E 3 a) (M.pure undef)))) λp10=>
 M.bind (apartO (M.chk (isK p2.1) (aC (isB p2.1 true) (oS (some p4.1) λa=>oS (some p10.1) λb=>Cl.get (aBin E .leq 3 (.tmp 50) (.tmp 56)) a b) (M.pure undef)))) λp11=>
 M.bind (apartO (M.on (some p2.1) λa=>M.on (some p11.1) λb=>M.on (some (.bool false)) λc=>Bp a b c)) λp12=>
 M.bind (apartO (oS (some p12.1) λa=>M.pure a)) λp13=>
 M.bind (apartO (M.chk (isK p13.1) (aC (isB p13.1 false) (oS (T.get tm 9) λa=>AD E 85 a) (M.pure undef)))) λp14=>
 M.bind (apartO (M.chk (isK p13.1) (aC (isB p13.1 false) (M.on (some (.func (.func 95) #[] #[])) λf=>M.on (seqO [(some p14.1)]) λl=>AW call round f l) (M.pure undef)))) λp15=>
 M.bind (apartO (M.chk (isK p13.1) (aC (isB p13.1 false) (oS (some p15.1) λa=>kUn E.P .not a) (M.pure undef)))) λp16=>
 M.pure (([p16.1,p15.1,p14.1,p13.1,p12.1,p11.1,p10.1,p9.1,p8.1,p7.1,p6.1,p5.1,p4.1,p3.1,p2.1,p1.1,p0.1],tm),[p16.2,p15.2,p14.2,p13.2,p12.2,p11.2,p10.2,p9.2,p8.2,p7.2,p6.2,p5.2,p4.2,p3.2,p2.2,p1.2,p0.2])
theorem Lg_:DrawEq 43 65 BL JE [0,1,3,7,15,7,7,71,231,487,999,2047,4095,8191,16383,32767,65535,131071] YY:=⟨by kernel_rfl,by kernel_rfl,λ_ _ _ _ _ _ _ _ _=>by kernel_rfl⟩
theorem UD (E:Env)(call round:Ad)(x46 x47 x48 x49 x50 x51 x52 x53 x54 x55 x56 x57 x58 x59 x60 x61 x62:Value)(tm:T Value)(s:St):Bm call round (BM E BL 65 (hdC JE)) [x62,x61,x60,x59,x58,x57,x56,x55,x54,x53,x52,x51,x50,x49,x48,x47,x46] tm s=(M.bind (M.on (some x59) λa=>M.on (some (.bool true)) λb=>M.on (some x62) λc=>Bp a b c) λv63=>setT 63 v63 tm λtm1=>M.pure tm1) s:=by kernel_rfl
theorem Qv_: ∃k,TN= .code .ret::k:=⟨TN.tail,by kernel_rfl⟩
theorem XX:A5 Gd=some 63:=by kernel_rfl
def Es_ (E:Env)(call round:Ad)(tm:T Value):M (T Value):=
 mv (some (.int .i64 2)) λv2=>
 setF 2 v2 tm λtm1=>
 M.pure tm1
theorem Wj_:RegEq 43 65 BL Lh Es_:=⟨by kernel_rfl,λ_ _ _ _ _ _ _ _ _=>by kernel_rfl⟩
def AV_ (E:Env)(call round:Ad)(tm:T Value):M (T Value):=
 M.bind (oS (T.get tm 41) λa=>oS (some (.int .i64 1)) λb=>Cl.get (aBin E .add 3 (.tmp 41) (.const (.int .i64 1))) a b) λv64=>
 mv (some v64) λv41=>
 setF 41 v41 tm λtm1=>
 M.pure tm1
theorem Ahu_:RegEq 43 65 BL Tp AV_:=⟨by kernel_rfl,λ_ _ _ _ _ _ _ _ _=>by kernel_rfl⟩
theorem AgO_: ∃k,SU= .code .ret::k:=⟨SU.tail,by kernel_rfl⟩
def Kw:Nat:=Ba Try.f94
abbrev YS_:Nat:=29
def Be_:Code:=Try.f94.body.getD .skip
theorem WI:envS.fn.get 94=some Try.f94:=by kernel_rfl
theorem MA_ {a0:Value}{n:Nat}{s:St}{Q:Value->St->Prop}(h: ∀tm,T.get tm 0=some a0->W (runF envS n ⟨94,29,Kw,tm,[.code Be_], .run, .normal,none⟩) (s.cxN cxN) λp s1=>Q p.1 (s1.cxN s.cx)):W (Ay envS (runF envS n) 94 [a0]) s Q:=
 W.call (by kernel_rfl) (by kernel_rfl) WI (by kernel_rfl) rfl rfl (by simp) (h _ (by kernel_rfl))
theorem AaX_:Try.f94.results.toList=[.tmp 2]:=by kernel_rfl
def Tr:List Item:=skim 64 [.code Be_]
def N0:List Item:=skim 64 Tr.tail
theorem Nc_:skim 64 Tr.tail=N0:=by kernel_rfl
def J9:List Item:=skim 64 N0.tail
theorem SB_:skim 64 N0.tail=J9:=by kernel_rfl
def RY:List Item:=skim 64 J9.tail
theorem AaD_:skim 64 J9.tail=RY:=by kernel_rfl
def Yx (E:Env)(call round:Ad)(tm:T Value):M (T Value):=
 M.bind (oS (T.get tm 0) λa=>kBox a) λv1=>
 setF 1 v1 tm λtm1=>
 mv (some (.bool false)) λv2=>
 setF 2 v2 tm1 λtm2=>
 M.pure tm2
theorem Vd_:RegEq 94 29 Kw Tr Yx:=⟨by kernel_rfl,λ_ _ _ _ _ _ _ _ _=>by kernel_rfl⟩
def Fb_ (E:Env)(call round:Ad)(tm:T Value):M (T Value):=
 M.bind (oS (T.get tm 1) λa=>kFld E 85 a 2) λv4=>
 M.bind (oS (some v4) λa=>AD E 36 a) λv5=>
 M.bind (M.on (some (.func (.func 126) #[] #[])) λf=>M.on (seqO [(some v5),(some (.func (.func 127) #[] #[]))]) λl=>AW call round f l) λv6=>
 mv (some v6) λv3=>
 setF 3 v3 tm λtm1=>
 M.pure tm1
theorem Tx_:RegEq 94 29 Kw N0 Fb_:=⟨by kernel_rfl,λ_ _ _ _ _ _ _ _ _=>by kernel_rfl⟩
def JQ_ (E:Env)(call round:Ad)(tm:T Value):M (T Value):=
 M.bind (oS (T.get tm 1) λa=>kFld E 85 a 0) λv7=>
 M.bind (oS (some v7) λa=>AD E 3 a) λv8=>
 M.bind (oS (some v8) λa=>oS (some (.int .i64 1)) λb=>Cl.get (aBin E .geq 3 (.tmp 8) (.const (.int .i64 1))) a b) λv9=>
 mv (some v9) λv10=>
 M.bind (M.chk (isK v10) (aC (isB v10 true) (oS (T.get tm 1) λa=>kFld E 85 a 0) (M.pure undef))) λv11=>
 M.bind (M.chk (isK v10) (aC (isB v10 true) (oS (some v11) λa=>AD E 3 a) (M.pure undef))) λv12=>
 M.bind (M.chk (isK v10) (aC (isB v10 true) (oS (some v12) λa=>oS (some (.int .i64 999999)) λb=>Cl.get (aBin E .leq 3 (.tmp 12) (.const (.int .i64 999999))) a b) (M.pure undef))) λv13=>
 M.bind (M.on (some v10) λa=>M.on (some v13) λb=>M.on (some (.bool false)) λc=>Bp a b c) λv14=>
 mv (some v14) λv15=>
 M.bind (M.chk (isK v15) (aC (isB v15 true) (oS (T.get tm 1) λa=>kFld E 85 a 1) (M.pure undef))) λv16=>
 M.bind (M.chk (isK v15) (aC (isB v15 true) (oS (some v16) λa=>AD E 3 a) (M.pure undef))) λv17=>
 M.bind (M.chk (isK v15) (aC (isB v15 true) (oS (some v17) λa=>oS (some (.int .i64 0)) λb=>Cl.get (aBin E .geq 3 (.tmp 17) (.const (.int .i64 0))) a b) (M.pure undef))) λv18=>
 M.bind (M.on (some v15) λa=>M.on (some v18) λb=>M.on (some (.bool false)) λc=>Bp a b c) λv19=>
 mv (some v19) λv20=>
 M.bind (M.chk (isK v20) (aC (isB v20 true) (oS (T.get tm 1) λa=>kFld E 85 a 1) (M.pure undef))) λv21=>
 M.bind (M.chk (isK v20) (aC (isB v20 true) (oS (some v21) λa=>AD E 3 a) (M.pure undef))) λv22=>
 M.bind (M.chk (isK v20) (aC (isB v20 true) (oS (some v22) λa=>oS (some (.int .i64 65536)) λb=>Cl.get (aBin E .leq 3 (.tmp 22) (.const (.int .i64 65536))) a b) (M.pure undef))) λv23=>
 M.bind (M.on (some v20) λa=>M.on (some v23) λb=>M.on (some (.bool false)) λc=>Bp a b c) λv24=>
 mv (some v24) λv25=>
 M.bind (M.chk (isK v25) (aC (isB v25 true) (oS (T.get tm 3) λa=>M.pure a) (M.pure undef))) λv26=>
 M.bind (M.chk (isK v25) (aC (isB v25 true) (oS (some v26) λa=>kUn E.P .not a) (M.pure undef))) λv27=>
 M.bind (M.on (some v25) λa=>M.on (some v27) λb=>M.on (some (.bool false)) λc=>Bp a b c) λv28=>
 mv (some v28) λv2=>
 setF 2 v2 tm λtm1=>
 M.pure tm1
theorem Xi_:RegEq 94 29 Kw J9 JQ_:=⟨by kernel_rfl,λ_ _ _ _ _ _ _ _ _=>by kernel_rfl⟩
theorem AeJ_: ∃k,RY= .code .ret::k:=⟨RY.tail,by kernel_rfl⟩
def Rn:Nat:=Ba Try.f127
def BF_:Code:=Try.f127.body.getD .skip
theorem Vo:envS.fn.get 127=some Try.f127:=by kernel_rfl
theorem Agl_ {a0:Value}{n:Nat}{s:St}{Q:Value->St->Prop}(h: ∀tm,T.get tm 0=some a0->W (runF envS n ⟨127,12,Rn,tm,[.code BF_], .run, .normal,none⟩) (s.cxN cxN) λp s1=>Q p.1 (s1.cxN s.cx)):W (Ay envS (runF envS n) 127 [a0]) s Q:=
 W.call (by kernel_rfl) (by kernel_rfl) Vo (by kernel_rfl) rfl rfl (by simp) (h _ (by kernel_rfl))
theorem WZ:Try.f127.results.toList=[.tmp 2]:=by kernel_rfl
def Ry:List Item:=skim 64 [.code BF_]
def MZ:List Item:=skim 64 Ry.tail
theorem Nz_:skim 64 Ry.tail=MZ:=by kernel_rfl
def Qv:List Item:=skim 64 MZ.tail
theorem HW_:skim 64 MZ.tail=Qv:=by kernel_rfl
def Wc (E:Env)(call round:Ad)(tm:T Value):M (T Value):=
 M.bind (oS (T.get tm 0) λa=>kBox a) λv1=>
 setF 1 v1 tm λtm1=>
 mv (some (.bool false)) λv2=>
 setF 2 v2 tm1 λtm2=>
 M.pure tm2
theorem Adl_:RegEq 127 12 Rn Ry Wc:=⟨by kernel_rfl,λ_ _ _ _ _ _ _ _ _=>by kernel_rfl⟩
def FC_ (E:Env)(call round:Ad)(tm:T Value):M (T Value):=
 M.bind (oS (T.get tm 1) λa=>kFld E 35 a 1) λv3=>
 M.bind (oS (some v3) λa=>AD E 3 a) λv4=>
 M.bind (oS (some v4) λa=>oS (some (.int .i64 0)) λb=>Cl.get (aBin E .lss 3 (.tmp 4) (.const (.int .i64 0))) a b) λv5=>
 mv (some v5) λv6=>
 M.bind (M.chk (isK v6) (aC (isB v6 false) (oS (T.get tm 1) λa=>kFld E 35 a 2) (M.pure undef))) λv7=>
 M.bind (M.chk (isK v6) (aC (isB v6 false) (oS (some v7) λa=>AD E 3 a) (M.pure undef))) λv8=>
 M.bind (M.chk (isK v6) (aC (isB v6 false) (M.on (some (.func (.func 20) #[] #[])) λf=>M.on (seqO [(some v8)]) λl=>AW call round f l) (M.pure undef))) λv9=>
 M.bind (M.chk (isK v6) (aC (isB v6 false) (oS (some v9) λa=>oS (some (.int .i64 0)) λb=>Cl.get (aBin E .eql 3 (.tmp 9) (.const (.int .i64 0))) a b) (M.pure undef))) λv10=>
 M.bind (M.on (some v6) λa=>M.on (some (.bool true)) λb=>M.on (some v10) λc=>Bp a b c) λv11=>
 mv (some v11) λv2=>
 setF 2 v2 tm λtm1=>
 M.pure tm1
theorem Xb_:RegEq 127 12 Rn MZ FC_:=⟨by kernel_rfl,λ_ _ _ _ _ _ _ _ _=>by kernel_rfl⟩
theorem WO: ∃k,Qv= .code .ret::k:=⟨Qv.tail,by kernel_rfl⟩
def TO:Nat:=Ba Try.f126
def Kf_:Code:=Try.f126.body.getD .skip
theorem XC:envS.fn.get 126=some Try.f126:=by kernel_rfl
theorem Mh_ {a0 a1:Value}{n:Nat}{s:St}{Q:Value->St->Prop}(h: ∀tm,T.get tm 0=some a0->T.get tm 1=some a1->W (runF envS n ⟨126,9,TO,tm,[.code Kf_], .run, .normal,none⟩) (s.cxN cxN) λp s1=>Q p.1 (s1.cxN s.cx)):W (Ay envS (runF envS n) 126 [a0,a1]) s Q:=
 W.call (by kernel_rfl) (by kernel_rfl) XC (by kernel_rfl) rfl rfl (by simp) (h _ (by kernel_rfl) (by kernel_rfl))
theorem AcR_:Try.f126.results.toList=[.tmp 4]:=by kernel_rfl
def Ua:List Item:=skim 64 [.code Kf_]
def Lp:List Item:=skim 64 Ua.tail
theorem AaT_:skim 64 Ua.tail=Lp:=by kernel_rfl
def Ru:List Item:=skim 64 Lp.tail
theorem TN_:skim 64 Lp.tail=Ru:=by kernel_rfl
def Ce_ (E:Env)(call round:Ad)(tm:T Value):M (T Value):=
 mv (some (.bool false)) λv4=>
 setF 4 v4 tm λtm1=>
 M.pure tm1
theorem Uq_:RegEq 126 9 TO Ua Ce_:=⟨by kernel_rfl,λ_ _ _ _ _ _ _ _ _=>by kernel_rfl⟩
def Xu (E:Env)(call round:Ad)(tm:T Value):M (T Value):=
 mv (T.get tm 0) λv5=>
 mv (T.get tm 1) λv6=>
 M.bind (M.on (some (.func (.func 144) #[] #[])) λf=>M.on (seqO [(some v5),(some v6)]) λl=>AW call round f l) λv7=>
 M.bind (oS (some v7) λa=>oS (some (.int .i64 0)) λb=>Cl.get (aBin E .geq 3 (.tmp 7) (.const (.int .i64 0))) a b) λv8=>
 mv (some v8) λv4=>
 setF 4 v4 tm λtm1=>
 M.pure tm1
theorem Abp_:RegEq 126 9 TO Lp Xu:=⟨by kernel_rfl,λ_ _ _ _ _ _ _ _ _=>by kernel_rfl⟩
theorem Abw_: ∃k,Ru= .code .ret::k:=⟨Ru.tail,by kernel_rfl⟩
def El:Nat:=Ba Try.f144
abbrev Vl_:Nat:=19
def Dk_:Code:=Try.f144.body.getD .skip
theorem Qk:envS.fn.get 144=some Try.f144:=by kernel_rfl
theorem Afz_ {a0 a1:Value}{n:Nat}{s:St}{Q:Value->St->Prop}(h: ∀tm,T.get tm 0=some a0->T.get tm 1=some a1->W (runF envS n ⟨144,19,El,tm,[.code Dk_], .run, .normal,none⟩) (s.cxN cxN) λp s1=>Q p.1 (s1.cxN s.cx)):W (Ay envS (runF envS n) 144 [a0,a1]) s Q:=
 W.call (by kernel_rfl) (by kernel_rfl) Qk (by kernel_rfl) rfl rfl (by simp) (h _ (by kernel_rfl) (by kernel_rfl))
theorem Cw_:Try.f144.results.toList=[.tmp 4]:=by kernel_rfl
def R7:List Item:=skim 64 [.code Dk_]
def Nl:List Item:=skim 64 R7.tail
theorem Pb_:skim 64 R7.tail=Nl:=by kernel_rfl
def Ia:List Item:=skim 64 Nl.tail
theorem Aiq_:skim 64 Nl.tail=Ia:=by kernel_rfl
def GN:List Item:=skim 64 Ia.tail
theorem IT_:skim 64 Ia.tail=GN:=by kernel_rfl
def Nt:List Item:=skim 64 (brT GN)
theorem Kr_:skim 64 (brT GN)=Nt:=by kernel_rfl
def PT:List Item:=skim 64 (brF GN)
theorem Agv_:skim 64 (brF GN)=PT:=by kernel_rfl
def LS:List Item:=skim 64 Nt.tail
theorem PV_:skim 64 Nt.tail=LS:=by kernel_rfl
def Q9:List Item:=skim 64 PT.tail
theorem Rj_:skim 64 PT.tail=Q9:=by kernel_rfl
def Iy:List Item:=skim 64 LS.tail
theorem YK:skim 64 LS.tail=Iy:=by kernel_rfl
def Oe:List Item:=skim 64 (brT Iy)
theorem Rg_:skim 64 (brT Iy)=Oe:=by kernel_rfl
def R0:List Item:=skim 64 (brF Iy)
theorem Pk_:skim 64 (brF Iy)=R0:=by kernel_rfl
def RH:List Item:=skim 64 Oe.tail
theorem Vt_:skim 64 Oe.tail=RH:=by kernel_rfl
theorem AjY_:skim 64 R0.tail=Ia:=by kernel_rfl
def Hm_ (E:Env)(call round:Ad)(tm:T Value):M (T Value):=
 mv (some (.int .i64 0)) λv4=>
 setF 4 v4 tm λtm1=>
 M.pure tm1
theorem Ua_:RegEq 144 19 El R7 Hm_:=⟨by kernel_rfl,λ_ _ _ _ _ _ _ _ _=>by kernel_rfl⟩
def Ey_ (E:Env)(call round:Ad)(tm:T Value):M (T Value):=
 mv (T.get tm 0) λv6=>
 M.bind (oS (seqO [(some v6)]) λl=>A6 E .len [36] l) λv7=>
 setF 7 v7 tm λtm1=>
 mv (some (.int .i64 0)) λv8=>
 setF 8 v8 tm1 λtm2=>
 M.pure tm2
theorem Alp_:RegEq 144 19 El Nl Ey_:=⟨by kernel_rfl,λ_ _ _ _ _ _ _ _ _=>by kernel_rfl⟩
def UL (E:Env)(call round:Ad)(tm:T Value):M (T Value):=
 M.bind (oS (T.get tm 8) λa=>oS (T.get tm 7) λb=>Cl.get (aBin E .lss 3 (.tmp 8) (.tmp 7)) a b) λv9=>
 setF 9 v9 tm λtm1=>
 M.pure tm1
theorem V3:RegEq 144 19 El Ia UL:=⟨by kernel_rfl,λ_ _ _ _ _ _ _ _ _=>by kernel_rfl⟩
theorem JP_:A5 GN=some 9:=by kernel_rfl
def Yd (E:Env)(call round:Ad)(tm:T Value):M (T Value):=
 mv (T.get tm 8) λv10=>
 mv (some v10) λv5=>
 setF 5 v5 tm λtm1=>
 M.pure tm1
theorem Ahk_:RegEq 144 19 El Nt Yd:=⟨by kernel_rfl,λ_ _ _ _ _ _ _ _ _=>by kernel_rfl⟩
def ZF (E:Env)(call round:Ad)(tm:T Value):M (T Value):=
 mv (some (.int .i64 (-1))) λv4=>
 setF 4 v4 tm λtm1=>
 M.pure tm1
theorem VL_:RegEq 144 19 El PT ZF:=⟨by kernel_rfl,λ_ _ _ _ _ _ _ _ _=>by kernel_rfl⟩
def Id_ (E:Env)(call round:Ad)(tm:T Value):M (T Value):=
 mv (T.get tm 1) λv11=>
 mv (T.get tm 0) λv12=>
 mv (T.get tm 5) λv13=>
 M.bind (oS (some v12) λa=>oS (some v13) λb=>Bt E 36 a b) λv14=>
 M.bind (oS (some v14) λa=>AD E 35 a) λv15=>
 M.bind (M.on (some v11) λf=>M.on (seqO [(some v15)]) λl=>AW call round f l) λv16=>
 setF 16 v16 tm λtm1=>
 M.pure tm1
theorem KP_:RegEq 144 19 El LS Id_:=⟨by kernel_rfl,λ_ _ _ _ _ _ _ _ _=>by kernel_rfl⟩
theorem Aaz_: ∃k,Q9= .code .ret::k:=⟨Q9.tail,by kernel_rfl⟩
theorem Ym:A5 Iy=some 16:=by kernel_rfl
def Xj (E:Env)(call round:Ad)(tm:T Value):M (T Value):=
 mv (T.get tm 5) λv17=>
 mv (some v17) λv4=>
 setF 4 v4 tm λtm1=>
 M.pure tm1
theorem Zm_:RegEq 144 19 El Oe Xj:=⟨by kernel_rfl,λ_ _ _ _ _ _ _ _ _=>by kernel_rfl⟩
def X1 (E:Env)(call round:Ad)(tm:T Value):M (T Value):=
 M.bind (oS (T.get tm 8) λa=>oS (some (.int .i64 1)) λb=>Cl.get (aBin E .add 3 (.tmp 8) (.const (.int .i64 1))) a b) λv18=>
 mv (some v18) λv8=>
 setF 8 v8 tm λtm1=>
 M.pure tm1
theorem Qz_:RegEq 144 19 El R0 X1:=⟨by kernel_rfl,λ_ _ _ _ _ _ _ _ _=>by kernel_rfl⟩
theorem Abm_: ∃k,RH= .code .ret::k:=⟨RH.tail,by kernel_rfl⟩
def C2:Nat:=Ba Try.f95
abbrev CC_:Nat:=35
def Z2:Code:=Try.f95.body.getD .skip
theorem Sg:envS.fn.get 95=some Try.f95:=by kernel_rfl
theorem ZC_ {a0:Value}{n:Nat}{s:St}{Q:Value->St->Prop}(h: ∀tm,T.get tm 0=some a0->W (runF envS n ⟨95,35,C2,tm,[.code Z2], .run, .normal,none⟩) (s.cxN cxN) λp s1=>Q p.1 (s1.cxN s.cx)):W (Ay envS (runF envS n) 95 [a0]) s Q:=
 W.call (by kernel_rfl) (by kernel_rfl) Sg (by kernel_rfl) rfl rfl (by simp) (h _ (by kernel_rfl))
theorem Cj_:Try.f95.results.toList=[.tmp 2]:=by kernel_rfl
def S0:List Item:=skim 64 [.code Z2]
def OW:List Item:=skim 64 S0.tail
theorem Zi_:skim 64 S0.tail=OW:=by kernel_rfl
def LW:List Item:=skim 64 OW.tail
theorem AdZ_:skim 64 OW.tail=LW:=by kernel_rfl
def GH:List Item:=skim 64 LW.tail
theorem RE_:skim 64 LW.tail=GH:=by kernel_rfl
def IN:List Item:=skim 64 GH.tail
theorem Wb:skim 64 GH.tail=IN:=by kernel_rfl
def PR:List Item:=skim 64 (brT IN)
theorem Ln_:skim 64 (brT IN)=PR:=by kernel_rfl
def NB:List Item:=skim 64 (brF IN)
theorem Afj_:skim 64 (brF IN)=NB:=by kernel_rfl
def JP:List Item:=skim 64 PR.tail
theorem Oo_:skim 64 PR.tail=JP:=by kernel_rfl
def Sx:List Item:=skim 64 NB.tail
theorem UI_:skim 64 NB.tail=Sx:=by kernel_rfl
def Gc:List Item:=skim 64 JP.tail
theorem Ig_:skim 64 JP.tail=Gc:=by kernel_rfl
def K5:List Item:=skim 64 (brT Gc)
theorem Qs_:skim 64 (brT Gc)=K5:=by kernel_rfl
def Ju:List Item:=skim 64 (brF Gc)
theorem AkH_:skim 64 (brF Gc)=Ju:=by kernel_rfl
def QS:List Item:=skim 64 K5.tail
theorem Tj_:skim 64 K5.tail=QS:=by kernel_rfl
def Qo:List Item:=skim 64 Ju.tail
theorem RO_:skim 64 Ju.tail=Qo:=by kernel_rfl
theorem Yd_:skim 64 Qo.tail=GH:=by kernel_rfl
def Yg (E:Env)(call round:Ad)(tm:T Value):M (T Value):=
 M.bind (oS (T.get tm 0) λa=>kBox a) λv1=>
 setF 1 v1 tm λtm1=>
 mv (some (.bool false)) λv2=>
 setF 2 v2 tm1 λtm2=>
 M.pure tm2
theorem Ku_:RegEq 95 35 C2 S0 Yg:=⟨by kernel_rfl,λ_ _ _ _ _ _ _ _ _=>by kernel_rfl⟩
def YZ (E:Env)(call round:Ad)(tm:T Value):M (T Value):=
 mv (some (.int .i64 0)) λv3=>
 setF 3 v3 tm λtm1=>
 M.pure tm1
theorem AaC_:RegEq 95 35 C2 OW YZ:=⟨by kernel_rfl,λ_ _ _ _ _ _ _ _ _=>by kernel_rfl⟩
def X8 (E:Env)(call round:Ad)(tm:T Value):M (T Value):=
 M.bind (oS (T.get tm 1) λa=>kFld E 85 a 2) λv6=>
 M.bind (oS (some v6) λa=>AD E 36 a) λv7=>
 setF 7 v7 tm λtm1=>
 M.bind (oS (seqO [(some v7)]) λl=>A6 E .len [36] l) λv8=>
 setF 8 v8 tm1 λtm2=>
 mv (some (.int .i64 0)) λv9=>
 setF 9 v9 tm2 λtm3=>
 M.pure tm3
theorem WQ_:RegEq 95 35 C2 LW X8:=⟨by kernel_rfl,λ_ _ _ _ _ _ _ _ _=>by kernel_rfl⟩
def Q0 (E:Env)(call round:Ad)(tm:T Value):M (T Value):=
 M.bind (oS (T.get tm 9) λa=>oS (T.get tm 8) λb=>Cl.get (aBin E .lss 3 (.tmp 9) (.tmp 8)) a b) λv10=>
 setF 10 v10 tm λtm1=>
 M.pure tm1
theorem IP_:RegEq 95 35 C2 GH Q0:=⟨by kernel_rfl,λ_ _ _ _ _ _ _ _ _=>by kernel_rfl⟩
theorem Y2:A5 IN=some 10:=by kernel_rfl
def YO (E:Env)(call round:Ad)(tm:T Value):M (T Value):=
 M.bind (oS (T.get tm 7) λa=>oS (T.get tm 9) λb=>Bt E 36 a b) λv11=>
 M.bind (oS (some v11) λa=>AD E 35 a) λv12=>
 M.bind (BV E 35) λv5=>
 setF 5 v5 tm λtm1=>
 M.bind (oS (some v5) λa=>oS (some v12) λb=>Bo E 35 a b) λ_=>
 M.pure tm1
theorem YA_:RegEq 95 35 C2 PR YO:=⟨by kernel_rfl,λ_ _ _ _ _ _ _ _ _=>by kernel_rfl⟩
def IE_ (E:Env)(call round:Ad)(tm:T Value):M (T Value):=
 mv (some (.bool true)) λv2=>
 setF 2 v2 tm λtm1=>
 M.pure tm1
theorem Pw_:RegEq 95 35 C2 NB IE_:=⟨by kernel_rfl,λ_ _ _ _ _ _ _ _ _=>by kernel_rfl⟩
def Ak_ (E:Env)(call round:Ad)(tm:T Value):M ((Rho×T Value)×List OpLog):=
 M.bind (apartO (oS (T.get tm 5) λa=>kFld E 35 a 1)) λp0=>
 M.bind (apartO (oS (some p0.1) λa=>AD E 3 a)) λp1=>
 M.bind (apartO (oS (T.get tm 3) λa=>M.pure a)) λp2=>
 M.bind (apartO (oS (some p1.1) λa=>oS (some p2.1) λb=>Cl.get (aBin E .lss 3 (.tmp 14) (.tmp 15)) a b)) λp3=>
 M.bind (apartO (oS (some p3.1) λa=>M.pure a)) λp4=>
 M.bind (apartO (M.chk (isK p4.1) (aC (isB p4.1 false) (oS (T.get tm 5) λa=>kFld E 35 a 1) (M.pure undef)))) λp5=>
 M.bind (apartO (M.chk (isK p4.1) (aC (isB p4.1 false) (oS (some p5.1) λa=>AD E 3 a) (M.pure undef)))) λp6=>
 M.bind (apartO (M.chk (isK p4.1) (aC (isB p4.1 false) (oS (T.get tm 1) λa=>kFld E 85 a 1) (M.pure undef)))) λp7=>
 M.bind (apartO (M.chk (isK p4.1) (aC (isB p4.1 false) (oS (some p7.1) λa=>AD E 3 a) (M.pure undef)))) λp8=>
 M.bind (apartO (M.chk (isK p4.1) (aC (isB p4.1 false) (oS (T.get tm 5) λa=>kFld E 35 a 2) (M.pure undef)))) λp9=>
 M.bind (apartO (M.chk (isK p4.1) (aC (isB p4.1 false) (oS (some p9.1) λa=>AD E 3 a) (M.pure undef)))) λp10=>
 M.bind (apartO (M.chk (isK p4.1) (aC (isB p4.1 false) (M.on (some (.func (.func 20) #[] #[])) λf=>M.on (seqO [(some p10.1)]) λl=>AW call round f l) (M.pure undef)))) λp11=>
 M.bind (apartO (M.chk (isK p4.1) (aC (isB p4.1 false) (oS (some p8.1) λa=>oS (some p11.1) λb=>Cl.get (aBin E .sub 3 (.tmp 21) (.tmp 24)) a b) (M.pure undef)))) λp12=>
 M.bind (apartO (M.chk (isK p4.1) (aC (isB p4.1 false) (oS (some p6.1) λa=>oS (some p12.1) λb=>Cl.get (aBin E .gtr 3 (.tmp 19) (.tmp 25)) a b) (M.pure undef)))) λp13=>
 M.pure (([p13.1,p12.1,p11.1,p10.1,p9.1,p8.1,p7.1,p6.1,p5.1,p4.1,p3.1,p2.1,p1.1,p0.1],tm),[p13.2,p12.2,p11.2,p10.2,p9.2,p8.2,p7.2,p6.2,p5.2,p4.2,p3.2,p2.2,p1.2,p0.2])
theorem OT_:DrawEq 95 35 C2 JP [0,1,0,7,15,31,63,31,159,31,543,1567,3999,8191,16383] Ak_:=⟨by kernel_rfl,by kernel_rfl,λ_ _ _ _ _ _ _ _ _=>by kernel_rfl⟩
theorem Gl_ (E:Env)(call round:Ad)(x13 x14 x15 x16 x17 x18 x19 x20 x21 x22 x23 x24 x25 x26:Value)(tm:T Value)(s:St):Bm call round (BM E C2 35 (hdC JP)) [x26,x25,x24,x23,x22,x21,x20,x19,x18,x17,x16,x15,x14,x13] tm s=(M.bind (M.on (some x17) λa=>M.on (some (.bool true)) λb=>M.on (some x26) λc=>Bp a b c) λv27=>setT 27 v27 tm λtm1=>M.pure tm1) s:=by kernel_rfl
theorem ZR_: ∃k,Sx= .code .ret::k:=⟨Sx.tail,by kernel_rfl⟩
theorem Wa:A5 Gc=some 27:=by kernel_rfl
def GJ_ (E:Env)(call round:Ad)(tm:T Value):M (T Value):=
 mv (some (.bool false)) λv2=>
 setF 2 v2 tm λtm1=>
 M.pure tm1
theorem Ks_:RegEq 95 35 C2 K5 GJ_:=⟨by kernel_rfl,λ_ _ _ _ _ _ _ _ _=>by kernel_rfl⟩
def FV_ (E:Env)(call round:Ad)(tm:T Value):M ((Rho×T Value)×List OpLog):=
 M.bind (apartO (oS (T.get tm 5) λa=>kFld E 35 a 1)) λp0=>
 M.bind (apartO (oS (some p0.1) λa=>AD E 3 a)) λp1=>
 M.bind (apartO (oS (T.get tm 5) λa=>kFld E 35 a 2)) λp2=>
 M.bind (apartO (oS (some p2.1) λa=>AD E 3 a)) λp3=>
 M.bind (apartO (M.on (some (.func (.func 20) #[] #[])) λf=>M.on (seqO [(some p3.1)]) λl=>AW call round f l)) λp4=>
 M.bind (apartO (oS (some p1.1) λa=>oS (some p4.1) λb=>Cl.get (aBin E .add 3 (.tmp 29) (.tmp 32)) a b)) λp5=>
 M.pure (([p5.1,p4.1,p3.1,p2.1,p1.1,p0.1],tm),[p5.2,p4.2,p3.2,p2.2,p1.2,p0.2])
theorem ZP_:DrawEq 95 35 C2 Ju [0,1,0,4,12,31,63] FV_:=⟨by kernel_rfl,by kernel_rfl,λ_ _ _ _ _ _ _ _ _=>by kernel_rfl⟩
theorem NG_ (E:Env)(call round:Ad)(x28 x29 x30 x31 x32 x33:Value)(tm:T Value)(s:St):Bm call round (BM E C2 35 (hdC Ju)) [x33,x32,x31,x30,x29,x28] tm s=(M.bind (oS (some x33) λa=>M.pure a) λv3=>setT 3 v3 tm λtm1=>M.pure tm1) s:=by kernel_rfl
theorem AcL_: ∃k,QS= .code .ret::k:=⟨QS.tail,by kernel_rfl⟩
def XJ (E:Env)(call round:Ad)(tm:T Value):M (T Value):=
 M.bind (oS (T.get tm 9) λa=>oS (some (.int .i64 1)) λb=>Cl.get (aBin E .add 3 (.tmp 9) (.const (.int .i64 1))) a b) λv34=>
 mv (some v34) λv9=>
 setF 9 v9 tm λtm1=>
 M.pure tm1
theorem Zl_:RegEq 95 35 C2 Qo XJ:=⟨by kernel_rfl,λ_ _ _ _ _ _ _ _ _=>by kernel_rfl⟩
def oddH (h:HdI):Bool:=decide (h.2.1<0)||decide (BY h.2.2=0)
theorem Qn_ {n:Nat}{h:HdI}{s:St}{Q:Value->St->Prop}(hb:s.lim<=s.next)(h16:h.1.length=16)(hn:40<=n)(q: ∀s1,Ext Any Non s s1->Q (.bool (oddH h)) s1):W (Ay envS (runF envS n) 127 [.agg (A9 h).toArray]) s Q:=by
 refine Agl_ λtm h0=> ?_
 refine Adl_.w rfl (by omega) ?_
 simp only[Wc,Ac,W_oS,Aa,W_mv,Ab,h0]
 refine W.box λsa na xa oa=> ?_
 rw[Dx]at oa
 have oa':AC sa s.next 0 (A9 h):=oa
 refine Xb_.w Nz_ (by omega) ?_
 have o16:=oa' 16 _ (IW h16).1
 have o17:=oa' 17 _ (IW h16).2
 simp only[FC_,Ac,W_oS,W_on,Aa,W_mv,Ab,aA,Ag,Af,Ae,Nat.reduceEqDiff, ↓reduceIte,A8 M5 (by decide)]
 refine aD Be o16.at' ?_
 have x1:Ext Any Non (s.cxN cxN) (sa.rdN (s.next+(0+16))):=(xa.any hb).thenRd hb _
 by_cases h1:h.2.1<0
 ·simp only[Aa,Ai,As,Ak,Aq,Aj, ↓reduceIte,Bg,h1,decide_true]
  refine aG (rs:=[2]) (vs:=[.bool true]) HW_ (.inl WO) (by omega) Vo WZ x1.cx (by simp[aA]) ?_
  have:=q _ x1.cx'
  unfold oddH at this
  rw[decide_eq_true h1,Bool.true_or]at this
  exact this
 ·simp only[W_oS,W_on,Ah,Ai,An,Ak,Al,Aj,reduceCtorEq, ↓reduceIte,Bg,h1,decide_false,A8 Rj (by decide)]
  refine aD Be (o17.same rfl rfl).at' ?_
  have x2:Ext Any Non (s.cxN cxN) ((sa.rdN (s.next+(0+16))).rdN (s.next+(0+17))):=x1.thenRd hb _
  refine Sf _ (by omega) ?_
  try simp only[EU]
  refine aG (rs:=[2]) (vs:=[.bool (decide (BY h.2.2=0))]) HW_ (.inl WO) (by omega) Vo WZ x2.cx (by simp[aA]) ?_
  have:=q _ x2.cx'
  unfold oddH at this
  rw[decide_eq_false h1,Bool.false_or]at this
  exact this
theorem As_ {α:Type}{l:List α}{p:α->Bool}{i:Nat}(hi:i<l.length):(l.take (i+1)).any p=((l.take i).any p||p l[i]):=by
 rw[List.take_succ_eq_append_getElem hi,List.any_append]
 simp
theorem Aha_ {α:Type}{l:List α}{p:α->Bool}{i:Nat}(h:(l.take i).any p=true):l.any p=true:=by
 rw[List.any_eq_true]at h ⊢
 obtain⟨x,h1,h2⟩:=h
 exact⟨x,List.mem_of_mem_take h1,h2⟩
theorem Ake_ {v:Value}{hs:List HdI}{Q:Value×FrameMode->St->Prop}{s0:St}(hb0:s0.lim<=s0.next)(hr:HiR s0 v hs)(h16: ∀h∈hs,h.1.length=16)(hz:hs.length<=9223372036854775807)(hcx:s0.cx=cxN)
  (q: ∀s1 (r:Int),Ext Any Non s0 s1->decide (0<=r)=hs.any oddH->Q (.int .i64 r, .run) s1):
  ∀(k i n:Nat) (tm:T Value) (s:St) (td:List Item),i+k=hs.length->10*k+100<=n->skim 64 td=Ia->Ext Any Non s0 s->(hs.take i).any oddH=false->
  T.get tm 0=some v->T.get tm 1=some (.func (.func 127) #[] #[])->T.get tm 7=some (.int .i64 (hs.length:Nat))->T.get tm 8=some (.int .i64 (i:Nat))->
  W (runF envS n ⟨144,Vl_,El,tm,td, .run, .normal,none⟩) s Q:=by
 intro k
 induction k with
 |zero=>
  intro i n tm s td hi hn hT hx ha h0 h1 h7 h8
  refine V3.w hT (by omega) ?_
  simp only[UL,Ac,W_oS,Aa,Ab,Bg,h7,h8]
  refine W.cond (v:=false) IT_ JP_ (by simp[aA];omega) (by omega) (λh=>by cases h) λ_=> ?_
  refine VL_.w Agv_ (by omega) ?_
  simp only[ZF,Aa,W_mv,Ab]
  refine aG (rs:=[4]) (vs:=[.int .i64 (-1)]) Rj_ (.inl Aaz_) (by omega) Qk Cw_ (hx.cx.trans hcx) (by simp[aA]) ?_
  refine q s (-1) hx ?_
  rw[show i=hs.length by omega,List.take_length]at ha
  rw[ha]
  rfl
 |succ k ih=>
  intro i n tm s td hi hn hT hx ha h0 h1 h7 h8
  have hil:i<hs.length:=by omega
  have h16i:=h16 _ (List.getElem_mem hil)
  have hb:=hx.bnd hb0
  obtain⟨b,o,c,rfl,ga,fa⟩:=(hr.ext0 hx).at h16 hil
  refine V3.w hT (by omega) ?_
  simp only[UL,Ac,W_oS,Aa,Ab,Bg,h7,h8]
  refine W.cond (v:=true) IT_ JP_ (by simp[aA];omega) (by omega) (λ_=> ?_) λh=>by cases h
  refine Ahk_.w Kr_ (by omega) ?_
  simp only[Yd,Aa,W_mv,Ab,aA,Nat.reduceEqDiff, ↓reduceIte,h8]
  refine KP_.w PV_ (by omega) ?_
  simp only[Id_,Ac,W_oS,W_on,Aa,W_mv,Ab,aA,Ag,Af,Ae,Ah,Nat.reduceEqDiff,reduceCtorEq, ↓reduceIte,h0,h1,BX D5 hil]
  refine aJ Fu ga (C6 h16i) λs1 m1 n1 x1=> ?_
  refine Qn_ (x1.bnd hb) h16i (by omega) λs2 x2=> ?_
  have hx2:Ext Any Non s0 s2:=(hx.then0 x1 hb0).then0 x2 hb0
  cases ho:oddH hs[i]with
  |true=>
   refine W.cond (v:=true) YK Ym (by simp[aA]) (by omega) (λ_=> ?_) λh=>by cases h
   refine Zm_.w Rg_ (by omega) ?_
   simp only[Xj,Aa,W_mv,Ab,aA,Nat.reduceEqDiff, ↓reduceIte]
   refine aG (rs:=[4]) (vs:=[.int .i64 (i:Nat)]) Vt_ (.inl Abm_) (by omega) Qk Cw_ (hx2.cx.trans hcx) (by simp[aA]) ?_
   refine q s2 i hx2 ?_
   have:hs.any oddH=true:=Aha_ (i:=i+1) (by rw[As_ hil,ho,Bool.or_true])
   rw[this,decide_eq_true (by omega)]
  |false=>
   refine W.cond (v:=false) YK Ym (by simp[aA]) (by omega) (λh=>by cases h) λ_=> ?_
   refine Qz_.w Pk_ (by omega) ?_
   have ei:wrap64 ((i:Nat)+1:Int)=((i+1:Nat):Int):=by
    rw[Bq (by omega) (by omega)];simp
   simp only[X1,Ac,W_oS,Aa,W_mv,Ab,aA,Nat.reduceEqDiff, ↓reduceIte,BG,h8,ei]
   exact ih (i+1) _ _ _ _ (by omega) (by omega) AjY_ hx2 (by rw[As_ hil,ho,ha];rfl) (by simp[aA,h0]) (by simp[aA,h1]) (by simp[aA,h7]) (by simp[aA])
theorem Aja_ {n:Nat}{v:Value}{hs:List HdI}{s:St}{Q:Value->St->Prop}(hb:s.lim<=s.next)(hr:HiR s v hs)(h16: ∀h∈hs,h.1.length=16)(hz:hs.length<=9223372036854775807)(hn:10*hs.length+200<=n)(q: ∀s1,Ext Any Non s s1->Q (.bool (hs.any oddH)) s1):
  W (Ay envS (runF envS n) 126 [v, .func (.func 127) #[] #[]]) s Q:=by
 refine Mh_ λtm h0 h1=> ?_
 refine Uq_.w rfl (by omega) ?_
 simp only[Ce_,Aa,W_mv,Ab]
 refine Abp_.w AaT_ (by omega) ?_
 simp only[Xu,Ac,W_oS,W_on,Aa,W_mv,Ab,aA,Ag,Af,Ae,Ah,Nat.reduceEqDiff,reduceCtorEq, ↓reduceIte,h0,h1]
 have hr1:HiR ((s.cxN cxN).cxN cxN) v hs:=hr.same rfl rfl
 refine Afz_ λtm' g0 g1=> ?_
 refine Ua_.w rfl (by omega) ?_
 simp only[Hm_,Aa,W_mv,Ab]
 refine Alp_.w Pb_ (by omega) ?_
 simp only[Ey_,Ac,W_oS,Aa,W_mv,Ab,aA,Ag,Af,Ae,reduceCtorEq, ↓reduceIte,g0]
 rw[hr1.len]
 refine Ake_ (s0:=(s.cxN cxN).cxN cxN) (v:=v) (hs:=hs) hb hr1 h16 hz rfl (λs1 r x1 hrr=> ?_) hs.length 0 _ _ _ _ (by omega) (by omega) Aiq_ (Ext.refl _) rfl (by simp[aA,g0]) (by simp[aA,g1]) (by simp[aA]) (by simp[aA])
 try simp only[Kl]
 refine aG (rs:=[4]) (vs:=[.bool (hs.any oddH)]) TN_ (.inl Abw_) (by omega) XC AcR_ rfl (by simp[aA];exact hrr) ?_
 exact q _ ⟨x1.nxt,x1.lim,rfl,x1.mem,x1.rd,x1.wr⟩
def B1 (p:PkI):Bool:=decide (1<=p.num)&&decide (p.num<=999999)&&decide (0<=p.size)&&decide (p.size<=65536)&& !(p.hs.any oddH)
theorem AgE_ {n:Nat}{p:PkI}{s:St}{Q:Value->St->Prop}(hb:s.lim<=s.next)(hr:HiR s p.v p.hs)(h16: ∀h∈p.hs,h.1.length=16)(hz:p.hs.length<=9223372036854775807)(hn:10*p.hs.length+400<=n)(q: ∀s1,Ext Any Non s s1->Q (.bool (B1 p)) s1):
  W (Ay envS (runF envS n) 94 [.agg (pkC p).toArray]) s Q:=by
 refine MA_ λtm h0=> ?_
 refine Vd_.w rfl (by omega) ?_
 simp only[Yx,Ac,W_oS,Aa,W_mv,Ab,h0]
 refine W.box λsa na xa oa=> ?_
 rw[Dx]at oa
 have oa':AC sa s.next 0 (pkC p):=oa
 have o0:Own sa s.next (0+0) (.int .i64 p.num):=oa' 0 _ rfl
 have o1:Own sa s.next (0+1) (.int .i64 p.size):=oa' 1 _ rfl
 have o2:Own sa s.next (0+2) p.v:=oa' 2 _ rfl
 refine Tx_.w Nc_ (by omega) ?_
 simp only[Fb_,Ac,W_oS,W_on,Aa,W_mv,Ab,aA,Ag,Af,Ae,Ah,Nat.reduceEqDiff, ↓reduceIte,A8 Eg (by decide)]
 refine aD Eo o2.at' ?_
 have x1:Ext Any Non (s.cxN cxN) (sa.rdN (s.next+(0+2))):=(xa.any hb).thenRd hb _
 refine Aja_ (x1.bnd hb) (((hr.same (s':=s.cxN cxN) rfl rfl).ext0 x1)) h16 hz (by omega) λs2 x2=> ?_
 have hx2:Ext Any Non (s.cxN cxN) s2:=x1.then0 x2 hb
 have b0:Own s2 s.next (0+0) (.int .i64 p.num):=(o0.same (s':=sa.rdN (s.next+(0+2))) rfl rfl).ext0 x2
 have b1:Own s2 s.next (0+1) (.int .i64 p.size):=(o1.same (s':=sa.rdN (s.next+(0+2))) rfl rfl).ext0 x2
 refine Xi_.w SB_ (by omega) ?_
 simp only[JQ_,Ac,W_oS,W_on,Aa,W_mv,Ab,aA,Nat.reduceEqDiff, ↓reduceIte,A8 Fr (by decide)]
 refine aD Be b0.at' ?_
 have fin: ∀(s3:St) (tm3:T Value) (r:Bool),Ext Any Non (s.cxN cxN) s3->T.get tm3 2=some (.bool r)->r=B1 p->W (runF envS (n-1-1-1) ⟨94,YS_,Kw,tm3,J9.tail, .run, .normal,none⟩) s3 λp s1=>Q p.1 (s1.cxN s.cx):=λs3 tm3 r x3 hr3 e=>by
  refine aG (rs:=[2]) (vs:=[.bool r]) AaD_ (.inl AeJ_) (by omega) WI AaX_ x3.cx (by simp[hr3]) ?_
  rw[e]
  exact q _ x3.cx'
 have y3:Ext Any Non (s.cxN cxN) (s2.rdN (s.next+(0+0))):=hx2.thenRd hb _
 by_cases c1:(1:Int)<=p.num
 case neg=>
  simp only[Aa,Ai,Au,Ak,Aq,Aj,reduceCtorEq, ↓reduceIte,Kl,c1,decide_false]
  exact fin _ _ false y3 (by simp[aA]) (by unfold B1;rw[decide_eq_false c1];simp)
 simp only[W_oS,Ai,Ap,Ak,Al,Aj, ↓reduceIte,Kl,c1,decide_true,A8 Fr (by decide)]
 refine aD Be (b0.same rfl rfl).at' ?_
 have y4:=y3.thenRd hb (s.next+(0+0))
 by_cases c2:p.num<=999999
 case neg=>
  simp only[Aa,Ai,Au,Ak,Aq,Aj,reduceCtorEq, ↓reduceIte,Gf,c2,decide_false]
  exact fin _ _ false y4 (by simp[aA]) (by unfold B1;rw[decide_eq_false c2];simp)
 simp only[W_oS,Ai,Ap,Ak,Al,Aj, ↓reduceIte,Gf,c2,decide_true,A8 FL (by decide)]
 refine aD Be (b1.same rfl rfl).at' ?_
 have y5:=y4.thenRd hb (s.next+(0+1))
 by_cases c3:(0:Int)<=p.size
 case neg=>
  simp only[Aa,Ai,Au,Ak,Aq,Aj,reduceCtorEq, ↓reduceIte,Kl,c3,decide_false]
  exact fin _ _ false y5 (by simp[aA]) (by unfold B1;rw[decide_eq_false c3];simp)
 simp only[W_oS,Ai,Ap,Ak,Al,Aj, ↓reduceIte,Kl,c3,decide_true,A8 FL (by decide)]
 refine aD Be (b1.same rfl rfl).at' ?_
 have y6:=y5.thenRd hb (s.next+(0+1))
 by_cases c4:p.size<=65536
 case neg=>
  simp only[Aa,Ai,Au,Ak,Aq,Aj,reduceCtorEq, ↓reduceIte,Gf,c4,decide_false]
  exact fin _ _ false y6 (by simp[aA]) (by unfold B1;rw[decide_eq_false c4];simp)
 simp only[W_oS,Aa,Ai,Ap,Ak,Al,Aj, ↓reduceIte,Gf,c4,decide_true,DW]
 exact fin _ _ (!(p.hs.any oddH)) y6 (by simp[aA]) (by unfold B1;rw[decide_eq_true c1,decide_eq_true c2,decide_eq_true c3,decide_eq_true c4];simp)
theorem JI_:D8 envS 35=some (List.replicate 16 (.int .u8 0)++[.int .i64 0, .int .i64 0]):=by kernel_rfl
def B2 (size:Int):Int->List HdI->Bool
 |_,[]=>true
 |e,h::t=>decide (e<=h.2.1)&&decide (h.2.1<=size-BY h.2.2)&&B2 size (h.2.1+BY h.2.2) t
theorem V9 (a:Int):0<=BY a/\BY a<=1050:=by
 unfold BY
 split<;>omega
section
variable {p:PkI}{Q:Value×FrameMode->St->Prop}
theorem AeK_ {B:Nat}{s0:St}(hb0:s0.lim<=s0.next)(hr:HiR s0 p.v p.hs)(h16: ∀h∈p.hs,h.1.length=16)(hz:p.hs.length<=9223372036854775807)(hs0:0<=p.size)(hs1:p.size<=65536)(hodd:p.hs.any oddH=false)(hcx:s0.cx=cxN)(ho:Own s0 B 1 (.int .i64 p.size))
  (q: ∀s1,Ext Any Non s0 s1->Q (.bool (B2 p.size 0 p.hs), .run) s1):
  ∀(k i n:Nat) (e:Int) (tm:T Value) (s:St) (td:List Item),i+k=p.hs.length->20*k+100<=n->skim 64 td=GH->Ext Any Non s0 s->0<=e->e<=70000->B2 p.size 0 p.hs=B2 p.size e (p.hs.drop i)->
  T.get tm 1=some (.pointer (some ⟨B,0,none⟩))->T.get tm 3=some (.int .i64 e)->T.get tm 7=some p.v->T.get tm 8=some (.int .i64 (p.hs.length:Nat))->T.get tm 9=some (.int .i64 (i:Nat))->
  W (runF envS n ⟨95,CC_,C2,tm,td, .run, .normal,none⟩) s Q:=by
 intro k
 induction k with
 |zero=>
  intro i n e tm s td hi hn hT hx he0 he1 hl h1 h3 h7 h8 h9
  refine IP_.w hT (by omega) ?_
  simp only[Q0,Ac,W_oS,Aa,Ab,Bg,h8,h9]
  refine W.cond (v:=false) Wb Y2 (by simp[aA];omega) (by omega) (λh=>by cases h) λ_=> ?_
  refine Pw_.w Afj_ (by omega) ?_
  simp only[IE_,Aa,W_mv,Ab]
  refine aG (rs:=[2]) (vs:=[.bool true]) UI_ (.inl ZR_) (by omega) Sg Cj_ (hx.cx.trans hcx) (by simp[aA]) ?_
  have:=q s hx
  rw[hl,List.drop_of_length_le (by omega)]at this
  exact this
 |succ k ih=>
  intro i n e tm s td hi hn hT hx he0 he1 hl h1 h3 h7 h8 h9
  have hil:i<p.hs.length:=by omega
  have h16i:=h16 _ (List.getElem_mem hil)
  have hb:=hx.bnd hb0
  obtain⟨b,o,c,ev,ga,_⟩:=(hr.ext0 hx).at h16 hil
  have hd:p.hs.drop i=p.hs[i]::p.hs.drop (i+1):=(List.getElem_cons_drop ..).symm
  have hod:oddH p.hs[i]=false:=by
   cases ho:oddH p.hs[i]with
   |false=>rfl
   |true=>
    have:p.hs.any oddH=true:=List.any_eq_true.2 ⟨_,List.getElem_mem hil,ho⟩
    rw[hodd]at this
    cases this
  generalize hh:p.hs[i]=h at *
  have hat:0<=h.2.1:=by
   unfold oddH at hod
   rw[Bool.or_eq_false_iff,decide_eq_false_iff_not]at hod
   omega
  obtain⟨z0,z1⟩:=V9 h.2.2
  refine IP_.w hT (by omega) ?_
  simp only[Q0,Ac,W_oS,Aa,Ab,Bg,h8,h9]
  refine W.cond (v:=true) Wb Y2 (by simp[aA];omega) (by omega) (λ_=> ?_) λh=>by cases h
  refine YA_.w Ln_ (by omega) ?_
  simp only[YO,Ac,W_oS,Aa,Ab,aA,Nat.reduceEqDiff, ↓reduceIte,h7,ev,h9,BX D5 hil]
  refine aJ Fu ga (C6 h16i) λs1 m1 n1 x1=> ?_
  refine W.alloc JI_ λs2 n2 x2 o2=> ?_
  have n2':s2.next=s1.next+19:=n2
  refine W.store Fu (C6 h16i) (Qn h) (λj hj=>AC.owned o2 j (by simpa using hj)) λs3 n3 x3 o3=> ?_
  rw[Dx]at o3
  have xs1:Ext Any Non s0 s1:=hx.then0 x1 hb0
  have hlt0:s0.next<=s1.next:=xs1.nxt
  have xs2:Ext Any Non s0 s2:=xs1.then0 x2 hb0
  have xs3:Ext Any Non s0 s3:=xs2.trans x3 hb0 (λ_ _ _=>trivial) λy hy h=>by
   have h1:=h.1
   omega
  have hb3:=xs3.bnd hb0
  have oB:Own s3 B (0+1) (.int .i64 p.size):=by
   have:=ho.ext xs3 id
   rwa [Nat.zero_add]
  have o16:Own s3 s1.next (0+16) (.int .i64 h.2.1):=o3 16 _ (IW h16i).1
  have o17:Own s3 s1.next (0+17) (.int .i64 h.2.2):=o3 17 _ (IW h16i).2
  generalize hC:s1.next=C at *
  have keep: ∀b o u,Own s3 b o u->At (dSt s3.mem s3.next) b o u:=λb o u hu=>(hu.same (s':=dSt s3.mem s3.next) rfl rfl).at'
  have hsub:wrap64 (p.size-BY h.2.2)=p.size-BY h.2.2:=Bq (by omega) (by omega)
  have after: ∀(n':Nat) (s4:St) (bad:Bool) (tm4:T Value) (td4:List Item),n<=n'+8->skim 64 td4=Gc->Ext Any Non s0 s4->s4.mem=s3.mem->s4.next=s3.next->(bad=true->B2 p.size 0 p.hs=false)->(bad=false->B2 p.size 0 p.hs=B2 p.size (h.2.1+BY h.2.2) (p.hs.drop (i+1))/\h.2.1<=p.size)->
    T.get tm4 27=some (.bool bad)->T.get tm4 1=some (.pointer (some ⟨B,0,none⟩))->T.get tm4 5=some (.pointer (some ⟨C,0,none⟩))->T.get tm4 7=some p.v->T.get tm4 8=some (.int .i64 (p.hs.length:Nat))->T.get tm4 9=some (.int .i64 (i:Nat))->W (runF envS n' ⟨95,CC_,C2,tm4,td4, .run, .normal,none⟩) s4 Q:=by
   intro n' s4 bad tm4 td4 hn' hT4 x4 m4 n4 hb1 hb2 g27 g1 g5 g7 g8 g9
   cases bad with
   |true=>
    refine W.cond (v:=true) hT4 Wa g27 (by omega) (λ_=> ?_) λh=>by cases h
    refine Ks_.w Qs_ (by omega) ?_
    simp only[GJ_,Aa,W_mv,Ab]
    refine aG (rs:=[2]) (vs:=[.bool false]) Tj_ (.inl AcL_) (by omega) Sg Cj_ (x4.cx.trans hcx) (by simp[aA]) ?_
    have:=q s4 x4
    rw[hb1 rfl]at this
    exact this
   |false=>
    obtain⟨hl2,hle⟩:=hb2 rfl
    refine W.cond (v:=false) hT4 Wa g27 (by omega) (λh=>by cases h) λ_=> ?_
    refine ZP_.w AkH_ (by omega) ?_
    have keep4: ∀b o u,Own s3 b o u->At (dSt s4.mem s4.next) b o u:=λb o u hu=>(hu.same (s':=dSt s4.mem s4.next) m4 n4).at'
    simp only[FV_,g5,BW,Dz,Ag,Af,Ae,Mf]
    rw[W_dq λs Q=>A8 (s:=s) M5 (by decide) Q]
    refine aH Be (keep4 _ _ _ o16) λrd1 hr1=> ?_
    rw[W_dq λs Q=>A8 (s:=s) Rj (by decide) Q]
    refine aH Be (keep4 _ _ _ o17) λrd2 hr2=> ?_
    refine W.dop0 (Sf _ (by omega) ⟨rfl, ?_⟩)
    have hadd:wrap64 (h.2.1+BY h.2.2)=h.2.1+BY h.2.2:=Bq (by omega) (by omega)
    rw[W_dq λs Q=>BG (s:=s) _ _,hadd,Aa]
    refine⟨D9 (by simp) (by simp), ?_⟩
    refine W.cast (NG_ _ _ _ _ _ _ _ _ _ _ _) ?_
    try simp only[Ac,W_oS,Aa,Ar]
    generalize hs':(⟨(dSt s4.mem s4.next).mem,(dSt s4.mem s4.next).next,s4.lim,_,_,s4.cx⟩:St)=s5
    have x5:Ext Any Non s0 s5:=by
     rw[<-hs']
     refine x4.then0 (Ext.draw (F:=Any) (Nat.le_refl _) (λ_ _=>rfl) (by simp) λ_ _ _ _ _=>trivial) hb0
    refine Zl_.w RO_ (by omega) ?_
    have ei:wrap64 ((i:Nat)+1:Int)=((i+1:Nat):Int):=by
     rw[Bq (by omega) (by omega)];simp
    simp only[XJ,Ac,W_oS,Aa,W_mv,Ab,aA,Nat.reduceEqDiff, ↓reduceIte,BG,g9,ei]
    exact ih (i+1) _ (h.2.1+BY h.2.2) _ _ _ (by omega) (by omega) Yd_ x5 (by omega) (by omega) hl2 (by simp[aA,g1]) (by simp[aA]) (by simp[aA,g7]) (by simp[aA,g8]) (by simp[aA])
  rw[hd]at hl
  have hlb:B2 p.size e (h::p.hs.drop (i+1))=(decide (e<=h.2.1)&&decide (h.2.1<=p.size-BY h.2.2)&&B2 p.size (h.2.1+BY h.2.2) (p.hs.drop (i+1))):=rfl
  rw[hlb]at hl
  refine OT_.w Oo_ (by omega) ?_
  simp only[Ak_,aA,Nat.reduceEqDiff, ↓reduceIte,h1,h3,BW,Dz,Ag,Af,Ae,Mf]
  rw[W_dq λs Q=>A8 (s:=s) M5 (by decide) Q]
  refine aH Be (keep _ _ _ o16) λrd1 hr1=> ?_
  simp only[Br]
  rw[W_dq λs Q=>Bg (s:=s) _ _]
  by_cases hlt:h.2.1<e
  ·simp only[Br,hlt,decide_true,Ai,EG,As,if_f,Aa]
   refine⟨D9 (by simp) (by simp), ?_⟩
   refine W.cast (Gl_ _ _ _ _ _ _ _ _ _ _ _ _ _ _ _ _ _ _ _) ?_
   try simp only[Ac,W_on,Aa,Ar,Aj, ↓reduceIte]
   refine after _ _ true _ _ (by omega) Ig_ (xs3.then0 (Ext.draw (F:=Any) (Nat.le_refl _) (λ_ _=>rfl) (by simp) λ_ _ _ _ _=>trivial) hb0) rfl rfl (λ_=>by rw[hl,decide_eq_false (by omega)];rfl) (λh=>by cases h) (by simp[aA]) (by simp[aA,h1]) (by simp[aA]) (by simp[aA,h7,ev]) (by simp[aA,h8]) (by simp[aA,h9])
  ·simp only[Br,hlt,decide_false,Ai,EG,An,if_t]
   rw[W_dq λs Q=>A8 (s:=s) M5 (by decide) Q]
   refine aH Be (keep _ _ _ o16) λrd2 hr2=> ?_
   rw[W_dq λs Q=>A8 (s:=s) FL (by decide) Q]
   refine aH Be (keep _ _ _ oB) λrd3 hr3=> ?_
   rw[W_dq λs Q=>A8 (s:=s) Rj (by decide) Q]
   refine aH Be (keep _ _ _ o17) λrd4 hr4=> ?_
   refine W.dop0 (Sf _ (by omega) ⟨rfl, ?_⟩)
   rw[W_dq λs Q=>Ec (s:=s) _ _,hsub]
   dsimp only
   rw[W_dq λs Q=>CT (s:=s) _ _,Aa]
   refine⟨D9 (by simp) (by simp), ?_⟩
   refine W.cast (Gl_ _ _ _ _ _ _ _ _ _ _ _ _ _ _ _ _ _ _ _) ?_
   try simp only[Ac,W_on,Aa,Ar,Aj,reduceCtorEq, ↓reduceIte]
   refine after _ _ (decide (p.size-BY h.2.2<h.2.1)) _ _ (by omega) Ig_ (xs3.then0 (Ext.draw (F:=Any) (Nat.le_refl _) (λ_ _=>rfl) (by simp) λ_ _ _ _ _=>trivial) hb0) rfl rfl (λhq=> ?_) (λhq=> ?_) (by simp[aA]) (by simp[aA,h1]) (by simp[aA]) (by simp[aA,h7,ev]) (by simp[aA,h8]) (by simp[aA,h9])
   ·have hq':=of_decide_eq_true hq
    rw[hl,decide_eq_false (show ¬h.2.1<=p.size-BY h.2.2 by omega)]
    simp
   ·have hq':=of_decide_eq_false hq
    refine⟨?_,by omega⟩
    rw[hl,decide_eq_true (show e<=h.2.1 by omega),decide_eq_true (show h.2.1<=p.size-BY h.2.2 by omega)]
    rfl
theorem Xj_ {n:Nat}{s:St}{Q:Value->St->Prop}(hb:s.lim<=s.next)(hr:HiR s p.v p.hs)(h16: ∀h∈p.hs,h.1.length=16)(hz:p.hs.length<=9223372036854775807)(hok:B1 p=true)(hn:20*p.hs.length+200<=n)(q: ∀s1,Ext Any Non s s1->Q (.bool (B2 p.size 0 p.hs)) s1):
  W (Ay envS (runF envS n) 95 [.agg (pkC p).toArray]) s Q:=by
 unfold B1 at hok
 simp only[Bool.and_eq_true,decide_eq_true_eq,Bool.not_eq_true']at hok
 obtain⟨⟨⟨⟨_,_⟩,c3⟩,c4⟩,c5⟩:=hok
 refine ZC_ λtm h0=> ?_
 refine Ku_.w rfl (by omega) ?_
 simp only[Yg,Ac,W_oS,Aa,W_mv,Ab,h0]
 refine W.box λsa na xa oa=> ?_
 rw[Dx]at oa
 have oa':AC sa s.next 0 (pkC p):=oa
 have o1:Own sa s.next (0+1) (.int .i64 p.size):=oa' 1 _ rfl
 have o2:Own sa s.next (0+2) p.v:=oa' 2 _ rfl
 refine AaC_.w Zi_ (by omega) ?_
 simp only[YZ,Aa,W_mv,Ab]
 refine WQ_.w AdZ_ (by omega) ?_
 simp only[X8,Ac,W_oS,Aa,W_mv,Ab,aA,Ag,Af,Ae,Nat.reduceEqDiff, ↓reduceIte,A8 Eg (by decide)]
 refine aD Eo o2.at' ?_
 have x1:Ext Any Non (s.cxN cxN) (sa.rdN (s.next+(0+2))):=(xa.any hb).thenRd hb _
 have hr1:HiR (sa.rdN (s.next+(0+2))) p.v p.hs:=(hr.same (s':=s.cxN cxN) rfl rfl).ext0 x1
 rw[hr1.len]
 refine AeK_ (p:=p) (B:=s.next) (s0:=sa.rdN (s.next+(0+2))) (x1.bnd hb) hr1 h16 hz c3 c4 c5 x1.cx (by have:=o1.same (s':=sa.rdN (s.next+(0+2))) rfl rfl;rwa [Nat.zero_add]at this) (λs1 y1=>q _ (x1.then0 y1 hb).cx') p.hs.length 0 _ 0 _ _ _ (by omega) (by omega) RE_ (Ext.refl _) (by omega) (by omega) (by rw[List.drop_zero]) (by simp[aA];rfl) (by simp[aA]) (by simp[aA]) (by simp[aA]) (by simp[aA])
end
def Bb (ps:List PkI):Nat:=(ps.map λp=>p.hs.length).sum
def CD:Option Int->List PkI->Bool
 |_,[]=>true
 |pr,p::t=>(match pr with|none=>true|some x=>decide (x<p.num))&&B2 p.size 0 p.hs&&CD (some p.num) t
def Cm (ps:List PkI):Int:=if decide (500<ps.length)||decide (20000<Bb ps)then 3 else if ps.all B1 then(if CD none ps then 0 else 2)else 5
theorem TU {ps:List PkI}{i:Nat}(hi:i<ps.length):Bb (ps.take (i+1))=Bb (ps.take i)+ps[i].hs.length:=by
 unfold Bb
 rw[List.take_succ_eq_append_getElem hi,List.map_append,List.sum_append]
 simp
theorem AS_ {ps:List PkI}(i:Nat):Bb (ps.take i)<=Bb ps:=by
 have e:Bb ps=Bb (ps.take i)+Bb (ps.drop i):=by
  unfold Bb
  rw[<-List.sum_append,<-List.map_append,List.take_append_drop]
 omega
theorem Km {ps:List PkI}{i:Nat}(hi:i<ps.length):ps[i].hs.length<=Bb ps:=by
 have h1:=TU hi
 have h2:=AS_ (ps:=ps) (i+1)
 omega
theorem Wb_ {ps:List PkI}{i:Nat}{pr:Option Int}(hi:i<ps.length):CD pr (ps.drop i)=((match pr with|none=>true|some x=>decide (x<ps[i].num))&&B2 ps[i].size 0 ps[i].hs&&CD (some ps[i].num) (ps.drop (i+1))):=by
 rw[<-List.getElem_cons_drop (h:=hi)]
 rfl
section
variable {v:Value}{ps:List PkI}{Q:Value×FrameMode->St->Prop}{s0:St}
theorem AjF_ (hb0:s0.lim<=s0.next)(hr:PkR s0 v ps)(hz:Bb ps<=1000000000)(hcx:s0.cx=cxN)(hall:ps.all B1=true)(hps:ps.length<=1000000000)
  (q: ∀s1,Ext Any Non s0 s1->Q (.int .i64 (if CD none ps then 0 else 2), .run) s1):
  ∀(k i n:Nat) (pr:Option Int) (tm:T Value) (s:St) (td:List Item),i+k=ps.length->20*k+20*Bb ps+300<=n->skim 64 td=IE->Ext Any Non s0 s->CD none ps=CD pr (ps.drop i)->(i=0/\pr=none\/ ∃(h:i-1<ps.length),0<i/\pr=some ps[i-1].num)->
  T.get tm 0=some v->T.get tm 39=some v->T.get tm 40=some (.int .i64 (ps.length:Nat))->T.get tm 41=some (.int .i64 (i:Nat))->
  W (runF envS n ⟨43,Kt,BL,tm,td, .run, .normal,none⟩) s Q:=by
 intro k
 induction k with
 |zero=>
  intro i n pr tm s td hi hn hT hx ho hpr h0 h39 h40 h41
  refine Gc_.w hT (by omega) ?_
  simp only[U0,Ac,W_oS,Aa,Ab,Bg,h40,h41]
  refine W.cond (v:=false) FE_ IQ_ (by simp[aA];omega) (by omega) (λh=>by cases h) λ_=> ?_
  refine Abc_.w TH_ (by omega) ?_
  simp only[Jx_,Aa,W_mv,Ab]
  refine aG (rs:=[2]) (vs:=[.int .i64 0]) AiO_ (.inl Qv_) (by omega) IX O5 (hx.cx.trans hcx) (by simp[aA]) ?_
  have:=q s hx
  rw[ho,List.drop_of_length_le (by omega)]at this
  exact this
 |succ k ih=>
  intro i n pr tm s td hi hn hT hx ho hpr h0 h39 h40 h41
  have hil:i<ps.length:=by omega
  have hb:=hx.bnd hb0
  obtain⟨b,o,c,ev,ga,gh,g16,_,_⟩:=(hr.ext0 hx).at hil
  have hbo:B1 ps[i]=true:=List.all_eq_true.1 hall _ (List.getElem_mem hil)
  have htl:=Km hil
  rw[Wb_ hil]at ho
  refine Gc_.w hT (by omega) ?_
  simp only[U0,Ac,W_oS,Aa,Ab,Bg,h40,h41]
  refine W.cond (v:=true) FE_ IQ_ (by simp[aA];omega) (by omega) (λ_=> ?_) λh=>by cases h
  refine Zo_.w Aki_ (by omega) ?_
  simp only[VP,Ac,W_oS,Aa,W_mv,Ab,aA,Nat.reduceEqDiff, ↓reduceIte,h39,ev,h41,BX CZ hil]
  refine aJ C9 ga rfl λs1 m1 n1 x1=> ?_
  refine W.alloc G9 λs2 n2 x2 o2=> ?_
  have n2':s2.next=s1.next+4:=n2
  refine W.store C9 (v:= .agg (pkC ps[i]).toArray) rfl (K9 gh) (λj hj=>AC.owned o2 j (by simpa using hj)) λs3 n3 x3 o3=> ?_
  rw[Dx]at o3
  have xs2:Ext Any Non s0 s2:=(hx.then0 x1 hb0).then0 x2 hb0
  have hlt0:s0.next<=s1.next:=(hx.then0 x1 hb0).nxt
  have xs3:Ext Any Non s0 s3:=xs2.trans x3 hb0 (λ_ _ _=>trivial) λy hy h=>by
   have h1:=h.1
   omega
  have hb3:=xs3.bnd hb0
  have hr3:PkR s3 v ps:=hr.ext0 xs3
  have o0:Own s3 s1.next (0+0) (.int .i64 ps[i].num):=o3 0 _ rfl
  have o3':AC s3 s1.next 0 (pkC ps[i]):=o3
  have hCn:s1.next+4=s3.next:=by omega
  generalize hC:s1.next=C at *
  have after: ∀(n':Nat) (s4:St) (bad:Bool) (tm4:T Value) (td4:List Item),n<=n'+10->skim 64 td4=Gd->Ext Any Non s0 s4->(bad=true->CD none ps=false)->(bad=false->CD none ps=CD (some ps[i].num) (ps.drop (i+1)))->
    T.get tm4 63=some (.bool bad)->T.get tm4 0=some v->T.get tm4 39=some v->T.get tm4 40=some (.int .i64 (ps.length:Nat))->T.get tm4 41=some (.int .i64 (i:Nat))->W (runF envS n' ⟨43,Kt,BL,tm4,td4, .run, .normal,none⟩) s4 Q:=by
   intro n' s4 bad tm4 td4 hn' hT4 x4 hb1 hb2 g63 g0 g39 g40 g41
   cases bad with
   |true=>
    refine W.cond (v:=true) hT4 XX g63 (by omega) (λ_=> ?_) λh=>by cases h
    refine Wj_.w Rp_ (by omega) ?_
    simp only[Es_,Aa,W_mv,Ab]
    refine aG (rs:=[2]) (vs:=[.int .i64 2]) QA_ (.inl AgO_) (by omega) IX O5 (x4.cx.trans hcx) (by simp[aA]) ?_
    have:=q s4 x4
    rw[hb1 rfl]at this
    exact this
   |false=>
    refine W.cond (v:=false) hT4 XX g63 (by omega) (λh=>by cases h) λ_=> ?_
    refine Ahu_.w AiG_ (by omega) ?_
    have ei:wrap64 ((i:Nat)+1:Int)=((i+1:Nat):Int):=by
     rw[Bq (by omega) (by omega)];simp
    simp only[AV_,Ac,W_oS,Aa,W_mv,Ab,BG,g41,ei]
    exact ih (i+1) _ (some ps[i].num) _ _ _ (by omega) (by omega) Aim_ x4 (hb2 rfl) (.inr ⟨by omega,by omega,rfl⟩) (by simp[aA,g0]) (by simp[aA,g39]) (by simp[aA,g40]) (by simp[aA])
  have lies: ∀(mem:T Cell) (next:Nat) (f:Value×OpLog->M ((Rho×T Value)×List OpLog)) (Q':(Rho×T Value)×List OpLog->St->Prop),mem=s3.mem->next=s3.next->(∀(s1:St) (rd:List Nat),s3.next<=s1.next->(∀x,x<s3.next->T.get s1.mem x=T.get s3.mem x)->(∀x∈rd,x<s3.next)->W (f (.bool (B2 ps[i].size 0 ps[i].hs),⟨s3.next,s1.next,rd,[]⟩)) (dSt s1.mem s1.next) Q')->
    W (M.bind (apartO (Ay envS (runF envS (n-1-1-1-1)) 95 [.agg (pkC ps[i]).toArray])) f) (dSt mem next) Q':=by
   intro mem next f Q' e1 e2 h
   subst e1;subst e2
   refine W.dop (Xj_ (s:=oSt s3.mem s3.next) (Nat.le_refl _) ((hr3.at hil).choose_spec.choose_spec.choose_spec.2.2.1.same rfl rfl) g16 (by omega) hbo (by omega) λs1 x1=>⟨Any,x1,λrd hrd=> ?_⟩)
   exact h s1 rd x1.nxt (λx hx=>x1.mem x hx id) λx hx=>(hrd x hx).1
  refine Lg_.w RL_ (by omega) ?_
  simp only[YY,aA,Nat.reduceEqDiff, ↓reduceIte,h0,BW,Dz,Ag,Af,Ae,Mf,Br]
  rw[W_dq λs Q=>CT (s:=s) _ _]
  have keep: ∀b o u,Own s3 b o u->At (dSt s3.mem s3.next) b o u:=λb o u hu=>(hu.same (s':=dSt s3.mem s3.next) rfl rfl).at'
  have keepR:Row (dSt s3.mem s3.next) C 0 (pkC ps[i]):=λj u e=>keep _ _ _ (o3' j u e)
  rcases hpr with⟨hi0,hpr⟩|⟨hi1,hi0,hpr⟩
  ·have e0:decide ((0:Int)<((i:Nat):Int))=false:=decide_eq_false (by omega)
   subst hpr
   simp only[e0,Br,Ai,EG,Au,if_f]
   rw[W_dq λs Q=>Aj (s:=s) _ _ _ _]
   simp only[Bool.false_eq_true,reduceIte,Br,Ai,EG,An,if_t]
   refine W.dloadA C9 keepR rfl λmem1 rd14 em hr14=> ?_
   subst em
   refine lies _ _ _ _ rfl rfl λs4 rd15 n4 m4 hr15=> ?_
   rw[W_dq λs Q=>DW (s:=s) _ _ Q,Aa]
   refine⟨WX (by simp) (by
    simp only[List.reverse_cons,List.reverse_nil,List.nil_append,List.cons_append,List.mem_cons,List.not_mem_nil,or_false]
    rintro m (rfl|rfl|rfl|rfl|rfl|rfl|rfl|rfl|rfl|rfl|rfl|rfl|rfl|rfl|rfl|rfl|rfl)<;>refine⟨rfl,λy hy=> ?_⟩<;>first|(cases hy;done)|(exact hr15 _ hy)|(have h1:=(hr14 _ hy).2;omega)), ?_⟩
   refine W.cast (UD _ _ _ _ _ _ _ _ _ _ _ _ _ _ _ _ _ _ _ _ _ _) ?_
   try simp only[Ac,W_on,Aa,Ar,Aj,reduceCtorEq, ↓reduceIte]
   refine after _ _ (!(B2 ps[i].size 0 ps[i].hs)) _ _ (by omega) Qs (xs3.then0 (Ext.draw (F:=Any) (show s3.next<=s4.next from n4) (λx hx=>m4 x hx) (by simp) λ_ _ _ _ _=>trivial) hb0) (λhq=> ?_) (λhq=> ?_) (by simp[aA]) (by simp[aA,h0]) (by simp[aA,h39,ev]) (by simp[aA,h40]) (by simp[aA,h41])
   ·rw[ho,show B2 ps[i].size 0 ps[i].hs=false by simpa using hq]
    simp
   ·rw[ho,show B2 ps[i].size 0 ps[i].hs=true by simpa using hq]
    simp
  ·have e0:decide ((0:Int)<((i:Nat):Int))=true:=decide_eq_true (by omega)
   subst hpr
   obtain⟨b',o',c',ev',gp,_⟩:=hr3.at hi1
   have gp0:At (dSt s3.mem s3.next) b' (o'+(i-1)*3+0) (.int .i64 ps[i-1].num):=(gp 0 _ rfl).same (s':=dSt s3.mem s3.next) rfl rfl
   have esub:wrap64 (((i:Nat):Int)-1)=((i-1:Nat):Int):=by
    rw[Bq (by omega) (by omega)];omega
   have gplt:b'+(o'+(i-1)*3+0)<s3.next:=gp0.1
   simp only[e0,Br,Ai,EG,Ap,if_t,ev']
   rw[W_dq λs Q=>A8 (s:=s) Fr (by decide) Q]
   refine aH Be (keep _ _ _ o0) λrd4 hr4=> ?_
   simp only[Br]
   rw[W_dq λs Q=>Ec (s:=s) ((i:Nat):Int) 1,esub]
   dsimp only
   rw[W_dq λs Q=>BX (s:=s) CZ hi1 Q]
   dsimp only
   rw[W_dq λs Q=>A8 (s:=s) Fr (by decide) Q]
   refine aH Be gp0 λrd10 hr10=> ?_
   rw[W_dq λs Q=>Gf (s:=s) _ _]
   dsimp only
   rw[W_dq λs Q=>Aj (s:=s) _ _ _ _]
   by_cases hle:ps[i].num<=ps[i-1].num
   ·simp only[hle,decide_true,reduceIte,Br,Ai,EG,As,if_f,Aa]
    refine⟨D9 (by simp) (by simp), ?_⟩
    refine W.cast (UD _ _ _ _ _ _ _ _ _ _ _ _ _ _ _ _ _ _ _ _ _ _) ?_
    try simp only[Ac,W_on,Aa,Ar,Aj, ↓reduceIte]
    refine after _ _ true _ _ (by omega) Qs (xs3.then0 (Ext.draw (F:=Any) (Nat.le_refl _) (λ_ _=>rfl) (by simp) λ_ _ _ _ _=>trivial) hb0) (λ_=> ?_) (λh=>by cases h) (by simp[aA]) (by simp[aA,h0]) (by simp[aA,h39,ev]) (by simp[aA,h40]) (by simp[aA,h41])
    rw[ho]
    dsimp only
    rw[decide_eq_false (show ¬ps[i-1].num<ps[i].num by omega)]
    simp
   ·simp only[hle,decide_false,reduceIte,Br,Ai,EG,An,if_t]
    refine W.dloadA C9 keepR rfl λmem1 rd14 em hr14=> ?_
    subst em
    refine lies _ _ _ _ rfl rfl λs4 rd15 n4 m4 hr15=> ?_
    rw[W_dq λs Q=>DW (s:=s) _ _ Q,Aa]
    refine⟨WX (by simp) (by
     simp only[List.reverse_cons,List.reverse_nil,List.nil_append,List.cons_append,List.mem_cons,List.not_mem_nil,or_false]
     rintro m (rfl|rfl|rfl|rfl|rfl|rfl|rfl|rfl|rfl|rfl|rfl|rfl|rfl|rfl|rfl|rfl|rfl)<;>refine⟨rfl,λy hy=> ?_⟩<;>first|(cases hy;done)|(exact hr15 _ hy)|(have h1:=(hr14 _ hy).2;omega)|(have h1:=hr4 _ hy;omega)|(have h1:=hr10 _ hy;omega)), ?_⟩
    refine W.cast (UD _ _ _ _ _ _ _ _ _ _ _ _ _ _ _ _ _ _ _ _ _ _) ?_
    try simp only[Ac,W_on,Aa,Ar,Aj,reduceCtorEq, ↓reduceIte]
    refine after _ _ (!(B2 ps[i].size 0 ps[i].hs)) _ _ (by omega) Qs (xs3.then0 (Ext.draw (F:=Any) (show s3.next<=s4.next from n4) (λx hx=>m4 x hx) (by simp) λ_ _ _ _ _=>trivial) hb0) (λhq=> ?_) (λhq=> ?_) (by simp[aA]) (by simp[aA,h0]) (by simp[aA,h39,ev]) (by simp[aA,h40]) (by simp[aA,h41])
    ·rw[ho,show B2 ps[i].size 0 ps[i].hs=false by simpa using hq]
     simp
    ·rw[ho]
     dsimp only
     rw[show B2 ps[i].size 0 ps[i].hs=true by simpa using hq,decide_eq_true (show ps[i-1].num<ps[i].num by omega)]
     simp
theorem Ajv_ (hb0:s0.lim<=s0.next)(hr:PkR s0 v ps)(hz:Bb ps<=1000000000)(hcx:s0.cx=cxN)(hps:ps.length<=1000000000)
  (q: ∀s1,Ext Any Non s0 s1->Q (.int .i64 (if ps.all B1 then(if CD none ps then 0 else 2)else 5), .run) s1):
  ∀(k i n:Nat) (tm:T Value) (s:St) (td:List Item),i+k=ps.length->40*ps.length+20*k+40*Bb ps+1000<=n->skim 64 td=Is->Ext Any Non s0 s->(ps.take i).all B1=true->
  T.get tm 0=some v->T.get tm 29=some v->T.get tm 30=some (.int .i64 (ps.length:Nat))->T.get tm 31=some (.int .i64 (i:Nat))->
  W (runF envS n ⟨43,Kt,BL,tm,td, .run, .normal,none⟩) s Q:=by
 intro k
 induction k with
 |zero=>
  intro i n tm s td hi hn hT hx ho h0 h29 h30 h31
  rw[show i=ps.length by omega,List.take_length]at ho
  refine Gk_.w hT (by omega) ?_
  simp only[UN,Ac,W_oS,Aa,Ab,Bg,h30,h31]
  refine W.cond (v:=false) Hi_ CS_ (by simp[aA];omega) (by omega) (λh=>by cases h) λ_=> ?_
  refine AeS_.w OF_ (by omega) ?_
  simp only[Kl_,Ac,W_oS,Aa,W_mv,Ab,aA,Ag,Af,Ae,reduceCtorEq, ↓reduceIte,h0]
  rw[hr.len]
  refine AjF_ (s0:=s) (hx.bnd hb0) (hr.ext0 hx) hz (hx.cx.trans hcx) ho hps (λs1 x1=> ?_) ps.length 0 _ none _ _ _ (by omega) (by omega) KW_ (Ext.refl _) (by rw[List.drop_zero]) (.inl ⟨rfl,rfl⟩) (by simp[aA,h0]) (by simp[aA]) (by simp[aA]) (by simp[aA])
  have:=q s1 (hx.then0 x1 hb0)
  rw[ho]at this
  exact this
 |succ k ih=>
  intro i n tm s td hi hn hT hx ho h0 h29 h30 h31
  have hil:i<ps.length:=by omega
  have hb:=hx.bnd hb0
  obtain⟨b,o,c,ev,ga,gh,g16,_,_⟩:=(hr.ext0 hx).at hil
  have htl:=Km hil
  refine Gk_.w hT (by omega) ?_
  simp only[UN,Ac,W_oS,Aa,Ab,Bg,h30,h31]
  refine W.cond (v:=true) Hi_ CS_ (by simp[aA];omega) (by omega) (λ_=> ?_) λh=>by cases h
  refine SI_.w WD_ (by omega) ?_
  simp only[FI_,Ac,W_oS,Aa,Ab,aA,Nat.reduceEqDiff, ↓reduceIte,h29,ev,h31,BX CZ hil]
  refine aJ C9 ga rfl λs1 m1 n1 x1=> ?_
  refine W.alloc G9 λs2 n2 x2 o2=> ?_
  have n2':s2.next=s1.next+4:=n2
  refine W.store C9 (v:= .agg (pkC ps[i]).toArray) rfl (K9 gh) (λj hj=>AC.owned o2 j (by simpa using hj)) λs3 n3 x3 o3=> ?_
  rw[Dx]at o3
  have xs2:Ext Any Non s0 s2:=(hx.then0 x1 hb0).then0 x2 hb0
  have hlt0:s0.next<=s1.next:=(hx.then0 x1 hb0).nxt
  have xs3:Ext Any Non s0 s3:=xs2.trans x3 hb0 (λ_ _ _=>trivial) λy hy h=>by
   have h1:=h.1
   omega
  have hr3:PkR s3 v ps:=hr.ext0 xs3
  refine Ry_.w AjX_ (by omega) ?_
  simp only[ZA,Ac,W_oS,W_on,Aa,Ab,aA,Ag,Af,Ae,Ah,↓reduceIte]
  refine aJ C9 (AC.row o3) rfl λs4 m4 n4 x4=> ?_
  have xs4:=xs3.then0 x4 hb0
  refine AgE_ (xs4.bnd hb0) ((hr.ext0 xs4).hs _ (List.getElem_mem hil)) g16 (by omega) (by omega) λs5 x5=> ?_
  have xs5:=xs4.then0 x5 hb0
  simp only[DW]
  cases hbo:B1 ps[i]with
  |false=>
   simp only[Bool.not_false]
   refine W.cond (v:=true) Hf_ Kg_ (by simp[aA]) (by omega) (λ_=> ?_) λh=>by cases h
   refine LU_.w AdY_ (by omega) ?_
   simp only[Ir_,Aa,W_mv,Ab]
   refine aG (rs:=[2]) (vs:=[.int .i64 5]) AfR_ (.inl TA_) (by omega) IX O5 (xs5.cx.trans hcx) (by simp[aA]) ?_
   have hno:ps.all B1=false:=by
    cases ha:ps.all B1 with
    |false=>rfl
    |true=>
     have:=List.all_eq_true.1 ha _ (List.getElem_mem hil)
     rw[hbo]at this
     cases this
   have:=q s5 xs5
   rw[hno]at this
   exact this
  |true=>
   simp only[Bool.not_true]
   refine W.cond (v:=false) Hf_ Kg_ (by simp[aA]) (by omega) (λh=>by cases h) λ_=> ?_
   refine Zs_.w Ajr_ (by omega) ?_
   have ei:wrap64 ((i:Nat)+1:Int)=((i+1:Nat):Int):=by
    rw[Bq (by omega) (by omega)];simp
   simp only[CX_,Ac,W_oS,Aa,W_mv,Ab,aA,Nat.reduceEqDiff, ↓reduceIte,BG,h31,ei]
   exact ih (i+1) _ _ _ _ (by omega) (by omega) Ya_ xs5 (by rw[List.take_succ_eq_append_getElem hil,List.all_append,ho];simp[hbo]) (by simp[aA,h0]) (by simp[aA,h29,ev]) (by simp[aA,h30]) (by simp[aA])
theorem Up_ (hb0:s0.lim<=s0.next)(hr:PkR s0 v ps)(hz:Bb ps<=1000000000)(hcx:s0.cx=cxN)(hps:ps.length<=1000000000)
  (q: ∀s1,Ext Any Non s0 s1->Q (.int .i64 (Cm ps), .run) s1):
  ∀(k i n:Nat) (tm:T Value) (s:St) (td:List Item),i+k=ps.length->100*ps.length+20*k+40*Bb ps+2000<=n->skim 64 td=IA->Ext Any Non s0 s->
  T.get tm 0=some v->T.get tm 3=some (.int .i64 (Bb (ps.take i):Nat))->T.get tm 10=some v->T.get tm 11=some (.int .i64 (ps.length:Nat))->T.get tm 12=some (.int .i64 (i:Nat))->
  W (runF envS n ⟨43,Kt,BL,tm,td, .run, .normal,none⟩) s Q:=by
 intro k
 induction k with
 |zero=>
  intro i n tm s td hi hn hT hx h0 h3 h10 h11 h12
  rw[show i=ps.length by omega,List.take_length]at h3
  refine W3.w hT (by omega) ?_
  simp only[Ri,Ac,W_oS,Aa,Ab,Bg,h11,h12]
  refine W.cond (v:=false) Z9 Yi (by simp[aA];omega) (by omega) (λh=>by cases h) λ_=> ?_
  refine AaK_.w Abd_ (by omega) ?_
  simp only[Gy_,Ac,W_oS,W_on,Aa,W_mv,Ab,aA,Ag,Af,Ae,Nat.reduceEqDiff,reduceCtorEq, ↓reduceIte,h0]
  rw[hr.len]
  try simp only[Ai,Ak,Aj,CT]
  have long: ∀(n':Nat) (tm4:T Value) (td4:List Item),20<=n'->skim 64 td4=FJ->T.get tm4 28=some (.bool true)->Cm ps=3->W (runF envS n' ⟨43,Kt,BL,tm4,td4, .run, .normal,none⟩) s Q:=by
   intro n' tm4 td4 hn' hT4 g28 hc
   refine W.cond (v:=true) hT4 Eq_ g28 (by omega) (λ_=> ?_) λh=>by cases h
   refine UJ_.w AdW_ (by omega) ?_
   simp only[Ja_,Aa,W_mv,Ab]
   refine aG (rs:=[2]) (vs:=[.int .i64 3]) KS_ (.inl Abb_) (by omega) IX O5 (hx.cx.trans hcx) (by simp[aA]) ?_
   have:=q s hx
   rw[hc]at this
   exact this
  by_cases c1:500<ps.length
  ·have e1:decide ((500:Int)<((ps.length:Nat):Int))=true:=decide_eq_true (by omega)
   simp only[e1,Aa,As,Aq, ↓reduceIte]
   exact long _ _ _ (by omega) TT (by simp[aA]) (by unfold Cm;rw[decide_eq_true c1,Bool.true_or];rfl)
  ·have e1:decide ((500:Int)<((ps.length:Nat):Int))=false:=decide_eq_false (by omega)
   simp only[e1,W_oS,Aa,An,Al,reduceCtorEq, ↓reduceIte,CT,h3]
   by_cases c2:20000<Bb ps
   ·have e2:decide ((20000:Int)<((Bb ps:Nat):Int))=true:=decide_eq_true (by omega)
    simp only[e2]
    exact long _ _ _ (by omega) TT (by simp[aA]) (by unfold Cm;rw[decide_eq_true c2,Bool.or_true];rfl)
   ·have e2:decide ((20000:Int)<((Bb ps:Nat):Int))=false:=decide_eq_false (by omega)
    simp only[e2]
    refine W.cond (v:=false) TT Eq_ (by simp[aA]) (by omega) (λh=>by cases h) λ_=> ?_
    refine AhJ_.w OU_ (by omega) ?_
    simp only[Fu_,Ac,W_oS,Aa,W_mv,Ab,aA,Ag,Af,Ae,reduceCtorEq, ↓reduceIte,h0]
    rw[hr.len]
    refine Ajv_ (s0:=s) (hx.bnd hb0) (hr.ext0 hx) hz (hx.cx.trans hcx) hps (λs1 x1=> ?_) ps.length 0 _ _ _ _ (by omega) (by omega) Alm_ (Ext.refl _) rfl (by simp[aA,h0]) (by simp[aA]) (by simp[aA]) (by simp[aA])
    have:=q s1 (hx.then0 x1 hb0)
    unfold Cm at this
    rw[decide_eq_false c1,decide_eq_false c2]at this
    exact this
 |succ k ih=>
  intro i n tm s td hi hn hT hx h0 h3 h10 h11 h12
  have hil:i<ps.length:=by omega
  have hb:=hx.bnd hb0
  obtain⟨b,o,c,ev,ga,gh,g16,_,_⟩:=(hr.ext0 hx).at hil
  have htl:=Km hil
  have ht1:=TU hil
  have ht2:=AS_ (ps:=ps) (i+1)
  refine W3.w hT (by omega) ?_
  simp only[Ri,Ac,W_oS,Aa,Ab,Bg,h11,h12]
  refine W.cond (v:=true) Z9 Yi (by simp[aA];omega) (by omega) (λ_=> ?_) λh=>by cases h
  refine AeR_.w Xp_ (by omega) ?_
  simp only[VK,Ac,W_oS,Aa,Ab,aA,Nat.reduceEqDiff, ↓reduceIte,h10,ev,h12,BX CZ hil]
  refine aJ C9 ga rfl λs1 m1 n1 x1=> ?_
  refine W.alloc G9 λs2 n2 x2 o2=> ?_
  have n2':s2.next=s1.next+4:=n2
  refine W.store C9 (v:= .agg (pkC ps[i]).toArray) rfl (K9 gh) (λj hj=>AC.owned o2 j (by simpa using hj)) λs3 n3 x3 o3=> ?_
  rw[Dx]at o3
  have xs2:Ext Any Non s0 s2:=(hx.then0 x1 hb0).then0 x2 hb0
  have hlt0:s0.next<=s1.next:=(hx.then0 x1 hb0).nxt
  have xs3:Ext Any Non s0 s3:=xs2.trans x3 hb0 (λ_ _ _=>trivial) λy hy h=>by
   have h1:=h.1
   omega
  have o2f:Own s3 s1.next (0+2) ps[i].v:=o3 2 _ rfl
  refine AeX_.w Yo_ (by omega) ?_
  simp only[Hk_,Ac,W_oS,Aa,W_mv,Ab,aA,Ag,Af,Ae,Nat.reduceEqDiff, ↓reduceIte,h3,A8 Eg (by decide)]
  refine aD Eo o2f.at' ?_
  have xs4:=xs3.thenRd hb0 (s1.next+(0+2))
  rw[((hr.ext0 xs4).hs _ (List.getElem_mem hil)).len]
  have es:wrap64 ((Bb (ps.take i):Nat)+(ps[i].hs.length:Nat):Int)=((Bb (ps.take (i+1)):Nat):Int):=by
   rw[Bq (by omega) (by omega)];omega
  simp only[BG,es]
  refine Aji_.w AbI_ (by omega) ?_
  have ei:wrap64 ((i:Nat)+1:Int)=((i+1:Nat):Int):=by
   rw[Bq (by omega) (by omega)];simp
  simp only[Zi,Ac,W_oS,Aa,W_mv,Ab,aA,Nat.reduceEqDiff, ↓reduceIte,BG,h12,ei]
  exact ih (i+1) _ _ _ _ (by omega) (by omega) ZI_ xs4 (by simp[aA,h0]) (by simp[aA]) (by simp[aA,h10,ev]) (by simp[aA,h11]) (by simp[aA])
end
theorem JC {n:Nat}{v:Value}{ps:List PkI}{s:St}{Q:Value->St->Prop}(hb:s.lim<=s.next)(hr:PkR s v ps)(hz:Bb ps<=1000000000)(hps:ps.length<=1000000000)(hn:200*ps.length+40*Bb ps+3000<=n)(q: ∀s1,Ext Any Non s s1->Q (.int .i64 (Cm ps)) s1):
  W (Ay envS (runF envS n) 43 [v]) s Q:=by
 refine Ma_ λtm h0=> ?_
 have hr':PkR (s.cxN cxN) v ps:=hr.same rfl rfl
 refine TT_.w rfl (by omega) ?_
 simp only[Fk_,Aa,W_mv,Ab]
 refine KY_.w AdP_ (by omega) ?_
 simp only[Fx_,Aa,W_mv,Ab]
 refine AdM_.w WM_ (by omega) ?_
 simp only[XM,Ac,W_oS,Aa,W_mv,Ab,aA,Ag,Af,Ae,reduceCtorEq, ↓reduceIte,h0]
 rw[hr'.len]
 exact Up_ (s0:=s.cxN cxN) hb hr' hz rfl hps (λs1 x1=>q _ x1.cx') ps.length 0 _ _ _ _ (by omega) (by omega) AdB_ (Ext.refl _) (by simp[aA,h0]) (by simp[aA];rfl) (by simp[aA]) (by simp[aA]) (by simp[aA])
structure Good (l:List Nat)(h:Hd):Prop where
 ok:UF l h.2.1=true
 sz:DU l h.2.1=h.2.2
 good:Ph l h.2.1 h.2.2=true
 id:Vr l h.2.1 h.2.2=h.1
def recB (b:List Nat):List Nat:=Y8 b.length++gput (idB b++b)
end Go.Proofs.Ytofanlcjeohcjaa.Am
end
