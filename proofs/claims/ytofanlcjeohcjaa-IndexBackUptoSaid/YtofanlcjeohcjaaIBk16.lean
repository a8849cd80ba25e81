import Derived.Test.YtofanlcjeohcjaaIBk15
import Derived.Test.YtofanlcjeohcjaaIBk07
import Derived.KernelRfl
noncomputable section
namespace Go.Proofs.Ytofanlcjeohcjaa.Am
open Go.RowKit
def Vu:Nat:=Ba Try.f105
def JV_:Code:=Try.f105.body.getD .skip
theorem V0:envS.fn.get 105=some Try.f105:=by kernel_rfl
theorem Zx_ {a0:Value}{n:Nat}{s:St}{Q:Value->St->Prop}(h: ∀tm,T.get tm 0=some a0->W (runF envS n ⟨105,5,Vu,tm,[.code JV_], .run, .normal,none⟩) (s.cxN cxN) λp s1=>Q p.1 (s1.cxN s.cx)):W (Ay envS (runF envS n) 105 [a0]) s Q:=
 W.call (by kernel_rfl) (by kernel_rfl) V0 (by kernel_rfl) rfl rfl (by simp) (h _ (by kernel_rfl))
theorem Aiz_:Try.f105.results.toList=[.tmp 2]:=by kernel_rfl
def Ue:List Item:=skim 64 [.code JV_]
def Ni:List Item:=skim 64 Ue.tail
theorem Afv_:skim 64 Ue.tail=Ni:=by kernel_rfl
def Uy:List Item:=skim 64 Ni.tail
theorem Sk_:skim 64 Ni.tail=Uy:=by kernel_rfl
def Hg_ (E:Env)(call round:Ad)(tm:T Value):M (T Value):=
 mv (some (.int .u32 0)) λv2=>
 setF 2 v2 tm λtm1=>
 M.pure tm1
theorem Va_:RegEq 105 5 Vu Ue Hg_:=⟨by kernel_rfl,λ_ _ _ _ _ _ _ _ _=>by kernel_rfl⟩
def In_ (E:Env)(call round:Ad)(tm:T Value):M (T Value):=
 mv (T.get tm 0) λv3=>
 M.bind (M.on (some (.func (.func 130) #[] #[])) λf=>M.on (seqO [(some (.int .u32 0)),(some v3)]) λl=>AW call round f l) λv4=>
 mv (some v4) λv2=>
 setF 2 v2 tm λtm1=>
 M.pure tm1
theorem AhK_:RegEq 105 5 Vu Ni In_:=⟨by kernel_rfl,λ_ _ _ _ _ _ _ _ _=>by kernel_rfl⟩
theorem AkT_: ∃k,Uy= .code .ret::k:=⟨Uy.tail,by kernel_rfl⟩
def NF:Nat:=Ba Try.f64
def Wz:Code:=Try.f64.body.getD .skip
theorem Vn:envS.fn.get 64=some Try.f64:=by kernel_rfl
theorem EI_ {a0:Value}{n:Nat}{s:St}{Q:Value->St->Prop}(h: ∀tm,T.get tm 0=some a0->W (runF envS n ⟨64,21,NF,tm,[.code Wz], .run, .normal,none⟩) (s.cxN cxN) λp s1=>Q p.1 (s1.cxN s.cx)):W (Ay envS (runF envS n) 64 [a0]) s Q:=
 W.call (by kernel_rfl) (by kernel_rfl) Vn (by kernel_rfl) rfl rfl (by simp) (h _ (by kernel_rfl))
theorem Yo:Try.f64.results.toList=[.tmp 2]:=by kernel_rfl
def TM:List Item:=skim 64 [.code Wz]
def Pu:List Item:=skim 64 TM.tail
theorem V7:skim 64 TM.tail=Pu:=by kernel_rfl
def M1:List Item:=skim 64 Pu.tail
theorem Ds_:skim 64 Pu.tail=M1:=by kernel_rfl
def UH:List Item:=skim 64 M1.tail
theorem YF:skim 64 M1.tail=UH:=by kernel_rfl
def TP (E:Env)(call round:Ad)(tm:T Value):M (T Value):=
 mv (some (.slice none 0 0)) λv2=>
 setF 2 v2 tm λtm1=>
 M.pure tm1
theorem Yh:RegEq 64 21 NF TM TP:=⟨by kernel_rfl,λ_ _ _ _ _ _ _ _ _=>by kernel_rfl⟩
def Si (E:Env)(call round:Ad)(tm:T Value):M (T Value):=
 mv (T.get tm 0) λv4=>
 M.bind (M.on (some (.func (.func 105) #[] #[])) λf=>M.on (seqO [(some v4)]) λl=>AW call round f l) λv5=>
 mv (some v5) λv3=>
 setF 3 v3 tm λtm1=>
 M.pure tm1
theorem Cl_:RegEq 64 21 NF Pu Si:=⟨by kernel_rfl,λ_ _ _ _ _ _ _ _ _=>by kernel_rfl⟩
def TW (E:Env)(call round:Ad)(tm:T Value):M (T Value):=
 mv (T.get tm 0) λv6=>
 mv (T.get tm 3) λv7=>
 M.bind (oS (some v7) λa=>Cy E 51 5 a) λv8=>
 mv (T.get tm 3) λv9=>
 M.bind (oS (some v9) λa=>oS (some (.int .u64 8)) λb=>Cl.get (aBin E .shr 51 (.tmp 9) (.const (.int .u64 8))) a b) λv10=>
 M.bind (oS (some v10) λa=>Cy E 51 5 a) λv11=>
 mv (T.get tm 3) λv12=>
 M.bind (oS (some v12) λa=>oS (some (.int .u64 16)) λb=>Cl.get (aBin E .shr 51 (.tmp 12) (.const (.int .u64 16))) a b) λv13=>
 M.bind (oS (some v13) λa=>Cy E 51 5 a) λv14=>
 mv (T.get tm 3) λv15=>
 M.bind (oS (some v15) λa=>oS (some (.int .u64 24)) λb=>Cl.get (aBin E .shr 51 (.tmp 15) (.const (.int .u64 24))) a b) λv16=>
 M.bind (oS (some v16) λa=>Cy E 51 5 a) λv17=>
 M.bind (oS (seqP [(0,(some v8)),(1,(some v11)),(2,(some v14)),(3,(some v17))]) λps=>C5 E 22 4 ps) λv18=>
 M.bind (oS (seqP [(0,(some v6)),(1,(some v18))]) λps=>C5 E 43 2 ps) λv19=>
 M.bind (M.on (some (.func (.func 63) #[] #[])) λf=>M.on (seqO [(some v19)]) λl=>AW call round f l) λv20=>
 mv (some v20) λv2=>
 setF 2 v2 tm λtm1=>
 M.pure tm1
theorem Fy_:RegEq 64 21 NF M1 TW:=⟨by kernel_rfl,λ_ _ _ _ _ _ _ _ _=>by kernel_rfl⟩
theorem Cv_: ∃k,UH= .code .ret::k:=⟨UH.tail,by kernel_rfl⟩
def Gu:Nat:=Ba Try.f81
def Ko_:Code:=Try.f81.body.getD .skip
theorem JL:envS.fn.get 81=some Try.f81:=by kernel_rfl
theorem CG_ {a0:Value}{n:Nat}{s:St}{Q:Value->St->Prop}(h: ∀tm,T.get tm 0=some a0->W (runF envS n ⟨81,23,Gu,tm,[.code Ko_], .run, .normal,none⟩) (s.cxN cxN) λp s1=>Q p.1 (s1.cxN s.cx)):W (Ay envS (runF envS n) 81 [a0]) s Q:=
 W.call (by kernel_rfl) (by kernel_rfl) JL (by kernel_rfl) rfl rfl (by simp) (h _ (by kernel_rfl))
theorem Nr:Try.f81.results.toList=[.tmp 2, .tmp 3]:=by kernel_rfl
def Up:List Item:=skim 64 [.code Ko_]
def MK:List Item:=skim 64 Up.tail
theorem EY_:skim 64 Up.tail=MK:=by kernel_rfl
def K4:List Item:=skim 64 MK.tail
theorem Gu_:skim 64 MK.tail=K4:=by kernel_rfl
def Hp:List Item:=skim 64 K4.tail
theorem MP:skim 64 K4.tail=Hp:=by kernel_rfl
def OI:List Item:=skim 64 (brT Hp)
theorem Rx:skim 64 (brT Hp)=OI:=by kernel_rfl
def OO:List Item:=skim 64 (brF Hp)
theorem Qy_:skim 64 (brF Hp)=OO:=by kernel_rfl
def RK:List Item:=skim 64 OI.tail
theorem Ql:skim 64 OI.tail=RK:=by kernel_rfl
def QL:List Item:=skim 64 OO.tail
theorem Aht_:skim 64 OO.tail=QL:=by kernel_rfl
def SX (E:Env)(call round:Ad)(tm:T Value):M (T Value):=
 mv (some (.slice none 0 0)) λv2=>
 setF 2 v2 tm λtm1=>
 mv (some (.int .i64 0)) λv3=>
 setF 3 v3 tm1 λtm2=>
 M.pure tm2
theorem ZM:RegEq 81 23 Gu Up SX:=⟨by kernel_rfl,λ_ _ _ _ _ _ _ _ _=>by kernel_rfl⟩
def U7 (E:Env)(call round:Ad)(tm:T Value):M (T Value):=
 mv (T.get tm 0) λv5=>
 M.bind (oS (seqO [(some v5)]) λl=>A6 E .len [22] l) λv6=>
 M.bind (oS (some v6) λa=>oS (some (.int .i64 4)) λb=>Cl.get (aBin E .sub 3 (.tmp 6) (.const (.int .i64 4))) a b) λv7=>
 mv (some v7) λv4=>
 setF 4 v4 tm λtm1=>
 M.pure tm1
theorem Hh_:RegEq 81 23 Gu MK U7:=⟨by kernel_rfl,λ_ _ _ _ _ _ _ _ _=>by kernel_rfl⟩
def NP (E:Env)(call round:Ad)(tm:T Value):M (T Value):=
 mv (T.get tm 4) λv8=>
 M.bind (oS (some v8) λa=>oS (some (.int .i64 0)) λb=>Cl.get (aBin E .lss 3 (.tmp 8) (.const (.int .i64 0))) a b) λv9=>
 mv (some v9) λv10=>
 M.bind (M.chk (isK v10) (aC (isB v10 false) (oS (T.get tm 0) λa=>M.pure a) (M.pure undef))) λv11=>
 M.bind (M.chk (isK v10) (aC (isB v10 false) (oS (T.get tm 4) λa=>M.pure a) (M.pure undef))) λv12=>
 M.bind (M.chk (isK v10) (aC (isB v10 false) (M.on (some v11) λa=>M.on (some none) λb=>M.on (onO (some v12) λv=>some (some v)) λc=>B8 E 22 a b c) (M.pure undef))) λv13=>
 M.bind (M.chk (isK v10) (aC (isB v10 false) (M.on (some (.func (.func 64) #[] #[])) λf=>M.on (seqO [(some v13)]) λl=>AW call round f l) (M.pure undef))) λv14=>
 M.bind (M.chk (isK v10) (aC (isB v10 false) (oS (T.get tm 0) λa=>M.pure a) (M.pure undef))) λv15=>
 M.bind (M.chk (isK v10) (aC (isB v10 false) (M.on (some (.func (.func 116) #[] #[])) λf=>M.on (seqO [(some v14),(some v15)]) λl=>AW call round f l) (M.pure undef))) λv16=>
 M.bind (M.chk (isK v10) (aC (isB v10 false) (oS (some v16) λa=>kUn E.P .not a) (M.pure undef))) λv17=>
 M.bind (M.on (some v10) λa=>M.on (some (.bool true)) λb=>M.on (some v17) λc=>Bp a b c) λv18=>
 setF 18 v18 tm λtm1=>
 M.pure tm1
theorem Ze:RegEq 81 23 Gu K4 NP:=⟨by kernel_rfl,λ_ _ _ _ _ _ _ _ _=>by kernel_rfl⟩
theorem Oq:A5 Hp=some 18:=by kernel_rfl
def LZ (E:Env)(call round:Ad)(tm:T Value):M (T Value):=
 mv (some (.slice none 0 0)) λv2=>
 setF 2 v2 tm λtm1=>
 mv (some (.int .i64 4)) λv3=>
 setF 3 v3 tm1 λtm2=>
 M.pure tm2
theorem Vl:RegEq 81 23 Gu OI LZ:=⟨by kernel_rfl,λ_ _ _ _ _ _ _ _ _=>by kernel_rfl⟩
def WC (E:Env)(call round:Ad)(tm:T Value):M (T Value):=
 mv (T.get tm 0) λv19=>
 mv (T.get tm 4) λv20=>
 M.bind (M.on (some v19) λa=>M.on (some none) λb=>M.on (onO (some v20) λv=>some (some v)) λc=>B8 E 22 a b c) λv21=>
 M.bind (M.on (some (.func (.func 117) #[] #[])) λf=>M.on (seqO [(some v21)]) λl=>AW call round f l) λv22=>
 mv (some v22) λv2=>
 setF 2 v2 tm λtm1=>
 mv (some (.int .i64 0)) λv3=>
 setF 3 v3 tm1 λtm2=>
 M.pure tm2
theorem TV_:RegEq 81 23 Gu OO WC:=⟨by kernel_rfl,λ_ _ _ _ _ _ _ _ _=>by kernel_rfl⟩
theorem Vg: ∃k,RK= .code .ret::k:=⟨RK.tail,by kernel_rfl⟩
theorem Qc_: ∃k,QL= .code .ret::k:=⟨QL.tail,by kernel_rfl⟩
def Cu:Nat:=Ba Try.f63
abbrev PN:Nat:=36
def Jh_:Code:=Try.f63.body.getD .skip
theorem Uv:envS.fn.get 63=some Try.f63:=by kernel_rfl
theorem Cs_ {a0:Value}{n:Nat}{s:St}{Q:Value->St->Prop}(h: ∀tm,T.get tm 0=some a0->W (runF envS n ⟨63,36,Cu,tm,[.code Jh_], .run, .normal,none⟩) (s.cxN cxN) λp s1=>Q p.1 (s1.cxN s.cx)):W (Ay envS (runF envS n) 63 [a0]) s Q:=
 W.call (by kernel_rfl) (by kernel_rfl) Uv (by kernel_rfl) rfl rfl (by simp) (h _ (by kernel_rfl))
theorem VQ:Try.f63.results.toList=[.tmp 2]:=by kernel_rfl
def SI:List Item:=skim 64 [.code Jh_]
def KY:List Item:=skim 64 SI.tail
theorem VL:skim 64 SI.tail=KY:=by kernel_rfl
def MC:List Item:=skim 64 KY.tail
theorem GD_:skim 64 KY.tail=MC:=by kernel_rfl
def GF:List Item:=skim 64 MC.tail
theorem An_:skim 64 MC.tail=GF:=by kernel_rfl
def Hl:List Item:=skim 64 GF.tail
theorem Al_:skim 64 GF.tail=Hl:=by kernel_rfl
def LN:List Item:=skim 64 (brT Hl)
theorem XT_:skim 64 (brT Hl)=LN:=by kernel_rfl
def Jp:List Item:=skim 64 (brF Hl)
theorem AdV_:skim 64 (brF Hl)=Jp:=by kernel_rfl
def OH:List Item:=skim 64 LN.tail
theorem AgT_:skim 64 LN.tail=OH:=by kernel_rfl
def O7:List Item:=skim 64 Jp.tail
theorem W9:skim 64 Jp.tail=O7:=by kernel_rfl
def ND:List Item:=skim 64 OH.tail
theorem Akq_:skim 64 OH.tail=ND:=by kernel_rfl
def Im:List Item:=skim 64 O7.tail
theorem HS_:skim 64 O7.tail=Im:=by kernel_rfl
def No:List Item:=skim 64 ND.tail
theorem Wr_:skim 64 ND.tail=No:=by kernel_rfl
def Hr:List Item:=skim 64 Im.tail
theorem DQ_:skim 64 Im.tail=Hr:=by kernel_rfl
def Tn:List Item:=skim 64 (brF No)
theorem Vc_:skim 64 (brF No)=Tn:=by kernel_rfl
def MQ:List Item:=skim 64 (brT Hr)
theorem AcI_:skim 64 (brT Hr)=MQ:=by kernel_rfl
def Ka:List Item:=skim 64 (brF Hr)
theorem MV_:skim 64 (brF Hr)=Ka:=by kernel_rfl
theorem Ajq_:skim 64 Tn.tail=GF:=by kernel_rfl
def KV:List Item:=skim 64 MQ.tail
theorem SS_:skim 64 MQ.tail=KV:=by kernel_rfl
def R9:List Item:=skim 64 Ka.tail
theorem XA:skim 64 Ka.tail=R9:=by kernel_rfl
def Ta:List Item:=skim 64 KV.tail
theorem Ahn_:skim 64 KV.tail=Ta:=by kernel_rfl
theorem Nv_:skim 64 Ta.tail=Im:=by kernel_rfl
def RL (E:Env)(call round:Ad)(tm:T Value):M (T Value):=
 mv (some (.slice none 0 0)) λv2=>
 setF 2 v2 tm λtm1=>
 M.pure tm1
theorem Wd:RegEq 63 36 Cu SI RL:=⟨by kernel_rfl,λ_ _ _ _ _ _ _ _ _=>by kernel_rfl⟩
def TA (E:Env)(call round:Ad)(tm:T Value):M (T Value):=
 mv (some (.int .i64 0)) λv3=>
 setF 3 v3 tm λtm1=>
 M.pure tm1
theorem Z6:RegEq 63 36 Cu KY TA:=⟨by kernel_rfl,λ_ _ _ _ _ _ _ _ _=>by kernel_rfl⟩
def U9 (E:Env)(call round:Ad)(tm:T Value):M (T Value):=
 mv (T.get tm 0) λv9=>
 setF 9 v9 tm λtm1=>
 M.bind (oS (seqO [(some v9)]) λl=>A6 E .len [43] l) λv10=>
 setF 10 v10 tm1 λtm2=>
 mv (some (.int .i64 0)) λv11=>
 setF 11 v11 tm2 λtm3=>
 M.pure tm3
theorem YP:RegEq 63 36 Cu MC U9:=⟨by kernel_rfl,λ_ _ _ _ _ _ _ _ _=>by kernel_rfl⟩
def T6 (E:Env)(call round:Ad)(tm:T Value):M (T Value):=
 M.bind (oS (T.get tm 11) λa=>oS (T.get tm 10) λb=>Cl.get (aBin E .lss 3 (.tmp 11) (.tmp 10)) a b) λv12=>
 setF 12 v12 tm λtm1=>
 M.pure tm1
theorem DK_:RegEq 63 36 Cu GF T6:=⟨by kernel_rfl,λ_ _ _ _ _ _ _ _ _=>by kernel_rfl⟩
theorem Ex_:A5 Hl=some 12:=by kernel_rfl
def Dt_ (E:Env)(call round:Ad)(tm:T Value):M (T Value):=
 M.bind (oS (T.get tm 9) λa=>oS (T.get tm 11) λb=>Bt E 43 a b) λv13=>
 M.bind (oS (some v13) λa=>AD E 22 a) λv14=>
 mv (some v14) λv5=>
 setF 5 v5 tm λtm1=>
 M.pure tm1
theorem VQ_:RegEq 63 36 Cu LN Dt_:=⟨by kernel_rfl,λ_ _ _ _ _ _ _ _ _=>by kernel_rfl⟩
def Ux (E:Env)(call round:Ad)(tm:T Value):M (T Value):=
 mv (T.get tm 3) λv23=>
 M.bind (M.on (some (.func (.func 106) #[] #[])) λf=>M.on (seqO [(some (.slice none 0 0)),(some v23)]) λl=>AW call round f l) λv24=>
 mv (some v24) λv6=>
 setF 6 v6 tm λtm1=>
 M.pure tm1
theorem CK_:RegEq 63 36 Cu Jp Ux:=⟨by kernel_rfl,λ_ _ _ _ _ _ _ _ _=>by kernel_rfl⟩
def Xx (E:Env)(call round:Ad)(tm:T Value):M (T Value):=
 mv (T.get tm 3) λv15=>
 mv (T.get tm 5) λv16=>
 M.bind (oS (seqO [(some v16)]) λl=>A6 E .len [22] l) λv17=>
 M.bind (oS (some v15) λa=>oS (some v17) λb=>Cl.get (aBin E .add 3 (.tmp 15) (.tmp 17)) a b) λv18=>
 mv (some v18) λv3=>
 setF 3 v3 tm λtm1=>
 M.pure tm1
theorem SN_:RegEq 63 36 Cu OH Xx:=⟨by kernel_rfl,λ_ _ _ _ _ _ _ _ _=>by kernel_rfl⟩
def R5 (E:Env)(call round:Ad)(tm:T Value):M (T Value):=
 mv (T.get tm 0) λv25=>
 setF 25 v25 tm λtm1=>
 M.bind (oS (seqO [(some v25)]) λl=>A6 E .len [43] l) λv26=>
 setF 26 v26 tm1 λtm2=>
 mv (some (.int .i64 0)) λv27=>
 setF 27 v27 tm2 λtm3=>
 M.pure tm3
theorem CE_:RegEq 63 36 Cu O7 R5:=⟨by kernel_rfl,λ_ _ _ _ _ _ _ _ _=>by kernel_rfl⟩
def V8 (E:Env)(call round:Ad)(tm:T Value):M (T Value):=
 mv (T.get tm 3) λv19=>
 M.bind (oS (some v19) λa=>oS (some (.int .i64 0)) λb=>Cl.get (aBin E .lss 3 (.tmp 19) (.const (.int .i64 0))) a b) λv20=>
 setF 20 v20 tm λtm1=>
 M.pure tm1
theorem Ud_:RegEq 63 36 Cu ND V8:=⟨by kernel_rfl,λ_ _ _ _ _ _ _ _ _=>by kernel_rfl⟩
def TF (E:Env)(call round:Ad)(tm:T Value):M (T Value):=
 M.bind (oS (T.get tm 27) λa=>oS (T.get tm 26) λb=>Cl.get (aBin E .lss 3 (.tmp 27) (.tmp 26)) a b) λv28=>
 setF 28 v28 tm λtm1=>
 M.pure tm1
theorem IL_:RegEq 63 36 Cu Im TF:=⟨by kernel_rfl,λ_ _ _ _ _ _ _ _ _=>by kernel_rfl⟩
theorem Akw_:A5 No=some 20:=by kernel_rfl
theorem Dg_:A5 Hr=some 28:=by kernel_rfl
def JL_ (E:Env)(call round:Ad)(tm:T Value):M (T Value):=
 M.bind (oS (T.get tm 11) λa=>oS (some (.int .i64 1)) λb=>Cl.get (aBin E .add 3 (.tmp 11) (.const (.int .i64 1))) a b) λv22=>
 mv (some v22) λv11=>
 setF 11 v11 tm λtm1=>
 M.pure tm1
theorem AjS_:RegEq 63 36 Cu Tn JL_:=⟨by kernel_rfl,λ_ _ _ _ _ _ _ _ _=>by kernel_rfl⟩
def Z0 (E:Env)(call round:Ad)(tm:T Value):M (T Value):=
 M.bind (oS (T.get tm 25) λa=>oS (T.get tm 27) λb=>Bt E 43 a b) λv29=>
 M.bind (oS (some v29) λa=>AD E 22 a) λv30=>
 mv (some v30) λv8=>
 setF 8 v8 tm λtm1=>
 M.pure tm1
theorem AiD_:RegEq 63 36 Cu MQ Z0:=⟨by kernel_rfl,λ_ _ _ _ _ _ _ _ _=>by kernel_rfl⟩
def Ss (E:Env)(call round:Ad)(tm:T Value):M (T Value):=
 mv (T.get tm 6) λv35=>
 mv (some v35) λv2=>
 setF 2 v2 tm λtm1=>
 M.pure tm1
theorem Z3:RegEq 63 36 Cu Ka Ss:=⟨by kernel_rfl,λ_ _ _ _ _ _ _ _ _=>by kernel_rfl⟩
def Wv (E:Env)(call round:Ad)(tm:T Value):M (T Value):=
 mv (T.get tm 6) λv31=>
 mv (T.get tm 8) λv32=>
 M.bind (oS (seqO [(some v31),(some v32)]) λl=>A6 E .append [22,22] l) λv33=>
 mv (some v33) λv6=>
 setF 6 v6 tm λtm1=>
 M.pure tm1
theorem RR_:RegEq 63 36 Cu KV Wv:=⟨by kernel_rfl,λ_ _ _ _ _ _ _ _ _=>by kernel_rfl⟩
theorem FT_: ∃k,R9= .code .ret::k:=⟨R9.tail,by kernel_rfl⟩
def Zb (E:Env)(call round:Ad)(tm:T Value):M (T Value):=
 M.bind (oS (T.get tm 27) λa=>oS (some (.int .i64 1)) λb=>Cl.get (aBin E .add 3 (.tmp 27) (.const (.int .i64 1))) a b) λv34=>
 mv (some v34) λv27=>
 setF 27 v27 tm λtm1=>
 M.pure tm1
theorem Vf_:RegEq 63 36 Cu Ta Zb:=⟨by kernel_rfl,λ_ _ _ _ _ _ _ _ _=>by kernel_rfl⟩
def FO:Nat:=Ba Try.f106
def Bn_:Code:=Try.f106.body.getD .skip
theorem Xq:envS.fn.get 106=some Try.f106:=by kernel_rfl
theorem Rm_ {a0 a1:Value}{n:Nat}{s:St}{Q:Value->St->Prop}(h: ∀tm,T.get tm 0=some a0->T.get tm 1=some a1->W (runF envS n ⟨106,27,FO,tm,[.code Bn_], .run, .normal,none⟩) (s.cxN cxN) λp s1=>Q p.1 (s1.cxN s.cx)):W (Ay envS (runF envS n) 106 [a0,a1]) s Q:=
 W.call (by kernel_rfl) (by kernel_rfl) Xq (by kernel_rfl) rfl rfl (by simp) (h _ (by kernel_rfl) (by kernel_rfl))
theorem Agy_:Try.f106.results.toList=[.tmp 4]:=by kernel_rfl
def Vh:List Item:=skim 64 [.code Bn_]
def Pl:List Item:=skim 64 Vh.tail
theorem WE_:skim 64 Vh.tail=Pl:=by kernel_rfl
def Nv:List Item:=skim 64 Pl.tail
theorem OG_:skim 64 Pl.tail=Nv:=by kernel_rfl
def PW:List Item:=skim 64 (brF Nv)
theorem WJ_:skim 64 (brF Nv)=PW:=by kernel_rfl
def OZ:List Item:=skim 64 PW.tail
theorem Oq_:skim 64 PW.tail=OZ:=by kernel_rfl
def I9:List Item:=skim 64 OZ.tail
theorem AfM_:skim 64 OZ.tail=I9:=by kernel_rfl
def Qy:List Item:=skim 64 (brT I9)
theorem Us_:skim 64 (brT I9)=Qy:=by kernel_rfl
def Pm:List Item:=skim 64 (brF I9)
theorem Qa_:skim 64 Qy.tail=Pm:=by kernel_rfl
def VA:List Item:=skim 64 Pm.tail
theorem KD_:skim 64 Pm.tail=VA:=by kernel_rfl
def Dn_ (E:Env)(call round:Ad)(tm:T Value):M (T Value):=
 mv (some (.slice none 0 0)) λv4=>
 setF 4 v4 tm λtm1=>
 M.pure tm1
theorem LV_:RegEq 106 27 FO Vh Dn_:=⟨by kernel_rfl,λ_ _ _ _ _ _ _ _ _=>by kernel_rfl⟩
def BB_ (E:Env)(call round:Ad)(tm:T Value):M (T Value):=
 mv (T.get tm 1) λv5=>
 M.bind (oS (some v5) λa=>oS (some (.int .i64 0)) λb=>Cl.get (aBin E .lss 3 (.tmp 5) (.const (.int .i64 0))) a b) λv6=>
 setF 6 v6 tm λtm1=>
 M.pure tm1
theorem Sj_:RegEq 106 27 FO Pl BB_:=⟨by kernel_rfl,λ_ _ _ _ _ _ _ _ _=>by kernel_rfl⟩
theorem AhF_:A5 Nv=some 6:=by kernel_rfl
def WM (E:Env)(call round:Ad)(tm:T Value):M (T Value):=
 mv (T.get tm 1) λv8=>
 mv (T.get tm 0) λv9=>
 M.bind (oS (seqO [(some v9)]) λl=>A6 E .cap [22] l) λv10=>
 mv (T.get tm 0) λv11=>
 M.bind (oS (seqO [(some v11)]) λl=>A6 E .len [22] l) λv12=>
 M.bind (oS (some v10) λa=>oS (some v12) λb=>Cl.get (aBin E .sub 3 (.tmp 10) (.tmp 12)) a b) λv13=>
 M.bind (oS (some v8) λa=>oS (some v13) λb=>Cl.get (aBin E .sub 3 (.tmp 8) (.tmp 13)) a b) λv14=>
 mv (some v14) λv1=>
 setF 1 v1 tm λtm1=>
 M.pure tm1
theorem Ahb_:RegEq 106 27 FO PW WM:=⟨by kernel_rfl,λ_ _ _ _ _ _ _ _ _=>by kernel_rfl⟩
def Xz (E:Env)(call round:Ad)(tm:T Value):M (T Value):=
 mv (T.get tm 1) λv15=>
 M.bind (oS (some v15) λa=>oS (some (.int .i64 0)) λb=>Cl.get (aBin E .gtr 3 (.tmp 15) (.const (.int .i64 0))) a b) λv16=>
 setF 16 v16 tm λtm1=>
 M.pure tm1
theorem QP_:RegEq 106 27 FO OZ Xz:=⟨by kernel_rfl,λ_ _ _ _ _ _ _ _ _=>by kernel_rfl⟩
theorem UY_:A5 I9=some 16:=by kernel_rfl
def JD_ (E:Env)(call round:Ad)(tm:T Value):M (T Value):=
 mv (T.get tm 0) λv17=>
 mv (T.get tm 0) λv18=>
 M.bind (oS (seqO [(some v18)]) λl=>A6 E .cap [22] l) λv19=>
 M.bind (M.on (some v17) λa=>M.on (some none) λb=>M.on (onO (some v19) λv=>some (some v)) λc=>B8 E 22 a b c) λv20=>
 mv (T.get tm 1) λv21=>
 M.bind (oS (seqO [(some v20),(some v21)]) λl=>A6 E .append [22,3] l) λv22=>
 mv (T.get tm 0) λv23=>
 M.bind (oS (seqO [(some v23)]) λl=>A6 E .len [22] l) λv24=>
 M.bind (M.on (some v22) λa=>M.on (some none) λb=>M.on (onO (some v24) λv=>some (some v)) λc=>B8 E 22 a b c) λv25=>
 mv (some v25) λv0=>
 setF 0 v0 tm λtm1=>
 M.pure tm1
theorem Ur_:RegEq 106 27 FO Qy JD_:=⟨by kernel_rfl,λ_ _ _ _ _ _ _ _ _=>by kernel_rfl⟩
def Ia_ (E:Env)(call round:Ad)(tm:T Value):M (T Value):=
 mv (T.get tm 0) λv26=>
 mv (some v26) λv4=>
 setF 4 v4 tm λtm1=>
 M.pure tm1
theorem UM_:RegEq 106 27 FO Pm Ia_:=⟨by kernel_rfl,λ_ _ _ _ _ _ _ _ _=>by kernel_rfl⟩
theorem Ys_: ∃k,VA= .code .ret::k:=⟨VA.tail,by kernel_rfl⟩
def Dn:Nat:=Ba Try.f116
abbrev Oe_:Nat:=26
def GM_:Code:=Try.f116.body.getD .skip
theorem MG:envS.fn.get 116=some Try.f116:=by kernel_rfl
theorem SF_ {a0 a1:Value}{n:Nat}{s:St}{Q:Value->St->Prop}(h: ∀tm,T.get tm 0=some a0->T.get tm 1=some a1->W (runF envS n ⟨116,26,Dn,tm,[.code GM_], .run, .normal,none⟩) (s.cxN cxN) λp s1=>Q p.1 (s1.cxN s.cx)):W (Ay envS (runF envS n) 116 [a0,a1]) s Q:=
 W.call (by kernel_rfl) (by kernel_rfl) MG (by kernel_rfl) rfl rfl (by simp) (h _ (by kernel_rfl) (by kernel_rfl))
theorem QR:Try.f116.results.toList=[.tmp 4]:=by kernel_rfl
def SZ:List Item:=skim 64 [.code GM_]
def Nf:List Item:=skim 64 SZ.tail
theorem NH_:skim 64 SZ.tail=Nf:=by kernel_rfl
def H6:List Item:=skim 64 Nf.tail
theorem CB_:skim 64 Nf.tail=H6:=by kernel_rfl
def PF:List Item:=skim 64 (brT H6)
theorem Xh_:skim 64 (brT H6)=PF:=by kernel_rfl
def PS:List Item:=skim 64 (brF H6)
theorem Aez_:skim 64 (brF H6)=PS:=by kernel_rfl
def Ro:List Item:=skim 64 PF.tail
theorem Agu_:skim 64 PF.tail=Ro:=by kernel_rfl
def IJ:List Item:=skim 64 PS.tail
theorem Yw_:skim 64 PS.tail=IJ:=by kernel_rfl
def ID:List Item:=skim 64 IJ.tail
theorem DO_:skim 64 IJ.tail=ID:=by kernel_rfl
def K8:List Item:=skim 64 (brT ID)
theorem Abj_:skim 64 (brT ID)=K8:=by kernel_rfl
def N4:List Item:=skim 64 (brF ID)
theorem Pc_:skim 64 (brF ID)=N4:=by kernel_rfl
def JK:List Item:=skim 64 K8.tail
theorem Adz_:skim 64 K8.tail=JK:=by kernel_rfl
def S1:List Item:=skim 64 N4.tail
theorem QW_:skim 64 N4.tail=S1:=by kernel_rfl
def IH:List Item:=skim 64 JK.tail
theorem Xl:skim 64 JK.tail=IH:=by kernel_rfl
def Mg:List Item:=skim 64 (brT IH)
theorem Lm_:skim 64 (brT IH)=Mg:=by kernel_rfl
def Qe:List Item:=skim 64 (brF IH)
theorem Agk_:skim 64 (brF IH)=Qe:=by kernel_rfl
def S3:List Item:=skim 64 Mg.tail
theorem Mx_:skim 64 Mg.tail=S3:=by kernel_rfl
theorem SG_:skim 64 Qe.tail=IJ:=by kernel_rfl
def Zl (E:Env)(call round:Ad)(tm:T Value):M (T Value):=
 mv (some (.bool false)) λv4=>
 setF 4 v4 tm λtm1=>
 M.pure tm1
theorem Ym_:RegEq 116 26 Dn SZ Zl:=⟨by kernel_rfl,λ_ _ _ _ _ _ _ _ _=>by kernel_rfl⟩
def CL_ (E:Env)(call round:Ad)(tm:T Value):M (T Value):=
 mv (T.get tm 0) λv6=>
 M.bind (oS (seqO [(some v6)]) λl=>A6 E .len [22] l) λv7=>
 mv (T.get tm 1) λv8=>
 M.bind (oS (seqO [(some v8)]) λl=>A6 E .len [22] l) λv9=>
 M.bind (oS (some v7) λa=>oS (some v9) λb=>Cl.get (aBin E .neq 3 (.tmp 7) (.tmp 9)) a b) λv10=>
 setF 10 v10 tm λtm1=>
 M.pure tm1
theorem Yc_:RegEq 116 26 Dn Nf CL_:=⟨by kernel_rfl,λ_ _ _ _ _ _ _ _ _=>by kernel_rfl⟩
theorem Zg:A5 H6=some 10:=by kernel_rfl
def Ca_ (E:Env)(call round:Ad)(tm:T Value):M (T Value):=
 mv (some (.bool false)) λv4=>
 setF 4 v4 tm λtm1=>
 M.pure tm1
theorem AeP_:RegEq 116 26 Dn PF Ca_:=⟨by kernel_rfl,λ_ _ _ _ _ _ _ _ _=>by kernel_rfl⟩
def IC_ (E:Env)(call round:Ad)(tm:T Value):M (T Value):=
 mv (T.get tm 0) λv11=>
 M.bind (oS (seqO [(some v11)]) λl=>A6 E .len [22] l) λv12=>
 setF 12 v12 tm λtm1=>
 mv (some (.int .i64 0)) λv13=>
 setF 13 v13 tm1 λtm2=>
 M.pure tm2
theorem AbW_:RegEq 116 26 Dn PS IC_:=⟨by kernel_rfl,λ_ _ _ _ _ _ _ _ _=>by kernel_rfl⟩
theorem KF_: ∃k,Ro= .code .ret::k:=⟨Ro.tail,by kernel_rfl⟩
def T4 (E:Env)(call round:Ad)(tm:T Value):M (T Value):=
 M.bind (oS (T.get tm 13) λa=>oS (T.get tm 12) λb=>Cl.get (aBin E .lss 3 (.tmp 13) (.tmp 12)) a b) λv14=>
 setF 14 v14 tm λtm1=>
 M.pure tm1
theorem IV_:RegEq 116 26 Dn IJ T4:=⟨by kernel_rfl,λ_ _ _ _ _ _ _ _ _=>by kernel_rfl⟩
theorem Fv_:A5 ID=some 14:=by kernel_rfl
def Z1 (E:Env)(call round:Ad)(tm:T Value):M (T Value):=
 mv (T.get tm 13) λv15=>
 mv (some v15) λv5=>
 setF 5 v5 tm λtm1=>
 M.pure tm1
theorem XN_:RegEq 116 26 Dn K8 Z1:=⟨by kernel_rfl,λ_ _ _ _ _ _ _ _ _=>by kernel_rfl⟩
def Ai_ (E:Env)(call round:Ad)(tm:T Value):M (T Value):=
 mv (some (.bool true)) λv4=>
 setF 4 v4 tm λtm1=>
 M.pure tm1
theorem Ns_:RegEq 116 26 Dn N4 Ai_:=⟨by kernel_rfl,λ_ _ _ _ _ _ _ _ _=>by kernel_rfl⟩
def Ib_ (E:Env)(call round:Ad)(tm:T Value):M ((Rho×T Value)×List OpLog):=
 M.bind (apartO (oS (T.get tm 0) λa=>M.pure a)) λp0=>
 M.bind (apartO (oS (T.get tm 5) λa=>M.pure a)) λp1=>
 M.bind (apartO (oS (some p0.1) λa=>oS (some p1.1) λb=>Bt E 22 a b)) λp2=>
 M.bind (apartO (oS (some p2.1) λa=>AD E 5 a)) λp3=>
 M.bind (apartO (oS (T.get tm 1) λa=>M.pure a)) λp4=>
 M.bind (apartO (oS (T.get tm 5) λa=>M.pure a)) λp5=>
 M.bind (apartO (oS (some p4.1) λa=>oS (some p5.1) λb=>Bt E 22 a b)) λp6=>
 M.bind (apartO (oS (some p6.1) λa=>AD E 5 a)) λp7=>
 M.pure (([p7.1,p6.1,p5.1,p4.1,p3.1,p2.1,p1.1,p0.1],tm),[p7.2,p6.2,p5.2,p4.2,p3.2,p2.2,p1.2,p0.2])
theorem Np_:DrawEq 116 26 Dn JK [0,0,3,7,0,0,48,112,255] Ib_:=⟨by kernel_rfl,by kernel_rfl,λ_ _ _ _ _ _ _ _ _=>by kernel_rfl⟩
theorem AbY_ (E:Env)(call round:Ad)(x16 x17 x18 x19 x20 x21 x22 x23:Value)(tm:T Value)(s:St):Bm call round (BM E Dn 26 (hdC JK)) [x23,x22,x21,x20,x19,x18,x17,x16] tm s=(M.bind (oS (some x19) λa=>oS (some x23) λb=>Cl.get (aBin E .neq 5 (.tmp 19) (.tmp 23)) a b) λv24=>setT 24 v24 tm λtm1=>M.pure tm1) s:=by kernel_rfl
theorem Ml_: ∃k,S1= .code .ret::k:=⟨S1.tail,by kernel_rfl⟩
theorem FX_:A5 IH=some 24:=by kernel_rfl
def Zd (E:Env)(call round:Ad)(tm:T Value):M (T Value):=
 mv (some (.bool false)) λv4=>
 setF 4 v4 tm λtm1=>
 M.pure tm1
theorem AfT_:RegEq 116 26 Dn Mg Zd:=⟨by kernel_rfl,λ_ _ _ _ _ _ _ _ _=>by kernel_rfl⟩
def Hp_ (E:Env)(call round:Ad)(tm:T Value):M (T Value):=
 M.bind (oS (T.get tm 13) λa=>oS (some (.int .i64 1)) λb=>Cl.get (aBin E .add 3 (.tmp 13) (.const (.int .i64 1))) a b) λv25=>
 mv (some v25) λv13=>
 setF 13 v13 tm λtm1=>
 M.pure tm1
theorem AfK_:RegEq 116 26 Dn Qe Hp_:=⟨by kernel_rfl,λ_ _ _ _ _ _ _ _ _=>by kernel_rfl⟩
theorem NU_: ∃k,S3= .code .ret::k:=⟨S3.tail,by kernel_rfl⟩
def Ns:Nat:=Ba Try.f117
def JY_:Code:=Try.f117.body.getD .skip
theorem UO:envS.fn.get 117=some Try.f117:=by kernel_rfl
theorem Rk_ {a0:Value}{n:Nat}{s:St}{Q:Value->St->Prop}(h: ∀tm,T.get tm 0=some a0->W (runF envS n ⟨117,8,Ns,tm,[.code JY_], .run, .normal,none⟩) (s.cxN cxN) λp s1=>Q p.1 (s1.cxN s.cx)):W (Ay envS (runF envS n) 117 [a0]) s Q:=
 W.call (by kernel_rfl) (by kernel_rfl) UO (by kernel_rfl) rfl rfl (by simp) (h _ (by kernel_rfl))
theorem Ws:Try.f117.results.toList=[.tmp 2]:=by kernel_rfl
def QZ:List Item:=skim 64 [.code JY_]
def OV:List Item:=skim 64 QZ.tail
theorem LZ_:skim 64 QZ.tail=OV:=by kernel_rfl
def Lw:List Item:=skim 64 OV.tail
theorem Ahv_:skim 64 OV.tail=Lw:=by kernel_rfl
def PU:List Item:=skim 64 (brF Lw)
theorem KV_:skim 64 (brF Lw)=PU:=by kernel_rfl
def SC:List Item:=skim 64 PU.tail
theorem BX_:skim 64 PU.tail=SC:=by kernel_rfl
def Hj_ (E:Env)(call round:Ad)(tm:T Value):M (T Value):=
 mv (some (.slice none 0 0)) λv2=>
 setF 2 v2 tm λtm1=>
 M.pure tm1
theorem OV_:RegEq 117 8 Ns QZ Hj_:=⟨by kernel_rfl,λ_ _ _ _ _ _ _ _ _=>by kernel_rfl⟩
def Ee_ (E:Env)(call round:Ad)(tm:T Value):M (T Value):=
 mv (T.get tm 0) λv3=>
 M.bind (oS (some v3) λa=>oS (some (.slice none 0 0)) λb=>Cl.get (aBin E .eql 22 (.tmp 3) (.const (.slice none 0 0))) a b) λv4=>
 setF 4 v4 tm λtm1=>
 M.pure tm1
theorem SK_:RegEq 117 8 Ns OV Ee_:=⟨by kernel_rfl,λ_ _ _ _ _ _ _ _ _=>by kernel_rfl⟩
theorem AcA_:A5 Lw=some 4:=by kernel_rfl
def Ck_ (E:Env)(call round:Ad)(tm:T Value):M (T Value):=
 M.bind (oS (seqP []) λps=>C5 E 22 0 ps) λv5=>
 mv (T.get tm 0) λv6=>
 M.bind (oS (seqO [(some v5),(some v6)]) λl=>A6 E .append [22,22] l) λv7=>
 mv (some v7) λv2=>
 setF 2 v2 tm λtm1=>
 M.pure tm1
theorem Akv_:RegEq 117 8 Ns PU Ck_:=⟨by kernel_rfl,λ_ _ _ _ _ _ _ _ _=>by kernel_rfl⟩
theorem ZQ: ∃k,SC= .code .ret::k:=⟨SC.tail,by kernel_rfl⟩
section
variable {s:St}
def Bn (s:St)(v:Value)(l:List Nat):Prop:= ∃b o c,v= .slice (some ⟨b,o,none⟩) l.length c/\l.length<=c%capU/\Cq c 1=true/\Row s b o (u8l l)
theorem Bn.bs {v:Value}{l:List Nat}(h:Bn s v l):Bs s v l:= .inr h
theorem Bn.ext {F G:Nat->Prop}{s s':St}{v:Value}{l:List Nat}(h:Bn s v l)(e:Ext F G s s')(hG: ∀x,BsF v x-> ¬G x):Bn s' v l:=by
 rcases h.bs.ext e hG with⟨rfl,_⟩|h'
 ·obtain⟨_,_,_,e,_⟩:=h;cases e
 ·exact h'
theorem Bn.ext0 {F:Nat->Prop}{s s':St}{v:Value}{l:List Nat}(h:Bn s v l)(e:Ext F Non s s'):Bn s' v l:=h.ext e λ_ _=>id
def Byt (l:List Nat):Prop:= ∀x∈l,x<256
theorem UM: ∀{l:List Nat},Byt l->u8s (u8l l)=some l
 |[],_=>rfl
 |n::l,h=>by
  have e:=UM (l:=l) λx hx=>h x (by simp[hx])
  show(match Value.int .u8 (.ofNat n),u8s (u8l l)with| .int .u8 (.ofNat n),some ns=>bif Nat.blt n 256 then some (n::ns)else none|_,_=>none)=_
  rw[e]
  simp -implicitDefEqProofs only[Cr (h n (by simp)),cond_true]
theorem W.rdB {b o:Nat}{l:List Nat}{Q:List Value->St->Prop}(h:Row s b o (u8l l))(q: ∀s1,s1.mem=s.mem->s1.next=s.next->Ext (In b o l.length) Non s s1->Q (u8l l) s1):W (Am.rdL l.length ⟨b,o,none⟩) s Q:=by
 have hl:l.length=(u8l l).length:=(Bu l).symm
 rw[hl]
 refine W.rdL h λs1 e1 e2 e3=>q s1 e1 e2 ?_
 rw[Bu]at e3
 exact e3
theorem W.more {sum:Nat}{v:Value}{l:List Nat}{Q:Value->St->Prop}(h:Bn s v l)(hl:Byt l)(hz:l.length<=4611686018427387904)(hs:sum<4294967296)
  (q: ∀s1,s1.mem=s.mem->s1.next=s.next->Ext (BsF v) Non s s1->Q (.int .u32 (CV sum l:Nat)) s1):W (En [.int .u32 (sum:Nat),v]) s Q:=by
 obtain⟨b,o,c,rfl,h1,h2,h3⟩:=h
 refine W.chk (by rw[Cr hs];simpa using hz) (W.bind (W.rdB h3 λs1 e1 e2 e3=>W.on (UM hl) ?_))
 rw[Nh]
 exact W.pure (q s1 e1 e2 e3)
end
theorem CA_ {n:Nat}{s:St}{v:Value}{l:List Nat}{Q:Value->St->Prop}(hn:10<=n)(h:Bn s v l)(hl:Byt l)(hz:l.length<=4611686018427387904)
  (q: ∀s1,s1.mem=s.mem->s1.next=s.next->Ext (BsF v) Non s s1->Q (.int .u32 (CV 0 l:Nat)) s1):W (Ay envS (runF envS n) 105 [v]) s Q:=by
 refine Zx_ λtm h0=> ?_
 refine Va_.w rfl (by omega) ?_
 simp -implicitDefEqProofs only[Hg_,Aa,W_mv,Ab]
 refine AhK_.w Afv_ (by omega) ?_
 simp -implicitDefEqProofs only[In_,Ac,W_on,Aa,W_mv,Ab,aA,Ag,Af,Ae,Ah,reduceCtorEq, ↓reduceIte,h0]
 refine W.orc (m:=En) (by kernel_rfl) ?_
 change W (En [.int .u32 ((0:Nat):Int),v]) _ _
 refine W.more (s:=s.cxN cxN) h hl hz (by decide) λs1 e1 e2 e3=> ?_
 refine aG (rs:=[2]) (vs:=[.int .u32 (CV 0 l:Nat)]) Sk_ (.inl AkT_) (by omega) V0 Aiz_ e3.cx (by simp[aA]) ?_
 refine q _ e1 e2 ⟨e3.nxt,e3.lim,rfl,e3.mem,e3.rd,e3.wr⟩
theorem BE:slN envS 22=some 1:=by kernel_rfl
theorem HO:slN envS 43=some 1:=by kernel_rfl
theorem PY:elT envS 22=some (1,1,[.int .u8 0]):=by kernel_rfl
theorem ES:appT envS 22 22=some (1,1,false,[.int .u8 0]):=by kernel_rfl
theorem AhD_:appT envS 22 3=some (1,1,true,[.int .u8 0]):=by kernel_rfl
theorem CO:tyS envS 22=some (1,false):=by kernel_rfl
theorem ER:tyS envS 5=some (1,false):=by kernel_rfl
theorem Vv (n:Nat):rep n [Value.int .u8 0]=List.replicate n (Value.int .u8 0):=by
 induction n with
 |zero=>rfl
 |succ n ih=>
  show [Value.int .u8 0]++rep n [Value.int .u8 0]=_
  rw[ih];rfl
structure Room (s s':St)(N:Nat)(v:Value)(b:Nat):Prop where
 val:v= .slice (some ⟨b,0,none⟩) 0 (capU*((b+N*1)*1024+1)+N)
 new:s.next<=b
 own:AC s' b 0 (List.replicate N (.int .u8 0))
theorem Ie_ {n N:Nat}{s:St}{Q:Value->St->Prop}(hbd:s.lim<=s.next)(hn:20<=n)(hN:0<N)(hN2:N<=1000000)
  (q: ∀s1 v b,Room s s1 N v b->Ext Non Non s s1->Q v s1):W (Ay envS (runF envS n) 106 [.slice none 0 0, .int .i64 (N:Nat)]) s Q:=by
 refine Rm_ λtm h0 h1=> ?_
 refine LV_.w rfl (by omega) ?_
 simp -implicitDefEqProofs only[Dn_,Aa,W_mv,Ab]
 refine Sj_.w WE_ (by omega) ?_
 simp -implicitDefEqProofs only[BB_,Ac,W_oS,Aa,W_mv,Ab,aA,Nat.reduceEqDiff, ↓reduceIte,Bg,h1]
 refine W.cond (v:=false) OG_ AhF_ (by simp[aA]) (by omega) (λh=>by cases h) λ_=> ?_
 refine Ahb_.w WJ_ (by omega) ?_
 simp -implicitDefEqProofs only[WM,Ac,W_oS,Aa,W_mv,Ab,aA,Ag,Af,Ae,Nat.reduceEqDiff,reduceCtorEq, ↓reduceIte,Ec,h0,h1,DS_ BE,Cc BE]
 refine QP_.w Oq_ (by omega) ?_
 have e1:wrap64 ((N:Int)-wrap64 (((0:Nat):Int)-((0:Nat):Int)))=(N:Nat):=by
  rw[Bq (n:=((0:Nat):Int)-((0:Nat):Int)) (by simp) (by simp),Bq]<;>simp<;>omega
 simp -implicitDefEqProofs only[Xz,Ac,W_oS,Aa,W_mv,Ab,aA,↓reduceIte,CT,e1]
 refine W.cond (v:=true) AfM_ UY_ (by simp[aA,hN]) (by omega) (λ_=> ?_) λh=>by cases h
 refine Ur_.w Us_ (by omega) ?_
 simp -implicitDefEqProofs only[JD_,Ac,W_oS,W_on,Aa,W_mv,Ab,aA,Ag,Af,Ae,Nat.reduceEqDiff,reduceCtorEq, ↓reduceIte,h0,DS_ BE,TF_ (lo:=none) (hi:=some (.int .i64 ((0:Nat):Int))) BE rfl rfl,Ee]
 refine W.appNil (s:=s.cxN cxN) hbd (n:=N) (l:=rep N [.int .u8 0]) AhD_ (Ald_ (by omega)) hN (by decide) (by decide) (by omega) (by rw[Vv];simp) (by rw[Vv];simp[oneCell]) λs2 v b hf x2=> ?_
 obtain⟨rfl,hnew,hown,hlen,htok,hlt⟩:=hf
 have hc:=Pr (q:=(b+N*1)*1024+1) (Ct (n:=N) (by omega))
 simp -implicitDefEqProofs only[Cc BE,U8 (l:=0) (h:=0) (lo:=none) (hi:=some (.int .i64 ((0:Nat):Int))) BE rfl rfl (Nat.le_refl _) (Nat.zero_le _) (Hz (m:=b+N*1) (Ct (n:=N) (by omega)) (by decide)),↓reduceIte,hc,hN]
 refine UM_.w Qa_ (by omega) ?_
 simp -implicitDefEqProofs only[Ia_,Aa,W_mv,Ab,aA,↓reduceIte]
 refine aG (rs:=[4]) (vs:=[.slice (some ⟨b,0,none⟩) 0 (capU*((b+N*1)*1024+1)+N)]) KD_ (.inl Ys_) (by omega) Xq Agy_ x2.cx (by simp[aA]) ?_
 exact q _ _ b ⟨rfl,hnew,λi v e=>(hown i v (by rw[Vv];exact e)).same rfl rfl⟩ ⟨x2.nxt,x2.lim,rfl,x2.mem,x2.rd,x2.wr⟩
def tot (l:List (Value×List Nat)):Nat:=(l.map λp=>p.2.length).sum
theorem Adp_ {l:List (Value×List Nat)}{i:Nat}{p:Value×List Nat}(h:l[i]?=some p):tot (l.take (i+1))=tot (l.take i)+p.2.length:=by
 unfold tot
 rw[List.take_add_one,h]
 simp
theorem EN_ {l:List (Value×List Nat)}(i:Nat):tot (l.take i)<=tot l:=by
 unfold tot
 have:(l.map λp=>p.2.length).sum=((l.take i).map λp=>p.2.length).sum+((l.drop i).map λp=>p.2.length).sum:=by
  rw[<-List.sum_append,<-List.map_append,List.take_append_drop]
 omega
def D2 (b o:Nat)(l:List (Value×List Nat)):Nat->Prop:=λx=>In b o l.length x\/ ∃p∈l,BsF p.1 x
structure Parts (s:St)(b o:Nat)(l:List (Value×List Nat)):Prop where
 row:Row s b o (l.map (·.1))
 bs: ∀p∈l,Bs s p.1 p.2
theorem Parts.same {s s':St}{b o:Nat}{l:List (Value×List Nat)}(h:Parts s b o l)(hm:s'.mem=s.mem)(hn:s'.next=s.next):Parts s' b o l:=
 ⟨λi v e=>(h.row i v e).same hm hn,λp hp=>(h.bs p hp).same hm hn⟩
theorem Parts.ext0 {F:Nat->Prop}{s s':St}{b o:Nat}{l:List (Value×List Nat)}(h:Parts s b o l)(e:Ext F Non s s'):Parts s' b o l:=⟨h.row.ext0 e,λp hp=>(h.bs p hp).ext0 e⟩
section
variable {b o c:Nat}{parts:List (Value×List Nat)}
theorem Parts.get {s:St}(h:Parts s b o parts){i:Nat}(hi:i<parts.length):At s b (o+i*1) parts[i].1/\Bs s parts[i].1 parts[i].2:=by
 refine⟨?_,h.bs _ (List.getElem_mem hi)⟩
 rw[Nat.mul_one]
 exact h.row i _ (by simp[hi])
theorem AX_ {i:Nat}(hi:i<parts.length):tot (parts.take (i+1))=tot (parts.take i)+parts[i].2.length:=Adp_ (List.getElem?_eq_getElem hi)
theorem VY (ht:tot parts<=1000000)(hlen:parts.length<=4611686018427387904){F:Nat->Prop}(hF: ∀x,D2 b o parts x->F x){Q:Value×FrameMode->St->Prop}{s0:St}(hb0:s0.lim<=s0.next)(hp:Parts s0 b o parts): ∀(k i n:Nat) (tm:T Value) (s:St) (td:List Item),i+k=parts.length->7*k+7<=n->skim 64 td=GF->Ext F Non s0 s->s.mem=s0.mem->s.next=s0.next->
  T.get tm 0=some (.slice (some ⟨b,o,none⟩) parts.length c)->T.get tm 9=some (.slice (some ⟨b,o,none⟩) parts.length c)->T.get tm 10=some (.int .i64 (parts.length:Nat))->T.get tm 11=some (.int .i64 (i:Nat))->T.get tm 3=some (.int .i64 (tot (parts.take i):Nat))->
  (∀n' tm' s1 td',n<=n'+7*k+2->skim 64 td'=Jp->Ext F Non s0 s1->s1.mem=s0.mem->s1.next=s0.next->T.get tm' 0=some (.slice (some ⟨b,o,none⟩) parts.length c)->T.get tm' 3=some (.int .i64 (tot parts:Nat))->W (runF envS n' ⟨63,PN,Cu,tm',td', .run, .normal,none⟩) s1 Q)->
  W (runF envS n ⟨63,PN,Cu,tm,td, .run, .normal,none⟩) s Q:=by
 intro k
 induction k with
 |zero=>
  intro i n tm s td hi hn hT hx hm hnx h0 h9 h10 h11 h3 q
  refine DK_.w hT (by omega) ?_
  simp -implicitDefEqProofs only[T6,Ac,W_oS,Aa,Ab,Bg,h10,h11]
  refine W.cond (v:=false) Al_ Ex_ (by simp[aA];omega) (by omega) (λh=>by cases h) λ_=> ?_
  have e:tot (parts.take i)=tot parts:=by rw[show i=parts.length by omega,List.take_length]
  rw[e]at h3
  exact q _ _ _ _ (by omega) AdV_ hx hm hnx (by simp[aA,h0]) (by simp[aA,h3])
 |succ k ih=>
  intro i n tm s td hi hn hT hx hm hnx h0 h9 h10 h11 h3 q
  have hil:i<parts.length:=by omega
  obtain⟨g1,g2⟩:=hp.get hil
  have hlt:=AX_ hil
  have htl:=EN_ (l:=parts) (i+1)
  refine DK_.w hT (by omega) ?_
  simp -implicitDefEqProofs only[T6,Ac,W_oS,Aa,Ab,Bg,h10,h11]
  refine W.cond (v:=true) Al_ Ex_ (by simp[aA];omega) (by omega) (λ_=> ?_) λh=>by cases h
  refine VQ_.w XT_ (by omega) ?_
  simp -implicitDefEqProofs only[Dt_,Ac,W_oS,Aa,W_mv,Ab,aA,Nat.reduceEqDiff, ↓reduceIte,h9,h11,BX HO hil]
  refine aD CO (g1.same hm hnx) ?_
  refine SN_.w AgT_ (by omega) ?_
  have ew:wrap64 ((tot (parts.take i):Nat)+(parts[i].2.length:Nat):Int)=(tot (parts.take (i+1)):Nat):=by
   rw[Bq (by omega) (by omega),hlt];simp
  have ei:wrap64 ((i:Nat)+1:Int)=((i+1:Nat):Int):=by
   have:parts.length<=4611686018427387904:=hlen
   rw[Bq (by omega) (by omega)];simp
  have hx1:Ext F Non s0 (s.rdN (b+(o+i*1))):=hx.trans (Ext.rdN (F:=F) s _ λ_=>hF _ (.inl ⟨by omega,by omega⟩)) hb0 (λ_ _ h=>h) λ_ _ h=>h
  simp -implicitDefEqProofs only[Xx,Ac,W_oS,Aa,W_mv,Ab,aA,Ag,Af,Ae,Nat.reduceEqDiff, ↓reduceIte,BG,h3,Bs.len (s:=s.rdN (b+(o+i*1))) (g2.same hm hnx) BE,ew]
  refine Ud_.w Akq_ (by omega) ?_
  simp -implicitDefEqProofs only[V8,Ac,W_oS,Aa,W_mv,Ab,aA,↓reduceIte,Bg]
  refine W.cond (v:=false) Wr_ Akw_ (by simp[aA]) (by omega) (λh=>by cases h) λ_=> ?_
  refine AjS_.w Vc_ (by omega) ?_
  simp -implicitDefEqProofs only[JL_,Ac,W_oS,Aa,W_mv,Ab,aA,Nat.reduceEqDiff, ↓reduceIte,BG,h11,ei]
  exact ih (i+1) _ _ _ _ (by omega) (by omega) Ajq_ hx1 hm hnx (by simp[aA,h0]) (by simp[aA,h9]) (by simp[aA,h10]) (by simp[aA]) (by simp[aA]) λn' tm' s1 td' e=>q n' tm' s1 td' (by omega)
end
section
variable {b o c:Nat}{parts:List (Value×List Nat)}
def fl (l:List (Value×List Nat)):List Nat:=(l.map (·.2)).flatten
theorem Ip (l:List (Value×List Nat)):(fl l).length=tot l:=by
 unfold fl tot
 rw[List.length_flatten,List.map_map]
 rfl
theorem Aem_ {l:List (Value×List Nat)}{i:Nat}(h:i<l.length):fl (l.take (i+1))=fl (l.take i)++l[i].2:=by
 unfold fl
 rw[List.take_add_one,List.getElem?_eq_getElem h,List.map_append,List.flatten_append]
 simp
theorem Zy (ht:tot parts<=1000000)(hlen:parts.length<=4611686018427387904){F:Nat->Prop}(hF: ∀x,D2 b o parts x->F x){Q:Value×FrameMode->St->Prop}{s0:St}(hb0:s0.lim<=s0.next)(hp:Parts s0 b o parts){nb cc:Nat}(hnb:s0.next<=nb)(hcc:cc%capU=tot parts): ∀(k i n:Nat) (tm:T Value) (s:St) (td:List Item),i+k=parts.length->6*k+6<=n->skim 64 td=Im->Ext F Non s0 s->FH s nb 0 (tot parts)->AC s nb 0 (u8l (fl (parts.take i)))->
  T.get tm 25=some (.slice (some ⟨b,o,none⟩) parts.length c)->T.get tm 26=some (.int .i64 (parts.length:Nat))->T.get tm 27=some (.int .i64 (i:Nat))->T.get tm 6=some (.slice (some ⟨nb,0,none⟩) (tot (parts.take i)) cc)->
  (∀n' tm' s1 td',n<=n'+6*k+2->skim 64 td'=Ka->Ext F Non s0 s1->AC s1 nb 0 (u8l (fl parts))->T.get tm' 6=some (.slice (some ⟨nb,0,none⟩) (tot parts) cc)->W (runF envS n' ⟨63,PN,Cu,tm',td', .run, .normal,none⟩) s1 Q)->
  W (runF envS n ⟨63,PN,Cu,tm,td, .run, .normal,none⟩) s Q:=by
 intro k
 induction k with
 |zero=>
  intro i n tm s td hi hn hT hx hown hrow h25 h26 h27 h6 q
  refine IL_.w hT (by omega) ?_
  simp -implicitDefEqProofs only[TF,Ac,W_oS,Aa,Ab,Bg,h26,h27]
  refine W.cond (v:=false) DQ_ Dg_ (by simp[aA];omega) (by omega) (λh=>by cases h) λ_=> ?_
  have e:parts.take i=parts:=by rw[show i=parts.length by omega,List.take_length]
  rw[e]at h6 hrow
  exact q _ _ _ _ (by omega) MV_ hx hrow (by simp[aA,h6])
 |succ k ih=>
  intro i n tm s td hi hn hT hx hown hrow h25 h26 h27 h6 q
  have hil:i<parts.length:=by omega
  obtain⟨g1,g2⟩:=(hp.ext0 hx).get hil
  have hlt:=AX_ hil
  have htl:=EN_ (l:=parts) (i+1)
  refine IL_.w hT (by omega) ?_
  simp -implicitDefEqProofs only[TF,Ac,W_oS,Aa,Ab,Bg,h26,h27]
  refine W.cond (v:=true) DQ_ Dg_ (by simp[aA];omega) (by omega) (λ_=> ?_) λh=>by cases h
  refine AiD_.w AcI_ (by omega) ?_
  simp -implicitDefEqProofs only[Z0,Ac,W_oS,Aa,W_mv,Ab,aA,Nat.reduceEqDiff, ↓reduceIte,h25,h27,BX HO hil]
  refine aD CO g1 ?_
  have hx1:Ext F Non s0 (s.rdN (b+(o+i*1))):=hx.trans (Ext.rdN (F:=F) s _ λ_=>hF _ (.inl ⟨by omega,by omega⟩)) hb0 (λ_ _ h=>h) λ_ _ h=>h
  refine RR_.w SS_ (by omega) ?_
  simp -implicitDefEqProofs only[Wv,Ac,W_oS,Aa,W_mv,Ab,aA,Ag,Af,Ae,Nat.reduceEqDiff, ↓reduceIte,h6,Ee]
  refine W.appIn (s:=s.rdN (b+(o+i*1))) ES (g2.same (s':=s.rdN (b+(o+i*1))) rfl rfl).src.g (by rw[hcc];omega) (by rw[Bu,Nat.mul_one]) (DI _) (λj hj=> ?_) λs2 n2 x2 r2=> ?_
  ·obtain⟨u,hu⟩:=hown (tot (parts.take i)+j) (by omega)
   exact⟨u,by rw[show 0+tot (parts.take i)*1+j=0+(tot (parts.take i)+j) by omega];exact hu⟩
  have ei:wrap64 ((i:Nat)+1:Int)=((i+1:Nat):Int):=by
   rw[Bq (by omega) (by omega)];simp
  have hx2:Ext F Non s0 s2:=hx1.step x2 hb0 (λl hl h=>by
   rcases h with h|h
   ·exact hF _ (.inr ⟨_,List.getElem_mem hil,h⟩)
   ·exact absurd h.1 (by omega)) λl h=>by have:=h.1;omega
  have el:parts[i].2.length*1=(u8l parts[i].2).length:=by rw[Bu,Nat.mul_one]
  rw[el]at x2
  have hown2:FH s2 nb 0 (tot parts):=FH.ext (s:=s.rdN (b+(o+i*1))) (λj hj=>let ⟨u,hu⟩:=hown j hj;⟨u,hu.same rfl rfl⟩) x2 r2
  have hrow2:AC s2 nb 0 (u8l (fl (parts.take (i+1)))):=by
   rw[Aem_ hil]
   unfold u8l
   rw[List.map_append]
   refine AC.append (AC.ext (s:=s.rdN (b+(o+i*1))) (λj v e=>(hrow j v e).same rfl rfl) x2 λj hj=> ?_) ?_
   ·rw[Bu,Ip]at hj
    intro h
    have:=h.1
    omega
   ·rw[Bu,Ip]
    rw[Nat.mul_one]at r2
    exact r2
  refine Vf_.w Ahn_ (by omega) ?_
  simp -implicitDefEqProofs only[Zb,Ac,W_oS,Aa,W_mv,Ab,aA,Nat.reduceEqDiff, ↓reduceIte,BG,h27,ei]
  exact ih (i+1) _ _ _ _ (by omega) (by omega) Nv_ hx2 hown2 hrow2 (by simp[aA,h25]) (by simp[aA,h26]) (by simp[aA]) (by simp[aA,hlt]) λn' tm' s1 td' e=>q n' tm' s1 td' (by omega)
end
structure New (s s':St)(v:Value)(l:List Nat):Prop where
 bn:Bn s' v l
 new: ∀x,BsF v x->s.next<=x
theorem Ext.cx' {F G:Nat->Prop}{s s1:St}{c:Ctx}(x:Ext F G (s.cxN c) s1):Ext F G s (s1.cxN s.cx):=⟨x.nxt,x.lim,rfl,x.mem,x.rd,x.wr⟩
theorem Bn.same {s s':St}{v:Value}{l:List Nat}(h:Bn s v l)(hm:s'.mem=s.mem)(hn:s'.next=s.next):Bn s' v l:=by
 obtain⟨b,o,c,h0,h1,h2,h3⟩:=h
 exact⟨b,o,c,h0,h1,h2,λi v e=>(h3 i v e).same hm hn⟩
theorem Alj_ {n:Nat}{s:St}{b o c:Nat}{parts:List (Value×List Nat)}{Q:Value->St->Prop}(hbd:s.lim<=s.next)(hp:Parts s b o parts)(h0:0<tot parts)(ht:tot parts<=1000000)(hlen:parts.length<=4611686018427387904)(hn:13*parts.length+60<=n)
  (q: ∀s1 v,Ext (D2 b o parts) Non s s1->New s s1 v (fl parts)->Q v s1):W (Ay envS (runF envS n) 63 [.slice (some ⟨b,o,none⟩) parts.length c]) s Q:=by
 refine Cs_ λtm hk0=> ?_
 have hpc:Parts (s.cxN cxN) b o parts:=hp.same rfl rfl
 refine Wd.w rfl (by omega) ?_
 simp -implicitDefEqProofs only[RL,Aa,W_mv,Ab]
 refine Z6.w VL (by omega) ?_
 simp -implicitDefEqProofs only[TA,Aa,W_mv,Ab]
 refine YP.w GD_ (by omega) ?_
 simp -implicitDefEqProofs only[U9,Ac,W_oS,Aa,W_mv,Ab,aA,Ag,Af,Ae,reduceCtorEq, ↓reduceIte,hk0,Cc HO]
 refine VY (c:=c) ht hlen (F:=D2 b o parts) (λ_ h=>h) (s0:=s.cxN cxN) hbd hpc parts.length 0 _ _ _ _ (by omega) (by omega) An_ (Ext.refl _) rfl rfl (by simp[aA,hk0]) (by simp[aA]) (by simp[aA]) (by simp[aA]) (by simp[aA,tot]) λn1 tm1 s1 td1 hn1 hT1 hx1 hm1 hnx1 g0 g3=> ?_
 refine CK_.w hT1 (by omega) ?_
 simp -implicitDefEqProofs only[Ux,Ac,W_on,Aa,W_mv,Ab,Ag,Af,Ae,Ah,g3]
 have hb1:s1.lim<=s1.next:=hx1.bnd hbd
 refine Ie_ hb1 (by omega) h0 ht λs2 v nb hr x2=> ?_
 obtain⟨rfl,hnew,hown⟩:=hr
 have hx2:Ext (D2 b o parts) Non (s.cxN cxN) s2:=hx1.step x2 hbd (λ_ _ h=>h.elim) λ_ h=>h.elim
 have hnb:s.next<=nb:=by
  have:s1.next=s.next:=hnx1
  omega
 have hcc:=Pr (q:=(nb+tot parts*1)*1024+1) (Ct (n:=tot parts) (by omega))
 have hok:=Hz (m:=nb+tot parts*1) (sz:=1) (Ct (n:=tot parts) (by omega)) (by decide)
 generalize hC:capU*((nb+tot parts*1)*1024+1)+tot parts=C at *
 refine CE_.w W9 (by omega) ?_
 simp -implicitDefEqProofs only[R5,Ac,W_oS,Aa,W_mv,Ab,aA,Ag,Af,Ae,reduceCtorEq, ↓reduceIte,g0,Cc HO]
 refine Zy (c:=c) ht hlen (F:=D2 b o parts) (λ_ h=>h) (s0:=s.cxN cxN) hbd hpc (nb:=nb) (cc:=C) hnb hcc parts.length 0 _ _ _ _ (by omega) (by omega) HS_ hx2 (by have:=hown.owned;rwa [List.length_replicate]at this) (λi v e=>by simp[fl]at e) (by simp[aA]) (by simp[aA]) (by simp[aA]) (by simp[aA,tot]) λn3 tm3 s3 td3 hn3 hT3 hx3 hrow g6=> ?_
 refine Z3.w hT3 (by omega) ?_
 simp -implicitDefEqProofs only[Ss,Aa,W_mv,Ab,g6]
 refine aG (rs:=[2]) (vs:=[.slice (some ⟨nb,0,none⟩) (tot parts) C]) XA (.inl FT_) (by omega) Uv VQ hx3.cx (by simp[aA]) ?_
 refine q _ _ hx3.cx' ⟨⟨nb,0,C,by rw[Ip];rfl,by rw[Ip,hcc];exact Nat.le_refl _,hok,hrow.row⟩,λx hx=> ?_⟩
 have:nb+0<=x:=hx.1
 omega
theorem Jf_:elT envS 43=some (1,24,[.slice none 0 0]):=by kernel_rfl
theorem Kk_:hasT envS 51=true:=by kernel_rfl
theorem Uo:intK envS 5=some .u8:=by kernel_rfl
def le4 (n:Nat):List Nat:=[n%256,n>>>8%256,n>>>16%256,n>>>24%256]
def gput (l:List Nat):List Nat:=l++le4 (CV 0 l)
theorem Byt.le4 (n:Nat):Byt (le4 n):=λx hx=>by
 simp -implicitDefEqProofs only[Am.le4,List.mem_cons,List.not_mem_nil,or_false]at hx
 omega
theorem Byt.gput {l:List Nat}(h:Byt l):Byt (gput l):=λx hx=>by
 rcases List.mem_append.1 hx with hx|hx
 ·exact h x hx
 ·exact Byt.le4 _ x hx
theorem AgQ_ {n:Nat}{s:St}{v:Value}{l:List Nat}{Q:Value->St->Prop}(hbd:s.lim<=s.next)(hn:120<=n)(h:Bn s v l)(hl:Byt l)(hz:l.length<=900000)
  (q: ∀s1 w,Ext (BsF v) Non s s1->New s s1 w (gput l)->Q w s1):W (Ay envS (runF envS n) 64 [v]) s Q:=by
 refine EI_ λtm h0=> ?_
 have hc:Bn (s.cxN cxN) v l:=h.same rfl rfl
 refine Yh.w rfl (by omega) ?_
 simp -implicitDefEqProofs only[TP,Aa,W_mv,Ab]
 refine Cl_.w V7 (by omega) ?_
 simp -implicitDefEqProofs only[Si,Ac,W_on,Aa,W_mv,Ab,aA,Ag,Af,Ae,Ah,reduceCtorEq, ↓reduceIte,h0]
 refine CA_ (by omega) hc hl (by omega) λs1 m1 n1 x1=> ?_
 refine Fy_.w Ds_ (by omega) ?_
 generalize hS:CV 0 l=S
 simp -implicitDefEqProofs only[TW,Ac,W_oS,W_on,Aa,W_mv,Ab,aA,Ag,Af,Aw,Av,Ae,Ah,reduceCtorEq, ↓reduceIte,h0]
 simp -implicitDefEqProofs only[MA Kk_ Uo,wrap_u8,AN_ (k:= .u32) (by decide),X3 (k:= .u32) (by decide),Jz_ (k:= .u32) (by decide)]
 have hb1:s1.lim<=s1.next:=x1.bnd hbd
 refine aS hb1 (r:=u8l (le4 S)) PY (by decide) rfl (Ct (by decide)) λs2 n2 x2 r2=> ?_
 have hb2:s2.lim<=s2.next:=x2.bnd hb1
 obtain⟨b,o,c,rfl,hv⟩:=hc
 refine aS hb2 (r:=[.slice (some ⟨b,o,none⟩) l.length c, .slice (some ⟨s1.next,0,none⟩) 4 4]) Jf_ (by decide) rfl (Ct (by decide)) λs3 n3 x3 r3=> ?_
 have hb3:s3.lim<=s3.next:=x3.bnd hb2
 have hx1:Ext (BsF (.slice (some ⟨b,o,none⟩) l.length c)) Non (s.cxN cxN) s1:=x1
 have hx2:=hx1.step x2 hbd (λ_ _ h=>h.elim) λ_ h=>h.elim
 have hx3:=hx2.step x3 hbd (λ_ _ h=>h.elim) λ_ h=>h.elim
 have hBv:Bs s3 (.slice (some ⟨b,o,none⟩) l.length c) l:=(Bn.bs ⟨b,o,c,rfl,hv⟩).ext0 hx3
 have hB4:Bs s3 (.slice (some ⟨s1.next,0,none⟩) 4 4) (le4 S):=(AC.bn r2 (Ct (by simp[le4]))).ext0 x3
 have hlt:tot [((.slice (some ⟨b,o,none⟩) l.length c:Value),l),(.slice (some ⟨s1.next,0,none⟩) 4 4,le4 S)]=l.length+4:=by simp[tot,le4]
 refine Alj_ (parts:=[(.slice (some ⟨b,o,none⟩) l.length c,l),(.slice (some ⟨s1.next,0,none⟩) 4 4,le4 S)]) hb3 ⟨r3.row,λp hp=> ?_⟩ (by rw[hlt];omega) (by rw[hlt];omega) (by simp) (by simp;omega) λs4 w x4 hw=> ?_
 ·rcases List.mem_cons.1 hp with rfl|hp
  ·exact hBv
  ·rcases List.mem_cons.1 hp with rfl|hp
   ·exact hB4
   ·cases hp
 have hx4:=hx3.step x4 hbd (λx hx h=>by
  have hn1:s.next<=s1.next:=x1.nxt
  have hn2:s1.next<=s2.next:=x2.nxt
  have hxl:x<s.lim:=hx
  rcases h with h|⟨p,hp,h⟩
  ·have:=h.1;omega
  ·rcases List.mem_cons.1 hp with rfl|hp
   ·exact h
   ·rcases List.mem_cons.1 hp with rfl|hp
    ·have:s1.next+0<=x:=h.1
     omega
    ·cases hp) λ_ h=>h.elim
 refine aG (rs:=[2]) (vs:=[w]) YF (.inl Cv_) (by omega) Vn Yo hx4.cx (by simp[aA]) ?_
 refine q _ _ hx4.cx' ⟨?_,λx hx=> ?_⟩
 ·have:=hw.bn.same (s':=s4.cxN s.cx) rfl rfl
  show Bn (s4.cxN s.cx) w (gput l)
  unfold gput
  rw[hS]
  simpa [fl]using this
 ·have h1:=hw.new x hx
  have h2:s.next<=s3.next:=hx3.nxt
  omega
theorem Bs.at {s:St}{v:Value}{l:List Nat}(h:Bs s v l){i:Nat}(hi:i<l.length): ∃b o c,v= .slice (some ⟨b,o,none⟩) l.length c/\At s b (o+i*1) (u8 l[i])/\(∀x,x=b+(o+i*1)->BsF v x):=by
 rcases h with⟨rfl,rfl⟩|⟨b,o,c,rfl,_,_,h3⟩
 ·simp at hi
 ·refine⟨b,o,c,rfl, ?_,λx hx=>⟨by omega,by omega⟩⟩
  rw[Nat.mul_one]
  exact h3.at (List.getElem?_eq_getElem hi)
section
variable {va vb:Value}{la lb:List Nat}
theorem VO_ {F:Nat->Prop}(hFa: ∀x,BsF va x->F x)(hFb: ∀x,BsF vb x->F x){Q:Value×FrameMode->St->Prop}{s0:St}(hb0:s0.lim<=s0.next)(ha:Bs s0 va la)(hb:Bs s0 vb lb)(hlen:la.length=lb.length)(hz:la.length<=4611686018427387904)(hcx:s0.cx= .cx none (some []))(q: ∀s1,Ext F Non s0 s1->s1.mem=s0.mem->s1.next=s0.next->Q (.bool (decide (la=lb)), .run) s1):
  ∀(k i n:Nat) (tm:T Value) (s:St) (td:List Item),i+k=la.length->7*k+20<=n->skim 64 td=IJ->Ext F Non s0 s->s.mem=s0.mem->s.next=s0.next->la.take i=lb.take i->
  T.get tm 0=some va->T.get tm 1=some vb->T.get tm 12=some (.int .i64 (la.length:Nat))->T.get tm 13=some (.int .i64 (i:Nat))->
  W (runF envS n ⟨116,Oe_,Dn,tm,td, .run, .normal,none⟩) s Q:=by
 intro k
 induction k with
 |zero=>
  intro i n tm s td hi hn hT hx hm hnx heq h0 h1 h12 h13
  refine IV_.w hT (by omega) ?_
  simp -implicitDefEqProofs only[T4,Ac,W_oS,Aa,Ab,Bg,h12,h13]
  refine W.cond (v:=false) DO_ Fv_ (by simp[aA];omega) (by omega) (λh=>by cases h) λ_=> ?_
  refine Ns_.w Pc_ (by omega) ?_
  simp -implicitDefEqProofs only[Ai_,Aa,W_mv,Ab]
  have e:la=lb:=by
   rw[show i=la.length by omega,List.take_length,hlen,List.take_length]at heq
   exact heq
  refine aG (rs:=[4]) (vs:=[.bool true]) QW_ (.inl Ml_) (by omega) MG QR (hx.cx.trans hcx) (by simp[aA]) ?_
  have:=q s hx hm hnx
  rw[decide_eq_true e]at this
  exact this
 |succ k ih=>
  intro i n tm s td hi hn hT hx hm hnx heq h0 h1 h12 h13
  have hia:i<la.length:=by omega
  have hib:i<lb.length:=by omega
  obtain⟨ba,oa,ca,rfl,ga,fa⟩:=ha.at hia
  obtain⟨bb,ob,cb,rfl,gb,fb⟩:=hb.at hib
  refine IV_.w hT (by omega) ?_
  simp -implicitDefEqProofs only[T4,Ac,W_oS,Aa,Ab,Bg,h12,h13]
  refine W.cond (v:=true) DO_ Fv_ (by simp[aA];omega) (by omega) (λ_=> ?_) λh=>by cases h
  refine XN_.w Abj_ (by omega) ?_
  simp -implicitDefEqProofs only[Z1,Aa,W_mv,Ab,aA,Nat.reduceEqDiff, ↓reduceIte,h13]
  refine Np_.w Adz_ (by omega) ?_
  simp -implicitDefEqProofs only[Ib_,aA,Nat.reduceEqDiff, ↓reduceIte,h0,h1,BW,Br]
  rw[W_dq λs Q=>BX (s:=s) BE hia Q]
  refine aH ER (ga.same hm hnx) λrd1 hr1=> ?_
  simp -implicitDefEqProofs only[Br]
  rw[W_dq λs Q=>BX (s:=s) BE hib Q]
  refine aH ER (gb.same hm hnx) λrd2 hr2=> ?_
  rw[Aa]
  refine⟨D9 (by simp) (by simp), ?_⟩
  refine W.cast (AbY_ _ _ _ _ _ _ _ _ _ _ _ _ _) ?_
  simp -implicitDefEqProofs only[Ac,W_oS,Aa,Ar,Aks_]
  generalize hs':(⟨(dSt s.mem s.next).mem,(dSt s.mem s.next).next,s.lim,_,_,s.cx⟩:St)=s'
  have hx':Ext F Non s0 s':=by
   rw[<-hs']
   refine hx.trans (Ext.draw (F:=F) (Nat.le_refl _) (λ_ _=>rfl) (by simp) (by
    simp -implicitDefEqProofs only[List.mem_cons,List.not_mem_nil,or_false]
    rintro m (rfl|rfl|rfl|rfl|rfl|rfl|rfl|rfl) x hx _<;>first|(exact hFa _ (fa _ (hr1 _ hx)))|(exact hFb _ (fb _ (hr2 _ hx)))|(cases hx))) hb0 (λ_ _ h=>h) λ_ _ h=>h
  have hm':s'.mem=s0.mem:=by rw[<-hs'];exact hm
  have hn':s'.next=s0.next:=by rw[<-hs'];exact hnx
  by_cases he:la[i]=lb[i]
  ·refine W.cond (v:=false) Xl FX_ (by simp[aA,he]) (by omega) (λh=>by cases h) λ_=> ?_
   refine AfK_.w Agk_ (by omega) ?_
   have ei:wrap64 ((i:Nat)+1:Int)=((i+1:Nat):Int):=by
    rw[Bq (by omega) (by omega)];simp
   simp -implicitDefEqProofs only[Hp_,Ac,W_oS,Aa,W_mv,Ab,aA,Nat.reduceEqDiff, ↓reduceIte,BG,h13,ei]
   refine ih (i+1) _ _ _ _ (by omega) (by omega) SG_ hx' hm' hn' ?_ (by simp[aA,h0]) (by simp[aA,h1]) (by simp[aA,h12]) (by simp[aA])
   rw[List.take_add_one,List.take_add_one,heq,List.getElem?_eq_getElem hia,List.getElem?_eq_getElem hib,he]
  ·refine W.cond (v:=true) Xl FX_ (by simp[aA,he]) (by omega) (λ_=> ?_) λh=>by cases h
   refine AfT_.w Lm_ (by omega) ?_
   simp -implicitDefEqProofs only[Zd,Aa,W_mv,Ab]
   have e:la≠lb:=by
    intro e
    subst e
    exact he rfl
   refine aG (rs:=[4]) (vs:=[.bool false]) Mx_ (.inl NU_) (by omega) MG QR (hx'.cx.trans hcx) (by simp[aA]) ?_
   have:=q s' hx' hm' hn'
   rw[decide_eq_false e]at this
   exact this
theorem MG_ {n:Nat}{s:St}{Q:Value->St->Prop}(hbd:s.lim<=s.next)(ha:Bs s va la)(hb:Bs s vb lb)(hz:la.length<=4611686018427387904)(hn:7*la.length+40<=n)
  (q: ∀s1,Ext (λx=>BsF va x\/BsF vb x) Non s s1->s1.mem=s.mem->s1.next=s.next->Q (.bool (decide (la=lb))) s1):W (Ay envS (runF envS n) 116 [va,vb]) s Q:=by
 refine SF_ λtm h0 h1=> ?_
 have ha':Bs (s.cxN cxN) va la:=ha.same rfl rfl
 have hb':Bs (s.cxN cxN) vb lb:=hb.same rfl rfl
 refine Ym_.w rfl (by omega) ?_
 simp -implicitDefEqProofs only[Zl,Aa,W_mv,Ab]
 refine Yc_.w NH_ (by omega) ?_
 simp -implicitDefEqProofs only[CL_,Ac,W_oS,Aa,W_mv,Ab,aA,Ag,Af,Ae,Nat.reduceEqDiff,reduceCtorEq, ↓reduceIte,Co,h0,h1,ha'.len BE,hb'.len BE]
 by_cases hlen:la.length=lb.length
 ·refine W.cond (v:=false) CB_ Zg (by simp[aA,hlen]) (by omega) (λh=>by cases h) λ_=> ?_
  refine AbW_.w Aez_ (by omega) ?_
  simp -implicitDefEqProofs only[IC_,Ac,W_oS,Aa,W_mv,Ab,aA,Ag,Af,Ae,reduceCtorEq, ↓reduceIte,h0,ha'.len BE]
  exact VO_ (s0:=s.cxN cxN) (F:=λx=>BsF va x\/BsF vb x) (λ_ h=> .inl h) (λ_ h=> .inr h) hbd ha' hb' hlen hz rfl (λs1 x1 m1 n1=>q _ x1.cx' m1 n1) la.length 0 _ _ _ _ (by omega) (by omega) Yw_ (Ext.refl _) rfl rfl (by simp) (by simp[aA,h0]) (by simp[aA,h1]) (by simp[aA]) (by simp[aA])
 ·refine W.cond (v:=true) CB_ Zg (by simp[aA];omega) (by omega) (λ_=> ?_) λh=>by cases h
  refine AeP_.w Xh_ (by omega) ?_
  simp -implicitDefEqProofs only[Ca_,Aa,W_mv,Ab]
  have e:la≠lb:=λe=>hlen (by rw[e])
  refine aG (rs:=[4]) (vs:=[.bool false]) Agu_ (.inl KF_) (by omega) MG QR rfl (by simp[aA]) ?_
  have:=q _ (Ext.refl s) rfl rfl
  rw[decide_eq_false e]at this
  exact this
end
theorem Fresh1.toNew {s s':St}{v:Value}{b:Nat}{l:List Nat}(h:Fresh1 s s' 1 l.length (u8l l) v b)(hl:l.length<capU):New s s' v l:=by
 obtain⟨rfl,hnew,hown,_,_,_⟩:=h
 refine⟨⟨b,0,_,rfl,by rw[Pr hl];exact Nat.le_refl _,Hz hl (by decide),hown.row⟩,λx hx=> ?_⟩
 have:b+0<=x:=hx.1
 omega
theorem Ahr_ {n:Nat}{s:St}{v:Value}{l:List Nat}{Q:Value->St->Prop}(hbd:s.lim<=s.next)(h:Bn s v l)(hz:l.length<=1000000)(hn:30<=n)
  (q: ∀s1 w,Ext (BsF v) Non s s1->New s s1 w l->Q w s1):W (Ay envS (runF envS n) 117 [v]) s Q:=by
 refine Rk_ λtm h0=> ?_
 have hc:Bn (s.cxN cxN) v l:=h.same rfl rfl
 refine OV_.w rfl (by omega) ?_
 simp -implicitDefEqProofs only[Hj_,Aa,W_mv,Ab]
 refine SK_.w LZ_ (by omega) ?_
 obtain⟨b,o,c,rfl,hv⟩:=hc
 simp -implicitDefEqProofs only[Ee_,Ac,W_oS,Aa,W_mv,Ab,aA,reduceCtorEq, ↓reduceIte,h0,Aij_ BE]
 refine W.cond (v:=false) Ahv_ AcA_ (by simp[aA]) (by omega) (λh=>by cases h) λ_=> ?_
 refine Akv_.w KV_ (by omega) ?_
 simp -implicitDefEqProofs only[Ck_,Ac,W_oS,Aa,W_mv,Ab,aA,Ag,Af,Av,Ae,reduceCtorEq, ↓reduceIte,h0]
 refine aS (s:=s.cxN cxN) hbd (r:=[]) PY (by decide) rfl (Ct (by decide)) λs1 n1 x1 r1=> ?_
 have hb1:s1.lim<=s1.next:=x1.bnd hbd
 have hx1:Ext (BsF (.slice (some ⟨b,o,none⟩) l.length c)) Non (s.cxN cxN) s1:=x1.weak hbd (λ_ _ h=>h.elim) λ_ _ h=>h
 have hv1:Bs s1 (.slice (some ⟨b,o,none⟩) l.length c) l:=(Bn.bs ⟨b,o,c,rfl,hv⟩).ext0 hx1
 rw[Ee]
 by_cases hl:0<l.length
 ·refine W.appEmp hb1 ES hv1.src.g hl (by decide) (by decide) (by omega) (by rw[Bu,Nat.mul_one]) (DI _) λs2 w nb hf x2=> ?_
  have hx2:=hx1.step x2 hbd (λ_ _ h=>h) λ_ h=>h.elim
  refine aG (rs:=[2]) (vs:=[w]) BX_ (.inl ZQ) (by omega) UO Ws hx2.cx (by simp[aA]) ?_
  have hN:=hf.toNew (Ct (by omega))
  refine q _ _ hx2.cx' ⟨hN.bn.same rfl rfl,λx hx=> ?_⟩
  have h1:=hN.new x hx
  have h2:s.next<=s1.next:=hx1.nxt
  omega
 ·have h0l:l=[]:=List.eq_nil_of_length_eq_zero (by omega)
  subst h0l
  refine W.appIn (s:=s1) (n:=0) (len:=0) (c:=0) (l:=[]) ES hv1.src.g (by simp) rfl rfl (λi hi=>absurd hi (by omega)) λs2 n2 x2 r2=> ?_
  have hx2:=hx1.step x2 hbd (λ_ _ h=>by
   rcases h with h|h
   ·exact h
   ·have h3:=h.1;have h4:=h.2;omega) λl h=>by have h3:=h.1;have h4:=h.2;omega
  refine aG (rs:=[2]) (vs:=[.slice (some ⟨s.next,0,none⟩) (0+0) 0]) BX_ (.inl ZQ) (by omega) UO Ws hx2.cx (by simp[aA];rfl) ?_
  refine q _ _ hx2.cx' ⟨⟨s.next,0,0,rfl,by simp,Qh (by unfold capU;decide),λi v e=>by simp at e⟩,λx hx=> ?_⟩
  have h3:s.next+0<=x:=hx.1
  have h4:x<s.next+0+(0+0):=hx.2
  omega
theorem W.cut {E:Env}{t:Nat}{s:St}{v:Value}{l:List Nat}{i j:Nat}{lo hi:Option Value}{Q:Value->St->Prop}(h:Bn s v l)(ht:slN E t=some 1)(hlo:bndV lo 0=some i)(hhi:bndV hi l.length=some j)(hij:i<=j)(hj:j<=l.length)
  (q: ∀v',Bn s v' ((l.take j).drop i)->(∀x,BsF v' x->BsF v x)->Q v' s):W (B8 E t v lo hi) s Q:=by
 obtain⟨b,o,c,rfl,h1,h2,h3⟩:=h
 rw[U8 ht hlo hhi hij (by omega) h2]
 obtain⟨o',e1,e2,e3,e4,e5⟩:=Bs.sub' hij hj h1 h2 h3
 rw[e1]
 refine q _ ⟨b,o',c-i,rfl,e2,e3,e4⟩ λx hx=> ?_
 have hlen:((l.take j).drop i).length=j-i:=by rw[List.length_drop,List.length_take];omega
 have h6:b+o'<=x:=hx.1
 have h7:x<b+o'+((l.take j).drop i).length:=hx.2
 rw[hlen]at h7
 rcases e5 with rfl|e5
 ·exact⟨by omega,by omega⟩
 ·rw[hlen]at e5;omega
def GOk (l:List Nat):Prop:=4<=l.length/\gput (l.take (l.length-4))=l
instance (l:List Nat):Decidable (GOk l):=by unfold GOk;infer_instance
theorem JF (l:List Nat):(gput l).length=l.length+4:=by simp[gput,le4]
theorem Wd_ {n:Nat}{s:St}{v:Value}{l:List Nat}{Q:Value->St->Prop}(hbd:s.lim<=s.next)(h:Bn s v l)(hb:Byt l)(hz:l.length<=900000)(hn:7*l.length+200<=n)
  (q1:GOk l-> ∀s1 w,Ext (BsF v) Non s s1->New s s1 w (l.take (l.length-4))->Q (.tuple #[w, .int .i64 0]) s1) (q2: ¬GOk l-> ∀s1,Ext (BsF v) Non s s1->Q (.tuple #[.slice none 0 0, .int .i64 4]) s1):W (Ay envS (runF envS n) 81 [v]) s Q:=by
 refine CG_ λtm h0=> ?_
 have hc:Bn (s.cxN cxN) v l:=h.same rfl rfl
 refine ZM.w rfl (by omega) ?_
 simp -implicitDefEqProofs only[SX,Aa,W_mv,Ab]
 refine Hh_.w EY_ (by omega) ?_
 simp -implicitDefEqProofs only[U7,Ac,W_oS,Aa,W_mv,Ab,aA,Ag,Af,Ae,reduceCtorEq, ↓reduceIte,Ec,h0,hc.bs.len BE]
 refine Ze.w Gu_ (by omega) ?_
 by_cases h4:4<=l.length
 ·have ek:wrap64 ((l.length:Nat)-4:Int)=((l.length-4:Nat):Int):=by
   rw[Bq (by omega) (by omega)];omega
  have ed:decide (((l.length-4:Nat):Int)<0)=false:=by simp
  simp -implicitDefEqProofs only[NP,Ac,W_oS,W_on,Aa,W_mv,Ab,aA,Ag,Af,Ae,Ah,Ai,An,Ak,Al,Aj,reduceCtorEq, ↓reduceIte,Bg,h0,ek,ed]
  have hcut:(l.take (l.length-4)).drop 0=l.take (l.length-4):=rfl
  refine W.cut hc BE (i:=0) (j:=l.length-4) rfl rfl (Nat.zero_le _) (by omega) λv1 hv1 hF1=> ?_
  rw[hcut]at hv1
  have hB1:Byt (l.take (l.length-4)):=λx hx=>hb x (List.mem_of_mem_take hx)
  have hl1:(l.take (l.length-4)).length=l.length-4:=by rw[List.length_take];omega
  refine AgQ_ (s:=s.cxN cxN) hbd (by omega) hv1 hB1 (by omega) λs1 w1 x1 hw1=> ?_
  have hb1:s1.lim<=s1.next:=x1.bnd hbd
  have hx1:Ext (BsF v) Non (s.cxN cxN) s1:=x1.weak hbd (λx _ hx=>hF1 x hx) λ_ _ h=>h
  refine MG_ hb1 hw1.bn.bs (hc.ext0 hx1).bs (by rw[JF];omega) (by rw[JF];omega) λs2 x2 m2 n2=> ?_
  have hx2:Ext (BsF v) Non (s.cxN cxN) s2:=hx1.step x2 hbd (λx hx h=>by
   rcases h with h|h
   ·have h5:s.next<=x:=hw1.new x h
    have h6:x<s.lim:=hx
    omega
   ·exact h) λ_ h=>h.elim
  have hb2:s2.lim<=s2.next:=hx2.bnd hbd
  simp -implicitDefEqProofs only[DW]
  by_cases hg:gput (l.take (l.length-4))=l
  ·refine W.cond (v:=false) MP Oq (by simp[aA,hg]) (by omega) (λh=>by cases h) λ_=> ?_
   refine TV_.w Qy_ (by omega) ?_
   simp -implicitDefEqProofs only[WC,Ac,W_on,Aa,W_mv,Ab,aA,Ag,Af,Ae,Ah,Nat.reduceEqDiff,reduceCtorEq, ↓reduceIte,h0]
   refine W.cut (hc.ext0 hx2) BE (i:=0) (j:=l.length-4) rfl rfl (Nat.zero_le _) (by omega) λv3 hv3 hF3=> ?_
   rw[hcut]at hv3
   refine Ahr_ hb2 hv3 (by omega) (by omega) λs3 w x3 hw3=> ?_
   have hx3:Ext (BsF v) Non (s.cxN cxN) s3:=hx2.step x3 hbd (λx _ hx=>hF3 x hx) λ_ h=>h.elim
   refine aG (rs:=[2,3]) (vs:=[w, .int .i64 0]) Aht_ (.inl Qc_) (by omega) JL Nr hx3.cx (by simp[aA]) ?_
   refine q1 ⟨h4,hg⟩ _ w hx3.cx' ⟨hw3.bn.same rfl rfl,λx hx=> ?_⟩
   have h5:=hw3.new x hx
   have h6:s.next<=s2.next:=hx2.nxt
   omega
  ·refine W.cond (v:=true) MP Oq (by simp[aA,hg]) (by omega) (λ_=> ?_) λh=>by cases h
   refine Vl.w Rx (by omega) ?_
   simp -implicitDefEqProofs only[LZ,Aa,W_mv,Ab]
   refine aG (rs:=[2,3]) (vs:=[.slice none 0 0, .int .i64 4]) Ql (.inl Vg) (by omega) JL Nr hx2.cx (by simp[aA]) ?_
   exact q2 (λh=>hg h.2) _ hx2.cx'
 ·have ed:decide (wrap64 ((l.length:Nat)-4:Int)<0)=true:=by
   rw[Bq (by omega) (by omega)];simp;omega
  simp -implicitDefEqProofs only[NP,Ac,W_oS,W_on,Aa,W_mv,Ab,aA,Ag,Af,Ae,Ai,As,Ak,Aq,Aj,reduceCtorEq, ↓reduceIte,Bg,h0,ed]
  refine W.cond (v:=true) MP Oq (by simp[aA]) (by omega) (λ_=> ?_) λh=>by cases h
  refine Vl.w Rx (by omega) ?_
  simp -implicitDefEqProofs only[LZ,Aa,W_mv,Ab]
  refine aG (rs:=[2,3]) (vs:=[.slice none 0 0, .int .i64 4]) Ql (.inl Vg) (by omega) JL Nr rfl (by simp[aA]) ?_
  exact q2 (λh=>h4 h.1) _ (Ext.refl s)
structure DS where
 st:Sha.St8
 w:List Nat
 n:Nat
def DS.k (d:DS)(b:List Nat):Nat:=Nat.min (64-d.n%64) b.length
def DS.w' (d:DS)(b:List Nat):List Nat:=d.w.take (d.n%64)++(b.take (d.k b)++d.w.drop (d.n%64+d.k b))
def DS.step (d:DS)(b:List Nat):DS:=⟨if d.n%64+d.k b=64 then Sha.next d.st (λj=>(d.w' b).getD j 0)else d.st,d.w' b,d.n+d.k b⟩
def DS.write:Nat->DS->List Nat->DS
 |0,d,_=>d
 |f+1,d,b=>if b.length=0 then d else DS.write f (d.step b) (b.drop (d.k b))
structure Dig (s:St)(D:Nat)(d:DS):Prop where
 made:Own s D 0 (.bool true)
 st:AC s D 1 (st8V d.st).toList
 w:AC s D 9 (u8l d.w)
 n:Own s D 73 (.int .i64 (d.n:Nat))
 len:d.w.length=64
 byt:Byt d.w
 ok:d.st.Ok
theorem AcG_ (r:Sha.St8):(st8V r).toList.length=8:=rfl
theorem Dig.ext0 {F:Nat->Prop}{s s':St}{D:Nat}{d:DS}(h:Dig s D d)(e:Ext F Non s s'):Dig s' D d:=⟨h.made.ext0 e,h.st.ext0 e,h.w.ext0 e,h.n.ext0 e,h.len,h.byt,h.ok⟩
theorem Dig.same {s s':St}{D:Nat}{d:DS}(h:Dig s D d)(hm:s'.mem=s.mem)(hn:s'.next=s.next):Dig s' D d:=
 ⟨h.made.same hm hn,λi v e=>(h.st i v e).same hm hn,λi v e=>(h.w i v e).same hm hn,h.n.same hm hn,h.len,h.byt,h.ok⟩
theorem AiW_ {r:Sha.St8}(h:r.Ok):u32s (st8V r).toList=some [r.a,r.b,r.c,r.d,r.e,r.f,r.g,r.h]:=by
 have e: ∀(n:Nat) (l:List Value) (ns:List Nat),n<4294967296->u32s l=some ns->u32s (.int .u32 (n:Int)::l)=some (n::ns):=λn l ns hn hl=>by
  show(match Value.int .u32 (.ofNat n),u32s l with| .int .u32 (.ofNat n),some ns=>bif Nat.blt n 4294967296 then some (n::ns)else none|_,_=>none)=_
  rw[hl]
  simp -implicitDefEqProofs only[Cr hn,cond_true]
 exact e _ _ _ h.a (e _ _ _ h.b (e _ _ _ h.c (e _ _ _ h.d (e _ _ _ h.e (e _ _ _ h.f (e _ _ _ h.g (e _ _ _ h.h rfl)))))))
theorem W.next {s:St}{r:Sha.St8}{b o c:Nat}{l:List Nat}{Q:Value->St->Prop}(hr:r.Ok)(h:Row s b o (u8l l))(hl:l.length=64)(hb:Byt l)
  (q: ∀s1,s1.mem=s.mem->s1.next=s.next->Ext (In b o 64) Non s s1->Q (.agg (st8V (Sha.next r λj=>l.getD j 0))) s1):W (Fd [.agg (st8V r), .slice (some ⟨b,o,none⟩) 64 c]) s Q:=by
 refine W.on (AiW_ hr) (W.chk (by decide) (W.bind ?_))
 have h2:l.length=(u8l l).length:=(Bu l).symm
 show W (Am.rdL 64 ⟨b,o,none⟩) s _
 rw[<-hl]
 refine W.rdB h λs1 e1 e2 e3=>W.on (UM hb) ?_
 show W (JX r l st8M) s1 Q
 rw[LX,OM]
 rw[hl]at e3
 exact W.pure (q s1 e1 e2 e3)
end Go.Proofs.Ytofanlcjeohcjaa.Am
end
