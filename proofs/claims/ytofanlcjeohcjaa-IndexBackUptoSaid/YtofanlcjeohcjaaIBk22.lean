import Derived.Test.YtofanlcjeohcjaaIBk15
import Derived.Test.YtofanlcjeohcjaaIBk07
import Derived.Test.YtofanlcjeohcjaaIBk08
import Derived.KernelRfl
import Derived.Test.YtofanlcjeohcjaaIBk21
import Derived.Test.YtofanlcjeohcjaaIBk17
noncomputable section
namespace Go.Proofs.Ytofanlcjeohcjaa.Am
open Go.RowKit
def Qb:Nat:=Ba Try.f82
def XR:Code:=Try.f82.body.getD .skip
theorem Zf:envS.fn.get 82=some Try.f82:=by kernel_rfl
theorem Qm_ {a0:Value}{n:Nat}{s:St}{Q:Value->St->Prop}(h: ∀tm,T.get tm 0=some a0->W (runF envS n ⟨82,7,Qb,tm,[.code XR], .run, .normal,none⟩) (s.cxN cxN) λp s1=>Q p.1 (s1.cxN s.cx)):W (Ay envS (runF envS n) 82 [a0]) s Q:=
 W.call (by kernel_rfl) (by kernel_rfl) Zf (by kernel_rfl) rfl rfl (by simp) (h _ (by kernel_rfl))
theorem Aef_:Try.f82.results.toList=[.tmp 2]:=by kernel_rfl
def SH:List Item:=skim 64 [.code XR]
def KT:List Item:=skim 64 SH.tail
theorem Nl_:skim 64 SH.tail=KT:=by kernel_rfl
def S9:List Item:=skim 64 KT.tail
theorem Adu_:skim 64 KT.tail=S9:=by kernel_rfl
def WA (E:Env)(call round:Ad)(tm:T Value):M (T Value):=
 mv (some (.pointer none)) λv2=>
 setF 2 v2 tm λtm1=>
 M.pure tm1
theorem Nm_:RegEq 82 7 Qb SH WA:=⟨by kernel_rfl,λ_ _ _ _ _ _ _ _ _=>by kernel_rfl⟩
def Jd_ (E:Env)(call round:Ad)(tm:T Value):M (T Value):=
 mv (T.get tm 0) λv3=>
 M.bind (oS (seqO [(some (.slice none 0 0)),(some v3)]) λl=>A6 E .append [22,22] l) λv4=>
 M.bind (oS (seqP [(0,(some (.bool true))),(1,(some v4))]) λps=>C3 E 152 ps) λv5=>
 M.bind (oS (some v5) λa=>kBox a) λv6=>
 mv (some v6) λv2=>
 setF 2 v2 tm λtm1=>
 M.pure tm1
theorem Pe_:RegEq 82 7 Qb KT Jd_:=⟨by kernel_rfl,λ_ _ _ _ _ _ _ _ _=>by kernel_rfl⟩
theorem AkQ_: ∃k,S9= .code .ret::k:=⟨S9.tail,by kernel_rfl⟩
def Vw:Nat:=Ba Try.f135
def Zw:Code:=Try.f135.body.getD .skip
theorem HU_:envS.fn.get 135=some Try.f135:=by kernel_rfl
theorem Aam_ {a0:Value}{n:Nat}{s:St}{Q:Value->St->Prop}(h: ∀tm,T.get tm 0=some a0->W (runF envS n ⟨135,20,Vw,tm,[.code Zw], .run, .normal,none⟩) (s.cxN cxN) λp s1=>Q p.1 (s1.cxN s.cx)):W (Ay envS (runF envS n) 135 [a0]) s Q:=
 W.call (by kernel_rfl) (by kernel_rfl) HU_ (by kernel_rfl) rfl rfl (by simp) (h _ (by kernel_rfl))
theorem TB_:Try.f135.results.toList=[.tmp 2]:=by kernel_rfl
def Tb:List Item:=skim 64 [.code Zw]
def Oa:List Item:=skim 64 Tb.tail
theorem YR_:skim 64 Tb.tail=Oa:=by kernel_rfl
def Tl:List Item:=skim 64 Oa.tail
theorem Kv_:skim 64 Oa.tail=Tl:=by kernel_rfl
def Di_ (E:Env)(call round:Ad)(tm:T Value):M (T Value):=
 mv (some (.bool false)) λv2=>
 setF 2 v2 tm λtm1=>
 M.pure tm1
theorem AiM_:RegEq 135 20 Vw Tb Di_:=⟨by kernel_rfl,λ_ _ _ _ _ _ _ _ _=>by kernel_rfl⟩
def FY_ (E:Env)(call round:Ad)(tm:T Value):M (T Value):=
 mv (T.get tm 0) λv3=>
 M.bind (oS (some v3) λa=>oS (some (.pointer none)) λb=>Cl.get (aBin E .eql 113 (.tmp 3) (.const (.pointer none))) a b) λv4=>
 mv (some v4) λv5=>
 M.bind (M.chk (isK v5) (aC (isB v5 false) (oS (T.get tm 0) λa=>M.pure a) (M.pure undef))) λv6=>
 M.bind (M.chk (isK v5) (aC (isB v5 false) (oS (some v6) λa=>kNil a) (M.pure undef))) λv7=>
 M.bind (M.chk (isK v5) (aC (isB v5 false) (oS (some v7) λa=>kFld E 152 a 0) (M.pure undef))) λv8=>
 M.bind (M.chk (isK v5) (aC (isB v5 false) (oS (some v8) λa=>AD E 4 a) (M.pure undef))) λv9=>
 M.bind (M.chk (isK v5) (aC (isB v5 false) (oS (some v9) λa=>kUn E.P .not a) (M.pure undef))) λv10=>
 M.bind (M.on (some v5) λa=>M.on (some (.bool true)) λb=>M.on (some v10) λc=>Bp a b c) λv11=>
 mv (some v11) λv12=>
 M.bind (M.chk (isK v12) (aC (isB v12 false) (oS (T.get tm 0) λa=>M.pure a) (M.pure undef))) λv13=>
 M.bind (M.chk (isK v12) (aC (isB v12 false) (oS (some v13) λa=>kNil a) (M.pure undef))) λv14=>
 M.bind (M.chk (isK v12) (aC (isB v12 false) (oS (some v14) λa=>kFld E 152 a 3) (M.pure undef))) λv15=>
 M.bind (M.chk (isK v12) (aC (isB v12 false) (oS (some v15) λa=>kFld E 116 a 0) (M.pure undef))) λv16=>
 M.bind (M.chk (isK v12) (aC (isB v12 false) (oS (some v16) λa=>AD E 27 a) (M.pure undef))) λv17=>
 M.bind (M.chk (isK v12) (aC (isB v12 false) (oS (some v17) λa=>oS (some (.int .i64 0)) λb=>Cl.get (aBin E .neq 27 (.tmp 17) (.const (.int .i64 0))) a b) (M.pure undef))) λv18=>
 M.bind (M.on (some v12) λa=>M.on (some (.bool true)) λb=>M.on (some v18) λc=>Bp a b c) λv19=>
 mv (some v19) λv2=>
 setF 2 v2 tm λtm1=>
 M.pure tm1
theorem UX_:RegEq 135 20 Vw Oa FY_:=⟨by kernel_rfl,λ_ _ _ _ _ _ _ _ _=>by kernel_rfl⟩
theorem Agx_: ∃k,Tl= .code .ret::k:=⟨Tl.tail,by kernel_rfl⟩
def Iq:Nat:=Ba Try.f118
def X6:Code:=Try.f118.body.getD .skip
theorem Ot:envS.fn.get 118=some Try.f118:=by kernel_rfl
theorem YD {a0 a1:Value}{n:Nat}{s:St}{Q:Value->St->Prop}(h: ∀tm,T.get tm 0=some a0->T.get tm 1=some a1->W (runF envS n ⟨118,14,Iq,tm,[.code X6], .run, .normal,none⟩) (s.cxN cxN) λp s1=>Q p.1 (s1.cxN s.cx)):W (Ay envS (runF envS n) 118 [a0,a1]) s Q:=
 W.call (by kernel_rfl) (by kernel_rfl) Ot (by kernel_rfl) rfl rfl (by simp) (h _ (by kernel_rfl) (by kernel_rfl))
theorem Ve:Try.f118.results.toList=[]:=by kernel_rfl
def Sy:List Item:=skim 64 [.code X6]
def Py:List Item:=skim 64 Sy.tail
theorem AU_:skim 64 Sy.tail=Py:=by kernel_rfl
def He:List Item:=skim 64 Py.tail
theorem WB:skim 64 Py.tail=He:=by kernel_rfl
def QK:List Item:=skim 64 (brT He)
theorem AfA_:skim 64 (brT He)=QK:=by kernel_rfl
def Oy:List Item:=skim 64 (brF He)
theorem ZB_:skim 64 (brF He)=Oy:=by kernel_rfl
def Oz:List Item:=skim 64 Oy.tail
theorem Yn_:skim 64 Oy.tail=Oz:=by kernel_rfl
def PB:List Item:=skim 64 Oz.tail
theorem ZG:skim 64 Oz.tail=PB:=by kernel_rfl
def Yz_:List Item:=skim 64 PB.tail
theorem XU_:skim 64 PB.tail=Yz_:=by kernel_rfl
def Sc (E:Env)(call round:Ad)(tm:T Value):M (T Value):=
 M.bind (oS (T.get tm 0) λa=>kBox a) λv2=>
 setF 2 v2 tm λtm1=>
 M.pure tm1
theorem Is_:RegEq 118 14 Iq Sy Sc:=⟨by kernel_rfl,λ_ _ _ _ _ _ _ _ _=>by kernel_rfl⟩
def Rb (E:Env)(call round:Ad)(tm:T Value):M (T Value):=
 M.bind (oS (T.get tm 2) λa=>AD E 113 a) λv5=>
 M.bind (M.on (some (.func (.func 135) #[] #[])) λf=>M.on (seqO [(some v5)]) λl=>AW call round f l) λv6=>
 setF 6 v6 tm λtm1=>
 M.pure tm1
theorem Bf_:RegEq 118 14 Iq Py Rb:=⟨by kernel_rfl,λ_ _ _ _ _ _ _ _ _=>by kernel_rfl⟩
theorem Cx_:A5 He=some 6:=by kernel_rfl
theorem Afu_: ∃k,QK= .code .ret::k:=⟨QK.tail,by kernel_rfl⟩
def Y5 (E:Env)(call round:Ad)(tm:T Value):M (T Value):=
 M.bind (oS (T.get tm 2) λa=>AD E 113 a) λv7=>
 M.bind (oS (some v7) λa=>kNil a) λv8=>
 M.bind (oS (some v8) λa=>kFld E 152 a 2) λv9=>
 M.bind (oS (some v9) λa=>AD E 3 a) λv10=>
 M.bind (BV E 3) λv4=>
 setF 4 v4 tm λtm1=>
 M.bind (oS (some v4) λa=>oS (some v10) λb=>Bo E 3 a b) λ_=>
 M.pure tm1
theorem Adr_:RegEq 118 14 Iq Oy Y5:=⟨by kernel_rfl,λ_ _ _ _ _ _ _ _ _=>by kernel_rfl⟩
def Zp (E:Env)(call round:Ad)(tm:T Value):M (T Value):=
 M.bind (oS (seqO []) λa=>oS (seqO [(T.get tm 4),(T.get tm 2)]) λb=>M.pure (.func (.func 136) a.toArray b.toArray)) λv11=>
 M.bind (M.on (some v11) λf=>M.on (seqO []) λl=>Ft f l) λ_=>
 M.pure tm
theorem LL_:RegEq 118 14 Iq Oz Zp:=⟨by kernel_rfl,λ_ _ _ _ _ _ _ _ _=>by kernel_rfl⟩
def QA (E:Env)(call round:Ad)(tm:T Value):M (T Value):=
 mv (T.get tm 1) λv12=>
 M.bind (M.on (some v12) λf=>M.on (seqO []) λl=>AW call round f l) λv13=>
 M.pure tm
theorem IF_:RegEq 118 14 Iq PB QA:=⟨by kernel_rfl,λ_ _ _ _ _ _ _ _ _=>by kernel_rfl⟩
def Di:Nat:=Ba Try.f136
abbrev Dc_:Nat:=20
def PQ:Code:=Try.f136.body.getD .skip
theorem MF:envS.fn.get 136=some Try.f136:=by kernel_rfl
theorem DV_:Try.f136.results.toList=[]:=by kernel_rfl
def Q5:List Item:=skim 64 [.code PQ]
def Np:List Item:=skim 64 Q5.tail
theorem Jl_:skim 64 Q5.tail=Np:=by kernel_rfl
def H9:List Item:=skim 64 Np.tail
theorem EE_:skim 64 Np.tail=H9:=by kernel_rfl
def PI:List Item:=skim 64 (brT H9)
theorem WS_:skim 64 (brT H9)=PI:=by kernel_rfl
def LT:List Item:=skim 64 (brF H9)
theorem Ahy_:skim 64 (brF H9)=LT:=by kernel_rfl
def Wf:List Item:=skim 64 PI.tail
theorem AkM_:skim 64 PI.tail=Wf:=by kernel_rfl
def Nq:List Item:=skim 64 LT.tail
theorem Adh_:skim 64 LT.tail=Nq:=by kernel_rfl
def Lb:List Item:=skim 64 (brT Nq)
theorem Wc_:skim 64 (brT Nq)=Lb:=by kernel_rfl
def Q1:List Item:=skim 64 Lb.tail
theorem My_:skim 64 Lb.tail=Q1:=by kernel_rfl
theorem AaW_:skim 64 Q1.tail=Wf:=by kernel_rfl
def Va (E:Env)(call round:Ad)(tm:T Value):M (T Value):=
 M.bind (Fh) λv5=>
 setF 5 v5 tm λtm1=>
 M.pure tm1
theorem W8:RegEq 136 20 Di Q5 Va:=⟨by kernel_rfl,λ_ _ _ _ _ _ _ _ _=>by kernel_rfl⟩
def Uc (E:Env)(call round:Ad)(tm:T Value):M (T Value):=
 M.bind (oS (T.get tm 5) λa=>oS (some .nilIface) λb=>Cl.get (aBin E .eql 20 (.tmp 5) (.const .nilIface)) a b) λv7=>
 setF 7 v7 tm λtm1=>
 M.pure tm1
theorem CQ_:RegEq 136 20 Di Np Uc:=⟨by kernel_rfl,λ_ _ _ _ _ _ _ _ _=>by kernel_rfl⟩
theorem VZ:A5 H9=some 7:=by kernel_rfl
def JF_ (E:Env)(call round:Ad)(tm:T Value):M (T Value):=
 mv (T.get tm 5) λv2=>
 M.pure tm
theorem Wa_:RegEq 136 20 Di PI JF_:=⟨by kernel_rfl,λ_ _ _ _ _ _ _ _ _=>by kernel_rfl⟩
def XD (E:Env)(call round:Ad)(tm:T Value):M (T Value):=
 M.bind (oS (T.get tm 5) λa=>EN E 170 true a) λv8=>
 M.bind (oS (some v8) λa=>kExt 1 a) λv9=>
 setF 9 v9 tm λtm1=>
 M.bind (oS (some v8) λa=>kExt 0 a) λv10=>
 setF 10 v10 tm1 λtm2=>
 M.pure tm2
theorem Ajf_:RegEq 136 20 Di LT XD:=⟨by kernel_rfl,λ_ _ _ _ _ _ _ _ _=>by kernel_rfl⟩
theorem Adm_:A5 Nq=some 9:=by kernel_rfl
def HQ_ (E:Env)(call round:Ad)(tm:T Value):M (T Value):=
 M.bind (BV E 170) λv3=>
 setF 3 v3 tm λtm1=>
 M.bind (oS (some v3) λa=>oS (T.get tm1 10) λb=>Bo E 170 a b) λ_=>
 M.pure tm1
theorem Of_:RegEq 136 20 Di Lb HQ_:=⟨by kernel_rfl,λ_ _ _ _ _ _ _ _ _=>by kernel_rfl⟩
def HD_ (E:Env)(call round:Ad)(tm:T Value):M (T Value):=
 M.bind (oS (T.get tm 1) λa=>AD E 113 a) λv11=>
 M.bind (oS (T.get tm 1) λa=>AD E 113 a) λv12=>
 M.bind (oS (T.get tm 3) λa=>kFld E 170 a 0) λv13=>
 M.bind (oS (some v13) λa=>AD E 116 a) λv14=>
 M.bind (oS (T.get tm 0) λa=>AD E 3 a) λv15=>
 M.bind (oS (some v11) λa=>kNil a) λv16=>
 M.bind (oS (some v16) λa=>kFld E 152 a 3) λv17=>
 M.bind (oS (some v17) λa=>oS (some v14) λb=>Bo E 116 a b) λ_=>
 M.bind (oS (some v12) λa=>kNil a) λv18=>
 M.bind (oS (some v18) λa=>kFld E 152 a 2) λv19=>
 M.bind (oS (some v19) λa=>oS (some v15) λb=>Bo E 3 a b) λ_=>
 M.pure tm
theorem LE_:RegEq 136 20 Di Q1 HD_:=⟨by kernel_rfl,λ_ _ _ _ _ _ _ _ _=>by kernel_rfl⟩
def ZZ:Nat:=Ba Try.f138
def Ki_:Code:=Try.f138.body.getD .skip
theorem Uv_:envS.fn.get 138=some Try.f138:=by kernel_rfl
theorem PT_ {a0 a1:Value}{n:Nat}{s:St}{Q:Value->St->Prop}{R:List PanicEntry->St->Prop}(h: ∀tm,T.get tm 0=some a0->T.get tm 1=some a1->Wx (runF envS n ⟨138,9,ZZ,tm,[.code Ki_], .run, .normal,none⟩) (s.cxN cxN) (λp s1=>Q p.1 (s1.cxN s.cx)) λc s1=>R c (s1.cxN s.cx)):Wx (Ay envS (runF envS n) 138 [a0,a1]) s Q R:=
 Wx.call (by kernel_rfl) (by kernel_rfl) Uv_ (by kernel_rfl) rfl rfl (by simp) (h _ (by kernel_rfl) (by kernel_rfl))
def VA_:List Item:=skim 64 [.code Ki_]
def Wy (E:Env)(call round:Ad)(tm:T Value):M (T Value):=
 mv (T.get tm 0) λv4=>
 mv (T.get tm 1) λv5=>
 M.bind (oS (seqP [(0,(some v4)),(1,(some v5))]) λps=>C3 E 116 ps) λv6=>
 M.bind (oS (seqP [(0,(some v6))]) λps=>C3 E 170 ps) λv7=>
 M.bind (oS (some v7) λa=>EH E 170 a) λv8=>
 M.bind (oS (some v8) λa=>H2 a) λ_=>
 M.pure tm
theorem Afk_:RegEq 138 9 ZZ VA_ Wy:=⟨by kernel_rfl,λ_ _ _ _ _ _ _ _ _=>by kernel_rfl⟩
def Cg:Nat:=Ba Try.f137
abbrev Ul:Nat:=78
def CD_:Code:=Try.f137.body.getD .skip
theorem IO_:envS.fn.get 137=some Try.f137:=by kernel_rfl
theorem UA_:Try.f137.results.toList=[.tmp 2]:=by kernel_rfl
theorem AbH_ {a0:Value}{n:Nat}{s:St}{Q:Value->St->Prop}{R:List PanicEntry->St->Prop}(h: ∀tm,T.get tm 0=some a0->Wx (runF envS n ⟨137,78,Cg,tm,[.code CD_], .run, .normal,none⟩) (s.cxN cxN) (λp s1=>Q p.1 (s1.cxN s.cx)) λc s1=>R c (s1.cxN s.cx)):Wx (Ay envS (runF envS n) 137 [a0]) s Q R:=
 Wx.call (by kernel_rfl) (by kernel_rfl) IO_ (by kernel_rfl) rfl rfl (by simp) (h _ (by kernel_rfl))
def Te:List Item:=skim 64 [.code CD_]
def Nk:List Item:=skim 64 Te.tail
theorem AkG_:skim 64 Te.tail=Nk:=by kernel_rfl
def Lk:List Item:=skim 64 Nk.tail
theorem Akf_:skim 64 Nk.tail=Lk:=by kernel_rfl
def FP:List Item:=skim 64 Lk.tail
theorem VU:skim 64 Lk.tail=FP:=by kernel_rfl
def JJ_:List Item:=skim 64 (brT FP)
theorem Pv_:skim 64 (brT FP)=JJ_:=by kernel_rfl
def LK:List Item:=skim 64 (brF FP)
theorem Yh_:skim 64 (brF FP)=LK:=by kernel_rfl
def HZ:List Item:=skim 64 LK.tail
theorem PF_:skim 64 LK.tail=HZ:=by kernel_rfl
def HD:List Item:=skim 64 HZ.tail
theorem XH:skim 64 HZ.tail=HD:=by kernel_rfl
def Ki:List Item:=skim 64 (brT HD)
theorem Aho_:skim 64 (brT HD)=Ki:=by kernel_rfl
def KP:List Item:=skim 64 (brF HD)
theorem ZU_:skim 64 (brF HD)=KP:=by kernel_rfl
def GW:List Item:=skim 64 Ki.tail
theorem HX_:skim 64 Ki.tail=GW:=by kernel_rfl
def EM_:List Item:=skim 64 (brT GW)
theorem Nj_:skim 64 (brT GW)=EM_:=by kernel_rfl
def I7:List Item:=skim 64 (brF GW)
theorem Acr_:skim 64 (brF GW)=I7:=by kernel_rfl
def Lf:List Item:=skim 64 I7.tail
theorem NZ_:skim 64 I7.tail=Lf:=by kernel_rfl
def NW:List Item:=skim 64 Lf.tail
theorem Oj_:skim 64 Lf.tail=NW:=by kernel_rfl
def Nu:List Item:=skim 64 NW.tail
theorem PU_:skim 64 NW.tail=Nu:=by kernel_rfl
def Gv:List Item:=skim 64 Nu.tail
theorem HY_:skim 64 Nu.tail=Gv:=by kernel_rfl
def Sq:List Item:=skim 64 (brT Gv)
theorem Aco_:skim 64 (brT Gv)=Sq:=by kernel_rfl
def Mh:List Item:=skim 64 (brF Gv)
theorem AkW_:skim 64 (brF Gv)=Mh:=by kernel_rfl
theorem Abo_:skim 64 Sq.tail=HZ:=by kernel_rfl
def J8:List Item:=skim 64 Mh.tail
theorem Yr:skim 64 Mh.tail=J8:=by kernel_rfl
theorem VU_:skim 64 (brT J8)=KP:=by kernel_rfl
def MH:List Item:=skim 64 (brF J8)
theorem LO_:skim 64 (brF J8)=MH:=by kernel_rfl
def Qp:List Item:=skim 64 MH.tail
theorem Aic_:skim 64 MH.tail=Qp:=by kernel_rfl
def DF_ (E:Env)(call round:Ad)(tm:T Value):M (T Value):=
 mv (some (.int .i64 0)) λv2=>
 setF 2 v2 tm λtm1=>
 M.pure tm1
theorem UR_:RegEq 137 78 Cg Te DF_:=⟨by kernel_rfl,λ_ _ _ _ _ _ _ _ _=>by kernel_rfl⟩
def ZD (E:Env)(call round:Ad)(tm:T Value):M (T Value):=
 mv (T.get tm 0) λv6=>
 M.bind (oS (some v6) λa=>kNil a) λv7=>
 M.bind (oS (some v7) λa=>kFld E 152 a 2) λv8=>
 M.bind (oS (some v8) λa=>AD E 3 a) λv9=>
 mv (some v9) λv3=>
 setF 3 v3 tm λtm1=>
 mv (some (.int .i64 0)) λv4=>
 setF 4 v4 tm1 λtm2=>
 M.pure tm2
theorem Zz_:RegEq 137 78 Cg Nk ZD:=⟨by kernel_rfl,λ_ _ _ _ _ _ _ _ _=>by kernel_rfl⟩
def Wn (E:Env)(call round:Ad)(tm:T Value):M (T Value):=
 mv (T.get tm 3) λv10=>
 mv (T.get tm 0) λv11=>
 M.bind (oS (some v11) λa=>kNil a) λv12=>
 M.bind (oS (some v12) λa=>kFld E 152 a 1) λv13=>
 M.bind (oS (some v13) λa=>AD E 22 a) λv14=>
 M.bind (oS (seqO [(some v14)]) λl=>A6 E .len [22] l) λv15=>
 M.bind (oS (some v10) λa=>oS (some v15) λb=>Cl.get (aBin E .lss 3 (.tmp 10) (.tmp 15)) a b) λv16=>
 mv (some v16) λv17=>
 M.bind (M.chk (isK v17) (aC (isB v17 true) (oS (T.get tm 0) λa=>M.pure a) (M.pure undef))) λv18=>
 M.bind (M.chk (isK v17) (aC (isB v17 true) (oS (some v18) λa=>kNil a) (M.pure undef))) λv19=>
 M.bind (M.chk (isK v17) (aC (isB v17 true) (oS (some v19) λa=>kFld E 152 a 1) (M.pure undef))) λv20=>
 M.bind (M.chk (isK v17) (aC (isB v17 true) (oS (some v20) λa=>AD E 22 a) (M.pure undef))) λv21=>
 M.bind (M.chk (isK v17) (aC (isB v17 true) (oS (T.get tm 3) λa=>M.pure a) (M.pure undef))) λv22=>
 M.bind (M.chk (isK v17) (aC (isB v17 true) (oS (some v21) λa=>oS (some v22) λb=>Bt E 22 a b) (M.pure undef))) λv23=>
 M.bind (M.chk (isK v17) (aC (isB v17 true) (oS (some v23) λa=>AD E 5 a) (M.pure undef))) λv24=>
 M.bind (M.chk (isK v17) (aC (isB v17 true) (oS (some v24) λa=>oS (some (.int .u8 128)) λb=>Cl.get (aBin E .eql 5 (.tmp 24) (.const (.int .u8 128))) a b) (M.pure undef))) λv25=>
 M.bind (M.on (some v17) λa=>M.on (some v25) λb=>M.on (some (.bool false)) λc=>Bp a b c) λv26=>
 setF 26 v26 tm λtm1=>
 M.pure tm1
theorem Mp_:RegEq 137 78 Cg Lk Wn:=⟨by kernel_rfl,λ_ _ _ _ _ _ _ _ _=>by kernel_rfl⟩
theorem EC_:A5 FP=some 26:=by kernel_rfl
def ZO (E:Env)(call round:Ad)(tm:T Value):M (T Value):=
 mv (T.get tm 3) λv27=>
 M.bind (M.on (some (.func (.func 138) #[] #[])) λf=>M.on (seqO [(some (.int .i64 4)),(some v27)]) λl=>AW call round f l) λv28=>
 M.pure tm
theorem XE_:RegEq 137 78 Cg JJ_ ZO:=⟨by kernel_rfl,λ_ _ _ _ _ _ _ _ _=>by kernel_rfl⟩
def XL (E:Env)(call round:Ad)(tm:T Value):M (T Value):=
 mv (some (.int .i64 0)) λv29=>
 setF 29 v29 tm λtm1=>
 M.pure tm1
theorem Nx_:RegEq 137 78 Cg LK XL:=⟨by kernel_rfl,λ_ _ _ _ _ _ _ _ _=>by kernel_rfl⟩
def UW (E:Env)(call round:Ad)(tm:T Value):M (T Value):=
 M.bind (oS (T.get tm 29) λa=>oS (some (.int .i64 5)) λb=>Cl.get (aBin E .lss 3 (.tmp 29) (.const (.int .i64 5))) a b) λv30=>
 setF 30 v30 tm λtm1=>
 M.pure tm1
theorem Gf_:RegEq 137 78 Cg HZ UW:=⟨by kernel_rfl,λ_ _ _ _ _ _ _ _ _=>by kernel_rfl⟩
theorem DP_:A5 HD=some 30:=by kernel_rfl
def Ys (E:Env)(call round:Ad)(tm:T Value):M ((Rho×T Value)×List OpLog):=
 M.bind (apartO (oS (T.get tm 0) λa=>M.pure a)) λp0=>
 M.bind (apartO (oS (some p0.1) λa=>kNil a)) λp1=>
 M.bind (apartO (oS (some p1.1) λa=>kFld E 152 a 2)) λp2=>
 M.bind (apartO (oS (some p2.1) λa=>AD E 3 a)) λp3=>
 M.bind (apartO (oS (T.get tm 0) λa=>M.pure a)) λp4=>
 M.bind (apartO (oS (some p4.1) λa=>kNil a)) λp5=>
 M.bind (apartO (oS (some p5.1) λa=>kFld E 152 a 1)) λp6=>
 M.bind (apartO (oS (some p6.1) λa=>AD E 22 a)) λp7=>
 M.bind (apartO (oS (seqO [(some p7.1)]) λl=>A6 E .len [22] l)) λp8=>
 M.pure (([p8.1,p7.1,p6.1,p5.1,p4.1,p3.1,p2.1,p1.1,p0.1],tm),[p8.2,p7.2,p6.2,p5.2,p4.2,p3.2,p2.2,p1.2,p0.2])
theorem AfB_:DrawEq 137 78 Cg Ki [0,1,3,7,0,16,48,112,240,511] Ys:=⟨by kernel_rfl,by kernel_rfl,λ_ _ _ _ _ _ _ _ _=>by kernel_rfl⟩
theorem Sh_ (E:Env)(call round:Ad)(x31 x32 x33 x34 x35 x36 x37 x38 x39:Value)(tm:T Value)(s:St):Bm call round (BM E Cg 78 (hdC Ki)) [x39,x38,x37,x36,x35,x34,x33,x32,x31] tm s=(M.bind (oS (some x34) λa=>oS (some x39) λb=>Cl.get (aBin E .eql 3 (.tmp 34) (.tmp 39)) a b) λv40=>setT 40 v40 tm λtm1=>M.pure tm1) s:=by kernel_rfl
def Wi (E:Env)(call round:Ad)(tm:T Value):M (T Value):=
 mv (T.get tm 3) λv76=>
 M.bind (M.on (some (.func (.func 138) #[] #[])) λf=>M.on (seqO [(some (.int .i64 5)),(some v76)]) λl=>AW call round f l) λv77=>
 M.pure tm
theorem VY_:RegEq 137 78 Cg KP Wi:=⟨by kernel_rfl,λ_ _ _ _ _ _ _ _ _=>by kernel_rfl⟩
theorem JW_:A5 GW=some 40:=by kernel_rfl
def FM_ (E:Env)(call round:Ad)(tm:T Value):M (T Value):=
 mv (T.get tm 0) λv41=>
 M.bind (oS (some v41) λa=>kNil a) λv42=>
 M.bind (oS (some v42) λa=>kFld E 152 a 1) λv43=>
 M.bind (oS (some v43) λa=>AD E 22 a) λv44=>
 M.bind (oS (seqO [(some v44)]) λl=>A6 E .len [22] l) λv45=>
 M.bind (M.on (some (.func (.func 138) #[] #[])) λf=>M.on (seqO [(some (.int .i64 4)),(some v45)]) λl=>AW call round f l) λv46=>
 M.pure tm
theorem Pm_:RegEq 137 78 Cg EM_ FM_:=⟨by kernel_rfl,λ_ _ _ _ _ _ _ _ _=>by kernel_rfl⟩
def Fn_ (E:Env)(call round:Ad)(tm:T Value):M ((Rho×T Value)×List OpLog):=
 M.bind (apartO (oS (T.get tm 0) λa=>M.pure a)) λp0=>
 M.bind (apartO (oS (some p0.1) λa=>kNil a)) λp1=>
 M.bind (apartO (oS (some p1.1) λa=>kFld E 152 a 1)) λp2=>
 M.bind (apartO (oS (some p2.1) λa=>AD E 22 a)) λp3=>
 M.bind (apartO (oS (T.get tm 0) λa=>M.pure a)) λp4=>
 M.bind (apartO (oS (some p4.1) λa=>kNil a)) λp5=>
 M.bind (apartO (oS (some p5.1) λa=>kFld E 152 a 2)) λp6=>
 M.bind (apartO (oS (some p6.1) λa=>AD E 3 a)) λp7=>
 M.bind (apartO (oS (some p3.1) λa=>oS (some p7.1) λb=>Bt E 22 a b)) λp8=>
 M.bind (apartO (oS (some p8.1) λa=>AD E 5 a)) λp9=>
 M.pure (([p9.1,p8.1,p7.1,p6.1,p5.1,p4.1,p3.1,p2.1,p1.1,p0.1],tm),[p9.2,p8.2,p7.2,p6.2,p5.2,p4.2,p3.2,p2.2,p1.2,p0.2])
theorem LS_:DrawEq 137 78 Cg I7 [0,1,3,7,0,16,48,112,255,511,1023] Fn_:=⟨by kernel_rfl,by kernel_rfl,λ_ _ _ _ _ _ _ _ _=>by kernel_rfl⟩
theorem Zw_ (E:Env)(call round:Ad)(x47 x48 x49 x50 x51 x52 x53 x54 x55 x56:Value)(tm:T Value)(s:St):Bm call round (BM E Cg 78 (hdC I7)) [x56,x55,x54,x53,x52,x51,x50,x49,x48,x47] tm s=(M.bind (oS (some x56) λa=>M.pure a) λv5=>setT 5 v5 tm λtm1=>M.pure tm1) s:=by kernel_rfl
def WV (E:Env)(call round:Ad)(tm:T Value):M (T Value):=
 mv (T.get tm 0) λv57=>
 M.bind (oS (some v57) λa=>kNil a) λv58=>
 M.bind (oS (some v58) λa=>kFld E 152 a 2) λv59=>
 M.bind (oS (some v59) λa=>AD E 3 a) λv60=>
 M.bind (oS (some v60) λa=>oS (some (.int .i64 1)) λb=>Cl.get (aBin E .add 3 (.tmp 60) (.const (.int .i64 1))) a b) λv61=>
 M.bind (oS (some v57) λa=>kNil a) λv62=>
 M.bind (oS (some v62) λa=>kFld E 152 a 2) λv63=>
 M.bind (oS (some v63) λa=>oS (some v61) λb=>Bo E 3 a b) λ_=>
 M.pure tm
theorem AbR_:RegEq 137 78 Cg Lf WV:=⟨by kernel_rfl,λ_ _ _ _ _ _ _ _ _=>by kernel_rfl⟩
def DC_ (E:Env)(call round:Ad)(tm:T Value):M (T Value):=
 mv (T.get tm 4) λv64=>
 M.bind (oS (some v64) λa=>oS (some (.int .u64 7)) λb=>Cl.get (aBin E .shl 3 (.tmp 64) (.const (.int .u64 7))) a b) λv65=>
 mv (T.get tm 5) λv66=>
 M.bind (oS (some v66) λa=>oS (some (.int .u8 127)) λb=>Cl.get (aBin E .and 5 (.tmp 66) (.const (.int .u8 127))) a b) λv67=>
 M.bind (oS (some v67) λa=>Cy E 5 3 a) λv68=>
 M.bind (oS (some v65) λa=>oS (some v68) λb=>Cl.get (aBin E .or 3 (.tmp 65) (.tmp 68)) a b) λv69=>
 mv (some v69) λv4=>
 setF 4 v4 tm λtm1=>
 M.pure tm1
theorem Aec_:RegEq 137 78 Cg NW DC_:=⟨by kernel_rfl,λ_ _ _ _ _ _ _ _ _=>by kernel_rfl⟩
def FO_ (E:Env)(call round:Ad)(tm:T Value):M (T Value):=
 mv (T.get tm 5) λv70=>
 M.bind (oS (some v70) λa=>oS (some (.int .u8 128)) λb=>Cl.get (aBin E .geq 5 (.tmp 70) (.const (.int .u8 128))) a b) λv71=>
 setF 71 v71 tm λtm1=>
 M.pure tm1
theorem Pj_:RegEq 137 78 Cg Nu FO_:=⟨by kernel_rfl,λ_ _ _ _ _ _ _ _ _=>by kernel_rfl⟩
theorem Eg_:A5 Gv=some 71:=by kernel_rfl
def Fg_ (E:Env)(call round:Ad)(tm:T Value):M (T Value):=
 M.bind (oS (T.get tm 29) λa=>oS (some (.int .i64 1)) λb=>Cl.get (aBin E .add 3 (.tmp 29) (.const (.int .i64 1))) a b) λv75=>
 mv (some v75) λv29=>
 setF 29 v29 tm λtm1=>
 M.pure tm1
theorem OE_:RegEq 137 78 Cg Sq Fg_:=⟨by kernel_rfl,λ_ _ _ _ _ _ _ _ _=>by kernel_rfl⟩
def HM_ (E:Env)(call round:Ad)(tm:T Value):M (T Value):=
 mv (T.get tm 4) λv72=>
 M.bind (oS (some v72) λa=>oS (some (.int .i64 2147483647)) λb=>Cl.get (aBin E .gtr 3 (.tmp 72) (.const (.int .i64 2147483647))) a b) λv73=>
 setF 73 v73 tm λtm1=>
 M.pure tm1
theorem SM_:RegEq 137 78 Cg Mh HM_:=⟨by kernel_rfl,λ_ _ _ _ _ _ _ _ _=>by kernel_rfl⟩
theorem Fd_:A5 J8=some 73:=by kernel_rfl
def AE_ (E:Env)(call round:Ad)(tm:T Value):M (T Value):=
 mv (T.get tm 4) λv74=>
 mv (some v74) λv2=>
 setF 2 v2 tm λtm1=>
 M.pure tm1
theorem AgA_:RegEq 137 78 Cg MH AE_:=⟨by kernel_rfl,λ_ _ _ _ _ _ _ _ _=>by kernel_rfl⟩
theorem AhX_: ∃k,Qp= .code .ret::k:=⟨Qp.tail,by kernel_rfl⟩
def Ez:Nat:=Ba Try.f120
def ZY:Code:=Try.f120.body.getD .skip
theorem Ev_:envS.fn.get 120=some Try.f120:=by kernel_rfl
theorem Aes_:Try.f120.results.toList=[.tmp 8]:=by kernel_rfl
theorem AiT_ {a0 a1 a2 a3:Value}{n:Nat}{s:St}{Q:Value->St->Prop}{R:List PanicEntry->St->Prop}(h: ∀tm,T.get tm 0=some a0->T.get tm 1=some a1->T.get tm 2=some a2->T.get tm 3=some a3->Wx (runF envS n ⟨120,29,Ez,tm,[.code ZY], .run, .normal,none⟩) (s.cxN cxN) (λp s1=>Q p.1 (s1.cxN s.cx)) λc s1=>R c (s1.cxN s.cx)):Wx (Ay envS (runF envS n) 120 [a0,a1,a2,a3]) s Q R:=
 Wx.call (by kernel_rfl) (by kernel_rfl) Ev_ (by kernel_rfl) rfl rfl (by simp) (h _ (by kernel_rfl) (by kernel_rfl) (by kernel_rfl) (by kernel_rfl))
def Tx:List Item:=skim 64 [.code ZY]
def M4:List Item:=skim 64 Tx.tail
theorem AgJ_:skim 64 Tx.tail=M4:=by kernel_rfl
def MO:List Item:=skim 64 M4.tail
theorem Ly_:skim 64 M4.tail=MO:=by kernel_rfl
def O2:List Item:=skim 64 MO.tail
theorem Rv_:skim 64 MO.tail=O2:=by kernel_rfl
def H4:List Item:=skim 64 O2.tail
theorem Cd_:skim 64 O2.tail=H4:=by kernel_rfl
def IK_:List Item:=skim 64 (brT H4)
theorem XD_:skim 64 (brT H4)=IK_:=by kernel_rfl
def Ov:List Item:=skim 64 (brF H4)
theorem Agm_:skim 64 (brF H4)=Ov:=by kernel_rfl
def GC:List Item:=skim 64 Ov.tail
theorem XE:skim 64 Ov.tail=GC:=by kernel_rfl
def AK_:List Item:=skim 64 (brT GC)
theorem Zu_:skim 64 (brT GC)=AK_:=by kernel_rfl
def KZ:List Item:=skim 64 (brF GC)
theorem XG_:skim 64 (brF GC)=KZ:=by kernel_rfl
def QJ:List Item:=skim 64 KZ.tail
theorem ZF_:skim 64 KZ.tail=QJ:=by kernel_rfl
def Dx_ (E:Env)(call round:Ad)(tm:T Value):M (T Value):=
 mv (some (.int .i64 0)) λv8=>
 setF 8 v8 tm λtm1=>
 M.pure tm1
theorem LB_:RegEq 120 29 Ez Tx Dx_:=⟨by kernel_rfl,λ_ _ _ _ _ _ _ _ _=>by kernel_rfl⟩
def Ad_ (E:Env)(call round:Ad)(tm:T Value):M (T Value):=
 mv (T.get tm 0) λv11=>
 M.bind (oS (some v11) λa=>kNil a) λv12=>
 M.bind (oS (some v12) λa=>kFld E 152 a 2) λv13=>
 M.bind (oS (some v13) λa=>AD E 3 a) λv14=>
 mv (some v14) λv9=>
 setF 9 v9 tm λtm1=>
 M.pure tm1
theorem WK_:RegEq 120 29 Ez M4 Ad_:=⟨by kernel_rfl,λ_ _ _ _ _ _ _ _ _=>by kernel_rfl⟩
def VM (E:Env)(call round:Ad)(tm:T Value):M (T Value):=
 mv (T.get tm 0) λv15=>
 M.bind (M.on (some (.func (.func 137) #[] #[])) λf=>M.on (seqO [(some v15)]) λl=>AW call round f l) λv16=>
 mv (some v16) λv10=>
 setF 10 v10 tm λtm1=>
 M.pure tm1
theorem ON_:RegEq 120 29 Ez MO VM:=⟨by kernel_rfl,λ_ _ _ _ _ _ _ _ _=>by kernel_rfl⟩
def Ag_ (E:Env)(call round:Ad)(tm:T Value):M (T Value):=
 mv (T.get tm 10) λv17=>
 mv (T.get tm 2) λv18=>
 M.bind (oS (some v17) λa=>oS (some v18) λb=>Cl.get (aBin E .gtr 3 (.tmp 17) (.tmp 18)) a b) λv19=>
 setF 19 v19 tm λtm1=>
 M.pure tm1
theorem AeQ_:RegEq 120 29 Ez O2 Ag_:=⟨by kernel_rfl,λ_ _ _ _ _ _ _ _ _=>by kernel_rfl⟩
theorem BQ_:A5 H4=some 19:=by kernel_rfl
def Yk (E:Env)(call round:Ad)(tm:T Value):M (T Value):=
 mv (T.get tm 3) λv20=>
 mv (T.get tm 9) λv21=>
 M.bind (M.on (some (.func (.func 138) #[] #[])) λf=>M.on (seqO [(some v20),(some v21)]) λl=>AW call round f l) λv22=>
 M.pure tm
theorem Aka_:RegEq 120 29 Ez IK_ Yk:=⟨by kernel_rfl,λ_ _ _ _ _ _ _ _ _=>by kernel_rfl⟩
def BZ_ (E:Env)(call round:Ad)(tm:T Value):M (T Value):=
 mv (T.get tm 10) λv23=>
 mv (T.get tm 1) λv24=>
 M.bind (oS (some v23) λa=>oS (some v24) λb=>Cl.get (aBin E .lss 3 (.tmp 23) (.tmp 24)) a b) λv25=>
 setF 25 v25 tm λtm1=>
 M.pure tm1
theorem Aen_:RegEq 120 29 Ez Ov BZ_:=⟨by kernel_rfl,λ_ _ _ _ _ _ _ _ _=>by kernel_rfl⟩
theorem Jj_:A5 GC=some 25:=by kernel_rfl
def Gm_ (E:Env)(call round:Ad)(tm:T Value):M (T Value):=
 mv (T.get tm 9) λv26=>
 M.bind (M.on (some (.func (.func 138) #[] #[])) λf=>M.on (seqO [(some (.int .i64 5)),(some v26)]) λl=>AW call round f l) λv27=>
 M.pure tm
theorem Afh_:RegEq 120 29 Ez AK_ Gm_:=⟨by kernel_rfl,λ_ _ _ _ _ _ _ _ _=>by kernel_rfl⟩
def BC_ (E:Env)(call round:Ad)(tm:T Value):M (T Value):=
 mv (T.get tm 10) λv28=>
 mv (some v28) λv8=>
 setF 8 v8 tm λtm1=>
 M.pure tm1
theorem AgH_:RegEq 120 29 Ez KZ BC_:=⟨by kernel_rfl,λ_ _ _ _ _ _ _ _ _=>by kernel_rfl⟩
theorem Pl_: ∃k,QJ= .code .ret::k:=⟨QJ.tail,by kernel_rfl⟩
def Fo:Nat:=Ba Try.f141
def Y6:Code:=Try.f141.body.getD .skip
theorem YI:envS.fn.get 141=some Try.f141:=by kernel_rfl
theorem Pt_:Try.f141.results.toList=[.tmp 4]:=by kernel_rfl
theorem XH_ {a0 a1:Value}{n:Nat}{s:St}{Q:Value->St->Prop}{R:List PanicEntry->St->Prop}(h: ∀tm,T.get tm 0=some a0->T.get tm 1=some a1->Wx (runF envS n ⟨141,47,Fo,tm,[.code Y6], .run, .normal,none⟩) (s.cxN cxN) (λp s1=>Q p.1 (s1.cxN s.cx)) λc s1=>R c (s1.cxN s.cx)):Wx (Ay envS (runF envS n) 141 [a0,a1]) s Q R:=
 Wx.call (by kernel_rfl) (by kernel_rfl) YI (by kernel_rfl) rfl rfl (by simp) (h _ (by kernel_rfl) (by kernel_rfl))
def Qc:List Item:=skim 64 [.code Y6]
def KG:List Item:=skim 64 Qc.tail
theorem Akz_:skim 64 Qc.tail=KG:=by kernel_rfl
def G5:List Item:=skim 64 KG.tail
theorem YL:skim 64 KG.tail=G5:=by kernel_rfl
def Zk:List Item:=skim 64 (brT G5)
theorem Agb_:skim 64 (brT G5)=Zk:=by kernel_rfl
def OJ:List Item:=skim 64 (brF G5)
theorem MH_:skim 64 (brF G5)=OJ:=by kernel_rfl
def JU:List Item:=skim 64 OJ.tail
theorem AkS_:skim 64 OJ.tail=JU:=by kernel_rfl
def Tv:List Item:=skim 64 JU.tail
theorem Nu_:skim 64 JU.tail=Tv:=by kernel_rfl
def Er_ (E:Env)(call round:Ad)(tm:T Value):M (T Value):=
 mv (some (.slice none 0 0)) λv4=>
 setF 4 v4 tm λtm1=>
 M.pure tm1
theorem Ajc_:RegEq 141 47 Fo Qc Er_:=⟨by kernel_rfl,λ_ _ _ _ _ _ _ _ _=>by kernel_rfl⟩
def Ch_ (E:Env)(call round:Ad)(tm:T Value):M ((Rho×T Value)×List OpLog):=
 M.bind (apartO (oS (T.get tm 1) λa=>M.pure a)) λp0=>
 M.bind (apartO (oS (T.get tm 0) λa=>M.pure a)) λp1=>
 M.bind (apartO (oS (some p1.1) λa=>kNil a)) λp2=>
 M.bind (apartO (oS (some p2.1) λa=>kFld E 152 a 1)) λp3=>
 M.bind (apartO (oS (some p3.1) λa=>AD E 22 a)) λp4=>
 M.bind (apartO (oS (seqO [(some p4.1)]) λl=>A6 E .len [22] l)) λp5=>
 M.bind (apartO (oS (T.get tm 0) λa=>M.pure a)) λp6=>
 M.bind (apartO (oS (some p6.1) λa=>kNil a)) λp7=>
 M.bind (apartO (oS (some p7.1) λa=>kFld E 152 a 2)) λp8=>
 M.bind (apartO (oS (some p8.1) λa=>AD E 3 a)) λp9=>
 M.bind (apartO (oS (some p5.1) λa=>oS (some p9.1) λb=>Cl.get (aBin E .sub 3 (.tmp 10) (.tmp 14)) a b)) λp10=>
 M.pure (([p10.1,p9.1,p8.1,p7.1,p6.1,p5.1,p4.1,p3.1,p2.1,p1.1,p0.1],tm),[p10.2,p9.2,p8.2,p7.2,p6.2,p5.2,p4.2,p3.2,p2.2,p1.2,p0.2])
theorem Ach_:DrawEq 141 47 Fo KG [0,0,2,6,14,30,0,64,192,448,1022,2047] Ch_:=⟨by kernel_rfl,by kernel_rfl,λ_ _ _ _ _ _ _ _ _=>by kernel_rfl⟩
theorem KK_ (E:Env)(call round:Ad)(x5 x6 x7 x8 x9 x10 x11 x12 x13 x14 x15:Value)(tm:T Value)(s:St):Bm call round (BM E Fo 47 (hdC KG)) [x15,x14,x13,x12,x11,x10,x9,x8,x7,x6,x5] tm s=(M.bind (oS (some x5) λa=>oS (some x15) λb=>Cl.get (aBin E .gtr 3 (.tmp 5) (.tmp 15)) a b) λv16=>setT 16 v16 tm λtm1=>M.pure tm1) s:=by kernel_rfl
theorem CZ_:A5 G5=some 16:=by kernel_rfl
def Ht_ (E:Env)(call round:Ad)(tm:T Value):M (T Value):=
 mv (T.get tm 0) λv17=>
 M.bind (oS (some v17) λa=>kNil a) λv18=>
 M.bind (oS (some v18) λa=>kFld E 152 a 1) λv19=>
 M.bind (oS (some v19) λa=>AD E 22 a) λv20=>
 M.bind (oS (seqO [(some v20)]) λl=>A6 E .len [22] l) λv21=>
 M.bind (M.on (some (.func (.func 138) #[] #[])) λf=>M.on (seqO [(some (.int .i64 4)),(some v21)]) λl=>AW call round f l) λv22=>
 M.pure tm
theorem Lk_:RegEq 141 47 Fo Zk Ht_:=⟨by kernel_rfl,λ_ _ _ _ _ _ _ _ _=>by kernel_rfl⟩
def CJ_ (E:Env)(call round:Ad)(tm:T Value):M (T Value):=
 mv (T.get tm 0) λv23=>
 M.bind (oS (some v23) λa=>kNil a) λv24=>
 M.bind (oS (some v24) λa=>kFld E 152 a 2) λv25=>
 M.bind (oS (some v25) λa=>AD E 3 a) λv26=>
 mv (T.get tm 1) λv27=>
 M.bind (oS (some v26) λa=>oS (some v27) λb=>Cl.get (aBin E .add 3 (.tmp 26) (.tmp 27)) a b) λv28=>
 M.bind (oS (some v23) λa=>kNil a) λv29=>
 M.bind (oS (some v29) λa=>kFld E 152 a 2) λv30=>
 M.bind (oS (some v30) λa=>oS (some v28) λb=>Bo E 3 a b) λ_=>
 M.pure tm
theorem Rw_:RegEq 141 47 Fo OJ CJ_:=⟨by kernel_rfl,λ_ _ _ _ _ _ _ _ _=>by kernel_rfl⟩
def XO (E:Env)(call round:Ad)(tm:T Value):M ((Rho×T Value)×List OpLog):=
 M.bind (apartO (oS (T.get tm 0) λa=>M.pure a)) λp0=>
 M.bind (apartO (oS (some p0.1) λa=>kNil a)) λp1=>
 M.bind (apartO (oS (some p1.1) λa=>kFld E 152 a 1)) λp2=>
 M.bind (apartO (oS (some p2.1) λa=>AD E 22 a)) λp3=>
 M.bind (apartO (oS (T.get tm 0) λa=>M.pure a)) λp4=>
 M.bind (apartO (oS (some p4.1) λa=>kNil a)) λp5=>
 M.bind (apartO (oS (some p5.1) λa=>kFld E 152 a 2)) λp6=>
 M.bind (apartO (oS (some p6.1) λa=>AD E 3 a)) λp7=>
 M.bind (apartO (oS (T.get tm 1) λa=>M.pure a)) λp8=>
 M.bind (apartO (oS (some p7.1) λa=>oS (some p8.1) λb=>Cl.get (aBin E .sub 3 (.tmp 38) (.tmp 39)) a b)) λp9=>
 M.bind (apartO (oS (T.get tm 0) λa=>M.pure a)) λp10=>
 M.bind (apartO (oS (some p10.1) λa=>kNil a)) λp11=>
 M.bind (apartO (oS (some p11.1) λa=>kFld E 152 a 2)) λp12=>
 M.bind (apartO (oS (some p12.1) λa=>AD E 3 a)) λp13=>
 M.bind (apartO (M.on (some p3.1) λa=>M.on (onO (some p9.1) λv=>some (some v)) λb=>M.on (onO (some p13.1) λv=>some (some v)) λc=>B8 E 22 a b c)) λp14=>
 M.bind (apartO (oS (seqO [(some (.slice none 0 0)),(some p14.1)]) λl=>A6 E .append [22,22] l)) λp15=>
 M.pure (([p15.1,p14.1,p13.1,p12.1,p11.1,p10.1,p9.1,p8.1,p7.1,p6.1,p5.1,p4.1,p3.1,p2.1,p1.1,p0.1],tm),[p15.2,p14.2,p13.2,p12.2,p11.2,p10.2,p9.2,p8.2,p7.2,p6.2,p5.2,p4.2,p3.2,p2.2,p1.2,p0.2])
theorem Adq_:DrawEq 141 47 Fo JU [0,1,3,7,0,16,48,112,0,496,0,1024,3072,7168,16383,32767,65535] XO:=⟨by kernel_rfl,by kernel_rfl,λ_ _ _ _ _ _ _ _ _=>by kernel_rfl⟩
theorem OS_ (E:Env)(call round:Ad)(x31 x32 x33 x34 x35 x36 x37 x38 x39 x40 x41 x42 x43 x44 x45 x46:Value)(tm:T Value)(s:St):Bm call round (BM E Fo 47 (hdC JU)) [x46,x45,x44,x43,x42,x41,x40,x39,x38,x37,x36,x35,x34,x33,x32,x31] tm s=(M.bind (oS (some x46) λa=>M.pure a) λv4=>setT 4 v4 tm λtm1=>M.pure tm1) s:=by kernel_rfl
theorem Agh_: ∃k,Tv= .code .ret::k:=⟨Tv.tail,by kernel_rfl⟩
def Kd:Nat:=Ba Try.f121
abbrev AbD_:Nat:=11
def IR_:Code:=Try.f121.body.getD .skip
theorem DM_:envS.fn.get 121=some Try.f121:=by kernel_rfl
theorem PG_ {a0 a1 a2:Value}{n:Nat}{s:St}{Q:Value->St->Prop}(h: ∀tm,T.get tm 0=some a0->T.get tm 1=some a1->T.get tm 2=some a2->W (runF envS n ⟨121,11,Kd,tm,[.code IR_], .run, .normal,none⟩) (s.cxN cxN) λp s1=>Q p.1 (s1.cxN s.cx)):W (Ay envS (runF envS n) 121 [a0,a1,a2]) s Q:=
 W.call (by kernel_rfl) (by kernel_rfl) DM_ (by kernel_rfl) rfl rfl (by simp) (h _ (by kernel_rfl) (by kernel_rfl) (by kernel_rfl))
theorem Mj_:Try.f121.results.toList=[.cell 6 3]:=by kernel_rfl
def UZ:List Item:=skim 64 [.code IR_]
def LG:List Item:=skim 64 UZ.tail
theorem VW_:skim 64 UZ.tail=LG:=by kernel_rfl
def JZ:List Item:=skim 64 LG.tail
theorem RJ:skim 64 LG.tail=JZ:=by kernel_rfl
def SE:List Item:=skim 64 JZ.tail
theorem NB_:skim 64 JZ.tail=SE:=by kernel_rfl
def Aa_ (E:Env)(call round:Ad)(tm:T Value):M (T Value):=
 M.bind (oS (T.get tm 0) λa=>kBox a) λv3=>
 setF 3 v3 tm λtm1=>
 M.bind (oS (T.get tm1 1) λa=>kBox a) λv4=>
 setF 4 v4 tm1 λtm2=>
 M.bind (oS (T.get tm2 2) λa=>kBox a) λv5=>
 setF 5 v5 tm2 λtm3=>
 M.bind (BV E 3) λv6=>
 setF 6 v6 tm3 λtm4=>
 M.pure tm4
theorem Yt_:RegEq 121 11 Kd UZ Aa_:=⟨by kernel_rfl,λ_ _ _ _ _ _ _ _ _=>by kernel_rfl⟩
def EQ_ (E:Env)(call round:Ad)(tm:T Value):M (T Value):=
 M.bind (oS (T.get tm 3) λa=>AD E 113 a) λv7=>
 M.bind (oS (seqO []) λa=>oS (seqO [(T.get tm 3),(T.get tm 4),(T.get tm 5),(T.get tm 6)]) λb=>M.pure (.func (.func 139) a.toArray b.toArray)) λv8=>
 M.bind (M.on (some (.func (.func 118) #[] #[])) λf=>M.on (seqO [(some v7),(some v8)]) λl=>AW call round f l) λv9=>
 M.pure tm
theorem YM_:RegEq 121 11 Kd LG EQ_:=⟨by kernel_rfl,λ_ _ _ _ _ _ _ _ _=>by kernel_rfl⟩
def GS_ (E:Env)(call round:Ad)(tm:T Value):M (T Value):=
 M.bind (oS (T.get tm 6) λa=>AD E 3 a) λv10=>
 M.bind (oS (T.get tm 6) λa=>oS (some v10) λb=>Bo E 3 a b) λ_=>
 M.pure tm
theorem Aay_:RegEq 121 11 Kd JZ GS_:=⟨by kernel_rfl,λ_ _ _ _ _ _ _ _ _=>by kernel_rfl⟩
theorem Abs_: ∃k,SE= .code .ret::k:=⟨SE.tail,by kernel_rfl⟩
def BK_:Nat:=Ba Try.f139
def Gi_:Code:=Try.f139.body.getD .skip
theorem CV_:envS.fn.get 139=some Try.f139:=by kernel_rfl
theorem St_:Try.f139.results.toList=[]:=by kernel_rfl
theorem Vn_ {a0 a1 a2 a3:Value}{n:Nat}{s:St}{Q:Value->St->Prop}{R:List PanicEntry->St->Prop}(h: ∀tm,T.get tm 0=some a0->T.get tm 1=some a1->T.get tm 2=some a2->T.get tm 3=some a3->Wx (runF envS n ⟨139,8,BK_,tm,[.code Gi_], .run, .normal,none⟩) (s.cxN cxN) (λp s1=>Q p.1 (s1.cxN s.cx)) λc s1=>R c (s1.cxN s.cx)):Wx (Ay envS (runF envS n) 139 [a0,a1,a2,a3]) s Q R:=
 Wx.call (by kernel_rfl) (by kernel_rfl) CV_ (by kernel_rfl) rfl rfl (by simp) (h _ (by kernel_rfl) (by kernel_rfl) (by kernel_rfl) (by kernel_rfl))
def UC:List Item:=skim 64 [.code Gi_]
def LX_:List Item:=skim 64 UC.tail
theorem KG_:skim 64 UC.tail=LX_:=by kernel_rfl
def Z8 (E:Env)(call round:Ad)(tm:T Value):M (T Value):=
 M.bind (oS (T.get tm 0) λa=>AD E 113 a) λv4=>
 M.bind (oS (T.get tm 1) λa=>AD E 3 a) λv5=>
 M.bind (oS (T.get tm 2) λa=>AD E 3 a) λv6=>
 M.bind (M.on (some (.func (.func 120) #[] #[])) λf=>M.on (seqO [(some v4),(some v5),(some v6),(some (.int .i64 5))]) λl=>AW call round f l) λv7=>
 M.bind (oS (T.get tm 3) λa=>oS (some v7) λb=>Bo E 3 a b) λ_=>
 M.pure tm
theorem AgM_:RegEq 139 8 BK_ UC Z8:=⟨by kernel_rfl,λ_ _ _ _ _ _ _ _ _=>by kernel_rfl⟩
def Jv:Nat:=Ba Try.f83
abbrev KT_:Nat:=9
def Js_:Code:=Try.f83.body.getD .skip
theorem FF_:envS.fn.get 83=some Try.f83:=by kernel_rfl
theorem Aao_ {a0 a1:Value}{n:Nat}{s:St}{Q:Value->St->Prop}(h: ∀tm,T.get tm 0=some a0->T.get tm 1=some a1->W (runF envS n ⟨83,9,Jv,tm,[.code Js_], .run, .normal,none⟩) (s.cxN cxN) λp s1=>Q p.1 (s1.cxN s.cx)):W (Ay envS (runF envS n) 83 [a0,a1]) s Q:=
 W.call (by kernel_rfl) (by kernel_rfl) FF_ (by kernel_rfl) rfl rfl (by simp) (h _ (by kernel_rfl) (by kernel_rfl))
theorem PD_:Try.f83.results.toList=[.cell 4 3]:=by kernel_rfl
def RQ:List Item:=skim 64 [.code Js_]
def Ou:List Item:=skim 64 RQ.tail
theorem Aae_:skim 64 RQ.tail=Ou:=by kernel_rfl
def Js:List Item:=skim 64 Ou.tail
theorem QM:skim 64 Ou.tail=Js:=by kernel_rfl
def RA:List Item:=skim 64 Js.tail
theorem Akc_:skim 64 Js.tail=RA:=by kernel_rfl
def Da_ (E:Env)(call round:Ad)(tm:T Value):M (T Value):=
 M.bind (oS (T.get tm 0) λa=>kBox a) λv2=>
 setF 2 v2 tm λtm1=>
 M.bind (oS (T.get tm1 1) λa=>kBox a) λv3=>
 setF 3 v3 tm1 λtm2=>
 M.bind (BV E 3) λv4=>
 setF 4 v4 tm2 λtm3=>
 M.pure tm3
theorem Re_:RegEq 83 9 Jv RQ Da_:=⟨by kernel_rfl,λ_ _ _ _ _ _ _ _ _=>by kernel_rfl⟩
def Xg (E:Env)(call round:Ad)(tm:T Value):M (T Value):=
 M.bind (oS (T.get tm 2) λa=>AD E 113 a) λv5=>
 M.bind (oS (seqO []) λa=>oS (seqO [(T.get tm 2),(T.get tm 3),(T.get tm 4)]) λb=>M.pure (.func (.func 119) a.toArray b.toArray)) λv6=>
 M.bind (M.on (some (.func (.func 118) #[] #[])) λf=>M.on (seqO [(some v5),(some v6)]) λl=>AW call round f l) λv7=>
 M.pure tm
theorem Acn_:RegEq 83 9 Jv Ou Xg:=⟨by kernel_rfl,λ_ _ _ _ _ _ _ _ _=>by kernel_rfl⟩
def Ah_ (E:Env)(call round:Ad)(tm:T Value):M (T Value):=
 M.bind (oS (T.get tm 4) λa=>AD E 3 a) λv8=>
 M.bind (oS (T.get tm 4) λa=>oS (some v8) λb=>Bo E 3 a b) λ_=>
 M.pure tm
theorem Adn_:RegEq 83 9 Jv Js Ah_:=⟨by kernel_rfl,λ_ _ _ _ _ _ _ _ _=>by kernel_rfl⟩
theorem XI_: ∃k,RA= .code .ret::k:=⟨RA.tail,by kernel_rfl⟩
def CM_:Nat:=Ba Try.f119
def Hc_:Code:=Try.f119.body.getD .skip
theorem Xh:envS.fn.get 119=some Try.f119:=by kernel_rfl
theorem AhT_:Try.f119.results.toList=[]:=by kernel_rfl
theorem QE_ {a0 a1 a2:Value}{n:Nat}{s:St}{Q:Value->St->Prop}{R:List PanicEntry->St->Prop}(h: ∀tm,T.get tm 0=some a0->T.get tm 1=some a1->T.get tm 2=some a2->Wx (runF envS n ⟨119,6,CM_,tm,[.code Hc_], .run, .normal,none⟩) (s.cxN cxN) (λp s1=>Q p.1 (s1.cxN s.cx)) λc s1=>R c (s1.cxN s.cx)):Wx (Ay envS (runF envS n) 119 [a0,a1,a2]) s Q R:=
 Wx.call (by kernel_rfl) (by kernel_rfl) Xh (by kernel_rfl) rfl rfl (by simp) (h _ (by kernel_rfl) (by kernel_rfl) (by kernel_rfl))
def RZ:List Item:=skim 64 [.code Hc_]
def Lc_:List Item:=skim 64 RZ.tail
theorem VB_:skim 64 RZ.tail=Lc_:=by kernel_rfl
def WL (E:Env)(call round:Ad)(tm:T Value):M (T Value):=
 M.bind (oS (T.get tm 0) λa=>AD E 113 a) λv3=>
 M.bind (oS (T.get tm 1) λa=>AD E 3 a) λv4=>
 M.bind (M.on (some (.func (.func 120) #[] #[])) λf=>M.on (seqO [(some v3),(some (.int .i64 0)),(some v4),(some (.int .i64 3))]) λl=>AW call round f l) λv5=>
 M.bind (oS (T.get tm 2) λa=>oS (some v5) λb=>Bo E 3 a b) λ_=>
 M.pure tm
theorem SD_:RegEq 119 6 CM_ RZ WL:=⟨by kernel_rfl,λ_ _ _ _ _ _ _ _ _=>by kernel_rfl⟩
def Jz:Nat:=Ba Try.f122
abbrev OW_:Nat:=7
def YU:Code:=Try.f122.body.getD .skip
theorem Iu_:envS.fn.get 122=some Try.f122:=by kernel_rfl
theorem ME_ {a0:Value}{n:Nat}{s:St}{Q:Value->St->Prop}(h: ∀tm,T.get tm 0=some a0->W (runF envS n ⟨122,7,Jz,tm,[.code YU], .run, .normal,none⟩) (s.cxN cxN) λp s1=>Q p.1 (s1.cxN s.cx)):W (Ay envS (runF envS n) 122 [a0]) s Q:=
 W.call (by kernel_rfl) (by kernel_rfl) Iu_ (by kernel_rfl) rfl rfl (by simp) (h _ (by kernel_rfl))
theorem AdL_:Try.f122.results.toList=[.cell 2 26]:=by kernel_rfl
def S6:List Item:=skim 64 [.code YU]
def N8:List Item:=skim 64 S6.tail
theorem Ri_:skim 64 S6.tail=N8:=by kernel_rfl
def I6:List Item:=skim 64 N8.tail
theorem TS:skim 64 N8.tail=I6:=by kernel_rfl
def UE:List Item:=skim 64 I6.tail
theorem SC_:skim 64 I6.tail=UE:=by kernel_rfl
def Hb_ (E:Env)(call round:Ad)(tm:T Value):M (T Value):=
 M.bind (oS (T.get tm 0) λa=>kBox a) λv1=>
 setF 1 v1 tm λtm1=>
 M.bind (BV E 26) λv2=>
 setF 2 v2 tm1 λtm2=>
 M.pure tm2
theorem Lt_:RegEq 122 7 Jz S6 Hb_:=⟨by kernel_rfl,λ_ _ _ _ _ _ _ _ _=>by kernel_rfl⟩
def GA_ (E:Env)(call round:Ad)(tm:T Value):M (T Value):=
 M.bind (oS (T.get tm 1) λa=>AD E 113 a) λv3=>
 M.bind (oS (seqO []) λa=>oS (seqO [(T.get tm 2),(T.get tm 1)]) λb=>M.pure (.func (.func 140) a.toArray b.toArray)) λv4=>
 M.bind (M.on (some (.func (.func 118) #[] #[])) λf=>M.on (seqO [(some v3),(some v4)]) λl=>AW call round f l) λv5=>
 M.pure tm
theorem Aed_:RegEq 122 7 Jz N8 GA_:=⟨by kernel_rfl,λ_ _ _ _ _ _ _ _ _=>by kernel_rfl⟩
def Ao_ (E:Env)(call round:Ad)(tm:T Value):M (T Value):=
 M.bind (oS (T.get tm 2) λa=>AD E 26 a) λv6=>
 M.bind (oS (T.get tm 2) λa=>oS (some v6) λb=>Bo E 26 a b) λ_=>
 M.pure tm
theorem Yf_:RegEq 122 7 Jz I6 Ao_:=⟨by kernel_rfl,λ_ _ _ _ _ _ _ _ _=>by kernel_rfl⟩
theorem AhG_: ∃k,UE= .code .ret::k:=⟨UE.tail,by kernel_rfl⟩
def OF:Nat:=Ba Try.f140
def VX:Code:=Try.f140.body.getD .skip
theorem II_:envS.fn.get 140=some Try.f140:=by kernel_rfl
theorem ZW_:Try.f140.results.toList=[]:=by kernel_rfl
theorem Wm_ {a0 a1:Value}{n:Nat}{s:St}{Q:Value->St->Prop}{R:List PanicEntry->St->Prop}(h: ∀tm,T.get tm 0=some a0->T.get tm 1=some a1->Wx (runF envS n ⟨140,6,OF,tm,[.code VX], .run, .normal,none⟩) (s.cxN cxN) (λp s1=>Q p.1 (s1.cxN s.cx)) λc s1=>R c (s1.cxN s.cx)):Wx (Ay envS (runF envS n) 140 [a0,a1]) s Q R:=
 Wx.call (by kernel_rfl) (by kernel_rfl) II_ (by kernel_rfl) rfl rfl (by simp) (h _ (by kernel_rfl) (by kernel_rfl))
def Kp:List Item:=skim 64 [.code VX]
def Li_:List Item:=skim 64 Kp.tail
theorem Px_:skim 64 Kp.tail=Li_:=by kernel_rfl
def Zz (E:Env)(call round:Ad)(tm:T Value):M ((Rho×T Value)×List OpLog):=
 M.bind (apartO (M.on (T.get tm 0) λa=>M.on (some none) λb=>M.on (some none) λc=>B8 E 26 a b c)) λp0=>
 M.bind (apartO (oS (T.get tm 1) λa=>AD E 113 a)) λp1=>
 M.bind (apartO (M.on (some (.func (.func 141) #[] #[])) λf=>M.on (seqO [(some p1.1),(some (.int .i64 16))]) λl=>AW call round f l)) λp2=>
 M.pure (([p2.1,p1.1,p0.1],tm),[p2.2,p1.2,p0.2])
def Df_ (E:Env)(call round:Ad)(tm:T Value):M ((Rho×T Value)×List OpLog):=
 M.bind (apartO (M.on (T.get tm 0) λa=>M.on (some none) λb=>M.on (some none) λc=>B8 E 26 a b c)) λp0=>
 M.bind (apartO (oS (T.get tm 1) λa=>AD E 113 a)) λp1=>
 M.pure (([p1.1,p0.1],tm),[p1.2,p0.2])
theorem ZO_:DrawXq 140 6 OF Kp [0,0,2,7] 2 2 Df_ Zz:=⟨by kernel_rfl,by kernel_rfl,λ_ _ _ _ _ _ _ _ _=>by kernel_rfl⟩
theorem UP_ (E:Env)(call round:Ad)(x2 x3:Value)(tm:T Value)(s:St):Bm call round (R3 E OF 6 (hdC Kp) 2) [x3,x2] tm s=(M.bind (M.on (some (.func (.func 141) #[] #[])) λf=>M.on (seqO [(some x3),(some (.int .i64 16))]) λl=>AW call round f l) λv4=>M.pure tm) s:=by kernel_rfl
theorem Sl_ (E:Env)(call round:Ad)(x2 x3 x4:Value)(tm:T Value)(s:St):Bm call round (BM E OF 6 (hdC Kp)) [x4,x3,x2] tm s=(M.bind (oS (seqO [(some x2),(some x4)]) λl=>A6 E .copy [22,22] l) λv5=>M.pure tm) s:=by kernel_rfl
def N6:Nat:=Ba Try.f84
def EK_:Code:=Try.f84.body.getD .skip
theorem DL_:envS.fn.get 84=some Try.f84:=by kernel_rfl
theorem YN_ {a0:Value}{n:Nat}{s:St}{Q:Value->St->Prop}(h: ∀tm,T.get tm 0=some a0->W (runF envS n ⟨84,17,N6,tm,[.code EK_], .run, .normal,none⟩) (s.cxN cxN) λp s1=>Q p.1 (s1.cxN s.cx)):W (Ay envS (runF envS n) 84 [a0]) s Q:=
 W.call (by kernel_rfl) (by kernel_rfl) DL_ (by kernel_rfl) rfl rfl (by simp) (h _ (by kernel_rfl))
theorem TI_:Try.f84.results.toList=[.cell 2 116]:=by kernel_rfl
def QW:List Item:=skim 64 [.code EK_]
def LM:List Item:=skim 64 QW.tail
theorem Ajw_:skim 64 QW.tail=LM:=by kernel_rfl
def Pn:List Item:=skim 64 LM.tail
theorem YJ_:skim 64 LM.tail=Pn:=by kernel_rfl
def LJ:List Item:=skim 64 (brF Pn)
theorem RJ_:skim 64 (brF Pn)=LJ:=by kernel_rfl
def Us:List Item:=skim 64 LJ.tail
theorem Uh_:skim 64 LJ.tail=Us:=by kernel_rfl
def FD_ (E:Env)(call round:Ad)(tm:T Value):M (T Value):=
 M.bind (BV E 116) λv2=>
 setF 2 v2 tm λtm1=>
 M.pure tm1
theorem SV_:RegEq 84 17 N6 QW FD_:=⟨by kernel_rfl,λ_ _ _ _ _ _ _ _ _=>by kernel_rfl⟩
def Kj_ (E:Env)(call round:Ad)(tm:T Value):M (T Value):=
 mv (T.get tm 0) λv3=>
 M.bind (oS (some v3) λa=>oS (some (.pointer none)) λb=>Cl.get (aBin E .eql 113 (.tmp 3) (.const (.pointer none))) a b) λv4=>
 mv (some v4) λv5=>
 M.bind (M.chk (isK v5) (aC (isB v5 false) (oS (T.get tm 0) λa=>M.pure a) (M.pure undef))) λv6=>
 M.bind (M.chk (isK v5) (aC (isB v5 false) (oS (some v6) λa=>kNil a) (M.pure undef))) λv7=>
 M.bind (M.chk (isK v5) (aC (isB v5 false) (oS (some v7) λa=>kFld E 152 a 0) (M.pure undef))) λv8=>
 M.bind (M.chk (isK v5) (aC (isB v5 false) (oS (some v8) λa=>AD E 4 a) (M.pure undef))) λv9=>
 M.bind (M.chk (isK v5) (aC (isB v5 false) (oS (some v9) λa=>kUn E.P .not a) (M.pure undef))) λv10=>
 M.bind (M.on (some v5) λa=>M.on (some (.bool true)) λb=>M.on (some v10) λc=>Bp a b c) λv11=>
 setF 11 v11 tm λtm1=>
 M.pure tm1
theorem AkL_:RegEq 84 17 N6 LM Kj_:=⟨by kernel_rfl,λ_ _ _ _ _ _ _ _ _=>by kernel_rfl⟩
theorem Sp_:A5 Pn=some 11:=by kernel_rfl
def Hr_ (E:Env)(call round:Ad)(tm:T Value):M (T Value):=
 mv (T.get tm 0) λv13=>
 M.bind (oS (some v13) λa=>kNil a) λv14=>
 M.bind (oS (some v14) λa=>kFld E 152 a 3) λv15=>
 M.bind (oS (some v15) λa=>AD E 116 a) λv16=>
 M.bind (oS (T.get tm 2) λa=>oS (some v16) λb=>Bo E 116 a b) λ_=>
 M.pure tm
theorem TJ_:RegEq 84 17 N6 LJ Hr_:=⟨by kernel_rfl,λ_ _ _ _ _ _ _ _ _=>by kernel_rfl⟩
theorem WW_: ∃k,Us= .code .ret::k:=⟨Us.tail,by kernel_rfl⟩
def Fs:Nat:=Ba Try.f86
abbrev Mw_:Nat:=27
def Aq_:Code:=Try.f86.body.getD .skip
theorem Ez_:envS.fn.get 86=some Try.f86:=by kernel_rfl
theorem MU_ {a0:Value}{n:Nat}{s:St}{Q:Value->St->Prop}(h: ∀tm,T.get tm 0=some a0->W (runF envS n ⟨86,27,Fs,tm,[.code Aq_], .run, .normal,none⟩) (s.cxN cxN) λp s1=>Q p.1 (s1.cxN s.cx)):W (Ay envS (runF envS n) 86 [a0]) s Q:=
 W.call (by kernel_rfl) (by kernel_rfl) Ez_ (by kernel_rfl) rfl rfl (by simp) (h _ (by kernel_rfl))
theorem Aft_:Try.f86.results.toList=[.cell 2 116]:=by kernel_rfl
def Qx:List Item:=skim 64 [.code Aq_]
def OC:List Item:=skim 64 Qx.tail
theorem Ww_:skim 64 Qx.tail=OC:=by kernel_rfl
def Ke:List Item:=skim 64 OC.tail
theorem Rq_:skim 64 OC.tail=Ke:=by kernel_rfl
def Iv:List Item:=skim 64 Ke.tail
theorem QY:skim 64 Ke.tail=Iv:=by kernel_rfl
def UU:List Item:=skim 64 (brT Iv)
theorem AaU_:skim 64 (brT Iv)=UU:=by kernel_rfl
def GR:List Item:=skim 64 (brF Iv)
theorem Yu:skim 64 (brF Iv)=GR:=by kernel_rfl
theorem RH_:skim 64 UU.tail=GR:=by kernel_rfl
def Vj:List Item:=skim 64 GR.tail
theorem AaH_:skim 64 GR.tail=Vj:=by kernel_rfl
def Fh_ (E:Env)(call round:Ad)(tm:T Value):M (T Value):=
 M.bind (BV E 116) λv2=>
 setF 2 v2 tm λtm1=>
 M.pure tm1
theorem Aea_:RegEq 86 27 Fs Qx Fh_:=⟨by kernel_rfl,λ_ _ _ _ _ _ _ _ _=>by kernel_rfl⟩
def AB_ (E:Env)(call round:Ad)(tm:T Value):M (T Value):=
 mv (T.get tm 0) λv4=>
 M.bind (M.on (some (.func (.func 84) #[] #[])) λf=>M.on (seqO [(some v4)]) λl=>AW call round f l) λv5=>
 M.bind (BV E 116) λv3=>
 setF 3 v3 tm λtm1=>
 M.bind (oS (some v3) λa=>oS (some v5) λb=>Bo E 116 a b) λ_=>
 M.pure tm1
theorem Aie_:RegEq 86 27 Fs OC AB_:=⟨by kernel_rfl,λ_ _ _ _ _ _ _ _ _=>by kernel_rfl⟩
def JT_ (E:Env)(call round:Ad)(tm:T Value):M ((Rho×T Value)×List OpLog):=
 M.bind (apartO (oS (T.get tm 3) λa=>kFld E 116 a 0)) λp0=>
 M.bind (apartO (oS (some p0.1) λa=>AD E 27 a)) λp1=>
 M.bind (apartO (oS (some p1.1) λa=>oS (some (.int .i64 0)) λb=>Cl.get (aBin E .eql 27 (.tmp 7) (.const (.int .i64 0))) a b)) λp2=>
 M.bind (apartO (oS (some p2.1) λa=>M.pure a)) λp3=>
 M.bind (apartO (M.chk (isK p3.1) (aC (isB p3.1 true) (oS (T.get tm 0) λa=>M.pure a) (M.pure undef)))) λp4=>
 M.bind (apartO (M.chk (isK p3.1) (aC (isB p3.1 true) (oS (some p4.1) λa=>kNil a) (M.pure undef)))) λp5=>
 M.bind (apartO (M.chk (isK p3.1) (aC (isB p3.1 true) (oS (some p5.1) λa=>kFld E 152 a 2) (M.pure undef)))) λp6=>
 M.bind (apartO (M.chk (isK p3.1) (aC (isB p3.1 true) (oS (some p6.1) λa=>AD E 3 a) (M.pure undef)))) λp7=>
 M.bind (apartO (M.chk (isK p3.1) (aC (isB p3.1 true) (oS (T.get tm 0) λa=>M.pure a) (M.pure undef)))) λp8=>
 M.bind (apartO (M.chk (isK p3.1) (aC (isB p3.1 true) (oS (some p8.1) λa=>kNil a) (M.pure undef)))) λp9=>
 M.bind (apartO (M.chk (isK p3.1) (aC (isB p3.1 true) (oS (some p9.1) λa=>kFld E 152 a 1) (M.pure undef)))) λp10=>
 M.bind (apartO (M.chk (isK p3.1) (aC (isB p3.1 true) (oS (some p10.1) λa=>AD E 22 a) (M.pure undef)))) λp11=>
 M.bind (apartO (M.chk (isK p3.1) (aC (isB p3.1 true) (oS (seqO [(some p11.1)]) λl=>A6 E .len [22] l) (M.pure undef)))) λp12=>
 M.bind (apartO (M.chk (isK p3.1) (aC (isB p3.1 true) (oS (some p7.1) λa=>oS (some p12.1) λb=>Cl.get (aBin E .lss 3 (.tmp 13) (.tmp 18)) a b) (M.pure undef)))) λp13=>
 M.pure (([p13.1,p12.1,p11.1,p10.1,p9.1,p8.1,p7.1,p6.1,p5.1,p4.1,p3.1,p2.1,p1.1,p0.1],tm),[p13.2,p12.2,p11.2,p10.2,p9.2,p8.2,p7.2,p6.2,p5.2,p4.2,p3.2,p2.2,p1.2,p0.2])
theorem Ajs_:DrawEq 86 27 Fs Ke [0,1,3,7,15,31,63,127,15,271,783,1807,3855,8191,16383] JT_:=⟨by kernel_rfl,by kernel_rfl,λ_ _ _ _ _ _ _ _ _=>by kernel_rfl⟩
theorem VN (E:Env)(call round:Ad)(x6 x7 x8 x9 x10 x11 x12 x13 x14 x15 x16 x17 x18 x19:Value)(tm:T Value)(s:St):Bm call round (BM E Fs 27 (hdC Ke)) [x19,x18,x17,x16,x15,x14,x13,x12,x11,x10,x9,x8,x7,x6] tm s=(M.bind (M.on (some x9) λa=>M.on (some x19) λb=>M.on (some (.bool false)) λc=>Bp a b c) λv20=>setT 20 v20 tm λtm1=>M.pure tm1) s:=by kernel_rfl
theorem Sv:A5 Iv=some 20:=by kernel_rfl
def JC_ (E:Env)(call round:Ad)(tm:T Value):M (T Value):=
 mv (T.get tm 0) λv21=>
 M.bind (oS (some v21) λa=>kNil a) λv22=>
 M.bind (oS (some v22) λa=>kFld E 152 a 2) λv23=>
 M.bind (oS (some v23) λa=>AD E 3 a) λv24=>
 M.bind (oS (seqP [(0,(some (.int .i64 4))),(1,(some v24))]) λps=>C3 E 116 ps) λv25=>
 M.bind (oS (T.get tm 3) λa=>oS (some v25) λb=>Bo E 116 a b) λ_=>
 M.pure tm
theorem UT_:RegEq 86 27 Fs UU JC_:=⟨by kernel_rfl,λ_ _ _ _ _ _ _ _ _=>by kernel_rfl⟩
def Gn_ (E:Env)(call round:Ad)(tm:T Value):M (T Value):=
 M.bind (oS (T.get tm 3) λa=>AD E 116 a) λv26=>
 M.bind (oS (T.get tm 2) λa=>oS (some v26) λb=>Bo E 116 a b) λ_=>
 M.pure tm
theorem AhV_:RegEq 86 27 Fs GR Gn_:=⟨by kernel_rfl,λ_ _ _ _ _ _ _ _ _=>by kernel_rfl⟩
theorem Ais_: ∃k,Vj= .code .ret::k:=⟨Vj.tail,by kernel_rfl⟩
theorem Ext.thenRd' {G:Nat->Prop}{s s1:St}(h:Ext Any G s s1)(hb:s.lim<=s.next)(l:Nat):Ext Any G s (s1.rdN l):=h.trans (Ext.rdN (F:=Any) (G:=Non) s1 l λ_=>trivial) hb (λ_ _ _=>trivial) λ_ _ h=>h.elim
theorem AdI_:intK envS 3=some .i64:=by kernel_rfl
theorem Dv_:fldN envS 152 0=some (0,1,false):=by kernel_rfl
theorem EE:fldN envS 152 1=some (1,1,false):=by kernel_rfl
theorem Dh:fldN envS 152 2=some (2,1,false):=by kernel_rfl
theorem UQ:fldN envS 152 3=some (3,2,true):=by kernel_rfl
theorem JV:fldN envS 116 0=some (0,1,false):=by kernel_rfl
theorem El_:tyS envS 27=some (1,false):=by kernel_rfl
theorem Ej:tyS envS 116=some (2,true):=by kernel_rfl
theorem Dq:tyS envS 113=some (1,false):=by kernel_rfl
theorem Eu_:ptrT envS 113=true:=by kernel_rfl
def Ed (e pos:Int):List PanicEntry:=[{v:= .iface 170 (.agg #[.int .i64 e, .int .i64 pos]),recovered:=false}]
theorem YX (e pos:Int):GP envS 116 [(0, .int .i64 e),(1, .int .i64 pos)]=some [.int .i64 e, .int .i64 pos]:=by kernel_rfl
theorem Adv_ (e pos:Int):GP envS 170 [(0, .agg #[.int .i64 e, .int .i64 pos])]=some [.int .i64 e, .int .i64 pos]:=by kernel_rfl
theorem ZZ_ (e pos:Int)(s:St):EH envS 170 (.agg #[.int .i64 e, .int .i64 pos]) s= .some (.iface 170 (.agg #[.int .i64 e, .int .i64 pos])) s:=by kernel_rfl
section
variable {R n:Nat}{s:St}{Q:Value->St->Prop}{RR:List PanicEntry->St->Prop}
theorem Ho_ {e:Int}(hb:s.lim<=s.next)(h0:Own s R 0 (.bool true))(h3:Own s R 3 (.int .i64 e))(hn:20<=n)(q: ∀s1,s1.mem=s.mem->s1.next=s.next->Ext Any Non s s1->Q (.bool (!decide (e=0))) s1):W (Ay envS (runF envS n) 135 [.pointer (some ⟨R,0,none⟩)]) s Q:=by
 have hb0:(s.cxN cxN).lim<=(s.cxN cxN).next:=hb
 refine Aam_ λtm h=> ?_
 refine AiM_.w rfl (by omega) ?_
 simp only[Di_,Aa,W_mv,Ab]
 refine UX_.w YR_ (by omega) ?_
 simp only[FY_,Ac,W_oS,W_on,Aa,W_mv,Ab,aA,Ai,An,Ak,Al,Aj,Ao,reduceCtorEq, ↓reduceIte,h,My Eu_,A8 Dv_ (by decide)]
 refine aD Fi (h0.same (s':=s.cxN cxN) rfl rfl).at' ?_
 have y1:=(Ext.refl (F:=Any) (G:=Non) (s.cxN cxN)).thenRd hb0 (R+(0+0))
 simp only[W_oS,Aa,Ai,An,Ak,Al,Aj,Ao, ↓reduceIte,DW,Bool.not_true,Bool.false_eq_true,A8 UQ (by decide),A8 JV (by decide)]
 refine aD El_ ((h3.same (s':=s.cxN cxN) rfl rfl).same rfl rfl).at' ?_
 simp only[Co]
 have y2:=y1.thenRd hb0 (R+(0+3+0))
 refine aG (rs:=[2]) (vs:=[.bool (!decide (e=0))]) Kv_ (.inl Agx_) (by omega) HU_ TB_ rfl (by simp[aA]) ?_
 exact q _ rfl rfl y2.cx'
theorem Ib {e pos:Int}(hn:20<=n)(p:RR (Ed e pos) s):Wx (Ay envS (runF envS n) 138 [.int .i64 e, .int .i64 pos]) s Q RR:=by
 refine PT_ λtm h0 h1=> ?_
 refine Afk_.wx (up:=none) rfl (by omega) ?_
 simp only[Wy,BH,Ck,BK,Ca,Aw,Av,Ae,h0,h1,Kh (J4 (YX e pos)),Kh (J4 (Adv_ e pos)),Kh λQ=>Bd (ZZ_ e pos _) (Q:=Q)]
 rw[Yb_]
 exact⟨rfl,p⟩
end
theorem Bs.at' {s:St}{v:Value}{l:List Nat}(h:Bs s v l){k:Nat}(hk:k<l.length): ∃b o c,v= .slice (some ⟨b,o,none⟩) l.length c/\At s b (o+k) (u8 l[k])/\BsF v (b+(o+k)):=by
 rcases h with⟨rfl,rfl⟩|⟨b,o,c,rfl,_,_,h3⟩
 ·simp at hk
 ·exact⟨b,o,c,rfl,h3.at (List.getElem?_eq_getElem hk),by show b+o<=_;omega,by show b+(o+k)<b+o+l.length;omega⟩
section
variable {R:Nat}{v:Value}{l:List Nat}{s0:St}{Q:Value×FrameMode->St->Prop}{RR:List PanicEntry->St->Prop}
theorem RT_ {at0:Nat}{res:Option (Nat×List Nat)}(hb0:s0.lim<=s0.next)(hcx:s0.cx=cxN)(h1:Own s0 R 1 v)(hB:Bs s0 v l)(hz:l.length<=1000000000)(hby:Byt l)(hdj: ∀x,BsF v x->x≠R+2)
  (q: ∀m r s1,res=some (m,r)->Ext Any (λx=>x=R+2) s0 s1->s1.cx=cxN->r=l.drop (l.length-r.length)->r.length<=l.length->Own s1 R 2 (.int .i64 (l.length-r.length:Nat))->Q (.int .i64 (m:Nat), .run) s1)
  (p: ∀e pos s1,res=none->e≠0->s1.cx=cxN->Ext Any (λx=>x=R+2) s0 s1->(∃u,Own s1 R 2 u)->RR (Ed e pos) s1):
  ∀(k i a pos n:Nat) (tm:T Value) (s:St) (td:List Item),i+k=5->20*k+60<=n->skim 64 td=HZ->Ext Any (λx=>x=R+2) s0 s->Own s R 2 (.int .i64 (pos:Nat))->pos<=l.length->a<128^i->D7 k a (l.drop pos)=res->
  T.get tm 0=some (.pointer (some ⟨R,0,none⟩))->T.get tm 3=some (.int .i64 (at0:Nat))->T.get tm 4=some (.int .i64 (a:Nat))->T.get tm 29=some (.int .i64 (i:Nat))->
  Wx (runF envS n ⟨137,Ul,Cg,tm,td, .run, .normal,none⟩) s Q RR:=by
 have over: ∀(n:Nat) (tm:T Value) (s:St) (td:List Item),50<=n->skim 64 td=KP->Ext Any (λx=>x=R+2) s0 s->(∃u,Own s R 2 u)->res=none->T.get tm 3=some (.int .i64 (at0:Nat))->Wx (runF envS n ⟨137,Ul,Cg,tm,td, .run, .normal,none⟩) s Q RR:=by
  intro n tm s td hn hT hx ho hr g3
  refine VY_.wx (up:=none) hT (by omega) ?_
  simp only[Wi,BH,BU,BK,Ca,BZ,Ag,Af,Ae,g3]
  exact Ib (by omega) ⟨hx.cx.trans hcx,p _ _ s hr (by decide) (hx.cx.trans hcx) hx ho⟩
 intro k
 induction k with
 |zero=>
  intro i a pos n tm s td hi hn hT hx ho hp ha hr h0 h3 h4 h29
  have hi5:i=5:=by omega
  subst hi5
  refine Gf_.wi hT (by omega) ?_
  simp only[UW,Ac,W_oS,Aa,Ab,Bg,h29]
  refine Wx.cond (v:=false) XH DP_ (by simp[aA]) (by omega) (λh=>by cases h) λ_=> ?_
  exact over _ _ s _ (by omega) ZU_ hx ⟨_,ho⟩ (by rw[<-hr];rfl) (by simp[aA,h3])
 |succ k ih=>
  intro i a pos n tm s td hi hn hT hx ho hp ha hr h0 h3 h4 h29
  have hb:=hx.bnd hb0
  have hB':Bs s v l:=hB.ext hx λx h=>hdj x h
  have h1':Own s R 1 v:=h1.ext hx λh=>by omega
  have hv1:oneCell v=true:=hB.one
  refine Gf_.wi hT (by omega) ?_
  simp only[UW,Ac,W_oS,Aa,Ab,Bg,h29]
  refine Wx.cond (v:=true) XH DP_ (by simp[aA];omega) (by omega) (λ_=> ?_) λh=>by cases h
  refine AfB_.wir Aho_ (by omega) ?_
  simp only[Ys,aA,Nat.reduceEqDiff, ↓reduceIte,h0,BW,Br,CY,CS Dh (by decide)]
  refine aH Be (ho.same (s':=dSt s.mem s.next) rfl rfl).at' λrd1 _=> ?_
  simp only[Br,CY,CS EE (by decide)]
  refine aH CO (h1'.same (s':=dSt s.mem s.next) rfl rfl).at' λrd2 _=> ?_
  simp only[Ag,Af,Ae,BW]
  rw[W_dq λs Q=>hB.len' (s':=s) BE Q,Aa]
  refine⟨rfl,by simp,by simp,λs1 m1 n1 x1=> ?_⟩
  refine W.cast (Sh_ _ _ _ _ _ _ _ _ _ _ _ _ _ _) ?_
  simp only[Ac,W_oS,Aa,Ar,EU]
  have hx1:Ext Any (λx=>x=R+2) s0 s1:=hx.trans x1 hb0 (λ_ _ _=>trivial) λ_ _ h=>h.elim
  have ho1:=ho.same m1 n1
  have h11:=h1'.same m1 n1
  have hB1:=hB'.same m1 n1
  by_cases he:pos=l.length
  ·refine Wx.cond (v:=true) HX_ JW_ (by simp[aA,he]) (by omega) (λ_=> ?_) λh=>by cases h
   refine Pm_.wx (up:=none) Nj_ (by omega) ?_
   simp only[FM_,BH,Ck,BU,BK,Ca,BZ,CK,aA,Ag,Af,Ae,reduceCtorEq, ↓reduceIte,h0,DE_ EE (by decide)]
   refine Wx.of (aD CO h11.at' ?_)
   refine Wx.of ?_
   rw[hB.len' BE]
   have hx2:=hx1.thenRd' hb0 (R+(0+1))
   refine Ib (by omega) ⟨hx2.cx.trans hcx,p _ _ _ ?_ (by decide) (hx2.cx.trans hcx) hx2 ⟨_,ho1.same rfl rfl⟩⟩
   rw[<-hr,List.drop_of_length_le (by omega)]
   rfl
  ·have hlt:pos<l.length:=by omega
   obtain⟨vb,vo,vc,ev,hat,hatF⟩:=hB1.at' hlt
   have hd:l.drop pos=l[pos]::l.drop (pos+1):=(List.getElem_cons_drop ..).symm
   have hc256:l[pos]<256:=hby _ (List.getElem_mem hlt)
   obtain⟨c,hc⟩: ∃c,l[pos]=c:=⟨_,rfl⟩
   rw[hd,hc]at hr
   rw[hc]at hat hc256
   have hr':(if 128<=c then D7 k (a*128+c%128) (l.drop (pos+1))else if 2147483647<a*128+c%128 then none else some (a*128+c%128,l.drop (pos+1)))=res:=hr
   have ha':a*128+c%128<128^(i+1):=by
    rw[Nat.pow_succ]
    have:c%128<128:=Nat.mod_lt _ (by decide)
    omega
   have hi4:i<=4:=by omega
   have hpw:128^(i+1)<=128^5:=Nat.pow_le_pow_right (by decide) (by omega)
   have hpw':128^(i+1)<=34359738368:=hpw
   refine Wx.cond (v:=false) HX_ JW_ (by simp[aA];omega) (by omega) (λh=>by cases h) λ_=> ?_
   refine LS_.wir Acr_ (by omega) ?_
   simp only[Fn_,aA,Nat.reduceEqDiff, ↓reduceIte,h0,BW,Br,CY,CS EE (by decide)]
   refine aH CO (h11.same (s':=dSt s1.mem s1.next) rfl rfl).at' λrd3 _=> ?_
   simp only[Br,CY,CS Dh (by decide)]
   refine aH Be (ho1.same (s':=dSt s1.mem s1.next) rfl rfl).at' λrd4 _=> ?_
   simp only[ev]
   rw[W_dq λs Q=>BX (s:=s) BE hlt Q]
   simp only[BW]
   refine aH (o:=vo+pos*1) ER (v:=u8 c) (by rw[Nat.mul_one];exact hat.same (s':=dSt s1.mem s1.next) rfl rfl) λrd5 _=> ?_
   rw[Aa]
   refine⟨rfl,by simp,by simp,λs2 m2 n2 x2=> ?_⟩
   refine W.cast (Zw_ _ _ _ _ _ _ _ _ _ _ _ _ _ _ _) ?_
   try simp only[Ac,W_oS,Aa,Ar]
   have hx2:Ext Any (λx=>x=R+2) s0 s2:=hx1.trans x2 hb0 (λ_ _ _=>trivial) λ_ _ h=>h.elim
   have hb2:=hx2.bnd hb0
   have ho2:=ho1.same m2 n2
   refine AbR_.wi NZ_ (by omega) ?_
   simp only[WV,Ac,W_oS,Aa,W_mv,aA,Ao,reduceCtorEq, ↓reduceIte,h0,A8 Dh (by decide)]
   refine aD Be ho2.at' ?_
   have ep:wrap64 ((pos:Nat)+1:Int)=((pos+1:Nat):Int):=by
    rw[Bq (by omega) (by omega)];simp
   simp only[BG,ep]
   refine aI Be rfl (ho2.same rfl rfl) λs3 n3 x3 o3=> ?_
   have hx3:Ext Any (λx=>x=R+2) s0 s3:=(hx2.thenRd' hb0 (R+(0+2))).trans x3 hb0 (λ_ _ _=>trivial) λy _ hy=>by
    have h1:=hy.1
    have h2:=hy.2
    omega
   have o3':Own s3 R 2 (.int .i64 (pos+1:Nat)):=o3
   refine Aec_.wi Oj_ (by omega) ?_
   simp only[DC_,Ac,W_oS,Aa,W_mv,Ab,aA,Nat.reduceEqDiff, ↓reduceIte,h4]
   rw[YO_ (by omega)]
   rw[Ge_]
   rw[MA AbG_ AdI_]
   have ew:IntKind.i64.wrap ((c%128:Nat):Int)=((c%128:Nat):Int):=wrap_i64 _ (by omega)
   rw[ew,NT_ (Nat.mod_lt _ (by decide)) (by omega)]
   refine Pj_.wi PU_ (by omega) ?_
   simp only[FO_,Ac,W_oS,Aa,W_mv,Ab,aA,Nat.reduceEqDiff, ↓reduceIte]
   rw[AfE_]
   by_cases h128:128<=c
   ·rw[if_pos h128]at hr'
    refine Wx.cond (v:=true) HY_ Eg_ (by simp[aA,h128]) (by omega) (λ_=> ?_) λh=>by cases h
    refine OE_.wi Aco_ (by omega) ?_
    have ei:wrap64 ((i:Nat)+1:Int)=((i+1:Nat):Int):=by
     rw[Bq (by omega) (by omega)];simp
    simp only[Fg_,Ac,W_oS,Aa,W_mv,Ab,aA,Nat.reduceEqDiff, ↓reduceIte,BG,h29,ei]
    exact ih (i+1) (a*128+c%128) (pos+1) _ _ s3 _ (by omega) (by omega) Abo_ hx3 o3' (by omega) ha' hr' (by simp[aA,h0]) (by simp[aA,h3]) (by simp[aA]) (by simp[aA])
   ·rw[if_neg h128]at hr'
    refine Wx.cond (v:=false) HY_ Eg_ (by simp[aA,h128]) (by omega) (λh=>by cases h) λ_=> ?_
    refine SM_.wi AkW_ (by omega) ?_
    simp only[HM_,Ac,W_oS,Aa,W_mv,Ab,aA,Nat.reduceEqDiff, ↓reduceIte,CT]
    by_cases hmx:2147483647<a*128+c%128
    ·rw[if_pos hmx]at hr'
     refine Wx.cond (v:=true) Yr Fd_ (by simp[aA];omega) (by omega) (λ_=> ?_) λh=>by cases h
     exact over _ _ s3 _ (by omega) VU_ hx3 ⟨_,o3'⟩ hr'.symm (by simp[aA,h3])
    ·rw[if_neg hmx]at hr'
     refine Wx.cond (v:=false) Yr Fd_ (by simp[aA];omega) (by omega) (λh=>by cases h) λ_=> ?_
     refine AgA_.wi LO_ (by omega) ?_
     simp only[AE_,Aa,W_mv,Ab,aA,Nat.reduceEqDiff, ↓reduceIte]
     have hdl:(l.drop (pos+1)).length=l.length-(pos+1):=List.length_drop
     have e1:l.length-(l.drop (pos+1)).length=pos+1:=by omega
     refine Wx.of (aG (rs:=[2]) (vs:=[.int .i64 (a*128+c%128:Nat)]) Aic_ (.inl AhX_) (by omega) IO_ UA_ (hx3.cx.trans hcx) (by simp[aA]) ?_)
     exact q _ _ s3 hr'.symm hx3 (hx3.cx.trans hcx) (by rw[e1]) (by omega) (by rw[e1];exact o3')
end
section
variable {R n:Nat}{v:Value}{l:List Nat}{s:St}{Q:Value->St->Prop}{RR:List PanicEntry->St->Prop}
theorem Tc_ {at0:Nat}(hb:s.lim<=s.next)(h1:Own s R 1 v)(hB:Bs s v l)(h2:Own s R 2 (.int .i64 (at0:Nat)))(hat:at0<=l.length)(hz:l.length<=1000000000)(hby:Byt l)(hdj: ∀x,BsF v x->x≠R+2)(hn:200<=n)
  (q: ∀m r s1,numR (l.drop at0)=some (m,r)->Ext Any (λx=>x=R+2) s s1->r=l.drop (l.length-r.length)->r.length<=l.length->Own s1 R 2 (.int .i64 (l.length-r.length:Nat))->Q (.int .i64 (m:Nat)) s1)
  (p: ∀e pos s1,numR (l.drop at0)=none->e≠0->Ext Any (λx=>x=R+2) s s1->(∃u,Own s1 R 2 u)->RR (Ed e pos) s1):Wx (Ay envS (runF envS n) 137 [.pointer (some ⟨R,0,none⟩)]) s Q RR:=by
 have hb0:(s.cxN cxN).lim<=(s.cxN cxN).next:=hb
 refine AbH_ λtm h0=> ?_
 refine UR_.wi rfl (by omega) ?_
 simp only[DF_,Aa,W_mv,Ab]
 refine Zz_.wi AkG_ (by omega) ?_
 simp only[ZD,Ac,W_oS,Aa,W_mv,Ab,aA,Ao,reduceCtorEq, ↓reduceIte,h0,A8 Dh (by decide)]
 have h2':Own (s.cxN cxN) R 2 (.int .i64 (at0:Nat)):=h2.same rfl rfl
 have h1':Own (s.cxN cxN) R 1 v:=h1.same rfl rfl
 have hB':Bs (s.cxN cxN) v l:=hB.same rfl rfl
 refine aD Be h2'.at' ?_
 have x0:Ext Any (λx=>x=R+2) (s.cxN cxN) (s.cxN cxN):=Ext.refl _
 have x1:=x0.thenRd' hb0 (R+(0+2))
 have endG: ∀(c:Bool),(c=false->(l.drop at0).head?≠some 128)->(c=true->(l.drop at0).head?=some 128)-> ∀(n':Nat) (tm':T Value) (s':St) (td':List Item),n<=n'+20->skim 64 td'=FP->Ext Any (λx=>x=R+2) (s.cxN cxN) s'->Own s' R 2 (.int .i64 (at0:Nat))->T.get tm' 26=some (.bool c)->T.get tm' 0=some (.pointer (some ⟨R,0,none⟩))->T.get tm' 3=some (.int .i64 (at0:Nat))->T.get tm' 4=some (.int .i64 0)->
   Wx (runF envS n' ⟨137,Ul,Cg,tm',td', .run, .normal,none⟩) s' (λp s1=>Q p.1 (s1.cxN s.cx)) λc s1=>RR c (s1.cxN s.cx):=by
  intro c c0 c1 n' tm' s' td' hn' hT' x' o' g26 g0 g3 g4
  cases c with
  |true=>
   refine Wx.cond (v:=true) hT' EC_ g26 (by omega) (λ_=> ?_) λh=>by cases h
   refine XE_.wx (up:=none) Pv_ (by omega) ?_
   simp only[ZO,BH,BU,BK,Ca,BZ,Ag,Af,Ae,g3]
   exact Ib (by omega) ⟨x'.cx,p _ _ _ (by unfold numR;rw[if_pos (c1 rfl)]) (by decide) x'.cx' ⟨_,o'.same rfl rfl⟩⟩
  |false=>
   refine Wx.cond (v:=false) hT' EC_ g26 (by omega) (λh=>by cases h) λ_=> ?_
   refine Nx_.wi Yh_ (by omega) ?_
   simp only[XL,Aa,W_mv,Ab]
   refine RT_ (s0:=s.cxN cxN) (at0:=at0) (res:=numR (l.drop at0)) hb0 rfl h1' hB' hz hby hdj (λm r s1 e x c hr hl o=> ?_) (λe pos s1 er he c x o=> ?_) 5 0 0 at0 _ _ s' _ (by omega) (by omega) PF_ x' o' hat (by decide) ?_ (by simp[aA,g0]) (by simp[aA,g3]) (by simp[aA,g4]) (by simp[aA])
   ·exact q m r _ e x.cx' hr hl (o.same rfl rfl)
   ·exact p e pos _ er he x.cx' (o.imp λu h=>h.same rfl rfl)
   ·unfold numR
    rw[if_neg (c0 rfl)]
 refine Mp_.wi Akf_ (by omega) ?_
 simp only[Wn,Ac,W_oS,W_on,Aa,W_mv,Ab,aA,Ag,Af,Ae,Ao,Nat.reduceEqDiff,reduceCtorEq, ↓reduceIte,h0,A8 EE (by decide)]
 refine aD CO (h1'.same rfl rfl).at' ?_
 have x2:=x1.thenRd' hb0 (R+(0+1))
 rw[hB.len' BE]
 simp only[Ai,Ak,Aj,Bg]
 by_cases hlt:at0<l.length
 ·have ec:decide (((at0:Nat):Int)<((l.length:Nat):Int))=true:=decide_eq_true (by omega)
  simp only[ec,W_oS,Aa,Ap,Al,Ao, ↓reduceIte,A8 EE (by decide)]
  refine aD CO (h1'.same rfl rfl).at' ?_
  have x3:=x2.thenRd' hb0 (R+(0+1))
  obtain⟨vb,vo,vc,ev,hat',_⟩:=hB'.at' hlt
  simp only[ev,BX BE hlt]
  refine aD (o:=vo+at0*1) ER (v:=u8 l[at0]) (by rw[Nat.mul_one];exact hat'.same rfl rfl) ?_
  have x4:=x3.thenRd' hb0 (vb+(vo+at0*1))
  rw[Acc_]
  have hd:l.drop at0=l[at0]::l.drop (at0+1):=(List.getElem_cons_drop ..).symm
  refine endG (decide (l[at0]=128)) (λh e=> ?_) (λh=> ?_) _ _ _ _ (by omega) VU x4 (h2'.same rfl rfl) (by simp[aA]) (by simp[aA,h0]) (by simp[aA]) (by simp[aA])
  ·rw[hd]at e
   injection e with e
   rw[e]at h
   cases h
  ·rw[hd,of_decide_eq_true h]
   rfl
 ·have ec:decide (((at0:Nat):Int)<((l.length:Nat):Int))=false:=decide_eq_false (by omega)
  simp only[ec,Aa,Au,Aq,reduceCtorEq, ↓reduceIte]
  refine endG false (λ_ e=> ?_) (λh=>by cases h) _ _ _ _ (by omega) VU x2 (h2'.same rfl rfl) (by simp[aA]) (by simp[aA,h0]) (by simp[aA]) (by simp[aA])
  rw[List.drop_of_length_le (by omega)]at e
  cases e
def bndR (lo hi:Nat)(l:List Nat):Option (Nat×List Nat):=match numR l with|none=>none|some (m,r)=>if hi<m\/m<lo then none else some (m,r)
theorem EX_ {at0 lo hi:Nat}{above:Int}(ha:above≠0)(hb:s.lim<=s.next)(h1:Own s R 1 v)(hB:Bs s v l)(h2:Own s R 2 (.int .i64 (at0:Nat)))(hat:at0<=l.length)(hz:l.length<=1000000000)(hby:Byt l)(hdj: ∀x,BsF v x->x≠R+2)(hn:300<=n)
  (q: ∀m r s1,bndR lo hi (l.drop at0)=some (m,r)->Ext Any (λx=>x=R+2) s s1->r=l.drop (l.length-r.length)->r.length<=l.length->Own s1 R 2 (.int .i64 (l.length-r.length:Nat))->Q (.int .i64 (m:Nat)) s1)
  (p: ∀e pos s1,bndR lo hi (l.drop at0)=none->e≠0->Ext Any (λx=>x=R+2) s s1->(∃u,Own s1 R 2 u)->RR (Ed e pos) s1):Wx (Ay envS (runF envS n) 120 [.pointer (some ⟨R,0,none⟩), .int .i64 (lo:Nat), .int .i64 (hi:Nat), .int .i64 above]) s Q RR:=by
 have hb0:(s.cxN cxN).lim<=(s.cxN cxN).next:=hb
 refine AiT_ λtm h0 k1 k2 k3=> ?_
 refine LB_.wi rfl (by omega) ?_
 simp only[Dx_,Aa,W_mv,Ab]
 refine WK_.wi AgJ_ (by omega) ?_
 simp only[Ad_,Ac,W_oS,Aa,W_mv,Ab,aA,Ao,reduceCtorEq, ↓reduceIte,h0,A8 Dh (by decide)]
 have h2':Own (s.cxN cxN) R 2 (.int .i64 (at0:Nat)):=h2.same rfl rfl
 have h1':Own (s.cxN cxN) R 1 v:=h1.same rfl rfl
 have hB':Bs (s.cxN cxN) v l:=hB.same rfl rfl
 refine aD Be h2'.at' ?_
 have x0:Ext Any (λx=>x=R+2) (s.cxN cxN) (s.cxN cxN):=Ext.refl _
 have x1:=x0.thenRd' hb0 (R+(0+2))
 refine ON_.wx (up:=none) Ly_ (by omega) ?_
 simp only[VM,BH,BU,BK,Ca,CU,BZ,aA,Ag,Af,Ae,reduceCtorEq, ↓reduceIte,h0]
 refine Tc_ (s:=(s.cxN cxN).rdN (R+(0+2))) hb0 (h1'.same rfl rfl) (hB'.same rfl rfl) (h2'.same rfl rfl) hat hz hby hdj (by omega) (λm r s1 e x hr hl o=> ?_) (λe pos s1 er he x o=> ?_)
 ·have x2:Ext Any (λx=>x=R+2) (s.cxN cxN) s1:=x1.trans x hb0 (λ_ _ _=>trivial) λ_ _ h=>h
  refine AeQ_.wi Rv_ (by omega) ?_
  simp only[Ag_,Ac,W_oS,Aa,W_mv,Ab,aA,Nat.reduceEqDiff, ↓reduceIte,CT,k2]
  by_cases c1:hi<m
  ·refine Wx.cond (v:=true) Cd_ BQ_ (by simp[aA];omega) (by omega) (λ_=> ?_) λh=>by cases h
   refine Aka_.wx (up:=none) XD_ (by omega) ?_
   simp only[Yk,BH,BU,BK,Ca,BZ,aA,Ag,Af,Ae,Nat.reduceEqDiff, ↓reduceIte,k3]
   exact Ib (by omega) ⟨x2.cx,p _ _ _ (by unfold bndR;rw[e];simp only;rw[if_pos (.inl c1)]) ha x2.cx' ⟨_,o.same rfl rfl⟩⟩
  ·refine Wx.cond (v:=false) Cd_ BQ_ (by simp[aA];omega) (by omega) (λh=>by cases h) λ_=> ?_
   refine Aen_.wi Agm_ (by omega) ?_
   simp only[BZ_,Ac,W_oS,Aa,W_mv,Ab,aA,Nat.reduceEqDiff, ↓reduceIte,Bg,k1]
   by_cases c2:m<lo
   ·refine Wx.cond (v:=true) XE Jj_ (by simp[aA];omega) (by omega) (λ_=> ?_) λh=>by cases h
    refine Afh_.wx (up:=none) Zu_ (by omega) ?_
    simp only[Gm_,BH,BU,BK,Ca,BZ,aA,Ag,Af,Ae,Nat.reduceEqDiff, ↓reduceIte]
    exact Ib (by omega) ⟨x2.cx,p _ _ _ (by unfold bndR;rw[e];simp only;rw[if_pos (.inr c2)]) (by decide) x2.cx' ⟨_,o.same rfl rfl⟩⟩
   ·refine Wx.cond (v:=false) XE Jj_ (by simp[aA];omega) (by omega) (λh=>by cases h) λ_=> ?_
    refine AgH_.wi XG_ (by omega) ?_
    simp only[BC_,Aa,W_mv,Ab,aA,Nat.reduceEqDiff, ↓reduceIte]
    refine Wx.of (aG (rs:=[8]) (vs:=[.int .i64 (m:Nat)]) ZF_ (.inl Pl_) (by omega) Ev_ Aes_ x2.cx (by simp[aA]) ?_)
    exact q m r _ (by unfold bndR;rw[e];simp only;rw[if_neg (by omega)]) x2.cx' hr hl (o.same rfl rfl)
 ·have x2:Ext Any (λx=>x=R+2) (s.cxN cxN) s1:=x1.trans x hb0 (λ_ _ _=>trivial) λ_ _ h=>h
  exact⟨x2.cx,p e pos _ (by unfold bndR;rw[er]) he x2.cx' (o.imp λu h=>h.same rfl rfl)⟩
end
theorem Wx.w {α:Type}{m:M α}{s:St}{Q:α->St->Prop}(h:Wx m s Q λ_ _=>False):W m s Q:=h.elim id λ⟨_,_,_,f⟩=>f.elim
section
variable {R n:Nat}{v:Value}{l:List Nat}{s:St}{Q:Value->St->Prop}{RR:List PanicEntry->St->Prop}
theorem DN_ {at0:Nat}(hb:s.lim<=s.next)(h1:Own s R 1 v)(hB:Bs s v l)(h2:Own s R 2 (.int .i64 (at0:Nat)))(hat:at0<=l.length)(hz:l.length<=1000000000)(hdj: ∀x,BsF v x->x≠R+2)(hn:100<=n)
  (q:at0+16<=l.length-> ∀s1 b c,Ext Any (λx=>x=R+2) s s1->Own s1 R 2 (.int .i64 (at0+16:Nat))->s.next<=b->AC s1 b 0 (u8l ((l.take (at0+16)).drop at0))->Q (.slice (some ⟨b,0,none⟩) 16 c) s1)
  (p:l.length<at0+16-> ∀e pos s1,e≠0->Ext Any (λx=>x=R+2) s s1->(∃u,Own s1 R 2 u)->RR (Ed e pos) s1):Wx (Ay envS (runF envS n) 141 [.pointer (some ⟨R,0,none⟩), .int .i64 16]) s Q RR:=by
 have hb0:(s.cxN cxN).lim<=(s.cxN cxN).next:=hb
 refine XH_ λtm h0 k1=> ?_
 refine Ajc_.wi rfl (by omega) ?_
 simp only[Er_,Aa,W_mv,Ab]
 have h2':Own (s.cxN cxN) R 2 (.int .i64 (at0:Nat)):=h2.same rfl rfl
 have h1':Own (s.cxN cxN) R 1 v:=h1.same rfl rfl
 have hB':Bs (s.cxN cxN) v l:=hB.same rfl rfl
 have es:wrap64 ((l.length:Nat)-(at0:Nat):Int)=((l.length-at0:Nat):Int):=by
  rw[Bq (by omega) (by omega)];omega
 refine Ach_.wir Akz_ (by omega) ?_
 simp only[Ch_,aA,Nat.reduceEqDiff, ↓reduceIte,h0,k1,BW,Br,CY,CS EE (by decide)]
 refine aH CO (h1'.same (s':=dSt (s.cxN cxN).mem (s.cxN cxN).next) rfl rfl).at' λrd1 _=> ?_
 simp only[Ag,Af,Ae,BW]
 rw[W_dq λs Q=>hB.len' (s':=s) BE Q]
 simp only[Br,CY,CS Dh (by decide)]
 refine aH Be (h2'.same (s':=dSt (s.cxN cxN).mem (s.cxN cxN).next) rfl rfl).at' λrd2 _=> ?_
 simp only[BW]
 rw[W_dq λs Q=>Ec (s:=s) ((l.length:Nat):Int) ((at0:Nat):Int),es,Aa]
 refine⟨rfl,by simp,by simp,λs1 m1 n1 x1=> ?_⟩
 refine W.cast (KK_ _ _ _ _ _ _ _ _ _ _ _ _ _ _ _ _) ?_
 simp only[Ac,W_oS,Aa,Ar,CT]
 have hx1:Ext Any (λx=>x=R+2) (s.cxN cxN) s1:=x1.weak hb0 (λ_ _ h=>h) λ_ _ h=>h.elim
 have h21:=h2'.same m1 n1
 have h11:=h1'.same m1 n1
 have hB1:=hB'.same m1 n1
 by_cases hc:at0+16<=l.length
 ·refine Wx.cond (v:=false) YL CZ_ (by simp[aA];omega) (by omega) (λh=>by cases h) λ_=> ?_
  refine Rw_.wi MH_ (by omega) ?_
  simp only[CJ_,Ac,W_oS,Aa,W_mv,aA,Ao,Nat.reduceEqDiff,reduceCtorEq, ↓reduceIte,h0,k1,A8 Dh (by decide)]
  refine aD Be h21.at' ?_
  have ep:wrap64 ((at0:Nat)+16:Int)=((at0+16:Nat):Int):=by
   rw[Bq (by omega) (by omega)];simp
  simp only[BG,ep]
  refine aI Be rfl (h21.same rfl rfl) λs2 n2 x2 o2=> ?_
  have hx2:Ext Any (λx=>x=R+2) (s.cxN cxN) s2:=(hx1.thenRd' hb0 (R+(0+2))).trans x2 hb0 (λ_ _ _=>trivial) λy _ hy=>by
   have h1:=hy.1
   have h2:=hy.2
   omega
  have o2':Own s2 R 2 (.int .i64 (at0+16:Nat)):=o2
  have h12:Own s2 R 1 v:=h1'.ext hx2 λh=>by omega
  have hB2:Bs s2 v l:=hB'.ext hx2 λx h=>hdj x h
  have hb2:=hx2.bnd hb0
  have hn02:(s.cxN cxN).next<=s2.next:=hx2.nxt
  have hm16:((l.take (at0+16)).drop at0).length=16:=by rw[List.length_drop,List.length_take];omega
  obtain⟨vb,vo,vc,ev,g1,g2,g3⟩: ∃b o c,v= .slice (some ⟨b,o,none⟩) l.length c/\l.length<=c%capU/\Cq c 1=true/\Row s2 b o (u8l l):=by
   rcases hB2 with⟨_,rfl⟩|h
   ·simp at hc
   ·exact h
  obtain⟨vo',e1,e2,e3,e4,e5⟩:=Bs.sub' (i:=at0) (j:=at0+16) (by omega) hc g1 g2 g3
  rw[hm16]at e1
  refine Adq_.wx (up:=none) AkS_ (by omega) ?_
  simp only[XO,aA,Nat.reduceEqDiff, ↓reduceIte,h0,k1,BW,Dz,Br,CY,CS EE (by decide)]
  refine aH CO (h12.same (s':=dSt s2.mem s2.next) rfl rfl).at' λrd3 hr3=> ?_
  simp only[Br,CY,CS Dh (by decide)]
  refine aH Be (o2'.same (s':=dSt s2.mem s2.next) rfl rfl).at' λrd4 hr4=> ?_
  have eb:wrap64 (((at0+16:Nat):Int)-16)=((at0:Nat):Int):=by
   rw[Bq (by omega) (by omega)];omega
  simp only[Br]
  rw[W_dq λs Q=>Ec (s:=s) ((at0+16:Nat):Int) 16,eb]
  simp only[Br,CY,CS Dh (by decide)]
  refine aH Be (o2'.same (s':=dSt s2.mem s2.next) rfl rfl).at' λrd5 hr5=> ?_
  simp only[Dz,Ae,ev]
  rw[W_dq λs Q=>U8 (s:=s) BE (l:=at0) (h:=at0+16) rfl rfl (by omega) (by omega) g2 Q,show at0+16-at0=16 by omega]
  rw[show at0+16-at0=16 by omega]at e1
  simp only[Ag,Af,Ae,BW]
  rw[e1]
  refine W.dopG ?_
  rw[Ee]
  have hrow:Row (oSt s2.mem s2.next) vb vo' (u8l ((l.take (at0+16)).drop at0)):=λi u h=>(e4 i u h).same rfl rfl
  refine W.appNil (s:=oSt s2.mem s2.next) (Nat.le_refl _) ES (n:=16) (FY (n:=16) (c:=vc-at0) hrow (by rw[Bu,hm16])).g (by decide) (by decide) (by decide) (by decide) (by rw[Bu,hm16]) (DI _) λs3 w wb hf x3=>⟨_,_,x3,λrd6 wr6 hr6 hw6=> ?_⟩
  have hn3:s2.next<=s3.next:=x3.nxt
  have hwr:wr6=[]:=by
   cases wr6 with
   |nil=>rfl
   |cons y _=>exact(hw6 y (by simp)).2.elim
  subst hwr
  rw[Aa]
  refine⟨NV ?_, ?_⟩
  ·simp only[List.reverse_cons,List.reverse_nil,List.nil_append,List.cons_append,allP,E9,List.take,IZ]
   have lts: ∀x,s2.next<=x-> ¬x<s2.next:=λx h=>by omega
   simp+contextual [lts]
   repeat' first
    |exact .inl rfl
    |apply And.intro
  ·refine Wx.cast (OS_ _ _ _ _ _ _ _ _ _ _ _ _ _ _ _ _ _ _ _ _ _) ?_
   simp only[BH,Ck,BK,CN]
   generalize hs':(⟨(dSt s3.mem s3.next).mem,(dSt s3.mem s3.next).next,s2.lim,_,_,s2.cx⟩:St)=s4
   have m4:s4.mem=s3.mem:=by rw[<-hs'];rfl
   have n4:s4.next=s3.next:=by rw[<-hs'];rfl
   have x4:Ext (λ_=>True) Non s2 s4:=by
    rw[<-hs']
    refine aU (by show s2.next<=s3.next;omega) (λx hx _=>x3.mem x hx id) ?_ λ_ _ _ _ _=>trivial
    simp only[List.mem_cons,List.not_mem_nil,or_false]
    rintro m (rfl|rfl|rfl|rfl|rfl|rfl|rfl|rfl|rfl|rfl|rfl|rfl|rfl|rfl|rfl|rfl) x hx hl<;>cases hx
   have hx4:Ext Any (λx=>x=R+2) (s.cxN cxN) s4:=hx2.trans x4 hb0 (λ_ _ _=>trivial) λ_ _ h=>h.elim
   refine Wx.of (aG (rs:=[4]) (vs:=[w]) Nu_ (.inl Agh_) (by omega) YI Pt_ hx4.cx (by simp[aA]) ?_)
   have hv:=hf.val
   rw[hv]
   have hnew:s2.next<=wb:=hf.new
   exact q hc _ wb _ hx4.cx' ((o2'.ext0 x4).same rfl rfl) (Nat.le_trans hn02 hnew) λi u e=>((hf.own i u e).same m4 n4).same rfl rfl
 ·refine Wx.cond (v:=true) YL CZ_ (by simp[aA];omega) (by omega) (λ_=> ?_) λh=>by cases h
  refine Lk_.wx (up:=none) Agb_ (by omega) ?_
  simp only[Ht_,BH,Ck,BU,BK,Ca,BZ,CK,aA,Ag,Af,Ae,reduceCtorEq, ↓reduceIte,h0,DE_ EE (by decide)]
  refine Wx.of (aD CO h11.at' ?_)
  refine Wx.of ?_
  rw[hB.len' BE]
  have hx2:=hx1.thenRd' hb0 (R+(0+1))
  exact Ib (by omega) ⟨hx2.cx,p (by omega) _ _ _ (by decide) hx2.cx' ⟨_,h21.same rfl rfl⟩⟩
end
theorem Abn_:D8 envS 170=some [.int .i64 0, .int .i64 0]:=by kernel_rfl
theorem Ll_:fldN envS 170 0=some (0,2,true):=by kernel_rfl
theorem Ta_:tyS envS 170=some (2,true):=by kernel_rfl
theorem Wl_ (xo yo:Operand)(t:Nat)(s:St):Cl.get (aBin envS .eql 20 (.tmp 5) (.const .nilIface)) .nilIface .nilIface s= .some (.bool true) s:=by kernel_rfl
theorem TY_ (e pos:Int)(s:St):Cl.get (aBin envS .eql 20 (.tmp 5) (.const .nilIface)) (.iface 170 (.agg #[.int .i64 e, .int .i64 pos])) .nilIface s= .some (.bool false) s:=by kernel_rfl
theorem XK_ (e pos:Int)(s:St):EN envS 170 true (.iface 170 (.agg #[.int .i64 e, .int .i64 pos])) s= .some (.tuple #[.agg #[.int .i64 e, .int .i64 pos], .bool true]) s:=by kernel_rfl
section
variable {R n A B:Nat}{s:St}{Q:Value×FrameMode->St->Prop}
theorem Ack_ (a b:Value):T.get (B9 Di [a,b] 0 .E) 0=some a:=by kernel_rfl
theorem UC_ (a b:Value):T.get (B9 Di [a,b] 0 .E) 1=some b:=by kernel_rfl
theorem Akg_ {mo:FrameMode}(hb:s.lim<=s.next)(hm:recM mo=none)(hcx:s.cx= .cx (some mo) (some []))(hn:20<=n)(q:Q (tupV [],mo) s):
  W (runF envS n ⟨136,Dc_,Di,B9 Di [.pointer (some ⟨A,0,none⟩), .pointer (some ⟨B,0,none⟩)] 0 .E,[.code PQ], .run, .deferred,none⟩) s Q:=by
 refine W8.w rfl (by omega) ?_
 simp only[Va,Ac,Aa,Ab]
 refine W.recover0 hcx hm ?_
 refine CQ_.w Jl_ (by omega) ?_
 simp only[Uc,Ac,W_oS,Aa,Ab,aA,↓reduceIte]
 rw[Bd (Wl_ (.tmp 0) (.tmp 0) 0 s)]
 refine W.cond (v:=true) EE_ VZ (by simp[aA]) (by omega) (λ_=> ?_) λh=>by cases h
 refine Wa_.w WS_ (by omega) ?_
 simp only[JF_,Aa,W_mv,aA,Nat.reduceEqDiff, ↓reduceIte]
 exact W.endG AkM_ (.inr (by kernel_rfl)) (by omega) MF DV_ hcx (aM q)
theorem Nk_ {e pos:Int}{at0:Int}(hb:s.lim<=s.next)(hcx:s.cx= .cx (some (.panicking (Ed e pos))) (some []))(hA:Own s A 0 (.int .i64 at0))(hB:Own s B 0 (.pointer (some ⟨R,0,none⟩)))(hAB:A≠R+2/\A≠R+3/\A≠R+4)(hBB:B≠R+2/\B≠R+3/\B≠R+4)
  (h2: ∃u,Own s R 2 u) (h3: ∃u,Own s R 3 u) (h4: ∃u,Own s R 4 u) (hn:40<=n)
  (q: ∀s1,Ext Any (λx=>x=R+2\/x=R+3\/x=R+4) (s.cxN cxN) (s1.cxN cxN)->Own s1 R 2 (.int .i64 at0)->Own s1 R 3 (.int .i64 e)->Own s1 R 4 (.int .i64 pos)->Q (tupV [], .panicking [{v:= .iface 170 (.agg #[.int .i64 e, .int .i64 pos]),recovered:=true}]) s1):
  W (runF envS n ⟨136,Dc_,Di,B9 Di [.pointer (some ⟨A,0,none⟩), .pointer (some ⟨B,0,none⟩)] 0 .E,[.code PQ], .run, .deferred,none⟩) s Q:=by
 have t0:=Ack_ (.pointer (some ⟨A,0,none⟩)) (.pointer (some ⟨B,0,none⟩))
 have t1:=UC_ (.pointer (some ⟨A,0,none⟩)) (.pointer (some ⟨B,0,none⟩))
 generalize B9 Di [.pointer (some ⟨A,0,none⟩), .pointer (some ⟨B,0,none⟩)] 0 .E=tm at *
 refine W8.w rfl (by omega) ?_
 simp only[Va,Ac,Aa,Ab]
 refine W.recover (v:= .iface 170 (.agg #[.int .i64 e, .int .i64 pos])) (older:=[]) (d:=[]) hcx ?_
 obtain⟨s0,hs0⟩: ∃s0,s0=s.cxN (.cx (some (.panicking [{v:= .iface 170 (.agg #[.int .i64 e, .int .i64 pos]),recovered:=true}])) (some [])):=⟨_,rfl⟩
 rw[<-hs0]
 have c0:s0.cx= .cx (some (.panicking [{v:= .iface 170 (.agg #[.int .i64 e, .int .i64 pos]),recovered:=true}])) (some []):=by rw[hs0];rfl
 have m0:s0.mem=s.mem:=by rw[hs0];rfl
 have n0:s0.next=s.next:=by rw[hs0];rfl
 have b0:s0.lim<=s0.next:=by rw[hs0];exact hb
 have e0:s0.cxN cxN=s.cxN cxN:=by rw[hs0];rfl
 have hA0:=hA.same m0 n0
 have hB0:=hB.same m0 n0
 obtain⟨u2,h2⟩:=h2
 obtain⟨u3,h3⟩:=h3
 obtain⟨u4,h4⟩:=h4
 have h20:=h2.same m0 n0
 have h30:=h3.same m0 n0
 have h40:=h4.same m0 n0
 refine CQ_.w Jl_ (by omega) ?_
 simp only[Uc,Ac,W_oS,Aa,Ab,aA,↓reduceIte]
 rw[Bd (TY_ e pos s0)]
 refine W.cond (v:=false) EE_ VZ (by simp[aA]) (by omega) (λh=>by cases h) λ_=> ?_
 refine Ajf_.w Ahy_ (by omega) ?_
 simp only[XD,Ac,W_oS,Aa,Ab,aA,Nat.reduceEqDiff, ↓reduceIte]
 rw[Bd (XK_ e pos s0)]
 rw[BS (k:=1) rfl]
 rw[BS (k:=0) rfl]
 refine W.cond (v:=true) Adh_ Adm_ (by simp[aA]) (by omega) (λ_=> ?_) λh=>by cases h
 refine Of_.w Wc_ (by omega) ?_
 simp only[HQ_,Ac,W_oS,Aa,Ab,aA,Nat.reduceEqDiff, ↓reduceIte]
 refine W.alloc Abn_ λs1 n1 x1 o1=> ?_
 refine W.store Ta_ (v:= .agg #[.int .i64 e, .int .i64 pos]) rfl rfl (λj hj=>AC.owned o1 j (by simpa using hj)) λs2 n2 x2 o2=> ?_
 have n1':s1.next=s0.next+3:=n1
 have x02:Ext Any Non s0 s2:=(x1.any b0).trans x2 b0 (λ_ _ _=>trivial) λy hy h=>by
  have h1:=h.1
  omega
 refine LE_.w My_ (by omega) ?_
 simp only[HD_,Ac,W_oS,Aa,aA,Nat.reduceEqDiff,reduceCtorEq, ↓reduceIte,t0,t1]
 refine aD Dq (hB0.ext0 x02).at' ?_
 have x03:=x02.thenRd b0 (B+(0+0))
 try simp only[Ao]
 refine aD Dq ((hB0.ext0 x02).same rfl rfl).at' ?_
 have x04:=x03.thenRd b0 (B+(0+0))
 simp only[Ao,A8 Ll_ (by decide)]
 have o2':AC s2 s0.next 0 [.int .i64 e, .int .i64 pos]:=o2
 refine aJ Ej (l:=[.int .i64 e, .int .i64 pos]) (o:=0+0) (λi u h=>((o2' i u h).same rfl rfl).at') rfl λs5 m5 n5 x5=> ?_
 have x05:Ext Any Non s0 s5:=x04.then0 x5 b0
 refine aD Be (hA0.ext0 x05).at' ?_
 have x06:=x05.thenRd b0 (A+(0+0))
 simp only[A8 UQ (by decide)]
 refine W.store Ej (o:=0+3) (v:= .agg #[.int .i64 e, .int .i64 pos]) rfl rfl (λj hj=> ?_) λs7 n7 x7 o7=> ?_
 ·match j,hj with
  |0,_=>exact⟨u3,(h30.ext0 x06)⟩
  |1,_=>exact⟨u4,(h40.ext0 x06)⟩
 have x07:Ext Any (λx=>x=R+2\/x=R+3\/x=R+4) s0 s7:=(x06.weak b0 (λ_ _ h=>h) λ_ _ h=>h.elim).trans x7 b0 (λ_ _ _=>trivial) λy _ hy=>by
  have h1:=hy.1
  have h2:y<R+(0+3)+2:=hy.2
  omega
 have hs6:(s5.rdN (A+(0+0))).next=s5.next:=rfl
 have h26:Own s7 R 2 u2:=(h20.ext0 x06).ext x7 λh=>by
  have h1:=h.1
  omega
 simp only[A8 Dh (by decide)]
 refine aI Be rfl h26 λs8 n8 x8 o8=> ?_
 have x08:Ext Any (λx=>x=R+2\/x=R+3\/x=R+4) s0 s8:=x07.trans x8 b0 (λ_ _ _=>trivial) λy _ hy=>by
  have h1:=hy.1
  have h2:=hy.2
  omega
 have o7a:Own s7 R 3 (.int .i64 e):=o7 0 _ rfl
 have o7b:Own s7 R 4 (.int .i64 pos):=o7 1 _ rfl
 refine W.endG AaW_ (.inr (by kernel_rfl)) (by omega) MF DV_ (x08.cx.trans c0) (aM ?_)
 refine q s8 ?_ o8 (o7a.ext x8 λh=>by have h2:=h.2;omega) (o7b.ext x8 λh=>by have h2:=h.2;omega)
 rw[<-e0]
 exact⟨x08.nxt,x08.lim,rfl,x08.mem,x08.rd,x08.wr⟩
end
end Go.Proofs.Ytofanlcjeohcjaa.Am
end
