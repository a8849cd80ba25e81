import Derived.Test.YtndednnianphoaaGreatDoorJf16
import Derived.Test.YtndednnianphoaaGreatDoorJf09
import Derived.KernelRfl
noncomputable section
namespace Go.Proofs.YtndednnianphoaaGreatDoor.Am
open Go.RowKit
def GI:Nat:=A8 Tryz.f23
def UN:Code:=Tryz.f23.body.getD .skip
theorem Wi:envS.fn.get 23=some Tryz.f23:=by kernel_rfl
theorem Adf_ {a0:Value}{n:Nat}{s:St}{Q:Value→St→Prop}(h: ∀tm,T.get tm 0=some a0→W (runF envS n ⟨23,16,GI,tm,[.code UN], .run, .normal,none⟩) (s.cxN cxN) fun p s1=>Q p.1 (s1.cxN s.cx)):W (Ay envS (runF envS n) 23 [a0]) s Q:=
 W.call (by kernel_rfl) (by kernel_rfl) Wi (by kernel_rfl) rfl rfl (by simp) (h _ (by kernel_rfl))
theorem Ps_:Tryz.f23.results.toList=[.tmp 2, .tmp 3]:=by kernel_rfl
def SM:List Item:=skim 64 [.code UN]
def LH:List Item:=skim 64 SM.tail
theorem Pf_:skim 64 SM.tail=LH:=by kernel_rfl
def Oz:List Item:=skim 64 LH.tail
theorem Afk_:skim 64 LH.tail=Oz:=by kernel_rfl
def KE:List Item:=skim 64 Oz.tail
theorem Oo_:skim 64 Oz.tail=KE:=by kernel_rfl
def Lv:List Item:=skim 64 KE.tail
theorem UY_:skim 64 KE.tail=Lv:=by kernel_rfl
def N6:List Item:=skim 64 (brF Lv)
theorem Qi_:skim 64 (brF Lv)=N6:=by kernel_rfl
def TD:List Item:=skim 64 N6.tail
theorem Uf_:skim 64 N6.tail=TD:=by kernel_rfl
def US (E:Env)(call round:Ad)(tm:T Value):M (T Value):=
 mv (some (.pointer none)) fun v2=>
 setF 2 v2 tm fun tm1=>
 mv (some (.int .i64 0)) fun v3=>
 setF 3 v3 tm1 fun tm2=>
 M.pure tm2
theorem Lx_:RegEq 23 16 GI SM US:=⟨by kernel_rfl,fun _ _ _ _ _ _ _ _ _=>by kernel_rfl⟩
def BH_ (E:Env)(call round:Ad)(tm:T Value):M (T Value):=
 M.bind (Dw) fun v6=>
 M.bind (oS (seqP [(0,(some (.bool true))),(1,(some v6))]) fun ps=>Cm E 78 ps) fun v7=>
 M.bind (oS (some v7) fun a=>kBox a) fun v8=>
 mv (some v8) fun v4=>
 setF 4 v4 tm fun tm1=>
 M.pure tm1
theorem TU_:RegEq 23 16 GI LH BH_:=⟨by kernel_rfl,fun _ _ _ _ _ _ _ _ _=>by kernel_rfl⟩
def Ab_ (E:Env)(call round:Ad)(tm:T Value):M (T Value):=
 mv (T.get tm 4) fun v9=>
 mv (T.get tm 0) fun v10=>
 M.bind (M.on (some (.func (.func 55) #[] #[])) fun f=>M.on (seqO [(some v9),(some v10)]) fun l=>AL call round f l) fun v11=>
 mv (some v11) fun v5=>
 setF 5 v5 tm fun tm1=>
 M.pure tm1
theorem PS_:RegEq 23 16 GI Oz Ab_:=⟨by kernel_rfl,fun _ _ _ _ _ _ _ _ _=>by kernel_rfl⟩
def XG (E:Env)(call round:Ad)(tm:T Value):M (T Value):=
 mv (T.get tm 5) fun v12=>
 M.bind (oS (some v12) fun a=>oS (some (.int .i64 0)) fun b=>Cl.get (aBin E .neq 29 (.tmp 12) (.const (.int .i64 0))) a b) fun v13=>
 setF 13 v13 tm fun tm1=>
 M.pure tm1
theorem Acz_:RegEq 23 16 GI KE XG:=⟨by kernel_rfl,fun _ _ _ _ _ _ _ _ _=>by kernel_rfl⟩
theorem Pi_:A4 Lv=some 13:=by kernel_rfl
def Fb_ (E:Env)(call round:Ad)(tm:T Value):M (T Value):=
 mv (T.get tm 4) fun v15=>
 mv (some v15) fun v2=>
 setF 2 v2 tm fun tm1=>
 mv (some (.int .i64 0)) fun v3=>
 setF 3 v3 tm1 fun tm2=>
 M.pure tm2
theorem Rf_:RegEq 23 16 GI N6 Fb_:=⟨by kernel_rfl,fun _ _ _ _ _ _ _ _ _=>by kernel_rfl⟩
theorem AcY_: ∃k,TD= .code .ret::k:=⟨TD.tail,by kernel_rfl⟩
def G6:Nat:=A8 Tryz.f55
def Zh:Code:=Tryz.f55.body.getD .skip
theorem Uz:envS.fn.get 55=some Tryz.f55:=by kernel_rfl
theorem Afl_ {a0 a1:Value}{n:Nat}{s:St}{Q:Value→St→Prop}(h: ∀tm,T.get tm 0=some a0→T.get tm 1=some a1→W (runF envS n ⟨55,19,G6,tm,[.code Zh], .run, .normal,none⟩) (s.cxN cxN) fun p s1=>Q p.1 (s1.cxN s.cx)):W (Ay envS (runF envS n) 55 [a0,a1]) s Q:=
 W.call (by kernel_rfl) (by kernel_rfl) Uz (by kernel_rfl) rfl rfl (by simp) (h _ (by kernel_rfl) (by kernel_rfl))
theorem MR_:Tryz.f55.results.toList=[.tmp 4]:=by kernel_rfl
def Qc:List Item:=skim 64 [.code Zh]
def K0:List Item:=skim 64 Qc.tail
theorem AbY_:skim 64 Qc.tail=K0:=by kernel_rfl
def Jw:List Item:=skim 64 K0.tail
theorem Ago_:skim 64 K0.tail=Jw:=by kernel_rfl
def Oe:List Item:=skim 64 (brF Jw)
theorem NS_:skim 64 (brF Jw)=Oe:=by kernel_rfl
def NS:List Item:=skim 64 Oe.tail
theorem Adc_:skim 64 Oe.tail=NS:=by kernel_rfl
def J0:List Item:=skim 64 (brF NS)
theorem YY_:skim 64 (brF NS)=J0:=by kernel_rfl
def Jt:List Item:=skim 64 J0.tail
theorem Zt_:skim 64 J0.tail=Jt:=by kernel_rfl
def PT:List Item:=skim 64 Jt.tail
theorem YZ_:skim 64 Jt.tail=PT:=by kernel_rfl
def XH (E:Env)(call round:Ad)(tm:T Value):M (T Value):=
 mv (some (.int .i64 0)) fun v4=>
 setF 4 v4 tm fun tm1=>
 M.pure tm1
theorem Sr_:RegEq 55 19 G6 Qc XH:=⟨by kernel_rfl,fun _ _ _ _ _ _ _ _ _=>by kernel_rfl⟩
def VO (E:Env)(call round:Ad)(tm:T Value):M (T Value):=
 mv (T.get tm 0) fun v6=>
 M.bind (M.on (some (.func (.func 46) #[] #[])) fun f=>M.on (seqO [(some v6)]) fun l=>AL call round f l) fun v7=>
 mv (some v7) fun v5=>
 setF 5 v5 tm fun tm1=>
 M.pure tm1
theorem Aeo_:RegEq 55 19 G6 K0 VO:=⟨by kernel_rfl,fun _ _ _ _ _ _ _ _ _=>by kernel_rfl⟩
theorem WA_:A4 Jw=some 5:=by kernel_rfl
def Bd_ (E:Env)(call round:Ad)(tm:T Value):M (T Value):=
 mv (T.get tm 1) fun v9=>
 M.bind (oS (some v9) fun a=>oS (some (.int .i64 0)) fun b=>Cl.get (aBin E .lss 3 (.tmp 9) (.const (.int .i64 0))) a b) fun v10=>
 mv (some v10) fun v11=>
 M.bind (M.chk (isK v11) (M.if (isB v11 false) (oS (T.get tm 1) fun a=>M.pure a) (M.pure undef))) fun v12=>
 M.bind (M.chk (isK v11) (M.if (isB v11 false) (oS (some v12) fun a=>oS (some (.int .i64 16777216)) fun b=>Cl.get (aBin E .gtr 3 (.tmp 12) (.const (.int .i64 16777216))) a b) (M.pure undef))) fun v13=>
 M.bind (M.on (some v11) fun a=>M.on (some (.bool true)) fun b=>M.on (some v13) fun c=>Bj a b c) fun v14=>
 mv (some v14) fun v8=>
 setF 8 v8 tm fun tm1=>
 M.pure tm1
theorem ZP_:RegEq 55 19 G6 Oe Bd_:=⟨by kernel_rfl,fun _ _ _ _ _ _ _ _ _=>by kernel_rfl⟩
theorem Abc_:A4 NS=some 8:=by kernel_rfl
def ZR (E:Env)(call round:Ad)(tm:T Value):M (T Value):=
 mv (T.get tm 0) fun v15=>
 mv (T.get tm 1) fun v16=>
 M.bind (oS (some v15) fun a=>kNil a) fun v17=>
 M.bind (oS (some v17) fun a=>kFld E 78 a 2) fun v18=>
 M.bind (oS (some v18) fun a=>oS (some v16) fun b=>BM E 3 a b) fun _=>
 M.pure tm
theorem YH_:RegEq 55 19 G6 J0 ZR:=⟨by kernel_rfl,fun _ _ _ _ _ _ _ _ _=>by kernel_rfl⟩
def Uy (E:Env)(call round:Ad)(tm:T Value):M (T Value):=
 mv (some (.int .i64 0)) fun v4=>
 setF 4 v4 tm fun tm1=>
 M.pure tm1
theorem Aes_:RegEq 55 19 G6 Jt Uy:=⟨by kernel_rfl,fun _ _ _ _ _ _ _ _ _=>by kernel_rfl⟩
theorem Yb_: ∃k,PT= .code .ret::k:=⟨PT.tail,by kernel_rfl⟩
def QN:Nat:=A8 Tryz.f46
def Xc:Code:=Tryz.f46.body.getD .skip
theorem Cz_:envS.fn.get 46=some Tryz.f46:=by kernel_rfl
theorem Aaw_ {a0:Value}{n:Nat}{s:St}{Q:Value→St→Prop}(h: ∀tm,T.get tm 0=some a0→W (runF envS n ⟨46,12,QN,tm,[.code Xc], .run, .normal,none⟩) (s.cxN cxN) fun p s1=>Q p.1 (s1.cxN s.cx)):W (Ay envS (runF envS n) 46 [a0]) s Q:=
 W.call (by kernel_rfl) (by kernel_rfl) Cz_ (by kernel_rfl) rfl rfl (by simp) (h _ (by kernel_rfl))
theorem Zo_:Tryz.f46.results.toList=[.tmp 2]:=by kernel_rfl
def S4:List Item:=skim 64 [.code Xc]
def NC:List Item:=skim 64 S4.tail
theorem AeS_:skim 64 S4.tail=NC:=by kernel_rfl
def QZ:List Item:=skim 64 NC.tail
theorem PB_:skim 64 NC.tail=QZ:=by kernel_rfl
def DR_ (E:Env)(call round:Ad)(tm:T Value):M (T Value):=
 mv (some (.bool false)) fun v2=>
 setF 2 v2 tm fun tm1=>
 M.pure tm1
theorem UR_:RegEq 46 12 QN S4 DR_:=⟨by kernel_rfl,fun _ _ _ _ _ _ _ _ _=>by kernel_rfl⟩
def CO_ (E:Env)(call round:Ad)(tm:T Value):M (T Value):=
 mv (T.get tm 0) fun v3=>
 M.bind (oS (some v3) fun a=>oS (some (.pointer none)) fun b=>Cl.get (aBin E .eql 25 (.tmp 3) (.const (.pointer none))) a b) fun v4=>
 mv (some v4) fun v5=>
 M.bind (M.chk (isK v5) (M.if (isB v5 false) (oS (T.get tm 0) fun a=>M.pure a) (M.pure undef))) fun v6=>
 M.bind (M.chk (isK v5) (M.if (isB v5 false) (oS (some v6) fun a=>kNil a) (M.pure undef))) fun v7=>
 M.bind (M.chk (isK v5) (M.if (isB v5 false) (oS (some v7) fun a=>kFld E 78 a 0) (M.pure undef))) fun v8=>
 M.bind (M.chk (isK v5) (M.if (isB v5 false) (oS (some v8) fun a=>AC E 4 a) (M.pure undef))) fun v9=>
 M.bind (M.chk (isK v5) (M.if (isB v5 false) (oS (some v9) fun a=>kUn E.P .not a) (M.pure undef))) fun v10=>
 M.bind (M.on (some v5) fun a=>M.on (some (.bool true)) fun b=>M.on (some v10) fun c=>Bj a b c) fun v11=>
 mv (some v11) fun v2=>
 setF 2 v2 tm fun tm1=>
 M.pure tm1
theorem Pb_:RegEq 46 12 QN NC CO_:=⟨by kernel_rfl,fun _ _ _ _ _ _ _ _ _=>by kernel_rfl⟩
theorem AeB_: ∃k,QZ= .code .ret::k:=⟨QZ.tail,by kernel_rfl⟩
def G0:Nat:=A8 Tryz.f32
def FC_:Code:=Tryz.f32.body.getD .skip
theorem QH:envS.fn.get 32=some Tryz.f32:=by kernel_rfl
theorem ME_ {a0:Value}{n:Nat}{s:St}{Q:Value→St→Prop}(h: ∀tm,T.get tm 0=some a0→W (runF envS n ⟨32,11,G0,tm,[.code FC_], .run, .normal,none⟩) (s.cxN cxN) fun p s1=>Q p.1 (s1.cxN s.cx)):W (Ay envS (runF envS n) 32 [a0]) s Q:=
 W.call (by kernel_rfl) (by kernel_rfl) QH (by kernel_rfl) rfl rfl (by simp) (h _ (by kernel_rfl))
theorem Vn:Tryz.f32.results.toList=[.tmp 2]:=by kernel_rfl
def QE:List Item:=skim 64 [.code FC_]
def Ou:List Item:=skim 64 QE.tail
theorem Aez_:skim 64 QE.tail=Ou:=by kernel_rfl
def Iz:List Item:=skim 64 Ou.tail
theorem Za_:skim 64 Ou.tail=Iz:=by kernel_rfl
def Qc_:List Item:=skim 64 (brT Iz)
def JM:List Item:=skim 64 (brF Iz)
theorem RN_:skim 64 (brF Iz)=JM:=by kernel_rfl
def Uf:List Item:=skim 64 Qc_.tail
def GQ:List Item:=skim 64 JM.tail
theorem GD_:skim 64 JM.tail=GQ:=by kernel_rfl
def TV:List Item:=skim 64 (brT GQ)
theorem Zq_:skim 64 (brT GQ)=TV:=by kernel_rfl
def M7:List Item:=skim 64 (brF GQ)
theorem Aey_:skim 64 (brF GQ)=M7:=by kernel_rfl
theorem Jv_:skim 64 TV.tail=Uf:=by kernel_rfl
def Ph:List Item:=skim 64 M7.tail
theorem LX_:skim 64 M7.tail=Ph:=by kernel_rfl
def YM (E:Env)(call round:Ad)(tm:T Value):M (T Value):=
 mv (some (.int .i64 0)) fun v2=>
 setF 2 v2 tm fun tm1=>
 M.pure tm1
theorem Aac_:RegEq 32 11 G0 QE YM:=⟨by kernel_rfl,fun _ _ _ _ _ _ _ _ _=>by kernel_rfl⟩
def VA (E:Env)(call round:Ad)(tm:T Value):M (T Value):=
 mv (T.get tm 0) fun v4=>
 M.bind (M.on (some (.func (.func 46) #[] #[])) fun f=>M.on (seqO [(some v4)]) fun l=>AL call round f l) fun v5=>
 mv (some v5) fun v3=>
 setF 3 v3 tm fun tm1=>
 M.pure tm1
theorem AbE_:RegEq 32 11 G0 Ou VA:=⟨by kernel_rfl,fun _ _ _ _ _ _ _ _ _=>by kernel_rfl⟩
theorem UG_:A4 Iz=some 3:=by kernel_rfl
def V0 (E:Env)(call round:Ad)(tm:T Value):M (T Value):=
 mv (T.get tm 0) fun v7=>
 M.bind (oS (some v7) fun a=>kNil a) fun v8=>
 M.bind (oS (some v8) fun a=>kFld E 78 a 6) fun v9=>
 M.bind (oS (some v9) fun a=>AC E 4 a) fun v10=>
 mv (some v10) fun v6=>
 setF 6 v6 tm fun tm1=>
 M.pure tm1
theorem Tr_:RegEq 32 11 G0 JM V0:=⟨by kernel_rfl,fun _ _ _ _ _ _ _ _ _=>by kernel_rfl⟩
theorem HE_: ∃k,Uf= .code .ret::k:=⟨Uf.tail,by kernel_rfl⟩
theorem EX_:A4 GQ=some 6:=by kernel_rfl
def BI_ (E:Env)(call round:Ad)(tm:T Value):M (T Value):=
 mv (some (.int .i64 10)) fun v2=>
 setF 2 v2 tm fun tm1=>
 M.pure tm1
theorem Uz_:RegEq 32 11 G0 TV BI_:=⟨by kernel_rfl,fun _ _ _ _ _ _ _ _ _=>by kernel_rfl⟩
def DT_ (E:Env)(call round:Ad)(tm:T Value):M (T Value):=
 mv (some (.int .i64 0)) fun v2=>
 setF 2 v2 tm fun tm1=>
 M.pure tm1
theorem AgF_:RegEq 32 11 G0 M7 DT_:=⟨by kernel_rfl,fun _ _ _ _ _ _ _ _ _=>by kernel_rfl⟩
theorem Ho_: ∃k,Ph= .code .ret::k:=⟨Ph.tail,by kernel_rfl⟩
def Db:Nat:=A8 Tryz.f35
abbrev Oz_:Nat:=36
def CJ_:Code:=Tryz.f35.body.getD .skip
theorem OW:envS.fn.get 35=some Tryz.f35:=by kernel_rfl
theorem Mm_ {a0 a1:Value}{n:Nat}{s:St}{Q:Value→St→Prop}(h: ∀tm,T.get tm 0=some a0→T.get tm 1=some a1→W (runF envS n ⟨35,36,Db,tm,[.code CJ_], .run, .normal,none⟩) (s.cxN cxN) fun p s1=>Q p.1 (s1.cxN s.cx)):W (Ay envS (runF envS n) 35 [a0,a1]) s Q:=
 W.call (by kernel_rfl) (by kernel_rfl) OW (by kernel_rfl) rfl rfl (by simp) (h _ (by kernel_rfl) (by kernel_rfl))
theorem Ai_:Tryz.f35.results.toList=[.tmp 4]:=by kernel_rfl
def O8:List Item:=skim 64 [.code CJ_]
def Nd:List Item:=skim 64 O8.tail
theorem AeN_:skim 64 O8.tail=Nd:=by kernel_rfl
def GJ:List Item:=skim 64 Nd.tail
theorem T6:skim 64 Nd.tail=GJ:=by kernel_rfl
def Nt:List Item:=skim 64 (brT GJ)
theorem Adj_:skim 64 (brT GJ)=Nt:=by kernel_rfl
def Mc:List Item:=skim 64 (brF GJ)
theorem Gq_:skim 64 (brF GJ)=Mc:=by kernel_rfl
def K9:List Item:=skim 64 Nt.tail
theorem Jz_:skim 64 Nt.tail=K9:=by kernel_rfl
def G1:List Item:=skim 64 Mc.tail
theorem YY:skim 64 Mc.tail=G1:=by kernel_rfl
def SW:List Item:=skim 64 K9.tail
theorem SU_:skim 64 K9.tail=SW:=by kernel_rfl
def Ra:List Item:=skim 64 (brT G1)
theorem AfV_:skim 64 (brT G1)=Ra:=by kernel_rfl
def Gz:List Item:=skim 64 (brF G1)
theorem WC_:skim 64 (brF G1)=Gz:=by kernel_rfl
theorem Vh_:skim 64 Ra.tail=Gz:=by kernel_rfl
def Nb:List Item:=skim 64 Gz.tail
theorem Kw_:skim 64 Gz.tail=Nb:=by kernel_rfl
def MY:List Item:=skim 64 Nb.tail
theorem Og_:skim 64 Nb.tail=MY:=by kernel_rfl
def TQ:List Item:=skim 64 MY.tail
theorem Uw_:skim 64 MY.tail=TQ:=by kernel_rfl
def WU (E:Env)(call round:Ad)(tm:T Value):M (T Value):=
 mv (some (.int .i64 0)) fun v4=>
 setF 4 v4 tm fun tm1=>
 M.pure tm1
theorem Zj_:RegEq 35 36 Db O8 WU:=⟨by kernel_rfl,fun _ _ _ _ _ _ _ _ _=>by kernel_rfl⟩
def GH_ (E:Env)(call round:Ad)(tm:T Value):M (T Value):=
 mv (T.get tm 0) fun v5=>
 M.bind (oS (some v5) fun a=>kNil a) fun v6=>
 M.bind (oS (some v6) fun a=>kFld E 78 a 4) fun v7=>
 M.bind (oS (some v7) fun a=>AC E 4 a) fun v8=>
 mv (some v8) fun v9=>
 M.bind (M.chk (isK v9) (M.if (isB v9 true) (oS (T.get tm 0) fun a=>M.pure a) (M.pure undef))) fun v10=>
 M.bind (M.chk (isK v9) (M.if (isB v9 true) (oS (some v10) fun a=>kNil a) (M.pure undef))) fun v11=>
 M.bind (M.chk (isK v9) (M.if (isB v9 true) (oS (some v11) fun a=>kFld E 78 a 5) (M.pure undef))) fun v12=>
 M.bind (M.chk (isK v9) (M.if (isB v9 true) (oS (some v12) fun a=>AC E 3 a) (M.pure undef))) fun v13=>
 M.bind (M.chk (isK v9) (M.if (isB v9 true) (oS (some v13) fun a=>oS (some (.int .i64 0)) fun b=>Cl.get (aBin E .eql 3 (.tmp 13) (.const (.int .i64 0))) a b) (M.pure undef))) fun v14=>
 M.bind (M.on (some v9) fun a=>M.on (some v14) fun b=>M.on (some (.bool false)) fun c=>Bj a b c) fun v15=>
 setF 15 v15 tm fun tm1=>
 M.pure tm1
theorem Sf_:RegEq 35 36 Db Nd GH_:=⟨by kernel_rfl,fun _ _ _ _ _ _ _ _ _=>by kernel_rfl⟩
theorem Sl:A4 GJ=some 15:=by kernel_rfl
def WE (E:Env)(call round:Ad)(tm:T Value):M (T Value):=
 mv (T.get tm 0) fun v16=>
 M.bind (oS (some v16) fun a=>kNil a) fun v17=>
 M.bind (oS (some v17) fun a=>kFld E 78 a 6) fun v18=>
 M.bind (oS (some v18) fun a=>oS (some (.bool true)) fun b=>BM E 4 a b) fun _=>
 M.pure tm
theorem Afs_:RegEq 35 36 Db Nt WE:=⟨by kernel_rfl,fun _ _ _ _ _ _ _ _ _=>by kernel_rfl⟩
def PB (E:Env)(call round:Ad)(tm:T Value):M (T Value):=
 mv (T.get tm 0) fun v19=>
 M.bind (oS (some v19) fun a=>kNil a) fun v20=>
 M.bind (oS (some v20) fun a=>kFld E 78 a 4) fun v21=>
 M.bind (oS (some v21) fun a=>AC E 4 a) fun v22=>
 setF 22 v22 tm fun tm1=>
 M.pure tm1
theorem Z5:RegEq 35 36 Db Mc PB:=⟨by kernel_rfl,fun _ _ _ _ _ _ _ _ _=>by kernel_rfl⟩
def DL_ (E:Env)(call round:Ad)(tm:T Value):M (T Value):=
 mv (some (.int .i64 10)) fun v4=>
 setF 4 v4 tm fun tm1=>
 M.pure tm1
theorem Lg_:RegEq 35 36 Db K9 DL_:=⟨by kernel_rfl,fun _ _ _ _ _ _ _ _ _=>by kernel_rfl⟩
theorem YO:A4 G1=some 22:=by kernel_rfl
theorem AdV_: ∃k,SW= .code .ret::k:=⟨SW.tail,by kernel_rfl⟩
def BR_ (E:Env)(call round:Ad)(tm:T Value):M (T Value):=
 mv (T.get tm 0) fun v23=>
 M.bind (oS (some v23) fun a=>kNil a) fun v24=>
 M.bind (oS (some v24) fun a=>kFld E 78 a 5) fun v25=>
 M.bind (oS (some v25) fun a=>AC E 3 a) fun v26=>
 M.bind (oS (some v26) fun a=>oS (some (.int .i64 1)) fun b=>Cl.get (aBin E .sub 3 (.tmp 26) (.const (.int .i64 1))) a b) fun v27=>
 M.bind (oS (some v23) fun a=>kNil a) fun v28=>
 M.bind (oS (some v28) fun a=>kFld E 78 a 5) fun v29=>
 M.bind (oS (some v29) fun a=>oS (some v27) fun b=>BM E 3 a b) fun _=>
 M.pure tm
theorem YI_:RegEq 35 36 Db Ra BR_:=⟨by kernel_rfl,fun _ _ _ _ _ _ _ _ _=>by kernel_rfl⟩
def Bx_ (E:Env)(call round:Ad)(tm:T Value):M (T Value):=
 mv (T.get tm 0) fun v30=>
 M.bind (oS (some v30) fun a=>kNil a) fun v31=>
 M.bind (oS (some v31) fun a=>kFld E 78 a 3) fun v32=>
 M.bind (M.on (some (.func (.func 59) #[] #[])) fun f=>M.on (seqO [(some v32),(some (.int .i64 1))]) fun l=>AL call round f l) fun v33=>
 M.pure tm
theorem Yf_:RegEq 35 36 Db Gz Bx_:=⟨by kernel_rfl,fun _ _ _ _ _ _ _ _ _=>by kernel_rfl⟩
def Dw_ (E:Env)(call round:Ad)(tm:T Value):M (T Value):=
 mv (T.get tm 1) fun v34=>
 M.bind (M.on (some v34) fun f=>M.on (seqO []) fun l=>AL call round f l) fun v35=>
 M.pure tm
theorem RC_:RegEq 35 36 Db Nb Dw_:=⟨by kernel_rfl,fun _ _ _ _ _ _ _ _ _=>by kernel_rfl⟩
def Xk (E:Env)(call round:Ad)(tm:T Value):M (T Value):=
 mv (some (.int .i64 0)) fun v4=>
 setF 4 v4 tm fun tm1=>
 M.pure tm1
theorem XF_:RegEq 35 36 Db MY Xk:=⟨by kernel_rfl,fun _ _ _ _ _ _ _ _ _=>by kernel_rfl⟩
theorem Vc_: ∃k,TQ= .code .ret::k:=⟨TQ.tail,by kernel_rfl⟩
def Cw:Nat:=A8 Tryz.f11
abbrev Adb_:Nat:=48
def CV_:Code:=Tryz.f11.body.getD .skip
theorem ID:envS.fn.get 11=some Tryz.f11:=by kernel_rfl
theorem Nm_ {a0 a1 a2:Value}{n:Nat}{s:St}{Q:Value→St→Prop}(h: ∀tm,T.get tm 0=some a0→T.get tm 1=some a1→T.get tm 2=some a2→W (runF envS n ⟨11,48,Cw,tm,[.code CV_], .run, .normal,none⟩) (s.cxN cxN) fun p s1=>Q p.1 (s1.cxN s.cx)):W (Ay envS (runF envS n) 11 [a0,a1,a2]) s Q:=
 W.call (by kernel_rfl) (by kernel_rfl) ID (by kernel_rfl) rfl rfl (by simp) (h _ (by kernel_rfl) (by kernel_rfl) (by kernel_rfl))
theorem Kn:Tryz.f11.results.toList=[.tmp 6]:=by kernel_rfl
def Pq:List Item:=skim 64 [.code CV_]
def J1:List Item:=skim 64 Pq.tail
theorem YR_:skim 64 Pq.tail=J1:=by kernel_rfl
def Lg:List Item:=skim 64 J1.tail
theorem NK_:skim 64 J1.tail=Lg:=by kernel_rfl
def FM:List Item:=skim 64 Lg.tail
theorem Wt:skim 64 Lg.tail=FM:=by kernel_rfl
def LM:List Item:=skim 64 (brT FM)
theorem Aas_:skim 64 (brT FM)=LM:=by kernel_rfl
def H5:List Item:=skim 64 (brF FM)
theorem Zm_:skim 64 (brF FM)=H5:=by kernel_rfl
def Rr:List Item:=skim 64 LM.tail
theorem KN_:skim 64 LM.tail=Rr:=by kernel_rfl
def Ki:List Item:=skim 64 H5.tail
theorem Aao_:skim 64 H5.tail=Ki:=by kernel_rfl
def IG:List Item:=skim 64 Ki.tail
theorem Ne_:skim 64 Ki.tail=IG:=by kernel_rfl
def Aga_:List Item:=skim 64 (brT IG)
def Ld:List Item:=skim 64 (brF IG)
theorem VE_:skim 64 (brF IG)=Ld:=by kernel_rfl
def OQ:List Item:=skim 64 Aga_.tail
def Jf:List Item:=skim 64 Ld.tail
theorem UB:skim 64 Ld.tail=Jf:=by kernel_rfl
def Ho:List Item:=skim 64 (brT Jf)
def H9:List Item:=skim 64 (brF Jf)
theorem YJ:skim 64 (brF Jf)=H9:=by kernel_rfl
def Tu:List Item:=skim 64 (brT Ho)
theorem XH_:skim 64 (brT Ho)=Tu:=by kernel_rfl
def KJ:List Item:=skim 64 (brF Ho)
theorem Aaq_:skim 64 (brF Ho)=KJ:=by kernel_rfl
theorem Au_:skim 64 H9.tail=Ho:=by kernel_rfl
theorem Nh_:skim 64 Tu.tail=OQ:=by kernel_rfl
def Up:List Item:=skim 64 KJ.tail
theorem UD:skim 64 KJ.tail=Up:=by kernel_rfl
def At_ (E:Env)(call round:Ad)(tm:T Value):M (T Value):=
 M.bind (oS (T.get tm 0) fun a=>kBox a) fun v3=>
 setF 3 v3 tm fun tm1=>
 M.bind (oS (T.get tm1 1) fun a=>kBox a) fun v4=>
 setF 4 v4 tm1 fun tm2=>
 M.bind (oS (T.get tm2 2) fun a=>kBox a) fun v5=>
 setF 5 v5 tm2 fun tm3=>
 mv (some (.int .i64 0)) fun v6=>
 setF 6 v6 tm3 fun tm4=>
 M.pure tm4
theorem Pu_:RegEq 11 48 Cw Pq At_:=⟨by kernel_rfl,fun _ _ _ _ _ _ _ _ _=>by kernel_rfl⟩
def CQ_ (E:Env)(call round:Ad)(tm:T Value):M (T Value):=
 M.bind (oS (T.get tm 3) fun a=>AC E 25 a) fun v9=>
 M.bind (M.on (some (.func (.func 32) #[] #[])) fun f=>M.on (seqO [(some v9)]) fun l=>AL call round f l) fun v10=>
 mv (some v10) fun v7=>
 setF 7 v7 tm fun tm1=>
 M.pure tm1
theorem LY_:RegEq 11 48 Cw J1 CQ_:=⟨by kernel_rfl,fun _ _ _ _ _ _ _ _ _=>by kernel_rfl⟩
def T4 (E:Env)(call round:Ad)(tm:T Value):M (T Value):=
 mv (T.get tm 7) fun v11=>
 M.bind (oS (some v11) fun a=>oS (some (.int .i64 0)) fun b=>Cl.get (aBin E .neq 29 (.tmp 11) (.const (.int .i64 0))) a b) fun v12=>
 setF 12 v12 tm fun tm1=>
 M.pure tm1
theorem AdX_:RegEq 11 48 Cw Lg T4:=⟨by kernel_rfl,fun _ _ _ _ _ _ _ _ _=>by kernel_rfl⟩
theorem Gr_:A4 FM=some 12:=by kernel_rfl
def UR (E:Env)(call round:Ad)(tm:T Value):M (T Value):=
 mv (T.get tm 7) fun v13=>
 mv (some v13) fun v6=>
 setF 6 v6 tm fun tm1=>
 M.pure tm1
theorem St_:RegEq 11 48 Cw LM UR:=⟨by kernel_rfl,fun _ _ _ _ _ _ _ _ _=>by kernel_rfl⟩
def Yu (E:Env)(call round:Ad)(tm:T Value):M ((Rho×T Value)×List OpLog):=
 M.bind (apartO (oS (T.get tm 3) fun a=>AC E 25 a)) fun p0=>
 M.bind (apartO (oS (some p0.1) fun a=>kNil a)) fun p1=>
 M.bind (apartO (oS (some p1.1) fun a=>kFld E 78 a 1)) fun p2=>
 M.bind (apartO (oS (some p2.1) fun a=>AC E 71 a)) fun p3=>
 M.bind (apartO (oS (T.get tm 4) fun a=>AC E 9 a)) fun p4=>
 M.bind (apartO (oS (some p3.1) fun a=>oS (some p4.1) fun b=>Cy E 71 false a b)) fun p5=>
 M.bind (apartO (CP E 70)) fun p6=>
 setT 8 p6.1 tm fun tm1=>
 M.pure (([p6.1,p5.1,p4.1,p3.1,p2.1,p1.1,p0.1],tm1),[p6.2,p5.2,p4.2,p3.2,p2.2,p1.2,p0.2])
theorem ZA_:DrawEq 11 48 Cw H5 [0,1,3,7,0,31,0,127] Yu:=⟨by kernel_rfl,by kernel_rfl,fun _ _ _ _ _ _ _ _ _=>by kernel_rfl⟩
theorem Ls_ (E:Env)(call round:Ad)(x14 x15 x16 x17 x18 x19 x8:Value)(tm:T Value)(s:St):Br call round (BY E Cw 48 (hdC H5)) [x8,x19,x18,x17,x16,x15,x14] tm s=(M.bind (oS (some x8) fun a=>oS (some x19) fun b=>BM E 70 a b) fun _=>M.pure tm) s:=by kernel_rfl
theorem Ic_: ∃k,Rr= .code .ret::k:=⟨Rr.tail,by kernel_rfl⟩
def U4 (E:Env)(call round:Ad)(tm:T Value):M (T Value):=
 M.bind (oS (T.get tm 4) fun a=>AC E 9 a) fun v21=>
 M.bind (M.on (some (.func (.func 33) #[] #[])) fun f=>M.on (seqO [(some v21)]) fun l=>AL call round f l) fun v22=>
 M.bind (oS (some v22) fun a=>kUn E.P .not a) fun v23=>
 mv (some v23) fun v20=>
 setF 20 v20 tm fun tm1=>
 M.pure tm1
theorem Ue_:RegEq 11 48 Cw Ki U4:=⟨by kernel_rfl,fun _ _ _ _ _ _ _ _ _=>by kernel_rfl⟩
theorem Tm_:A4 IG=some 20:=by kernel_rfl
def WS (E:Env)(call round:Ad)(tm:T Value):M (T Value):=
 M.bind (oS (T.get tm 8) fun a=>AC E 70 a) fun v25=>
 M.bind (oS (some v25) fun a=>oS (some (.pointer none)) fun b=>Cl.get (aBin E .eql 70 (.tmp 25) (.const (.pointer none))) a b) fun v26=>
 mv (some v26) fun v27=>
 M.bind (M.chk (isK v27) (M.if (isB v27 true) (oS (T.get tm 3) fun a=>AC E 25 a) (M.pure undef))) fun v28=>
 M.bind (M.chk (isK v27) (M.if (isB v27 true) (oS (some v28) fun a=>kNil a) (M.pure undef))) fun v29=>
 M.bind (M.chk (isK v27) (M.if (isB v27 true) (oS (some v29) fun a=>kFld E 78 a 1) (M.pure undef))) fun v30=>
 M.bind (M.chk (isK v27) (M.if (isB v27 true) (oS (some v30) fun a=>AC E 71 a) (M.pure undef))) fun v31=>
 M.bind (M.chk (isK v27) (M.if (isB v27 true) (oS (seqO [(some v31)]) fun l=>Ba E .len [71] l) (M.pure undef))) fun v32=>
 M.bind (M.chk (isK v27) (M.if (isB v27 true) (oS (some v32) fun a=>oS (some (.int .i64 1000)) fun b=>Cl.get (aBin E .geq 3 (.tmp 32) (.const (.int .i64 1000))) a b) (M.pure undef))) fun v33=>
 M.bind (M.on (some v27) fun a=>M.on (some v33) fun b=>M.on (some (.bool false)) fun c=>Bj a b c) fun v34=>
 mv (some v34) fun v24=>
 setF 24 v24 tm fun tm1=>
 M.pure tm1
theorem AdM_:RegEq 11 48 Cw Ld WS:=⟨by kernel_rfl,fun _ _ _ _ _ _ _ _ _=>by kernel_rfl⟩
theorem Pp_: ∃k,OQ= .code .ret::k:=⟨OQ.tail,by kernel_rfl⟩
theorem Em_:A4 Jf=some 24:=by kernel_rfl
theorem Eg_:A4 Ho=some 24:=by kernel_rfl
def Bo_ (E:Env)(call round:Ad)(tm:T Value):M ((Rho×T Value)×List OpLog):=
 M.bind (apartO (oS (T.get tm 3) fun a=>AC E 25 a)) fun p0=>
 M.bind (apartO (M.on (some (.func (.func 34) #[] #[])) fun f=>M.on (seqO [(some p0.1)]) fun l=>AL call round f l)) fun p1=>
 M.bind (apartO (oS (T.get tm 5) fun a=>AC E 23 a)) fun p2=>
 M.bind (apartO (oS (seqO [(some p2.1)]) fun l=>Ba E .len [23] l)) fun p3=>
 M.bind (apartO (oS (some p1.1) fun a=>oS (some p3.1) fun b=>Cl.get (aBin E .add 3 (.tmp 36) (.tmp 38)) a b)) fun p4=>
 M.bind (apartO (oS (T.get tm 3) fun a=>AC E 25 a)) fun p5=>
 M.bind (apartO (oS (some p5.1) fun a=>kNil a)) fun p6=>
 M.bind (apartO (oS (some p6.1) fun a=>kFld E 78 a 2)) fun p7=>
 M.bind (apartO (oS (some p7.1) fun a=>AC E 3 a)) fun p8=>
 M.bind (apartO (oS (some p4.1) fun a=>oS (some p8.1) fun b=>Cl.get (aBin E .gtr 3 (.tmp 39) (.tmp 43)) a b)) fun p9=>
 M.pure (([p9.1,p8.1,p7.1,p6.1,p5.1,p4.1,p3.1,p2.1,p1.1,p0.1],tm),[p9.2,p8.2,p7.2,p6.2,p5.2,p4.2,p3.2,p2.2,p1.2,p0.2])
theorem Jp_:DrawEq 11 48 Cw H9 [0,1,0,4,15,0,32,96,224,511,1023] Bo_:=⟨by kernel_rfl,by kernel_rfl,fun _ _ _ _ _ _ _ _ _=>by kernel_rfl⟩
theorem YT_ (E:Env)(call round:Ad)(x35 x36 x37 x38 x39 x40 x41 x42 x43 x44:Value)(tm:T Value)(s:St):Br call round (BY E Cw 48 (hdC H9)) [x44,x43,x42,x41,x40,x39,x38,x37,x36,x35] tm s=(M.bind (oS (some x44) fun a=>M.pure a) fun v24=>setT 24 v24 tm fun tm1=>M.pure tm1) s:=by kernel_rfl
def Xl (E:Env)(call round:Ad)(tm:T Value):M (T Value):=
 mv (some (.int .i64 8)) fun v6=>
 setF 6 v6 tm fun tm1=>
 M.pure tm1
theorem Adx_:RegEq 11 48 Cw Tu Xl:=⟨by kernel_rfl,fun _ _ _ _ _ _ _ _ _=>by kernel_rfl⟩
def FO_ (E:Env)(call round:Ad)(tm:T Value):M (T Value):=
 M.bind (oS (T.get tm 3) fun a=>AC E 25 a) fun v45=>
 M.bind (oS (seqO []) fun a=>oS (seqO [(T.get tm 8),(T.get tm 3),(T.get tm 4),(T.get tm 5)]) fun b=>M.pure (.func (.func 36) a.toArray b.toArray)) fun v46=>
 M.bind (M.on (some (.func (.func 35) #[] #[])) fun f=>M.on (seqO [(some v45),(some v46)]) fun l=>AL call round f l) fun v47=>
 mv (some v47) fun v6=>
 setF 6 v6 tm fun tm1=>
 M.pure tm1
theorem Afg_:RegEq 11 48 Cw KJ FO_:=⟨by kernel_rfl,fun _ _ _ _ _ _ _ _ _=>by kernel_rfl⟩
theorem Wl: ∃k,Up= .code .ret::k:=⟨Up.tail,by kernel_rfl⟩
def EM:Nat:=A8 Tryz.f36
abbrev UW_:Nat:=23
def Vb:Code:=Tryz.f36.body.getD .skip
theorem ZS:envS.fn.get 36=some Tryz.f36:=by kernel_rfl
theorem AaS_ {a0 a1 a2 a3:Value}{n:Nat}{s:St}{Q:Value→St→Prop}(h: ∀tm,T.get tm 0=some a0→T.get tm 1=some a1→T.get tm 2=some a2→T.get tm 3=some a3→W (runF envS n ⟨36,23,EM,tm,[.code Vb], .run, .normal,none⟩) (s.cxN cxN) fun p s1=>Q p.1 (s1.cxN s.cx)):W (Ay envS (runF envS n) 36 [a0,a1,a2,a3]) s Q:=
 W.call (by kernel_rfl) (by kernel_rfl) ZS (by kernel_rfl) rfl rfl (by simp) (h _ (by kernel_rfl) (by kernel_rfl) (by kernel_rfl) (by kernel_rfl))
theorem Nw_:Tryz.f36.results.toList=[]:=by kernel_rfl
def Ug:List Item:=skim 64 [.code Vb]
def HF:List Item:=skim 64 Ug.tail
theorem GU_:skim 64 Ug.tail=HF:=by kernel_rfl
def Lz:List Item:=skim 64 (brT HF)
theorem Afp_:skim 64 (brT HF)=Lz:=by kernel_rfl
def ET:List Item:=skim 64 (brF HF)
theorem SQ_:skim 64 (brF HF)=ET:=by kernel_rfl
def N4:List Item:=skim 64 Lz.tail
theorem Zs_:skim 64 Lz.tail=N4:=by kernel_rfl
def Wk:List Item:=skim 64 ET.tail
theorem AcZ_:skim 64 ET.tail=Wk:=by kernel_rfl
theorem MO_:skim 64 N4.tail=ET:=by kernel_rfl
def Be_ (E:Env)(call round:Ad)(tm:T Value):M (T Value):=
 M.bind (oS (T.get tm 0) fun a=>AC E 70 a) fun v4=>
 M.bind (oS (some v4) fun a=>oS (some (.pointer none)) fun b=>Cl.get (aBin E .eql 70 (.tmp 4) (.const (.pointer none))) a b) fun v5=>
 setF 5 v5 tm fun tm1=>
 M.pure tm1
theorem TO_:RegEq 36 23 EM Ug Be_:=⟨by kernel_rfl,fun _ _ _ _ _ _ _ _ _=>by kernel_rfl⟩
theorem BF_:A4 HF=some 5:=by kernel_rfl
def FH_ (E:Env)(call round:Ad)(tm:T Value):M (T Value):=
 M.bind (oS (seqP []) fun ps=>Cm E 83 ps) fun v6=>
 M.bind (oS (some v6) fun a=>kBox a) fun v7=>
 M.bind (oS (T.get tm 0) fun a=>oS (some v7) fun b=>BM E 70 a b) fun _=>
 M.pure tm
theorem Jl_:RegEq 36 23 EM Lz FH_:=⟨by kernel_rfl,fun _ _ _ _ _ _ _ _ _=>by kernel_rfl⟩
def GE_ (E:Env)(call round:Ad)(tm:T Value):M ((Rho×T Value)×List OpLog):=
 M.bind (apartO (oS (T.get tm 0) fun a=>AC E 70 a)) fun p0=>
 M.bind (apartO (oS (T.get tm 0) fun a=>AC E 70 a)) fun p1=>
 M.bind (apartO (oS (some p1.1) fun a=>kNil a)) fun p2=>
 M.bind (apartO (oS (some p2.1) fun a=>kFld E 83 a 1)) fun p3=>
 M.bind (apartO (oS (some p3.1) fun a=>AC E 23 a)) fun p4=>
 M.bind (apartO (oS (T.get tm 3) fun a=>AC E 23 a)) fun p5=>
 M.bind (apartO (oS (seqO [(some p4.1),(some p5.1)]) fun l=>Ba E .append [23,23] l)) fun p6=>
 M.bind (apartO (oS (some p0.1) fun a=>kNil a)) fun p7=>
 M.bind (apartO (oS (some p7.1) fun a=>kFld E 83 a 1)) fun p8=>
 M.pure (([p8.1,p7.1,p6.1,p5.1,p4.1,p3.1,p2.1,p1.1,p0.1],tm),[p8.2,p7.2,p6.2,p5.2,p4.2,p3.2,p2.2,p1.2,p0.2])
theorem JL_:DrawEq 36 23 EM ET [0,0,2,6,14,0,62,127,255,511] GE_:=⟨by kernel_rfl,by kernel_rfl,fun _ _ _ _ _ _ _ _ _=>by kernel_rfl⟩
theorem Sg_ (E:Env)(call round:Ad)(x14 x15 x16 x17 x18 x19 x20 x21 x22:Value)(tm:T Value)(s:St):Br call round (BY E EM 23 (hdC ET)) [x22,x21,x20,x19,x18,x17,x16,x15,x14] tm s=(M.bind (oS (some x22) fun a=>oS (some x20) fun b=>BM E 23 a b) fun _=>M.pure tm) s:=by kernel_rfl
def Hl_ (E:Env)(call round:Ad)(tm:T Value):M ((Rho×T Value)×List OpLog):=
 M.bind (apartO (oS (T.get tm 1) fun a=>AC E 25 a)) fun p0=>
 M.bind (apartO (oS (some p0.1) fun a=>kNil a)) fun p1=>
 M.bind (apartO (oS (some p1.1) fun a=>kFld E 78 a 1)) fun p2=>
 M.bind (apartO (oS (some p2.1) fun a=>AC E 71 a)) fun p3=>
 M.bind (apartO (oS (T.get tm 2) fun a=>AC E 9 a)) fun p4=>
 M.bind (apartO (oS (T.get tm 0) fun a=>AC E 70 a)) fun p5=>
 M.pure (([p5.1,p4.1,p3.1,p2.1,p1.1,p0.1],tm),[p5.2,p4.2,p3.2,p2.2,p1.2,p0.2])
theorem UZ_:DrawEq 36 23 EM N4 [0,1,3,7,0,0,63] Hl_:=⟨by kernel_rfl,by kernel_rfl,fun _ _ _ _ _ _ _ _ _=>by kernel_rfl⟩
theorem XJ_ (E:Env)(call round:Ad)(x8 x9 x10 x11 x12 x13:Value)(tm:T Value)(s:St):Br call round (BY E EM 23 (hdC N4)) [x13,x12,x11,x10,x9,x8] tm s=(M.bind (M.on (some x11) fun a=>M.on (some x12) fun b=>M.on (some x13) fun c=>DU E 71 a b c) fun _=>M.pure tm) s:=by kernel_rfl
def DT:Nat:=A8 Tryz.f12
def ER_:Code:=Tryz.f12.body.getD .skip
theorem IZ:envS.fn.get 12=some Tryz.f12:=by kernel_rfl
theorem Yt_ {a0 a1:Value}{n:Nat}{s:St}{Q:Value→St→Prop}(h: ∀tm,T.get tm 0=some a0→T.get tm 1=some a1→W (runF envS n ⟨12,23,DT,tm,[.code ER_], .run, .normal,none⟩) (s.cxN cxN) fun p s1=>Q p.1 (s1.cxN s.cx)):W (Ay envS (runF envS n) 12 [a0,a1]) s Q:=
 W.call (by kernel_rfl) (by kernel_rfl) IZ (by kernel_rfl) rfl rfl (by simp) (h _ (by kernel_rfl) (by kernel_rfl))
theorem KQ:Tryz.f12.results.toList=[.tmp 4]:=by kernel_rfl
def Sp:List Item:=skim 64 [.code ER_]
def KT:List Item:=skim 64 Sp.tail
theorem Tc_:skim 64 Sp.tail=KT:=by kernel_rfl
def Mr:List Item:=skim 64 KT.tail
theorem Xw_:skim 64 KT.tail=Mr:=by kernel_rfl
def FY:List Item:=skim 64 Mr.tail
theorem Ux:skim 64 Mr.tail=FY:=by kernel_rfl
def KA:List Item:=skim 64 (brT FY)
theorem AeM_:skim 64 (brT FY)=KA:=by kernel_rfl
def Kl:List Item:=skim 64 (brF FY)
theorem Acq_:skim 64 (brF FY)=Kl:=by kernel_rfl
def Sr:List Item:=skim 64 KA.tail
theorem NB_:skim 64 KA.tail=Sr:=by kernel_rfl
def Kr:List Item:=skim 64 Kl.tail
theorem TI_:skim 64 Kl.tail=Kr:=by kernel_rfl
def Hg:List Item:=skim 64 Kr.tail
theorem BA_:skim 64 Kr.tail=Hg:=by kernel_rfl
def Le:List Item:=skim 64 (brT Hg)
theorem Pn_:skim 64 (brT Hg)=Le:=by kernel_rfl
def Ly:List Item:=skim 64 (brF Hg)
theorem IO_:skim 64 (brF Hg)=Ly:=by kernel_rfl
def SY:List Item:=skim 64 Le.tail
theorem SN_:skim 64 Le.tail=SY:=by kernel_rfl
def Qt:List Item:=skim 64 Ly.tail
theorem DP_:skim 64 Ly.tail=Qt:=by kernel_rfl
def BD_ (E:Env)(call round:Ad)(tm:T Value):M (T Value):=
 mv (some (.int .i64 0)) fun v4=>
 setF 4 v4 tm fun tm1=>
 M.pure tm1
theorem KE_:RegEq 12 23 DT Sp BD_:=⟨by kernel_rfl,fun _ _ _ _ _ _ _ _ _=>by kernel_rfl⟩
def Cj_ (E:Env)(call round:Ad)(tm:T Value):M (T Value):=
 mv (T.get tm 0) fun v7=>
 M.bind (M.on (some (.func (.func 32) #[] #[])) fun f=>M.on (seqO [(some v7)]) fun l=>AL call round f l) fun v8=>
 mv (some v8) fun v5=>
 setF 5 v5 tm fun tm1=>
 M.pure tm1
theorem Qf_:RegEq 12 23 DT KT Cj_:=⟨by kernel_rfl,fun _ _ _ _ _ _ _ _ _=>by kernel_rfl⟩
def TF (E:Env)(call round:Ad)(tm:T Value):M (T Value):=
 mv (T.get tm 5) fun v9=>
 M.bind (oS (some v9) fun a=>oS (some (.int .i64 0)) fun b=>Cl.get (aBin E .neq 29 (.tmp 9) (.const (.int .i64 0))) a b) fun v10=>
 setF 10 v10 tm fun tm1=>
 M.pure tm1
theorem ZD_:RegEq 12 23 DT Mr TF:=⟨by kernel_rfl,fun _ _ _ _ _ _ _ _ _=>by kernel_rfl⟩
theorem Zd:A4 FY=some 10:=by kernel_rfl
def EL_ (E:Env)(call round:Ad)(tm:T Value):M (T Value):=
 mv (T.get tm 5) fun v11=>
 mv (some v11) fun v4=>
 setF 4 v4 tm fun tm1=>
 M.pure tm1
theorem UX_:RegEq 12 23 DT KA EL_:=⟨by kernel_rfl,fun _ _ _ _ _ _ _ _ _=>by kernel_rfl⟩
def VP (E:Env)(call round:Ad)(tm:T Value):M (T Value):=
 mv (T.get tm 0) fun v12=>
 M.bind (oS (some v12) fun a=>kNil a) fun v13=>
 M.bind (oS (some v13) fun a=>kFld E 78 a 1) fun v14=>
 M.bind (oS (some v14) fun a=>AC E 71 a) fun v15=>
 mv (T.get tm 1) fun v16=>
 M.bind (oS (some v15) fun a=>oS (some v16) fun b=>Cy E 71 false a b) fun v17=>
 M.bind (CP E 70) fun v6=>
 setF 6 v6 tm fun tm1=>
 M.bind (oS (some v6) fun a=>oS (some v17) fun b=>BM E 70 a b) fun _=>
 M.pure tm1
theorem Pg_:RegEq 12 23 DT Kl VP:=⟨by kernel_rfl,fun _ _ _ _ _ _ _ _ _=>by kernel_rfl⟩
theorem IB_: ∃k,Sr= .code .ret::k:=⟨Sr.tail,by kernel_rfl⟩
def Ec_ (E:Env)(call round:Ad)(tm:T Value):M (T Value):=
 M.bind (oS (T.get tm 6) fun a=>AC E 70 a) fun v18=>
 M.bind (oS (some v18) fun a=>oS (some (.pointer none)) fun b=>Cl.get (aBin E .eql 70 (.tmp 18) (.const (.pointer none))) a b) fun v19=>
 setF 19 v19 tm fun tm1=>
 M.pure tm1
theorem Qg_:RegEq 12 23 DT Kr Ec_:=⟨by kernel_rfl,fun _ _ _ _ _ _ _ _ _=>by kernel_rfl⟩
theorem Bt_:A4 Hg=some 19:=by kernel_rfl
def Cr_ (E:Env)(call round:Ad)(tm:T Value):M (T Value):=
 mv (some (.int .i64 6)) fun v4=>
 setF 4 v4 tm fun tm1=>
 M.pure tm1
theorem AfG_:RegEq 12 23 DT Le Cr_:=⟨by kernel_rfl,fun _ _ _ _ _ _ _ _ _=>by kernel_rfl⟩
def Fh_ (E:Env)(call round:Ad)(tm:T Value):M (T Value):=
 mv (T.get tm 0) fun v20=>
 M.bind (oS (seqO []) fun a=>oS (seqO [(T.get tm 6)]) fun b=>M.pure (.func (.func 37) a.toArray b.toArray)) fun v21=>
 M.bind (M.on (some (.func (.func 35) #[] #[])) fun f=>M.on (seqO [(some v20),(some v21)]) fun l=>AL call round f l) fun v22=>
 mv (some v22) fun v4=>
 setF 4 v4 tm fun tm1=>
 M.pure tm1
theorem ZB_:RegEq 12 23 DT Ly Fh_:=⟨by kernel_rfl,fun _ _ _ _ _ _ _ _ _=>by kernel_rfl⟩
theorem MA_: ∃k,SY= .code .ret::k:=⟨SY.tail,by kernel_rfl⟩
theorem X5: ∃k,Qt= .code .ret::k:=⟨Qt.tail,by kernel_rfl⟩
def Ur:Nat:=A8 Tryz.f37
def V6:Code:=Tryz.f37.body.getD .skip
theorem Ep_:envS.fn.get 37=some Tryz.f37:=by kernel_rfl
theorem PC_ {a0:Value}{n:Nat}{s:St}{Q:Value→St→Prop}(h: ∀tm,T.get tm 0=some a0→W (runF envS n ⟨37,16,Ur,tm,[.code V6], .run, .normal,none⟩) (s.cxN cxN) fun p s1=>Q p.1 (s1.cxN s.cx)):W (Ay envS (runF envS n) 37 [a0]) s Q:=
 W.call (by kernel_rfl) (by kernel_rfl) Ep_ (by kernel_rfl) rfl rfl (by simp) (h _ (by kernel_rfl))
theorem Ru_:Tryz.f37.results.toList=[]:=by kernel_rfl
def Lf:List Item:=skim 64 [.code V6]
def Ch_:List Item:=skim 64 Lf.tail
theorem SA_:skim 64 Lf.tail=Ch_:=by kernel_rfl
def Xq (E:Env)(call round:Ad)(tm:T Value):M ((Rho×T Value)×List OpLog):=
 M.bind (apartO (oS (T.get tm 0) fun a=>AC E 70 a)) fun p0=>
 M.bind (apartO (oS (T.get tm 0) fun a=>AC E 70 a)) fun p1=>
 M.bind (apartO (oS (T.get tm 0) fun a=>AC E 70 a)) fun p2=>
 M.bind (apartO (oS (some p2.1) fun a=>kNil a)) fun p3=>
 M.bind (apartO (oS (some p3.1) fun a=>kFld E 83 a 0)) fun p4=>
 M.bind (apartO (oS (some p4.1) fun a=>AC E 23 a)) fun p5=>
 M.bind (apartO (oS (T.get tm 0) fun a=>AC E 70 a)) fun p6=>
 M.bind (apartO (oS (some p6.1) fun a=>kNil a)) fun p7=>
 M.bind (apartO (oS (some p7.1) fun a=>kFld E 83 a 1)) fun p8=>
 M.bind (apartO (oS (some p8.1) fun a=>AC E 23 a)) fun p9=>
 M.bind (apartO (oS (seqO [(some p5.1),(some p9.1)]) fun l=>Ba E .append [23,23] l)) fun p10=>
 M.bind (apartO (oS (some p0.1) fun a=>kNil a)) fun p11=>
 M.bind (apartO (oS (some p11.1) fun a=>kFld E 83 a 0)) fun p12=>
 M.bind (apartO (oS (some p12.1) fun a=>oS (some p10.1) fun b=>BM E 23 a b)) fun p13=>
 M.bind (apartO (oS (some p1.1) fun a=>kNil a)) fun p14=>
 M.bind (apartO (oS (some p14.1) fun a=>kFld E 83 a 1)) fun p15=>
 M.pure (([p15.1,p14.1,p12.1,p11.1,p10.1,p9.1,p8.1,p7.1,p6.1,p5.1,p4.1,p3.1,p2.1,p1.1,p0.1],tm),[p15.2,p14.2,p13.2,p12.2,p11.2,p10.2,p9.2,p8.2,p7.2,p6.2,p5.2,p4.2,p3.2,p2.2,p1.2,p0.2])
theorem Qx_:DrawEq 37 16 Ur Lf [0,0,0,4,12,28,0,64,192,448,1020,2045,4093,8189,16383,32767,65535] Xq:=⟨by kernel_rfl,by kernel_rfl,fun _ _ _ _ _ _ _ _ _=>by kernel_rfl⟩
theorem AcR_ (E:Env)(call round:Ad)(x1 x2 x3 x4 x5 x6 x7 x8 x9 x10 x11 x12 x13 x14 x15:Value)(tm:T Value)(s:St):Br call round (BY E Ur 16 (hdC Lf)) [x15,x14,x13,x12,x11,x10,x9,x8,x7,x6,x5,x4,x3,x2,x1] tm s=(M.bind (oS (some x15) fun a=>oS (some (.slice none 0 0)) fun b=>BM E 23 a b) fun _=>M.pure tm) s:=by kernel_rfl
def DN:Nat:=A8 Tryz.f21
def VN:Code:=Tryz.f21.body.getD .skip
theorem Ju:envS.fn.get 21=some Tryz.f21:=by kernel_rfl
theorem Aad_ {a0 a1:Value}{n:Nat}{s:St}{Q:Value→St→Prop}(h: ∀tm,T.get tm 0=some a0→T.get tm 1=some a1→W (runF envS n ⟨21,31,DN,tm,[.code VN], .run, .normal,none⟩) (s.cxN cxN) fun p s1=>Q p.1 (s1.cxN s.cx)):W (Ay envS (runF envS n) 21 [a0,a1]) s Q:=
 W.call (by kernel_rfl) (by kernel_rfl) Ju (by kernel_rfl) rfl rfl (by simp) (h _ (by kernel_rfl) (by kernel_rfl))
theorem S9:Tryz.f21.results.toList=[.tmp 4, .tmp 5]:=by kernel_rfl
def Qf:List Item:=skim 64 [.code VN]
def MZ:List Item:=skim 64 Qf.tail
theorem YU_:skim 64 Qf.tail=MZ:=by kernel_rfl
def Ku:List Item:=skim 64 MZ.tail
theorem Agq_:skim 64 MZ.tail=Ku:=by kernel_rfl
def Ga:List Item:=skim 64 Ku.tail
theorem Ye:skim 64 Ku.tail=Ga:=by kernel_rfl
def Jo:List Item:=skim 64 (brT Ga)
theorem Qa_:skim 64 (brT Ga)=Jo:=by kernel_rfl
def LE:List Item:=skim 64 (brF Ga)
theorem IF_:skim 64 (brF Ga)=LE:=by kernel_rfl
def Pl:List Item:=skim 64 Jo.tail
theorem JH_:skim 64 Jo.tail=Pl:=by kernel_rfl
def KP:List Item:=skim 64 LE.tail
theorem TB_:skim 64 LE.tail=KP:=by kernel_rfl
def Hj:List Item:=skim 64 KP.tail
theorem Ek_:skim 64 KP.tail=Hj:=by kernel_rfl
def LB:List Item:=skim 64 (brT Hj)
theorem Hx_:skim 64 (brT Hj)=LB:=by kernel_rfl
def HY:List Item:=skim 64 (brF Hj)
theorem Lh_:skim 64 (brF Hj)=HY:=by kernel_rfl
def RN:List Item:=skim 64 LB.tail
theorem WL_:skim 64 LB.tail=RN:=by kernel_rfl
def R5:List Item:=skim 64 HY.tail
theorem HA_:skim 64 HY.tail=R5:=by kernel_rfl
def Al_ (E:Env)(call round:Ad)(tm:T Value):M (T Value):=
 mv (some (.slice none 0 0)) fun v4=>
 setF 4 v4 tm fun tm1=>
 mv (some (.int .i64 0)) fun v5=>
 setF 5 v5 tm1 fun tm2=>
 M.pure tm2
theorem Agx_:RegEq 21 31 DN Qf Al_:=⟨by kernel_rfl,fun _ _ _ _ _ _ _ _ _=>by kernel_rfl⟩
def Wf (E:Env)(call round:Ad)(tm:T Value):M (T Value):=
 mv (T.get tm 0) fun v8=>
 M.bind (M.on (some (.func (.func 32) #[] #[])) fun f=>M.on (seqO [(some v8)]) fun l=>AL call round f l) fun v9=>
 mv (some v9) fun v6=>
 setF 6 v6 tm fun tm1=>
 M.pure tm1
theorem Ip_:RegEq 21 31 DN MZ Wf:=⟨by kernel_rfl,fun _ _ _ _ _ _ _ _ _=>by kernel_rfl⟩
def SL (E:Env)(call round:Ad)(tm:T Value):M (T Value):=
 mv (T.get tm 6) fun v10=>
 M.bind (oS (some v10) fun a=>oS (some (.int .i64 0)) fun b=>Cl.get (aBin E .neq 29 (.tmp 10) (.const (.int .i64 0))) a b) fun v11=>
 setF 11 v11 tm fun tm1=>
 M.pure tm1
theorem Wr_:RegEq 21 31 DN Ku SL:=⟨by kernel_rfl,fun _ _ _ _ _ _ _ _ _=>by kernel_rfl⟩
theorem UP:A4 Ga=some 11:=by kernel_rfl
def CU_ (E:Env)(call round:Ad)(tm:T Value):M (T Value):=
 mv (T.get tm 6) fun v12=>
 mv (some (.slice none 0 0)) fun v4=>
 setF 4 v4 tm fun tm1=>
 mv (some v12) fun v5=>
 setF 5 v5 tm1 fun tm2=>
 M.pure tm2
theorem Jw_:RegEq 21 31 DN Jo CU_:=⟨by kernel_rfl,fun _ _ _ _ _ _ _ _ _=>by kernel_rfl⟩
def AC_ (E:Env)(call round:Ad)(tm:T Value):M (T Value):=
 mv (T.get tm 0) fun v13=>
 M.bind (oS (some v13) fun a=>kNil a) fun v14=>
 M.bind (oS (some v14) fun a=>kFld E 78 a 1) fun v15=>
 M.bind (oS (some v15) fun a=>AC E 71 a) fun v16=>
 mv (T.get tm 1) fun v17=>
 M.bind (oS (some v16) fun a=>oS (some v17) fun b=>Cy E 71 false a b) fun v18=>
 mv (some v18) fun v7=>
 setF 7 v7 tm fun tm1=>
 M.pure tm1
theorem WB_:RegEq 21 31 DN LE AC_:=⟨by kernel_rfl,fun _ _ _ _ _ _ _ _ _=>by kernel_rfl⟩
theorem OY_: ∃k,Pl= .code .ret::k:=⟨Pl.tail,by kernel_rfl⟩
def RX (E:Env)(call round:Ad)(tm:T Value):M (T Value):=
 mv (T.get tm 7) fun v19=>
 M.bind (oS (some v19) fun a=>oS (some (.pointer none)) fun b=>Cl.get (aBin E .eql 70 (.tmp 19) (.const (.pointer none))) a b) fun v20=>
 setF 20 v20 tm fun tm1=>
 M.pure tm1
theorem Yx_:RegEq 21 31 DN KP RX:=⟨by kernel_rfl,fun _ _ _ _ _ _ _ _ _=>by kernel_rfl⟩
theorem ZK:A4 Hj=some 20:=by kernel_rfl
def Gx_ (E:Env)(call round:Ad)(tm:T Value):M (T Value):=
 mv (some (.slice none 0 0)) fun v4=>
 setF 4 v4 tm fun tm1=>
 mv (some (.int .i64 6)) fun v5=>
 setF 5 v5 tm1 fun tm2=>
 M.pure tm2
theorem SI_:RegEq 21 31 DN LB Gx_:=⟨by kernel_rfl,fun _ _ _ _ _ _ _ _ _=>by kernel_rfl⟩
def ZN (E:Env)(call round:Ad)(tm:T Value):M ((Rho×T Value)×List OpLog):=
 M.bind (apartO (oS (T.get tm 7) fun a=>M.pure a)) fun p0=>
 M.bind (apartO (oS (some p0.1) fun a=>kNil a)) fun p1=>
 M.bind (apartO (oS (some p1.1) fun a=>kFld E 83 a 0)) fun p2=>
 M.bind (apartO (oS (some p2.1) fun a=>AC E 23 a)) fun p3=>
 M.bind (apartO (oS (T.get tm 7) fun a=>M.pure a)) fun p4=>
 M.bind (apartO (oS (some p4.1) fun a=>kNil a)) fun p5=>
 M.bind (apartO (oS (some p5.1) fun a=>kFld E 83 a 1)) fun p6=>
 M.bind (apartO (oS (some p6.1) fun a=>AC E 23 a)) fun p7=>
 M.bind (apartO (oS (seqP [(0,(some p3.1)),(1,(some p7.1))]) fun ps=>Cu E 114 2 ps)) fun p8=>
 M.bind (apartO (M.on (some (.func (.func 43) #[] #[])) fun f=>M.on (seqO [(some p8.1)]) fun l=>AL call round f l)) fun p9=>
 M.bind (apartO (oS (some p9.1) fun a=>M.pure a)) fun p10=>
 setT 4 p10.1 tm fun tm1=>
 M.pure (([p10.1,p9.1,p8.1,p7.1,p6.1,p5.1,p4.1,p3.1,p2.1,p1.1,p0.1],tm1),[p10.2,p9.2,p8.2,p7.2,p6.2,p5.2,p4.2,p3.2,p2.2,p1.2,p0.2])
theorem MK_:DrawEq 21 31 DN HY [0,1,3,7,0,16,48,112,255,511,1023,2047] ZN:=⟨by kernel_rfl,by kernel_rfl,fun _ _ _ _ _ _ _ _ _=>by kernel_rfl⟩
theorem Hs_ (E:Env)(call round:Ad)(x21 x22 x23 x24 x25 x26 x27 x28 x29 x30 x4:Value)(tm:T Value)(s:St):Br call round (BY E DN 31 (hdC HY)) [x4,x30,x29,x28,x27,x26,x25,x24,x23,x22,x21] tm s=(M.bind (oS (some (.int .i64 0)) fun a=>M.pure a) fun v5=>setT 5 v5 tm fun tm1=>M.pure tm1) s:=by kernel_rfl
theorem Hr_: ∃k,RN= .code .ret::k:=⟨RN.tail,by kernel_rfl⟩
theorem RV_: ∃k,R5= .code .ret::k:=⟨R5.tail,by kernel_rfl⟩
def Ih:Nat:=A8 Tryz.f18
def ZY:Code:=Tryz.f18.body.getD .skip
theorem EO_:envS.fn.get 18=some Tryz.f18:=by kernel_rfl
theorem KT_ {a0 a1:Value}{n:Nat}{s:St}{Q:Value→St→Prop}(h: ∀tm,T.get tm 0=some a0→T.get tm 1=some a1→W (runF envS n ⟨18,17,Ih,tm,[.code ZY], .run, .normal,none⟩) (s.cxN cxN) fun p s1=>Q p.1 (s1.cxN s.cx)):W (Ay envS (runF envS n) 18 [a0,a1]) s Q:=
 W.call (by kernel_rfl) (by kernel_rfl) EO_ (by kernel_rfl) rfl rfl (by simp) (h _ (by kernel_rfl) (by kernel_rfl))
theorem Xr_:Tryz.f18.results.toList=[.tmp 4]:=by kernel_rfl
def O0:List Item:=skim 64 [.code ZY]
def NM:List Item:=skim 64 O0.tail
theorem OX_:skim 64 O0.tail=NM:=by kernel_rfl
def LY:List Item:=skim 64 NM.tail
theorem PA_:skim 64 NM.tail=LY:=by kernel_rfl
def M4:List Item:=skim 64 (brF LY)
theorem Ke_:skim 64 (brF LY)=M4:=by kernel_rfl
def Og:List Item:=skim 64 M4.tail
theorem Kc_:skim 64 M4.tail=Og:=by kernel_rfl
def PL:List Item:=skim 64 Og.tail
theorem Mu_:skim 64 Og.tail=PL:=by kernel_rfl
def W4 (E:Env)(call round:Ad)(tm:T Value):M (T Value):=
 M.bind (oS (T.get tm 1) fun a=>kBox a) fun v3=>
 setF 3 v3 tm fun tm1=>
 mv (some (.slice none 0 0)) fun v4=>
 setF 4 v4 tm1 fun tm2=>
 M.pure tm2
theorem Zd_:RegEq 18 17 Ih O0 W4:=⟨by kernel_rfl,fun _ _ _ _ _ _ _ _ _=>by kernel_rfl⟩
def DN_ (E:Env)(call round:Ad)(tm:T Value):M (T Value):=
 mv (T.get tm 0) fun v6=>
 M.bind (M.on (some (.func (.func 46) #[] #[])) fun f=>M.on (seqO [(some v6)]) fun l=>AL call round f l) fun v7=>
 setF 7 v7 tm fun tm1=>
 M.pure tm1
theorem Rp_:RegEq 18 17 Ih NM DN_:=⟨by kernel_rfl,fun _ _ _ _ _ _ _ _ _=>by kernel_rfl⟩
theorem Ady_:A4 LY=some 7:=by kernel_rfl
def Yw (E:Env)(call round:Ad)(tm:T Value):M (T Value):=
 mv (T.get tm 0) fun v8=>
 M.bind (oS (some v8) fun a=>kNil a) fun v9=>
 M.bind (oS (some v9) fun a=>kFld E 78 a 1) fun v10=>
 M.bind (oS (some v10) fun a=>AC E 71 a) fun v11=>
 M.bind (M.on (some (.func (.func 48) #[] #[])) fun f=>M.on (seqO [(some v11)]) fun l=>AL call round f l) fun v12=>
 M.bind (M.on (some (.func (.func 47) #[] #[])) fun f=>M.on (seqO [(some v12)]) fun l=>AL call round f l) fun v13=>
 mv (some v13) fun v5=>
 setF 5 v5 tm fun tm1=>
 M.pure tm1
theorem Ik_:RegEq 18 17 Ih M4 Yw:=⟨by kernel_rfl,fun _ _ _ _ _ _ _ _ _=>by kernel_rfl⟩
def Vk (E:Env)(call round:Ad)(tm:T Value):M (T Value):=
 mv (T.get tm 5) fun v14=>
 M.bind (oS (seqO []) fun a=>oS (seqO [(T.get tm 3)]) fun b=>M.pure (.func (.func 50) a.toArray b.toArray)) fun v15=>
 M.bind (M.on (some (.func (.func 49) #[] #[])) fun f=>M.on (seqO [(some v14),(some v15)]) fun l=>AL call round f l) fun v16=>
 mv (some v16) fun v4=>
 setF 4 v4 tm fun tm1=>
 M.pure tm1
theorem Vb_:RegEq 18 17 Ih Og Vk:=⟨by kernel_rfl,fun _ _ _ _ _ _ _ _ _=>by kernel_rfl⟩
theorem Pv_: ∃k,PL= .code .ret::k:=⟨PL.tail,by kernel_rfl⟩
def RH:Nat:=A8 Tryz.f50
def GR_:Code:=Tryz.f50.body.getD .skip
theorem CK_:envS.fn.get 50=some Tryz.f50:=by kernel_rfl
theorem Vm_ {a0 a1:Value}{n:Nat}{s:St}{Q:Value→St→Prop}(h: ∀tm,T.get tm 0=some a0→T.get tm 1=some a1→W (runF envS n ⟨50,8,RH,tm,[.code GR_], .run, .normal,none⟩) (s.cxN cxN) fun p s1=>Q p.1 (s1.cxN s.cx)):W (Ay envS (runF envS n) 50 [a0,a1]) s Q:=
 W.call (by kernel_rfl) (by kernel_rfl) CK_ (by kernel_rfl) rfl rfl (by simp) (h _ (by kernel_rfl) (by kernel_rfl))
theorem AaR_:Tryz.f50.results.toList=[.tmp 3]:=by kernel_rfl
def RI:List Item:=skim 64 [.code GR_]
def Ka:List Item:=skim 64 RI.tail
theorem Abl_:skim 64 RI.tail=Ka:=by kernel_rfl
def Q4:List Item:=skim 64 Ka.tail
theorem AdT_:skim 64 Ka.tail=Q4:=by kernel_rfl
def V3 (E:Env)(call round:Ad)(tm:T Value):M (T Value):=
 mv (some (.bool false)) fun v3=>
 setF 3 v3 tm fun tm1=>
 M.pure tm1
theorem OH_:RegEq 50 8 RH RI V3:=⟨by kernel_rfl,fun _ _ _ _ _ _ _ _ _=>by kernel_rfl⟩
def Bp_ (E:Env)(call round:Ad)(tm:T Value):M (T Value):=
 mv (T.get tm 0) fun v4=>
 M.bind (oS (T.get tm 1) fun a=>AC E 9 a) fun v5=>
 M.bind (M.on (some (.func (.func 51) #[] #[])) fun f=>M.on (seqO [(some v4),(some v5)]) fun l=>AL call round f l) fun v6=>
 M.bind (oS (some v6) fun a=>kUn E.P .not a) fun v7=>
 mv (some v7) fun v3=>
 setF 3 v3 tm fun tm1=>
 M.pure tm1
theorem AdQ_:RegEq 50 8 RH Ka Bp_:=⟨by kernel_rfl,fun _ _ _ _ _ _ _ _ _=>by kernel_rfl⟩
theorem Wa_: ∃k,Q4= .code .ret::k:=⟨Q4.tail,by kernel_rfl⟩
def NB:Nat:=A8 Tryz.f20
def XQ:Code:=Tryz.f20.body.getD .skip
theorem GW_:envS.fn.get 20=some Tryz.f20:=by kernel_rfl
theorem Rl_ {a0 a1:Value}{n:Nat}{s:St}{Q:Value→St→Prop}(h: ∀tm,T.get tm 0=some a0→T.get tm 1=some a1→W (runF envS n ⟨20,26,NB,tm,[.code XQ], .run, .normal,none⟩) (s.cxN cxN) fun p s1=>Q p.1 (s1.cxN s.cx)):W (Ay envS (runF envS n) 20 [a0,a1]) s Q:=
 W.call (by kernel_rfl) (by kernel_rfl) GW_ (by kernel_rfl) rfl rfl (by simp) (h _ (by kernel_rfl) (by kernel_rfl))
theorem Agk_:Tryz.f20.results.toList=[.tmp 4]:=by kernel_rfl
def Rq:List Item:=skim 64 [.code XQ]
def JD:List Item:=skim 64 Rq.tail
theorem ZR_:skim 64 Rq.tail=JD:=by kernel_rfl
def Lb:List Item:=skim 64 JD.tail
theorem MQ_:skim 64 JD.tail=Lb:=by kernel_rfl
def LI:List Item:=skim 64 (brF Lb)
theorem HH_:skim 64 (brF Lb)=LI:=by kernel_rfl
def PI:List Item:=skim 64 LI.tail
theorem UK_:skim 64 LI.tail=PI:=by kernel_rfl
def Ha_ (E:Env)(call round:Ad)(tm:T Value):M (T Value):=
 mv (some (.int .i64 0)) fun v4=>
 setF 4 v4 tm fun tm1=>
 M.pure tm1
theorem YD_:RegEq 20 26 NB Rq Ha_:=⟨by kernel_rfl,fun _ _ _ _ _ _ _ _ _=>by kernel_rfl⟩
def Eo_ (E:Env)(call round:Ad)(tm:T Value):M (T Value):=
 mv (T.get tm 0) fun v5=>
 M.bind (M.on (some (.func (.func 46) #[] #[])) fun f=>M.on (seqO [(some v5)]) fun l=>AL call round f l) fun v6=>
 mv (some v6) fun v7=>
 M.bind (M.chk (isK v7) (M.if (isB v7 false) (oS (T.get tm 0) fun a=>M.pure a) (M.pure undef))) fun v8=>
 M.bind (M.chk (isK v7) (M.if (isB v7 false) (oS (some v8) fun a=>kNil a) (M.pure undef))) fun v9=>
 M.bind (M.chk (isK v7) (M.if (isB v7 false) (oS (some v9) fun a=>kFld E 78 a 1) (M.pure undef))) fun v10=>
 M.bind (M.chk (isK v7) (M.if (isB v7 false) (oS (some v10) fun a=>AC E 71 a) (M.pure undef))) fun v11=>
 M.bind (M.chk (isK v7) (M.if (isB v7 false) (oS (T.get tm 1) fun a=>M.pure a) (M.pure undef))) fun v12=>
 M.bind (M.chk (isK v7) (M.if (isB v7 false) (oS (some v11) fun a=>oS (some v12) fun b=>Cy E 71 false a b) (M.pure undef))) fun v13=>
 M.bind (M.chk (isK v7) (M.if (isB v7 false) (oS (some v13) fun a=>oS (some (.pointer none)) fun b=>Cl.get (aBin E .eql 70 (.tmp 13) (.const (.pointer none))) a b) (M.pure undef))) fun v14=>
 M.bind (M.on (some v7) fun a=>M.on (some (.bool true)) fun b=>M.on (some v14) fun c=>Bj a b c) fun v15=>
 setF 15 v15 tm fun tm1=>
 M.pure tm1
theorem Abn_:RegEq 20 26 NB JD Eo_:=⟨by kernel_rfl,fun _ _ _ _ _ _ _ _ _=>by kernel_rfl⟩
theorem LL_:A4 Lb=some 15:=by kernel_rfl
def Yd (E:Env)(call round:Ad)(tm:T Value):M (T Value):=
 mv (T.get tm 0) fun v16=>
 M.bind (oS (some v16) fun a=>kNil a) fun v17=>
 M.bind (oS (some v17) fun a=>kFld E 78 a 1) fun v18=>
 M.bind (oS (some v18) fun a=>AC E 71 a) fun v19=>
 mv (T.get tm 1) fun v20=>
 M.bind (oS (some v19) fun a=>oS (some v20) fun b=>Cy E 71 false a b) fun v21=>
 M.bind (oS (some v21) fun a=>kNil a) fun v22=>
 M.bind (oS (some v22) fun a=>kFld E 83 a 1) fun v23=>
 M.bind (oS (some v23) fun a=>AC E 23 a) fun v24=>
 M.bind (oS (seqO [(some v24)]) fun l=>Ba E .len [23] l) fun v25=>
 mv (some v25) fun v4=>
 setF 4 v4 tm fun tm1=>
 M.pure tm1
theorem Jb_:RegEq 20 26 NB LI Yd:=⟨by kernel_rfl,fun _ _ _ _ _ _ _ _ _=>by kernel_rfl⟩
theorem QV_: ∃k,PI= .code .ret::k:=⟨PI.tail,by kernel_rfl⟩
def Pt:Nat:=A8 Tryz.f28
def Xs:Code:=Tryz.f28.body.getD .skip
theorem CN_:envS.fn.get 28=some Tryz.f28:=by kernel_rfl
theorem AaN_ {a0:Value}{n:Nat}{s:St}{Q:Value→St→Prop}(h: ∀tm,T.get tm 0=some a0→W (runF envS n ⟨28,13,Pt,tm,[.code Xs], .run, .normal,none⟩) (s.cxN cxN) fun p s1=>Q p.1 (s1.cxN s.cx)):W (Ay envS (runF envS n) 28 [a0]) s Q:=
 W.call (by kernel_rfl) (by kernel_rfl) CN_ (by kernel_rfl) rfl rfl (by simp) (h _ (by kernel_rfl))
theorem VA_:Tryz.f28.results.toList=[.tmp 2]:=by kernel_rfl
def Tl:List Item:=skim 64 [.code Xs]
def JS:List Item:=skim 64 Tl.tail
theorem Hu_:skim 64 Tl.tail=JS:=by kernel_rfl
def Uc:List Item:=skim 64 JS.tail
theorem Wl_:skim 64 JS.tail=Uc:=by kernel_rfl
def BL_ (E:Env)(call round:Ad)(tm:T Value):M (T Value):=
 mv (some (.bool false)) fun v2=>
 setF 2 v2 tm fun tm1=>
 M.pure tm1
theorem Tz_:RegEq 28 13 Pt Tl BL_:=⟨by kernel_rfl,fun _ _ _ _ _ _ _ _ _=>by kernel_rfl⟩
def Yg (E:Env)(call round:Ad)(tm:T Value):M (T Value):=
 mv (T.get tm 0) fun v3=>
 M.bind (M.on (some (.func (.func 46) #[] #[])) fun f=>M.on (seqO [(some v3)]) fun l=>AL call round f l) fun v4=>
 M.bind (oS (some v4) fun a=>kUn E.P .not a) fun v5=>
 mv (some v5) fun v6=>
 M.bind (M.chk (isK v6) (M.if (isB v6 true) (oS (T.get tm 0) fun a=>M.pure a) (M.pure undef))) fun v7=>
 M.bind (M.chk (isK v6) (M.if (isB v6 true) (oS (some v7) fun a=>kNil a) (M.pure undef))) fun v8=>
 M.bind (M.chk (isK v6) (M.if (isB v6 true) (oS (some v8) fun a=>kFld E 78 a 6) (M.pure undef))) fun v9=>
 M.bind (M.chk (isK v6) (M.if (isB v6 true) (oS (some v9) fun a=>AC E 4 a) (M.pure undef))) fun v10=>
 M.bind (M.chk (isK v6) (M.if (isB v6 true) (oS (some v10) fun a=>kUn E.P .not a) (M.pure undef))) fun v11=>
 M.bind (M.on (some v6) fun a=>M.on (some v11) fun b=>M.on (some (.bool false)) fun c=>Bj a b c) fun v12=>
 mv (some v12) fun v2=>
 setF 2 v2 tm fun tm1=>
 M.pure tm1
theorem Xo_:RegEq 28 13 Pt JS Yg:=⟨by kernel_rfl,fun _ _ _ _ _ _ _ _ _=>by kernel_rfl⟩
theorem Ty_: ∃k,Uc= .code .ret::k:=⟨Uc.tail,by kernel_rfl⟩
end Go.Proofs.YtndednnianphoaaGreatDoor.Am
end
