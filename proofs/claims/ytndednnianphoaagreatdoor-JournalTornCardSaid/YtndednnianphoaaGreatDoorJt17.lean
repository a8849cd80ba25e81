import Derived.Test.YtndednnianphoaaGreatDoorJt16
import Derived.Test.YtndednnianphoaaGreatDoorJt09
import Derived.KernelRfl
noncomputable section
namespace Go.Proofs.YtndednnianphoaaGreatDoor.Am
open Go.RowKit
def GC:Nat:=A8 Tryz.f23
def Up:Code:=Tryz.f23.body.getD .skip
theorem VQ:envS.fn.get 23=some Tryz.f23:=by kernel_rfl
theorem AbE_ {a0:Value}{n:Nat}{s:St}{Q:Value→St→Prop}(h: ∀tm,T.get tm 0=some a0→W (runF envS n ⟨23,16,GC,tm,[.code Up], .run, .normal,none⟩) (s.cxN cxN) fun p s1=>Q p.1 (s1.cxN s.cx)):W (Ay envS (runF envS n) 23 [a0]) s Q:=
 W.call (by kernel_rfl) (by kernel_rfl) VQ (by kernel_rfl) rfl rfl (by simp) (h _ (by kernel_rfl))
theorem Ox_:Tryz.f23.results.toList=[.tmp 2, .tmp 3]:=by kernel_rfl
def Sw:List Item:=skim 64 [.code Up]
def Lz:List Item:=skim 64 Sw.tail
theorem Ok_:skim 64 Sw.tail=Lz:=by kernel_rfl
def Oh:List Item:=skim 64 Lz.tail
theorem AdN_:skim 64 Lz.tail=Oh:=by kernel_rfl
def KA:List Item:=skim 64 Oh.tail
theorem Nu_:skim 64 Oh.tail=KA:=by kernel_rfl
def Ln:List Item:=skim 64 KA.tail
theorem TR_:skim 64 KA.tail=Ln:=by kernel_rfl
def NS:List Item:=skim 64 (brF Ln)
theorem Pm_:skim 64 (brF Ln)=NS:=by kernel_rfl
def Tl:List Item:=skim 64 NS.tail
theorem SW_:skim 64 NS.tail=Tl:=by kernel_rfl
def Uu (E:Env)(call round:Ad)(tm:T Value):M (T Value):=
 mv (some (.pointer none)) fun v2=>
 setF 2 v2 tm fun tm1=>
 mv (some (.int .i64 0)) fun v3=>
 setF 3 v3 tm1 fun tm2=>
 M.pure tm2
theorem KH_:RegEq 23 16 GC Sw Uu:=⟨by kernel_rfl,fun _ _ _ _ _ _ _ _ _=>by kernel_rfl⟩
def AZ_ (E:Env)(call round:Ad)(tm:T Value):M (T Value):=
 M.bind (Dr) fun v6=>
 M.bind (oS (seqP [(0,(some (.bool true))),(1,(some v6))]) fun ps=>Co E 78 ps) fun v7=>
 M.bind (oS (some v7) fun a=>kBox a) fun v8=>
 mv (some v8) fun v4=>
 setF 4 v4 tm fun tm1=>
 M.pure tm1
theorem SN_:RegEq 23 16 GC Lz AZ_:=⟨by kernel_rfl,fun _ _ _ _ _ _ _ _ _=>by kernel_rfl⟩
def ZE (E:Env)(call round:Ad)(tm:T Value):M (T Value):=
 mv (T.get tm 4) fun v9=>
 mv (T.get tm 0) fun v10=>
 M.bind (M.on (some (.func (.func 55) #[] #[])) fun f=>M.on (seqO [(some v9),(some v10)]) fun l=>AL call round f l) fun v11=>
 mv (some v11) fun v5=>
 setF 5 v5 tm fun tm1=>
 M.pure tm1
theorem OX_:RegEq 23 16 GC Oh ZE:=⟨by kernel_rfl,fun _ _ _ _ _ _ _ _ _=>by kernel_rfl⟩
def Xc (E:Env)(call round:Ad)(tm:T Value):M (T Value):=
 mv (T.get tm 5) fun v12=>
 M.bind (oS (some v12) fun a=>oS (some (.int .i64 0)) fun b=>Cl.get (aBin E .neq 29 (.tmp 12) (.const (.int .i64 0))) a b) fun v13=>
 setF 13 v13 tm fun tm1=>
 M.pure tm1
theorem AaZ_:RegEq 23 16 GC KA Xc:=⟨by kernel_rfl,fun _ _ _ _ _ _ _ _ _=>by kernel_rfl⟩
theorem On_:A6 Ln=some 13:=by kernel_rfl
def Er_ (E:Env)(call round:Ad)(tm:T Value):M (T Value):=
 mv (T.get tm 4) fun v15=>
 mv (some v15) fun v2=>
 setF 2 v2 tm fun tm1=>
 mv (some (.int .i64 0)) fun v3=>
 setF 3 v3 tm1 fun tm2=>
 M.pure tm2
theorem Qh_:RegEq 23 16 GC NS Er_:=⟨by kernel_rfl,fun _ _ _ _ _ _ _ _ _=>by kernel_rfl⟩
theorem Abx_: ∃k,Tl= .code .ret::k:=⟨Tl.tail,by kernel_rfl⟩
def G0:Nat:=A8 Tryz.f55
def YJ:Code:=Tryz.f55.body.getD .skip
theorem Ue:envS.fn.get 55=some Tryz.f55:=by kernel_rfl
theorem AdO_ {a0 a1:Value}{n:Nat}{s:St}{Q:Value→St→Prop}(h: ∀tm,T.get tm 0=some a0→T.get tm 1=some a1→W (runF envS n ⟨55,19,G0,tm,[.code YJ], .run, .normal,none⟩) (s.cxN cxN) fun p s1=>Q p.1 (s1.cxN s.cx)):W (Ay envS (runF envS n) 55 [a0,a1]) s Q:=
 W.call (by kernel_rfl) (by kernel_rfl) Ue (by kernel_rfl) rfl rfl (by simp) (h _ (by kernel_rfl) (by kernel_rfl))
theorem LV_:Tryz.f55.results.toList=[.tmp 4]:=by kernel_rfl
def PY:List Item:=skim 64 [.code YJ]
def KW:List Item:=skim 64 PY.tail
theorem AaB_:skim 64 PY.tail=KW:=by kernel_rfl
def Ju:List Item:=skim 64 KW.tail
theorem AeQ_:skim 64 KW.tail=Ju:=by kernel_rfl
def N0:List Item:=skim 64 (brF Ju)
theorem MW_:skim 64 (brF Ju)=N0:=by kernel_rfl
def ND:List Item:=skim 64 N0.tail
theorem AbB_:skim 64 N0.tail=ND:=by kernel_rfl
def JU:List Item:=skim 64 (brF ND)
theorem XK_:skim 64 (brF ND)=JU:=by kernel_rfl
def Jq:List Item:=skim 64 JU.tail
theorem Yd_:skim 64 JU.tail=Jq:=by kernel_rfl
def PH:List Item:=skim 64 Jq.tail
theorem XL_:skim 64 Jq.tail=PH:=by kernel_rfl
def Xd (E:Env)(call round:Ad)(tm:T Value):M (T Value):=
 mv (some (.int .i64 0)) fun v4=>
 setF 4 v4 tm fun tm1=>
 M.pure tm1
theorem Ro_:RegEq 55 19 G0 PY Xd:=⟨by kernel_rfl,fun _ _ _ _ _ _ _ _ _=>by kernel_rfl⟩
def Vp (E:Env)(call round:Ad)(tm:T Value):M (T Value):=
 mv (T.get tm 0) fun v6=>
 M.bind (M.on (some (.func (.func 46) #[] #[])) fun f=>M.on (seqO [(some v6)]) fun l=>AL call round f l) fun v7=>
 mv (some v7) fun v5=>
 setF 5 v5 tm fun tm1=>
 M.pure tm1
theorem AcN_:RegEq 55 19 G0 KW Vp:=⟨by kernel_rfl,fun _ _ _ _ _ _ _ _ _=>by kernel_rfl⟩
theorem Vr_:A6 Ju=some 5:=by kernel_rfl
def At_ (E:Env)(call round:Ad)(tm:T Value):M (T Value):=
 mv (T.get tm 1) fun v9=>
 M.bind (oS (some v9) fun a=>oS (some (.int .i64 0)) fun b=>Cl.get (aBin E .lss 3 (.tmp 9) (.const (.int .i64 0))) a b) fun v10=>
 mv (some v10) fun v11=>
 M.bind (M.chk (isK v11) (M.if (isB v11 false) (oS (T.get tm 1) fun a=>M.pure a) (M.pure undef))) fun v12=>
 M.bind (M.chk (isK v11) (M.if (isB v11 false) (oS (some v12) fun a=>oS (some (.int .i64 16777216)) fun b=>Cl.get (aBin E .gtr 3 (.tmp 12) (.const (.int .i64 16777216))) a b) (M.pure undef))) fun v13=>
 M.bind (M.on (some v11) fun a=>M.on (some (.bool true)) fun b=>M.on (some v13) fun c=>Bj a b c) fun v14=>
 mv (some v14) fun v8=>
 setF 8 v8 tm fun tm1=>
 M.pure tm1
theorem Yw_:RegEq 55 19 G0 N0 At_:=⟨by kernel_rfl,fun _ _ _ _ _ _ _ _ _=>by kernel_rfl⟩
theorem ZH_:A6 ND=some 8:=by kernel_rfl
def Zj (E:Env)(call round:Ad)(tm:T Value):M (T Value):=
 mv (T.get tm 0) fun v15=>
 mv (T.get tm 1) fun v16=>
 M.bind (oS (some v15) fun a=>kNil a) fun v17=>
 M.bind (oS (some v17) fun a=>kFld E 78 a 2) fun v18=>
 M.bind (oS (some v18) fun a=>oS (some v16) fun b=>BK E 3 a b) fun _=>
 M.pure tm
theorem Xr_:RegEq 55 19 G0 JU Zj:=⟨by kernel_rfl,fun _ _ _ _ _ _ _ _ _=>by kernel_rfl⟩
def Ud (E:Env)(call round:Ad)(tm:T Value):M (T Value):=
 mv (some (.int .i64 0)) fun v4=>
 setF 4 v4 tm fun tm1=>
 M.pure tm1
theorem AcS_:RegEq 55 19 G0 Jq Ud:=⟨by kernel_rfl,fun _ _ _ _ _ _ _ _ _=>by kernel_rfl⟩
theorem WO_: ∃k,PH= .code .ret::k:=⟨PH.tail,by kernel_rfl⟩
def Qz:Nat:=A8 Tryz.f46
def WG:Code:=Tryz.f46.body.getD .skip
theorem BO_:envS.fn.get 46=some Tryz.f46:=by kernel_rfl
theorem Zc_ {a0:Value}{n:Nat}{s:St}{Q:Value→St→Prop}(h: ∀tm,T.get tm 0=some a0→W (runF envS n ⟨46,12,Qz,tm,[.code WG], .run, .normal,none⟩) (s.cxN cxN) fun p s1=>Q p.1 (s1.cxN s.cx)):W (Ay envS (runF envS n) 46 [a0]) s Q:=
 W.call (by kernel_rfl) (by kernel_rfl) BO_ (by kernel_rfl) rfl rfl (by simp) (h _ (by kernel_rfl))
theorem XZ_:Tryz.f46.results.toList=[.tmp 2]:=by kernel_rfl
def SN:List Item:=skim 64 [.code WG]
def Nn:List Item:=skim 64 SN.tail
theorem Ads_:skim 64 SN.tail=Nn:=by kernel_rfl
def QN:List Item:=skim 64 Nn.tail
theorem OF_:skim 64 Nn.tail=QN:=by kernel_rfl
def Df_ (E:Env)(call round:Ad)(tm:T Value):M (T Value):=
 mv (some (.bool false)) fun v2=>
 setF 2 v2 tm fun tm1=>
 M.pure tm1
theorem TI_:RegEq 46 12 Qz SN Df_:=⟨by kernel_rfl,fun _ _ _ _ _ _ _ _ _=>by kernel_rfl⟩
def Cd_ (E:Env)(call round:Ad)(tm:T Value):M (T Value):=
 mv (T.get tm 0) fun v3=>
 M.bind (oS (some v3) fun a=>oS (some (.pointer none)) fun b=>Cl.get (aBin E .eql 25 (.tmp 3) (.const (.pointer none))) a b) fun v4=>
 mv (some v4) fun v5=>
 M.bind (M.chk (isK v5) (M.if (isB v5 false) (oS (T.get tm 0) fun a=>M.pure a) (M.pure undef))) fun v6=>
 M.bind (M.chk (isK v5) (M.if (isB v5 false) (oS (some v6) fun a=>kNil a) (M.pure undef))) fun v7=>
 M.bind (M.chk (isK v5) (M.if (isB v5 false) (oS (some v7) fun a=>kFld E 78 a 0) (M.pure undef))) fun v8=>
 M.bind (M.chk (isK v5) (M.if (isB v5 false) (oS (some v8) fun a=>AE E 4 a) (M.pure undef))) fun v9=>
 M.bind (M.chk (isK v5) (M.if (isB v5 false) (oS (some v9) fun a=>kUn E.P .not a) (M.pure undef))) fun v10=>
 M.bind (M.on (some v5) fun a=>M.on (some (.bool true)) fun b=>M.on (some v10) fun c=>Bj a b c) fun v11=>
 mv (some v11) fun v2=>
 setF 2 v2 tm fun tm1=>
 M.pure tm1
theorem Og_:RegEq 46 12 Qz Nn Cd_:=⟨by kernel_rfl,fun _ _ _ _ _ _ _ _ _=>by kernel_rfl⟩
theorem Adc_: ∃k,QN= .code .ret::k:=⟨QN.tail,by kernel_rfl⟩
def GV:Nat:=A8 Tryz.f32
def ER_:Code:=Tryz.f32.body.getD .skip
theorem Qt:envS.fn.get 32=some Tryz.f32:=by kernel_rfl
theorem LK_ {a0:Value}{n:Nat}{s:St}{Q:Value→St→Prop}(h: ∀tm,T.get tm 0=some a0→W (runF envS n ⟨32,11,GV,tm,[.code ER_], .run, .normal,none⟩) (s.cxN cxN) fun p s1=>Q p.1 (s1.cxN s.cx)):W (Ay envS (runF envS n) 32 [a0]) s Q:=
 W.call (by kernel_rfl) (by kernel_rfl) Qt (by kernel_rfl) rfl rfl (by simp) (h _ (by kernel_rfl))
theorem UZ:Tryz.f32.results.toList=[.tmp 2]:=by kernel_rfl
def Qr:List Item:=skim 64 [.code ER_]
def Oa:List Item:=skim 64 Qr.tail
theorem Ada_:skim 64 Qr.tail=Oa:=by kernel_rfl
def Iw:List Item:=skim 64 Oa.tail
theorem XN_:skim 64 Oa.tail=Iw:=by kernel_rfl
def Pf_:List Item:=skim 64 (brT Iw)
def JH:List Item:=skim 64 (brF Iw)
theorem QL_:skim 64 (brF Iw)=JH:=by kernel_rfl
def TW:List Item:=skim 64 Pf_.tail
def GK:List Item:=skim 64 JH.tail
theorem FR_:skim 64 JH.tail=GK:=by kernel_rfl
def TC:List Item:=skim 64 (brT GK)
theorem Ya_:skim 64 (brT GK)=TC:=by kernel_rfl
def MX:List Item:=skim 64 (brF GK)
theorem AcZ_:skim 64 (brF GK)=MX:=by kernel_rfl
theorem IJ_:skim 64 TC.tail=TW:=by kernel_rfl
def O4:List Item:=skim 64 MX.tail
theorem Lf_:skim 64 MX.tail=O4:=by kernel_rfl
def Yd (E:Env)(call round:Ad)(tm:T Value):M (T Value):=
 mv (some (.int .i64 0)) fun v2=>
 setF 2 v2 tm fun tm1=>
 M.pure tm1
theorem YH_:RegEq 32 11 GV Qr Yd:=⟨by kernel_rfl,fun _ _ _ _ _ _ _ _ _=>by kernel_rfl⟩
def Vc (E:Env)(call round:Ad)(tm:T Value):M (T Value):=
 mv (T.get tm 0) fun v4=>
 M.bind (M.on (some (.func (.func 46) #[] #[])) fun f=>M.on (seqO [(some v4)]) fun l=>AL call round f l) fun v5=>
 mv (some v5) fun v3=>
 setF 3 v3 tm fun tm1=>
 M.pure tm1
theorem Aaj_:RegEq 32 11 GV Oa Vc:=⟨by kernel_rfl,fun _ _ _ _ _ _ _ _ _=>by kernel_rfl⟩
theorem Ty_:A6 Iw=some 3:=by kernel_rfl
def Vy (E:Env)(call round:Ad)(tm:T Value):M (T Value):=
 mv (T.get tm 0) fun v7=>
 M.bind (oS (some v7) fun a=>kNil a) fun v8=>
 M.bind (oS (some v8) fun a=>kFld E 78 a 6) fun v9=>
 M.bind (oS (some v9) fun a=>AE E 4 a) fun v10=>
 mv (some v10) fun v6=>
 setF 6 v6 tm fun tm1=>
 M.pure tm1
theorem Sn_:RegEq 32 11 GV JH Vy:=⟨by kernel_rfl,fun _ _ _ _ _ _ _ _ _=>by kernel_rfl⟩
theorem GV_: ∃k,TW= .code .ret::k:=⟨TW.tail,by kernel_rfl⟩
theorem El_:A6 GK=some 6:=by kernel_rfl
def Ba_ (E:Env)(call round:Ad)(tm:T Value):M (T Value):=
 mv (some (.int .i64 10)) fun v2=>
 setF 2 v2 tm fun tm1=>
 M.pure tm1
theorem Tr_:RegEq 32 11 GV TC Ba_:=⟨by kernel_rfl,fun _ _ _ _ _ _ _ _ _=>by kernel_rfl⟩
def Dg_ (E:Env)(call round:Ad)(tm:T Value):M (T Value):=
 mv (some (.int .i64 0)) fun v2=>
 setF 2 v2 tm fun tm1=>
 M.pure tm1
theorem Afh_:RegEq 32 11 GV MX Dg_:=⟨by kernel_rfl,fun _ _ _ _ _ _ _ _ _=>by kernel_rfl⟩
theorem GE_: ∃k,O4= .code .ret::k:=⟨O4.tail,by kernel_rfl⟩
def C7:Nat:=A8 Tryz.f35
abbrev NH_:Nat:=36
def BY_:Code:=Tryz.f35.body.getD .skip
theorem OI:envS.fn.get 35=some Tryz.f35:=by kernel_rfl
theorem Lt_ {a0 a1:Value}{n:Nat}{s:St}{Q:Value→St→Prop}(h: ∀tm,T.get tm 0=some a0→T.get tm 1=some a1→W (runF envS n ⟨35,36,C7,tm,[.code BY_], .run, .normal,none⟩) (s.cxN cxN) fun p s1=>Q p.1 (s1.cxN s.cx)):W (Ay envS (runF envS n) 35 [a0,a1]) s Q:=
 W.call (by kernel_rfl) (by kernel_rfl) OI (by kernel_rfl) rfl rfl (by simp) (h _ (by kernel_rfl) (by kernel_rfl))
theorem ZK:Tryz.f35.results.toList=[.tmp 4]:=by kernel_rfl
def OT:List Item:=skim 64 [.code BY_]
def M4:List Item:=skim 64 OT.tail
theorem Ado_:skim 64 OT.tail=M4:=by kernel_rfl
def GD:List Item:=skim 64 M4.tail
theorem TO:skim 64 M4.tail=GD:=by kernel_rfl
def Ni:List Item:=skim 64 (brT GD)
theorem AbI_:skim 64 (brT GD)=Ni:=by kernel_rfl
def LW:List Item:=skim 64 (brF GD)
theorem FE_:skim 64 (brF GD)=LW:=by kernel_rfl
def K2:List Item:=skim 64 Ni.tail
theorem IO_:skim 64 Ni.tail=K2:=by kernel_rfl
def GW:List Item:=skim 64 LW.tail
theorem Ys:skim 64 LW.tail=GW:=by kernel_rfl
def SF:List Item:=skim 64 K2.tail
theorem RQ_:skim 64 K2.tail=SF:=by kernel_rfl
def QW:List Item:=skim 64 (brT GW)
theorem Aez_:skim 64 (brT GW)=QW:=by kernel_rfl
def Gv:List Item:=skim 64 (brF GW)
theorem Vt_:skim 64 (brF GW)=Gv:=by kernel_rfl
theorem TZ_:skim 64 QW.tail=Gv:=by kernel_rfl
def M2:List Item:=skim 64 Gv.tail
theorem JH_:skim 64 Gv.tail=M2:=by kernel_rfl
def MO:List Item:=skim 64 M2.tail
theorem Nl_:skim 64 M2.tail=MO:=by kernel_rfl
def Tx:List Item:=skim 64 MO.tail
theorem To_:skim 64 MO.tail=Tx:=by kernel_rfl
def Wm (E:Env)(call round:Ad)(tm:T Value):M (T Value):=
 mv (some (.int .i64 0)) fun v4=>
 setF 4 v4 tm fun tm1=>
 M.pure tm1
theorem XV_:RegEq 35 36 C7 OT Wm:=⟨by kernel_rfl,fun _ _ _ _ _ _ _ _ _=>by kernel_rfl⟩
def FW_ (E:Env)(call round:Ad)(tm:T Value):M (T Value):=
 mv (T.get tm 0) fun v5=>
 M.bind (oS (some v5) fun a=>kNil a) fun v6=>
 M.bind (oS (some v6) fun a=>kFld E 78 a 4) fun v7=>
 M.bind (oS (some v7) fun a=>AE E 4 a) fun v8=>
 mv (some v8) fun v9=>
 M.bind (M.chk (isK v9) (M.if (isB v9 true) (oS (T.get tm 0) fun a=>M.pure a) (M.pure undef))) fun v10=>
 M.bind (M.chk (isK v9) (M.if (isB v9 true) (oS (some v10) fun a=>kNil a) (M.pure undef))) fun v11=>
 M.bind (M.chk (isK v9) (M.if (isB v9 true) (oS (some v11) fun a=>kFld E 78 a 5) (M.pure undef))) fun v12=>
 M.bind (M.chk (isK v9) (M.if (isB v9 true) (oS (some v12) fun a=>AE E 3 a) (M.pure undef))) fun v13=>
 M.bind (M.chk (isK v9) (M.if (isB v9 true) (oS (some v13) fun a=>oS (some (.int .i64 0)) fun b=>Cl.get (aBin E .eql 3 (.tmp 13) (.const (.int .i64 0))) a b) (M.pure undef))) fun v14=>
 M.bind (M.on (some v9) fun a=>M.on (some v14) fun b=>M.on (some (.bool false)) fun c=>Bj a b c) fun v15=>
 setF 15 v15 tm fun tm1=>
 M.pure tm1
theorem Rb_:RegEq 35 36 C7 M4 FW_:=⟨by kernel_rfl,fun _ _ _ _ _ _ _ _ _=>by kernel_rfl⟩
theorem R6:A6 GD=some 15:=by kernel_rfl
def V9 (E:Env)(call round:Ad)(tm:T Value):M (T Value):=
 mv (T.get tm 0) fun v16=>
 M.bind (oS (some v16) fun a=>kNil a) fun v17=>
 M.bind (oS (some v17) fun a=>kFld E 78 a 6) fun v18=>
 M.bind (oS (some v18) fun a=>oS (some (.bool true)) fun b=>BK E 4 a b) fun _=>
 M.pure tm
theorem AdW_:RegEq 35 36 C7 Ni V9:=⟨by kernel_rfl,fun _ _ _ _ _ _ _ _ _=>by kernel_rfl⟩
def Pn (E:Env)(call round:Ad)(tm:T Value):M (T Value):=
 mv (T.get tm 0) fun v19=>
 M.bind (oS (some v19) fun a=>kNil a) fun v20=>
 M.bind (oS (some v20) fun a=>kFld E 78 a 4) fun v21=>
 M.bind (oS (some v21) fun a=>AE E 4 a) fun v22=>
 setF 22 v22 tm fun tm1=>
 M.pure tm1
theorem Zy:RegEq 35 36 C7 LW Pn:=⟨by kernel_rfl,fun _ _ _ _ _ _ _ _ _=>by kernel_rfl⟩
def CZ_ (E:Env)(call round:Ad)(tm:T Value):M (T Value):=
 mv (some (.int .i64 10)) fun v4=>
 setF 4 v4 tm fun tm1=>
 M.pure tm1
theorem Ks_:RegEq 35 36 C7 K2 CZ_:=⟨by kernel_rfl,fun _ _ _ _ _ _ _ _ _=>by kernel_rfl⟩
theorem Yg:A6 GW=some 22:=by kernel_rfl
theorem Acu_: ∃k,SF= .code .ret::k:=⟨SF.tail,by kernel_rfl⟩
def Bj_ (E:Env)(call round:Ad)(tm:T Value):M (T Value):=
 mv (T.get tm 0) fun v23=>
 M.bind (oS (some v23) fun a=>kNil a) fun v24=>
 M.bind (oS (some v24) fun a=>kFld E 78 a 5) fun v25=>
 M.bind (oS (some v25) fun a=>AE E 3 a) fun v26=>
 M.bind (oS (some v26) fun a=>oS (some (.int .i64 1)) fun b=>Cl.get (aBin E .sub 3 (.tmp 26) (.const (.int .i64 1))) a b) fun v27=>
 M.bind (oS (some v23) fun a=>kNil a) fun v28=>
 M.bind (oS (some v28) fun a=>kFld E 78 a 5) fun v29=>
 M.bind (oS (some v29) fun a=>oS (some v27) fun b=>BK E 3 a b) fun _=>
 M.pure tm
theorem Xs_:RegEq 35 36 C7 QW Bj_:=⟨by kernel_rfl,fun _ _ _ _ _ _ _ _ _=>by kernel_rfl⟩
def AO_ (E:Env)(call round:Ad)(tm:T Value):M (T Value):=
 mv (T.get tm 0) fun v30=>
 M.bind (oS (some v30) fun a=>kNil a) fun v31=>
 M.bind (oS (some v31) fun a=>kFld E 78 a 3) fun v32=>
 M.bind (M.on (some (.func (.func 59) #[] #[])) fun f=>M.on (seqO [(some v32),(some (.int .i64 1))]) fun l=>AL call round f l) fun v33=>
 M.pure tm
theorem WS_:RegEq 35 36 C7 Gv AO_:=⟨by kernel_rfl,fun _ _ _ _ _ _ _ _ _=>by kernel_rfl⟩
def CL_ (E:Env)(call round:Ad)(tm:T Value):M (T Value):=
 mv (T.get tm 1) fun v34=>
 M.bind (M.on (some v34) fun f=>M.on (seqO []) fun l=>AL call round f l) fun v35=>
 M.pure tm
theorem QA_:RegEq 35 36 C7 M2 CL_:=⟨by kernel_rfl,fun _ _ _ _ _ _ _ _ _=>by kernel_rfl⟩
def WP (E:Env)(call round:Ad)(tm:T Value):M (T Value):=
 mv (some (.int .i64 0)) fun v4=>
 setF 4 v4 tm fun tm1=>
 M.pure tm1
theorem Wt_:RegEq 35 36 C7 MO WP:=⟨by kernel_rfl,fun _ _ _ _ _ _ _ _ _=>by kernel_rfl⟩
theorem TU_: ∃k,Tx= .code .ret::k:=⟨Tx.tail,by kernel_rfl⟩
def Cy:Nat:=A8 Tryz.f11
abbrev AbA_:Nat:=48
def Ck_:Code:=Tryz.f11.body.getD .skip
theorem IB:envS.fn.get 11=some Tryz.f11:=by kernel_rfl
theorem Mn_ {a0 a1 a2:Value}{n:Nat}{s:St}{Q:Value→St→Prop}(h: ∀tm,T.get tm 0=some a0→T.get tm 1=some a1→T.get tm 2=some a2→W (runF envS n ⟨11,48,Cy,tm,[.code Ck_], .run, .normal,none⟩) (s.cxN cxN) fun p s1=>Q p.1 (s1.cxN s.cx)):W (Ay envS (runF envS n) 11 [a0,a1,a2]) s Q:=
 W.call (by kernel_rfl) (by kernel_rfl) IB (by kernel_rfl) rfl rfl (by simp) (h _ (by kernel_rfl) (by kernel_rfl) (by kernel_rfl))
theorem Ki:Tryz.f11.results.toList=[.tmp 6]:=by kernel_rfl
def Pc:List Item:=skim 64 [.code Ck_]
def JV:List Item:=skim 64 Pc.tail
theorem XC_:skim 64 Pc.tail=JV:=by kernel_rfl
def La:List Item:=skim 64 JV.tail
theorem MO_:skim 64 JV.tail=La:=by kernel_rfl
def FK:List Item:=skim 64 La.tail
theorem V0:skim 64 La.tail=FK:=by kernel_rfl
def LC:List Item:=skim 64 (brT FK)
theorem YZ_:skim 64 (brT FK)=LC:=by kernel_rfl
def H0:List Item:=skim 64 (brF FK)
theorem XX_:skim 64 (brF FK)=H0:=by kernel_rfl
def Ra:List Item:=skim 64 LC.tail
theorem JZ_:skim 64 LC.tail=Ra:=by kernel_rfl
def Kd:List Item:=skim 64 H0.tail
theorem YV_:skim 64 H0.tail=Kd:=by kernel_rfl
def ID:List Item:=skim 64 Kd.tail
theorem Mh_:skim 64 Kd.tail=ID:=by kernel_rfl
def AeD_:List Item:=skim 64 (brT ID)
def K6:List Item:=skim 64 (brF ID)
theorem Ux_:skim 64 (brF ID)=K6:=by kernel_rfl
def OD:List Item:=skim 64 AeD_.tail
def Jc:List Item:=skim 64 K6.tail
theorem Ug:skim 64 K6.tail=Jc:=by kernel_rfl
def Hi:List Item:=skim 64 (brT Jc)
def H4:List Item:=skim 64 (brF Jc)
theorem Ya:skim 64 (brF Jc)=H4:=by kernel_rfl
def Td:List Item:=skim 64 (brT Hi)
theorem Wv_:skim 64 (brT Hi)=Td:=by kernel_rfl
def KE:List Item:=skim 64 (brF Hi)
theorem YX_:skim 64 (brF Hi)=KE:=by kernel_rfl
theorem ZW:skim 64 H4.tail=Hi:=by kernel_rfl
theorem Mj_:skim 64 Td.tail=OD:=by kernel_rfl
def T5:List Item:=skim 64 KE.tail
theorem Ui:skim 64 KE.tail=T5:=by kernel_rfl
def ZV (E:Env)(call round:Ad)(tm:T Value):M (T Value):=
 M.bind (oS (T.get tm 0) fun a=>kBox a) fun v3=>
 setF 3 v3 tm fun tm1=>
 M.bind (oS (T.get tm1 1) fun a=>kBox a) fun v4=>
 setF 4 v4 tm1 fun tm2=>
 M.bind (oS (T.get tm2 2) fun a=>kBox a) fun v5=>
 setF 5 v5 tm2 fun tm3=>
 mv (some (.int .i64 0)) fun v6=>
 setF 6 v6 tm3 fun tm4=>
 M.pure tm4
theorem Oz_:RegEq 11 48 Cy Pc ZV:=⟨by kernel_rfl,fun _ _ _ _ _ _ _ _ _=>by kernel_rfl⟩
def Cg_ (E:Env)(call round:Ad)(tm:T Value):M (T Value):=
 M.bind (oS (T.get tm 3) fun a=>AE E 25 a) fun v9=>
 M.bind (M.on (some (.func (.func 32) #[] #[])) fun f=>M.on (seqO [(some v9)]) fun l=>AL call round f l) fun v10=>
 mv (some v10) fun v7=>
 setF 7 v7 tm fun tm1=>
 M.pure tm1
theorem Lg_:RegEq 11 48 Cy JV Cg_:=⟨by kernel_rfl,fun _ _ _ _ _ _ _ _ _=>by kernel_rfl⟩
def TM (E:Env)(call round:Ad)(tm:T Value):M (T Value):=
 mv (T.get tm 7) fun v11=>
 M.bind (oS (some v11) fun a=>oS (some (.int .i64 0)) fun b=>Cl.get (aBin E .neq 29 (.tmp 11) (.const (.int .i64 0))) a b) fun v12=>
 setF 12 v12 tm fun tm1=>
 M.pure tm1
theorem Acv_:RegEq 11 48 Cy La TM:=⟨by kernel_rfl,fun _ _ _ _ _ _ _ _ _=>by kernel_rfl⟩
theorem FF_:A6 FK=some 12:=by kernel_rfl
def Ut (E:Env)(call round:Ad)(tm:T Value):M (T Value):=
 mv (T.get tm 7) fun v13=>
 mv (some v13) fun v6=>
 setF 6 v6 tm fun tm1=>
 M.pure tm1
theorem Rq_:RegEq 11 48 Cy LC Ut:=⟨by kernel_rfl,fun _ _ _ _ _ _ _ _ _=>by kernel_rfl⟩
def XU (E:Env)(call round:Ad)(tm:T Value):M ((Rho×T Value)×List OpLog):=
 M.bind (apartO (oS (T.get tm 3) fun a=>AE E 25 a)) fun p0=>
 M.bind (apartO (oS (some p0.1) fun a=>kNil a)) fun p1=>
 M.bind (apartO (oS (some p1.1) fun a=>kFld E 78 a 1)) fun p2=>
 M.bind (apartO (oS (some p2.1) fun a=>AE E 71 a)) fun p3=>
 M.bind (apartO (oS (T.get tm 4) fun a=>AE E 9 a)) fun p4=>
 M.bind (apartO (oS (some p3.1) fun a=>oS (some p4.1) fun b=>CX E 71 false a b)) fun p5=>
 M.bind (apartO (CL E 70)) fun p6=>
 setT 8 p6.1 tm fun tm1=>
 M.pure (([p6.1,p5.1,p4.1,p3.1,p2.1,p1.1,p0.1],tm1),[p6.2,p5.2,p4.2,p3.2,p2.2,p1.2,p0.2])
theorem Yj_:DrawEq 11 48 Cy H0 [0,1,3,7,0,31,0,127] XU:=⟨by kernel_rfl,by kernel_rfl,fun _ _ _ _ _ _ _ _ _=>by kernel_rfl⟩
theorem KC_ (E:Env)(call round:Ad)(x14 x15 x16 x17 x18 x19 x8:Value)(tm:T Value)(s:St):Bo call round (BV E Cy 48 (hdC H0)) [x8,x19,x18,x17,x16,x15,x14] tm s=(M.bind (oS (some x8) fun a=>oS (some x19) fun b=>BK E 70 a b) fun _=>M.pure tm) s:=by kernel_rfl
theorem Hs_: ∃k,Ra= .code .ret::k:=⟨Ra.tail,by kernel_rfl⟩
def UG (E:Env)(call round:Ad)(tm:T Value):M (T Value):=
 M.bind (oS (T.get tm 4) fun a=>AE E 9 a) fun v21=>
 M.bind (M.on (some (.func (.func 33) #[] #[])) fun f=>M.on (seqO [(some v21)]) fun l=>AL call round f l) fun v22=>
 M.bind (oS (some v22) fun a=>kUn E.P .not a) fun v23=>
 mv (some v23) fun v20=>
 setF 20 v20 tm fun tm1=>
 M.pure tm1
theorem SV_:RegEq 11 48 Cy Kd UG:=⟨by kernel_rfl,fun _ _ _ _ _ _ _ _ _=>by kernel_rfl⟩
theorem Si_:A6 ID=some 20:=by kernel_rfl
def Wl (E:Env)(call round:Ad)(tm:T Value):M (T Value):=
 M.bind (oS (T.get tm 8) fun a=>AE E 70 a) fun v25=>
 M.bind (oS (some v25) fun a=>oS (some (.pointer none)) fun b=>Cl.get (aBin E .eql 70 (.tmp 25) (.const (.pointer none))) a b) fun v26=>
 mv (some v26) fun v27=>
 M.bind (M.chk (isK v27) (M.if (isB v27 true) (oS (T.get tm 3) fun a=>AE E 25 a) (M.pure undef))) fun v28=>
 M.bind (M.chk (isK v27) (M.if (isB v27 true) (oS (some v28) fun a=>kNil a) (M.pure undef))) fun v29=>
 M.bind (M.chk (isK v27) (M.if (isB v27 true) (oS (some v29) fun a=>kFld E 78 a 1) (M.pure undef))) fun v30=>
 M.bind (M.chk (isK v27) (M.if (isB v27 true) (oS (some v30) fun a=>AE E 71 a) (M.pure undef))) fun v31=>
 M.bind (M.chk (isK v27) (M.if (isB v27 true) (oS (seqO [(some v31)]) fun l=>A9 E .len [71] l) (M.pure undef))) fun v32=>
 M.bind (M.chk (isK v27) (M.if (isB v27 true) (oS (some v32) fun a=>oS (some (.int .i64 1000)) fun b=>Cl.get (aBin E .geq 3 (.tmp 32) (.const (.int .i64 1000))) a b) (M.pure undef))) fun v33=>
 M.bind (M.on (some v27) fun a=>M.on (some v33) fun b=>M.on (some (.bool false)) fun c=>Bj a b c) fun v34=>
 mv (some v34) fun v24=>
 setF 24 v24 tm fun tm1=>
 M.pure tm1
theorem Ack_:RegEq 11 48 Cy K6 Wl:=⟨by kernel_rfl,fun _ _ _ _ _ _ _ _ _=>by kernel_rfl⟩
theorem Ou_: ∃k,OD= .code .ret::k:=⟨OD.tail,by kernel_rfl⟩
theorem Dz_:A6 Jc=some 24:=by kernel_rfl
theorem Dt_:A6 Hi=some 24:=by kernel_rfl
def AF_ (E:Env)(call round:Ad)(tm:T Value):M ((Rho×T Value)×List OpLog):=
 M.bind (apartO (oS (T.get tm 3) fun a=>AE E 25 a)) fun p0=>
 M.bind (apartO (M.on (some (.func (.func 34) #[] #[])) fun f=>M.on (seqO [(some p0.1)]) fun l=>AL call round f l)) fun p1=>
 M.bind (apartO (oS (T.get tm 5) fun a=>AE E 23 a)) fun p2=>
 M.bind (apartO (oS (seqO [(some p2.1)]) fun l=>A9 E .len [23] l)) fun p3=>
 M.bind (apartO (oS (some p1.1) fun a=>oS (some p3.1) fun b=>Cl.get (aBin E .add 3 (.tmp 36) (.tmp 38)) a b)) fun p4=>
 M.bind (apartO (oS (T.get tm 3) fun a=>AE E 25 a)) fun p5=>
 M.bind (apartO (oS (some p5.1) fun a=>kNil a)) fun p6=>
 M.bind (apartO (oS (some p6.1) fun a=>kFld E 78 a 2)) fun p7=>
 M.bind (apartO (oS (some p7.1) fun a=>AE E 3 a)) fun p8=>
 M.bind (apartO (oS (some p4.1) fun a=>oS (some p8.1) fun b=>Cl.get (aBin E .gtr 3 (.tmp 39) (.tmp 43)) a b)) fun p9=>
 M.pure (([p9.1,p8.1,p7.1,p6.1,p5.1,p4.1,p3.1,p2.1,p1.1,p0.1],tm),[p9.2,p8.2,p7.2,p6.2,p5.2,p4.2,p3.2,p2.2,p1.2,p0.2])
theorem ID_:DrawEq 11 48 Cy H4 [0,1,0,4,15,0,32,96,224,511,1023] AF_:=⟨by kernel_rfl,by kernel_rfl,fun _ _ _ _ _ _ _ _ _=>by kernel_rfl⟩
theorem XE_ (E:Env)(call round:Ad)(x35 x36 x37 x38 x39 x40 x41 x42 x43 x44:Value)(tm:T Value)(s:St):Bo call round (BV E Cy 48 (hdC H4)) [x44,x43,x42,x41,x40,x39,x38,x37,x36,x35] tm s=(M.bind (oS (some x44) fun a=>M.pure a) fun v24=>setT 24 v24 tm fun tm1=>M.pure tm1) s:=by kernel_rfl
def WQ (E:Env)(call round:Ad)(tm:T Value):M (T Value):=
 mv (some (.int .i64 8)) fun v6=>
 setF 6 v6 tm fun tm1=>
 M.pure tm1
theorem AbW_:RegEq 11 48 Cy Td WQ:=⟨by kernel_rfl,fun _ _ _ _ _ _ _ _ _=>by kernel_rfl⟩
def Fd_ (E:Env)(call round:Ad)(tm:T Value):M (T Value):=
 M.bind (oS (T.get tm 3) fun a=>AE E 25 a) fun v45=>
 M.bind (oS (seqO []) fun a=>oS (seqO [(T.get tm 8),(T.get tm 3),(T.get tm 4),(T.get tm 5)]) fun b=>M.pure (.func (.func 36) a.toArray b.toArray)) fun v46=>
 M.bind (M.on (some (.func (.func 35) #[] #[])) fun f=>M.on (seqO [(some v45),(some v46)]) fun l=>AL call round f l) fun v47=>
 mv (some v47) fun v6=>
 setF 6 v6 tm fun tm1=>
 M.pure tm1
theorem AdJ_:RegEq 11 48 Cy KE Fd_:=⟨by kernel_rfl,fun _ _ _ _ _ _ _ _ _=>by kernel_rfl⟩
theorem VU: ∃k,T5= .code .ret::k:=⟨T5.tail,by kernel_rfl⟩
def EL:Nat:=A8 Tryz.f36
abbrev TO_:Nat:=23
def UN:Code:=Tryz.f36.body.getD .skip
theorem Zk:envS.fn.get 36=some Tryz.f36:=by kernel_rfl
theorem Zz_ {a0 a1 a2 a3:Value}{n:Nat}{s:St}{Q:Value→St→Prop}(h: ∀tm,T.get tm 0=some a0→T.get tm 1=some a1→T.get tm 2=some a2→T.get tm 3=some a3→W (runF envS n ⟨36,23,EL,tm,[.code UN], .run, .normal,none⟩) (s.cxN cxN) fun p s1=>Q p.1 (s1.cxN s.cx)):W (Ay envS (runF envS n) 36 [a0,a1,a2,a3]) s Q:=
 W.call (by kernel_rfl) (by kernel_rfl) Zk (by kernel_rfl) rfl rfl (by simp) (h _ (by kernel_rfl) (by kernel_rfl) (by kernel_rfl) (by kernel_rfl))
theorem My_:Tryz.f36.results.toList=[]:=by kernel_rfl
def TX:List Item:=skim 64 [.code UN]
def Ht:List Item:=skim 64 TX.tail
theorem Gk_:skim 64 TX.tail=Ht:=by kernel_rfl
def Lq:List Item:=skim 64 (brT Ht)
theorem AdT_:skim 64 (brT Ht)=Lq:=by kernel_rfl
def ET:List Item:=skim 64 (brF Ht)
theorem RM_:skim 64 (brF Ht)=ET:=by kernel_rfl
def NQ:List Item:=skim 64 Lq.tail
theorem Yc_:skim 64 Lq.tail=NQ:=by kernel_rfl
def VT:List Item:=skim 64 ET.tail
theorem Aby_:skim 64 ET.tail=VT:=by kernel_rfl
theorem LT_:skim 64 NQ.tail=ET:=by kernel_rfl
def Au_ (E:Env)(call round:Ad)(tm:T Value):M (T Value):=
 M.bind (oS (T.get tm 0) fun a=>AE E 70 a) fun v4=>
 M.bind (oS (some v4) fun a=>oS (some (.pointer none)) fun b=>Cl.get (aBin E .eql 70 (.tmp 4) (.const (.pointer none))) a b) fun v5=>
 setF 5 v5 tm fun tm1=>
 M.pure tm1
theorem SI_:RegEq 36 23 EL TX Au_:=⟨by kernel_rfl,fun _ _ _ _ _ _ _ _ _=>by kernel_rfl⟩
theorem AX_:A6 Ht=some 5:=by kernel_rfl
def EW_ (E:Env)(call round:Ad)(tm:T Value):M (T Value):=
 M.bind (oS (seqP []) fun ps=>Co E 83 ps) fun v6=>
 M.bind (oS (some v6) fun a=>kBox a) fun v7=>
 M.bind (oS (T.get tm 0) fun a=>oS (some v7) fun b=>BK E 70 a b) fun _=>
 M.pure tm
theorem Iz_:RegEq 36 23 EL Lq EW_:=⟨by kernel_rfl,fun _ _ _ _ _ _ _ _ _=>by kernel_rfl⟩
def FT_ (E:Env)(call round:Ad)(tm:T Value):M ((Rho×T Value)×List OpLog):=
 M.bind (apartO (oS (T.get tm 0) fun a=>AE E 70 a)) fun p0=>
 M.bind (apartO (oS (T.get tm 0) fun a=>AE E 70 a)) fun p1=>
 M.bind (apartO (oS (some p1.1) fun a=>kNil a)) fun p2=>
 M.bind (apartO (oS (some p2.1) fun a=>kFld E 83 a 1)) fun p3=>
 M.bind (apartO (oS (some p3.1) fun a=>AE E 23 a)) fun p4=>
 M.bind (apartO (oS (T.get tm 3) fun a=>AE E 23 a)) fun p5=>
 M.bind (apartO (oS (seqO [(some p4.1),(some p5.1)]) fun l=>A9 E .append [23,23] l)) fun p6=>
 M.bind (apartO (oS (some p0.1) fun a=>kNil a)) fun p7=>
 M.bind (apartO (oS (some p7.1) fun a=>kFld E 83 a 1)) fun p8=>
 M.pure (([p8.1,p7.1,p6.1,p5.1,p4.1,p3.1,p2.1,p1.1,p0.1],tm),[p8.2,p7.2,p6.2,p5.2,p4.2,p3.2,p2.2,p1.2,p0.2])
theorem IY_:DrawEq 36 23 EL ET [0,0,2,6,14,0,62,127,255,511] FT_:=⟨by kernel_rfl,by kernel_rfl,fun _ _ _ _ _ _ _ _ _=>by kernel_rfl⟩
theorem Rc_ (E:Env)(call round:Ad)(x14 x15 x16 x17 x18 x19 x20 x21 x22:Value)(tm:T Value)(s:St):Bo call round (BV E EL 23 (hdC ET)) [x22,x21,x20,x19,x18,x17,x16,x15,x14] tm s=(M.bind (oS (some x22) fun a=>oS (some x20) fun b=>BK E 23 a b) fun _=>M.pure tm) s:=by kernel_rfl
def GB_ (E:Env)(call round:Ad)(tm:T Value):M ((Rho×T Value)×List OpLog):=
 M.bind (apartO (oS (T.get tm 1) fun a=>AE E 25 a)) fun p0=>
 M.bind (apartO (oS (some p0.1) fun a=>kNil a)) fun p1=>
 M.bind (apartO (oS (some p1.1) fun a=>kFld E 78 a 1)) fun p2=>
 M.bind (apartO (oS (some p2.1) fun a=>AE E 71 a)) fun p3=>
 M.bind (apartO (oS (T.get tm 2) fun a=>AE E 9 a)) fun p4=>
 M.bind (apartO (oS (T.get tm 0) fun a=>AE E 70 a)) fun p5=>
 M.pure (([p5.1,p4.1,p3.1,p2.1,p1.1,p0.1],tm),[p5.2,p4.2,p3.2,p2.2,p1.2,p0.2])
theorem TS_:DrawEq 36 23 EL NQ [0,1,3,7,0,0,63] GB_:=⟨by kernel_rfl,by kernel_rfl,fun _ _ _ _ _ _ _ _ _=>by kernel_rfl⟩
theorem Wx_ (E:Env)(call round:Ad)(x8 x9 x10 x11 x12 x13:Value)(tm:T Value)(s:St):Bo call round (BV E EL 23 (hdC NQ)) [x13,x12,x11,x10,x9,x8] tm s=(M.bind (M.on (some x11) fun a=>M.on (some x12) fun b=>M.on (some x13) fun c=>DU E 71 a b c) fun _=>M.pure tm) s:=by kernel_rfl
def DT:Nat:=A8 Tryz.f12
def Ef_:Code:=Tryz.f12.body.getD .skip
theorem IX:envS.fn.get 12=some Tryz.f12:=by kernel_rfl
theorem Xg_ {a0 a1:Value}{n:Nat}{s:St}{Q:Value→St→Prop}(h: ∀tm,T.get tm 0=some a0→T.get tm 1=some a1→W (runF envS n ⟨12,23,DT,tm,[.code Ef_], .run, .normal,none⟩) (s.cxN cxN) fun p s1=>Q p.1 (s1.cxN s.cx)):W (Ay envS (runF envS n) 12 [a0,a1]) s Q:=
 W.call (by kernel_rfl) (by kernel_rfl) IX (by kernel_rfl) rfl rfl (by simp) (h _ (by kernel_rfl) (by kernel_rfl))
theorem KK:Tryz.f12.results.toList=[.tmp 4]:=by kernel_rfl
def Sa:List Item:=skim 64 [.code Ef_]
def KO:List Item:=skim 64 Sa.tail
theorem RX_:skim 64 Sa.tail=KO:=by kernel_rfl
def Me:List Item:=skim 64 KO.tail
theorem Wl_:skim 64 KO.tail=Me:=by kernel_rfl
def FW:List Item:=skim 64 Me.tail
theorem Uc:skim 64 Me.tail=FW:=by kernel_rfl
def Kv:List Item:=skim 64 (brT FW)
theorem Adn_:skim 64 (brT FW)=Kv:=by kernel_rfl
def Kg:List Item:=skim 64 (brF FW)
theorem AaQ_:skim 64 (brF FW)=Kg:=by kernel_rfl
def Sc:List Item:=skim 64 Kv.tail
theorem MD_:skim 64 Kv.tail=Sc:=by kernel_rfl
def Kn:List Item:=skim 64 Kg.tail
theorem SD_:skim 64 Kg.tail=Kn:=by kernel_rfl
def Ha:List Item:=skim 64 Kn.tail
theorem AR_:skim 64 Kn.tail=Ha:=by kernel_rfl
def K7:List Item:=skim 64 (brT Ha)
theorem Or_:skim 64 (brT Ha)=K7:=by kernel_rfl
def Lp:List Item:=skim 64 (brF Ha)
theorem If_:skim 64 (brF Ha)=Lp:=by kernel_rfl
def SH:List Item:=skim 64 K7.tail
theorem RK_:skim 64 K7.tail=SH:=by kernel_rfl
def Qg:List Item:=skim 64 Lp.tail
theorem Dd_:skim 64 Lp.tail=Qg:=by kernel_rfl
def AV_ (E:Env)(call round:Ad)(tm:T Value):M (T Value):=
 mv (some (.int .i64 0)) fun v4=>
 setF 4 v4 tm fun tm1=>
 M.pure tm1
theorem JQ_:RegEq 12 23 DT Sa AV_:=⟨by kernel_rfl,fun _ _ _ _ _ _ _ _ _=>by kernel_rfl⟩
def By_ (E:Env)(call round:Ad)(tm:T Value):M (T Value):=
 mv (T.get tm 0) fun v7=>
 M.bind (M.on (some (.func (.func 32) #[] #[])) fun f=>M.on (seqO [(some v7)]) fun l=>AL call round f l) fun v8=>
 mv (some v8) fun v5=>
 setF 5 v5 tm fun tm1=>
 M.pure tm1
theorem Pj_:RegEq 12 23 DT KO By_:=⟨by kernel_rfl,fun _ _ _ _ _ _ _ _ _=>by kernel_rfl⟩
def To (E:Env)(call round:Ad)(tm:T Value):M (T Value):=
 mv (T.get tm 5) fun v9=>
 M.bind (oS (some v9) fun a=>oS (some (.int .i64 0)) fun b=>Cl.get (aBin E .neq 29 (.tmp 9) (.const (.int .i64 0))) a b) fun v10=>
 setF 10 v10 tm fun tm1=>
 M.pure tm1
theorem Ym_:RegEq 12 23 DT Me To:=⟨by kernel_rfl,fun _ _ _ _ _ _ _ _ _=>by kernel_rfl⟩
theorem YG:A6 FW=some 10:=by kernel_rfl
def DZ_ (E:Env)(call round:Ad)(tm:T Value):M (T Value):=
 mv (T.get tm 5) fun v11=>
 mv (some v11) fun v4=>
 setF 4 v4 tm fun tm1=>
 M.pure tm1
theorem TQ_:RegEq 12 23 DT Kv DZ_:=⟨by kernel_rfl,fun _ _ _ _ _ _ _ _ _=>by kernel_rfl⟩
def Vq (E:Env)(call round:Ad)(tm:T Value):M (T Value):=
 mv (T.get tm 0) fun v12=>
 M.bind (oS (some v12) fun a=>kNil a) fun v13=>
 M.bind (oS (some v13) fun a=>kFld E 78 a 1) fun v14=>
 M.bind (oS (some v14) fun a=>AE E 71 a) fun v15=>
 mv (T.get tm 1) fun v16=>
 M.bind (oS (some v15) fun a=>oS (some v16) fun b=>CX E 71 false a b) fun v17=>
 M.bind (CL E 70) fun v6=>
 setF 6 v6 tm fun tm1=>
 M.bind (oS (some v6) fun a=>oS (some v17) fun b=>BK E 70 a b) fun _=>
 M.pure tm1
theorem Ol_:RegEq 12 23 DT Kg Vq:=⟨by kernel_rfl,fun _ _ _ _ _ _ _ _ _=>by kernel_rfl⟩
theorem HT_: ∃k,Sc= .code .ret::k:=⟨Sc.tail,by kernel_rfl⟩
def Dq_ (E:Env)(call round:Ad)(tm:T Value):M (T Value):=
 M.bind (oS (T.get tm 6) fun a=>AE E 70 a) fun v18=>
 M.bind (oS (some v18) fun a=>oS (some (.pointer none)) fun b=>Cl.get (aBin E .eql 70 (.tmp 18) (.const (.pointer none))) a b) fun v19=>
 setF 19 v19 tm fun tm1=>
 M.pure tm1
theorem Pk_:RegEq 12 23 DT Kn Dq_:=⟨by kernel_rfl,fun _ _ _ _ _ _ _ _ _=>by kernel_rfl⟩
theorem AJ_:A6 Ha=some 19:=by kernel_rfl
def BF_ (E:Env)(call round:Ad)(tm:T Value):M (T Value):=
 mv (some (.int .i64 6)) fun v4=>
 setF 4 v4 tm fun tm1=>
 M.pure tm1
theorem Aej_:RegEq 12 23 DT K7 BF_:=⟨by kernel_rfl,fun _ _ _ _ _ _ _ _ _=>by kernel_rfl⟩
def Ey_ (E:Env)(call round:Ad)(tm:T Value):M (T Value):=
 mv (T.get tm 0) fun v20=>
 M.bind (oS (seqO []) fun a=>oS (seqO [(T.get tm 6)]) fun b=>M.pure (.func (.func 37) a.toArray b.toArray)) fun v21=>
 M.bind (M.on (some (.func (.func 35) #[] #[])) fun f=>M.on (seqO [(some v20),(some v21)]) fun l=>AL call round f l) fun v22=>
 mv (some v22) fun v4=>
 setF 4 v4 tm fun tm1=>
 M.pure tm1
theorem Yk_:RegEq 12 23 DT Lp Ey_:=⟨by kernel_rfl,fun _ _ _ _ _ _ _ _ _=>by kernel_rfl⟩
theorem LF_: ∃k,SH= .code .ret::k:=⟨SH.tail,by kernel_rfl⟩
theorem XA: ∃k,Qg= .code .ret::k:=⟨Qg.tail,by kernel_rfl⟩
def T7:Nat:=A8 Tryz.f37
def VE:Code:=Tryz.f37.body.getD .skip
theorem DB_:envS.fn.get 37=some Tryz.f37:=by kernel_rfl
theorem OG_ {a0:Value}{n:Nat}{s:St}{Q:Value→St→Prop}(h: ∀tm,T.get tm 0=some a0→W (runF envS n ⟨37,16,T7,tm,[.code VE], .run, .normal,none⟩) (s.cxN cxN) fun p s1=>Q p.1 (s1.cxN s.cx)):W (Ay envS (runF envS n) 37 [a0]) s Q:=
 W.call (by kernel_rfl) (by kernel_rfl) DB_ (by kernel_rfl) rfl rfl (by simp) (h _ (by kernel_rfl))
theorem Qt_:Tryz.f37.results.toList=[]:=by kernel_rfl
def K9:List Item:=skim 64 [.code VE]
def Bw_:List Item:=skim 64 K9.tail
theorem Rw_:skim 64 K9.tail=Bw_:=by kernel_rfl
def WU (E:Env)(call round:Ad)(tm:T Value):M ((Rho×T Value)×List OpLog):=
 M.bind (apartO (oS (T.get tm 0) fun a=>AE E 70 a)) fun p0=>
 M.bind (apartO (oS (T.get tm 0) fun a=>AE E 70 a)) fun p1=>
 M.bind (apartO (oS (T.get tm 0) fun a=>AE E 70 a)) fun p2=>
 M.bind (apartO (oS (some p2.1) fun a=>kNil a)) fun p3=>
 M.bind (apartO (oS (some p3.1) fun a=>kFld E 83 a 0)) fun p4=>
 M.bind (apartO (oS (some p4.1) fun a=>AE E 23 a)) fun p5=>
 M.bind (apartO (oS (T.get tm 0) fun a=>AE E 70 a)) fun p6=>
 M.bind (apartO (oS (some p6.1) fun a=>kNil a)) fun p7=>
 M.bind (apartO (oS (some p7.1) fun a=>kFld E 83 a 1)) fun p8=>
 M.bind (apartO (oS (some p8.1) fun a=>AE E 23 a)) fun p9=>
 M.bind (apartO (oS (seqO [(some p5.1),(some p9.1)]) fun l=>A9 E .append [23,23] l)) fun p10=>
 M.bind (apartO (oS (some p0.1) fun a=>kNil a)) fun p11=>
 M.bind (apartO (oS (some p11.1) fun a=>kFld E 83 a 0)) fun p12=>
 M.bind (apartO (oS (some p12.1) fun a=>oS (some p10.1) fun b=>BK E 23 a b)) fun p13=>
 M.bind (apartO (oS (some p1.1) fun a=>kNil a)) fun p14=>
 M.bind (apartO (oS (some p14.1) fun a=>kFld E 83 a 1)) fun p15=>
 M.pure (([p15.1,p14.1,p12.1,p11.1,p10.1,p9.1,p8.1,p7.1,p6.1,p5.1,p4.1,p3.1,p2.1,p1.1,p0.1],tm),[p15.2,p14.2,p13.2,p12.2,p11.2,p10.2,p9.2,p8.2,p7.2,p6.2,p5.2,p4.2,p3.2,p2.2,p1.2,p0.2])
theorem PA_:DrawEq 37 16 T7 K9 [0,0,0,4,12,28,0,64,192,448,1020,2045,4093,8189,16383,32767,65535] WU:=⟨by kernel_rfl,by kernel_rfl,fun _ _ _ _ _ _ _ _ _=>by kernel_rfl⟩
theorem Abr_ (E:Env)(call round:Ad)(x1 x2 x3 x4 x5 x6 x7 x8 x9 x10 x11 x12 x13 x14 x15:Value)(tm:T Value)(s:St):Bo call round (BV E T7 16 (hdC K9)) [x15,x14,x13,x12,x11,x10,x9,x8,x7,x6,x5,x4,x3,x2,x1] tm s=(M.bind (oS (some x15) fun a=>oS (some (.slice none 0 0)) fun b=>BK E 23 a b) fun _=>M.pure tm) s:=by kernel_rfl
def DK:Nat:=A8 Tryz.f21
def Vo:Code:=Tryz.f21.body.getD .skip
theorem Jr:envS.fn.get 21=some Tryz.f21:=by kernel_rfl
theorem YI_ {a0 a1:Value}{n:Nat}{s:St}{Q:Value→St→Prop}(h: ∀tm,T.get tm 0=some a0→T.get tm 1=some a1→W (runF envS n ⟨21,31,DK,tm,[.code Vo], .run, .normal,none⟩) (s.cxN cxN) fun p s1=>Q p.1 (s1.cxN s.cx)):W (Ay envS (runF envS n) 21 [a0,a1]) s Q:=
 W.call (by kernel_rfl) (by kernel_rfl) Jr (by kernel_rfl) rfl rfl (by simp) (h _ (by kernel_rfl) (by kernel_rfl))
theorem SS:Tryz.f21.results.toList=[.tmp 4, .tmp 5]:=by kernel_rfl
def P1:List Item:=skim 64 [.code Vo]
def MP:List Item:=skim 64 P1.tail
theorem XF_:skim 64 P1.tail=MP:=by kernel_rfl
def Kq:List Item:=skim 64 MP.tail
theorem AeS_:skim 64 MP.tail=Kq:=by kernel_rfl
def F6:List Item:=skim 64 Kq.tail
theorem XH:skim 64 Kq.tail=F6:=by kernel_rfl
def Jm:List Item:=skim 64 (brT F6)
theorem Pd_:skim 64 (brT F6)=Jm:=by kernel_rfl
def Lw:List Item:=skim 64 (brF F6)
theorem HX_:skim 64 (brF F6)=Lw:=by kernel_rfl
def O7:List Item:=skim 64 Jm.tail
theorem IU_:skim 64 Jm.tail=O7:=by kernel_rfl
def KJ:List Item:=skim 64 Lw.tail
theorem Sw_:skim 64 Lw.tail=KJ:=by kernel_rfl
def Hd:List Item:=skim 64 KJ.tail
theorem Dx_:skim 64 KJ.tail=Hd:=by kernel_rfl
def Lt:List Item:=skim 64 (brT Hd)
theorem GN_:skim 64 (brT Hd)=Lt:=by kernel_rfl
def HP:List Item:=skim 64 (brF Hd)
theorem Kt_:skim 64 (brF Hd)=HP:=by kernel_rfl
def Rz:List Item:=skim 64 Lt.tail
theorem VA_:skim 64 Lt.tail=Rz:=by kernel_rfl
def RO:List Item:=skim 64 HP.tail
theorem GQ_:skim 64 HP.tail=RO:=by kernel_rfl
def ZP (E:Env)(call round:Ad)(tm:T Value):M (T Value):=
 mv (some (.slice none 0 0)) fun v4=>
 setF 4 v4 tm fun tm1=>
 mv (some (.int .i64 0)) fun v5=>
 setF 5 v5 tm1 fun tm2=>
 M.pure tm2
theorem AeZ_:RegEq 21 31 DK P1 ZP:=⟨by kernel_rfl,fun _ _ _ _ _ _ _ _ _=>by kernel_rfl⟩
def VN (E:Env)(call round:Ad)(tm:T Value):M (T Value):=
 mv (T.get tm 0) fun v8=>
 M.bind (M.on (some (.func (.func 32) #[] #[])) fun f=>M.on (seqO [(some v8)]) fun l=>AL call round f l) fun v9=>
 mv (some v9) fun v6=>
 setF 6 v6 tm fun tm1=>
 M.pure tm1
theorem HF_:RegEq 21 31 DK MP VN:=⟨by kernel_rfl,fun _ _ _ _ _ _ _ _ _=>by kernel_rfl⟩
def Sv (E:Env)(call round:Ad)(tm:T Value):M (T Value):=
 mv (T.get tm 6) fun v10=>
 M.bind (oS (some v10) fun a=>oS (some (.int .i64 0)) fun b=>Cl.get (aBin E .neq 29 (.tmp 10) (.const (.int .i64 0))) a b) fun v11=>
 setF 11 v11 tm fun tm1=>
 M.pure tm1
theorem Vj_:RegEq 21 31 DK Kq Sv:=⟨by kernel_rfl,fun _ _ _ _ _ _ _ _ _=>by kernel_rfl⟩
theorem Ur:A6 F6=some 11:=by kernel_rfl
def Cj_ (E:Env)(call round:Ad)(tm:T Value):M (T Value):=
 mv (T.get tm 6) fun v12=>
 mv (some (.slice none 0 0)) fun v4=>
 setF 4 v4 tm fun tm1=>
 mv (some v12) fun v5=>
 setF 5 v5 tm1 fun tm2=>
 M.pure tm2
theorem IK_:RegEq 21 31 DK Jm Cj_:=⟨by kernel_rfl,fun _ _ _ _ _ _ _ _ _=>by kernel_rfl⟩
def Z3 (E:Env)(call round:Ad)(tm:T Value):M (T Value):=
 mv (T.get tm 0) fun v13=>
 M.bind (oS (some v13) fun a=>kNil a) fun v14=>
 M.bind (oS (some v14) fun a=>kFld E 78 a 1) fun v15=>
 M.bind (oS (some v15) fun a=>AE E 71 a) fun v16=>
 mv (T.get tm 1) fun v17=>
 M.bind (oS (some v16) fun a=>oS (some v17) fun b=>CX E 71 false a b) fun v18=>
 mv (some v18) fun v7=>
 setF 7 v7 tm fun tm1=>
 M.pure tm1
theorem Vs_:RegEq 21 31 DK Lw Z3:=⟨by kernel_rfl,fun _ _ _ _ _ _ _ _ _=>by kernel_rfl⟩
theorem Od_: ∃k,O7= .code .ret::k:=⟨O7.tail,by kernel_rfl⟩
def RI (E:Env)(call round:Ad)(tm:T Value):M (T Value):=
 mv (T.get tm 7) fun v19=>
 M.bind (oS (some v19) fun a=>oS (some (.pointer none)) fun b=>Cl.get (aBin E .eql 70 (.tmp 19) (.const (.pointer none))) a b) fun v20=>
 setF 20 v20 tm fun tm1=>
 M.pure tm1
theorem Xk_:RegEq 21 31 DK KJ RI:=⟨by kernel_rfl,fun _ _ _ _ _ _ _ _ _=>by kernel_rfl⟩
theorem Zd:A6 Hd=some 20:=by kernel_rfl
def FL_ (E:Env)(call round:Ad)(tm:T Value):M (T Value):=
 mv (some (.slice none 0 0)) fun v4=>
 setF 4 v4 tm fun tm1=>
 mv (some (.int .i64 6)) fun v5=>
 setF 5 v5 tm1 fun tm2=>
 M.pure tm2
theorem RG_:RegEq 21 31 DK Lt FL_:=⟨by kernel_rfl,fun _ _ _ _ _ _ _ _ _=>by kernel_rfl⟩
def Zf (E:Env)(call round:Ad)(tm:T Value):M ((Rho×T Value)×List OpLog):=
 M.bind (apartO (oS (T.get tm 7) fun a=>M.pure a)) fun p0=>
 M.bind (apartO (oS (some p0.1) fun a=>kNil a)) fun p1=>
 M.bind (apartO (oS (some p1.1) fun a=>kFld E 83 a 0)) fun p2=>
 M.bind (apartO (oS (some p2.1) fun a=>AE E 23 a)) fun p3=>
 M.bind (apartO (oS (T.get tm 7) fun a=>M.pure a)) fun p4=>
 M.bind (apartO (oS (some p4.1) fun a=>kNil a)) fun p5=>
 M.bind (apartO (oS (some p5.1) fun a=>kFld E 83 a 1)) fun p6=>
 M.bind (apartO (oS (some p6.1) fun a=>AE E 23 a)) fun p7=>
 M.bind (apartO (oS (seqP [(0,(some p3.1)),(1,(some p7.1))]) fun ps=>Cp E 114 2 ps)) fun p8=>
 M.bind (apartO (M.on (some (.func (.func 43) #[] #[])) fun f=>M.on (seqO [(some p8.1)]) fun l=>AL call round f l)) fun p9=>
 M.bind (apartO (oS (some p9.1) fun a=>M.pure a)) fun p10=>
 setT 4 p10.1 tm fun tm1=>
 M.pure (([p10.1,p9.1,p8.1,p7.1,p6.1,p5.1,p4.1,p3.1,p2.1,p1.1,p0.1],tm1),[p10.2,p9.2,p8.2,p7.2,p6.2,p5.2,p4.2,p3.2,p2.2,p1.2,p0.2])
theorem LQ_:DrawEq 21 31 DK HP [0,1,3,7,0,16,48,112,255,511,1023,2047] Zf:=⟨by kernel_rfl,by kernel_rfl,fun _ _ _ _ _ _ _ _ _=>by kernel_rfl⟩
theorem GI_ (E:Env)(call round:Ad)(x21 x22 x23 x24 x25 x26 x27 x28 x29 x30 x4:Value)(tm:T Value)(s:St):Bo call round (BV E DK 31 (hdC HP)) [x4,x30,x29,x28,x27,x26,x25,x24,x23,x22,x21] tm s=(M.bind (oS (some (.int .i64 0)) fun a=>M.pure a) fun v5=>setT 5 v5 tm fun tm1=>M.pure tm1) s:=by kernel_rfl
theorem GH_: ∃k,Rz= .code .ret::k:=⟨Rz.tail,by kernel_rfl⟩
theorem QS_: ∃k,RO= .code .ret::k:=⟨RO.tail,by kernel_rfl⟩
def Ie:Nat:=A8 Tryz.f18
def Zr:Code:=Tryz.f18.body.getD .skip
theorem Ec_:envS.fn.get 18=some Tryz.f18:=by kernel_rfl
theorem Kf_ {a0 a1:Value}{n:Nat}{s:St}{Q:Value→St→Prop}(h: ∀tm,T.get tm 0=some a0→T.get tm 1=some a1→W (runF envS n ⟨18,17,Ie,tm,[.code Zr], .run, .normal,none⟩) (s.cxN cxN) fun p s1=>Q p.1 (s1.cxN s.cx)):W (Ay envS (runF envS n) 18 [a0,a1]) s Q:=
 W.call (by kernel_rfl) (by kernel_rfl) Ec_ (by kernel_rfl) rfl rfl (by simp) (h _ (by kernel_rfl) (by kernel_rfl))
theorem Wi_:Tryz.f18.results.toList=[.tmp 4]:=by kernel_rfl
def OM:List Item:=skim 64 [.code Zr]
def Nv:List Item:=skim 64 OM.tail
theorem Oc_:skim 64 OM.tail=Nv:=by kernel_rfl
def LP:List Item:=skim 64 Nv.tail
theorem OE_:skim 64 Nv.tail=LP:=by kernel_rfl
def MU:List Item:=skim 64 (brF LP)
theorem Jp_:skim 64 (brF LP)=MU:=by kernel_rfl
def N1:List Item:=skim 64 MU.tail
theorem Jn_:skim 64 MU.tail=N1:=by kernel_rfl
def Py:List Item:=skim 64 N1.tail
theorem LA_:skim 64 N1.tail=Py:=by kernel_rfl
def Ww (E:Env)(call round:Ad)(tm:T Value):M (T Value):=
 M.bind (oS (T.get tm 1) fun a=>kBox a) fun v3=>
 setF 3 v3 tm fun tm1=>
 mv (some (.slice none 0 0)) fun v4=>
 setF 4 v4 tm1 fun tm2=>
 M.pure tm2
theorem XP_:RegEq 18 17 Ie OM Ww:=⟨by kernel_rfl,fun _ _ _ _ _ _ _ _ _=>by kernel_rfl⟩
def Db_ (E:Env)(call round:Ad)(tm:T Value):M (T Value):=
 mv (T.get tm 0) fun v6=>
 M.bind (M.on (some (.func (.func 46) #[] #[])) fun f=>M.on (seqO [(some v6)]) fun l=>AL call round f l) fun v7=>
 setF 7 v7 tm fun tm1=>
 M.pure tm1
theorem Qo_:RegEq 18 17 Ie Nv Db_:=⟨by kernel_rfl,fun _ _ _ _ _ _ _ _ _=>by kernel_rfl⟩
theorem AbX_:A6 LP=some 7:=by kernel_rfl
def XW (E:Env)(call round:Ad)(tm:T Value):M (T Value):=
 mv (T.get tm 0) fun v8=>
 M.bind (oS (some v8) fun a=>kNil a) fun v9=>
 M.bind (oS (some v9) fun a=>kFld E 78 a 1) fun v10=>
 M.bind (oS (some v10) fun a=>AE E 71 a) fun v11=>
 M.bind (M.on (some (.func (.func 48) #[] #[])) fun f=>M.on (seqO [(some v11)]) fun l=>AL call round f l) fun v12=>
 M.bind (M.on (some (.func (.func 47) #[] #[])) fun f=>M.on (seqO [(some v12)]) fun l=>AL call round f l) fun v13=>
 mv (some v13) fun v5=>
 setF 5 v5 tm fun tm1=>
 M.pure tm1
theorem HA_:RegEq 18 17 Ie MU XW:=⟨by kernel_rfl,fun _ _ _ _ _ _ _ _ _=>by kernel_rfl⟩
def UW (E:Env)(call round:Ad)(tm:T Value):M (T Value):=
 mv (T.get tm 5) fun v14=>
 M.bind (oS (seqO []) fun a=>oS (seqO [(T.get tm 3)]) fun b=>M.pure (.func (.func 50) a.toArray b.toArray)) fun v15=>
 M.bind (M.on (some (.func (.func 49) #[] #[])) fun f=>M.on (seqO [(some v14),(some v15)]) fun l=>AL call round f l) fun v16=>
 mv (some v16) fun v4=>
 setF 4 v4 tm fun tm1=>
 M.pure tm1
theorem TT_:RegEq 18 17 Ie N1 UW:=⟨by kernel_rfl,fun _ _ _ _ _ _ _ _ _=>by kernel_rfl⟩
theorem OA_: ∃k,Py= .code .ret::k:=⟨Py.tail,by kernel_rfl⟩
def Rt:Nat:=A8 Tryz.f50
def Gh_:Code:=Tryz.f50.body.getD .skip
theorem BZ_:envS.fn.get 50=some Tryz.f50:=by kernel_rfl
theorem Ue_ {a0 a1:Value}{n:Nat}{s:St}{Q:Value→St→Prop}(h: ∀tm,T.get tm 0=some a0→T.get tm 1=some a1→W (runF envS n ⟨50,8,Rt,tm,[.code Gh_], .run, .normal,none⟩) (s.cxN cxN) fun p s1=>Q p.1 (s1.cxN s.cx)):W (Ay envS (runF envS n) 50 [a0,a1]) s Q:=
 W.call (by kernel_rfl) (by kernel_rfl) BZ_ (by kernel_rfl) rfl rfl (by simp) (h _ (by kernel_rfl) (by kernel_rfl))
theorem Zy_:Tryz.f50.results.toList=[.tmp 3]:=by kernel_rfl
def Ru:List Item:=skim 64 [.code Gh_]
def J3:List Item:=skim 64 Ru.tail
theorem ZP_:skim 64 Ru.tail=J3:=by kernel_rfl
def QQ:List Item:=skim 64 J3.tail
theorem Acs_:skim 64 J3.tail=QQ:=by kernel_rfl
def VB (E:Env)(call round:Ad)(tm:T Value):M (T Value):=
 mv (some (.bool false)) fun v3=>
 setF 3 v3 tm fun tm1=>
 M.pure tm1
theorem NP_:RegEq 50 8 Rt Ru VB:=⟨by kernel_rfl,fun _ _ _ _ _ _ _ _ _=>by kernel_rfl⟩
def AG_ (E:Env)(call round:Ad)(tm:T Value):M (T Value):=
 mv (T.get tm 0) fun v4=>
 M.bind (oS (T.get tm 1) fun a=>AE E 9 a) fun v5=>
 M.bind (M.on (some (.func (.func 51) #[] #[])) fun f=>M.on (seqO [(some v4),(some v5)]) fun l=>AL call round f l) fun v6=>
 M.bind (oS (some v6) fun a=>kUn E.P .not a) fun v7=>
 mv (some v7) fun v3=>
 setF 3 v3 tm fun tm1=>
 M.pure tm1
theorem Acp_:RegEq 50 8 Rt J3 AG_:=⟨by kernel_rfl,fun _ _ _ _ _ _ _ _ _=>by kernel_rfl⟩
theorem US_: ∃k,QQ= .code .ret::k:=⟨QQ.tail,by kernel_rfl⟩
def Pf:Nat:=A8 Tryz.f28
def WW:Code:=Tryz.f28.body.getD .skip
theorem Cc_:envS.fn.get 28=some Tryz.f28:=by kernel_rfl
theorem Zr_ {a0:Value}{n:Nat}{s:St}{Q:Value→St→Prop}(h: ∀tm,T.get tm 0=some a0→W (runF envS n ⟨28,13,Pf,tm,[.code WW], .run, .normal,none⟩) (s.cxN cxN) fun p s1=>Q p.1 (s1.cxN s.cx)):W (Ay envS (runF envS n) 28 [a0]) s Q:=
 W.call (by kernel_rfl) (by kernel_rfl) Cc_ (by kernel_rfl) rfl rfl (by simp) (h _ (by kernel_rfl))
theorem Ut_:Tryz.f28.results.toList=[.tmp 2]:=by kernel_rfl
def S4:List Item:=skim 64 [.code WW]
def JM:List Item:=skim 64 S4.tail
theorem GK_:skim 64 S4.tail=JM:=by kernel_rfl
def TT:List Item:=skim 64 JM.tail
theorem Vd_:skim 64 JM.tail=TT:=by kernel_rfl
def Bc_ (E:Env)(call round:Ad)(tm:T Value):M (T Value):=
 mv (some (.bool false)) fun v2=>
 setF 2 v2 tm fun tm1=>
 M.pure tm1
theorem Su_:RegEq 28 13 Pf S4 Bc_:=⟨by kernel_rfl,fun _ _ _ _ _ _ _ _ _=>by kernel_rfl⟩
def XJ (E:Env)(call round:Ad)(tm:T Value):M (T Value):=
 mv (T.get tm 0) fun v3=>
 M.bind (M.on (some (.func (.func 46) #[] #[])) fun f=>M.on (seqO [(some v3)]) fun l=>AL call round f l) fun v4=>
 M.bind (oS (some v4) fun a=>kUn E.P .not a) fun v5=>
 mv (some v5) fun v6=>
 M.bind (M.chk (isK v6) (M.if (isB v6 true) (oS (T.get tm 0) fun a=>M.pure a) (M.pure undef))) fun v7=>
 M.bind (M.chk (isK v6) (M.if (isB v6 true) (oS (some v7) fun a=>kNil a) (M.pure undef))) fun v8=>
 M.bind (M.chk (isK v6) (M.if (isB v6 true) (oS (some v8) fun a=>kFld E 78 a 6) (M.pure undef))) fun v9=>
 M.bind (M.chk (isK v6) (M.if (isB v6 true) (oS (some v9) fun a=>AE E 4 a) (M.pure undef))) fun v10=>
 M.bind (M.chk (isK v6) (M.if (isB v6 true) (oS (some v10) fun a=>kUn E.P .not a) (M.pure undef))) fun v11=>
 M.bind (M.on (some v6) fun a=>M.on (some v11) fun b=>M.on (some (.bool false)) fun c=>Bj a b c) fun v12=>
 mv (some v12) fun v2=>
 setF 2 v2 tm fun tm1=>
 M.pure tm1
theorem Wf_:RegEq 28 13 Pf JM XJ:=⟨by kernel_rfl,fun _ _ _ _ _ _ _ _ _=>by kernel_rfl⟩
theorem St_: ∃k,TT= .code .ret::k:=⟨TT.tail,by kernel_rfl⟩
end Go.Proofs.YtndednnianphoaaGreatDoor.Am
end
