import Derived.Test.YtndednnianphoaaGreatDoorJt16
import Derived.Test.YtndednnianphoaaGreatDoorJt09
import Derived.KernelRfl
import Derived.Test.YtndednnianphoaaGreatDoorJt20
noncomputable section
namespace Go.Proofs.YtndednnianphoaaGreatDoor.Am
open Go.RowKit
def PE:Nat:=A8 Tryz.f44
def Xg:Code:=Tryz.f44.body.getD .skip
theorem W8:envS.fn.get 44=some Tryz.f44:=by kernel_rfl
theorem LM_ {a0:Value}{n:Nat}{s:St}{Q:Value→St→Prop}(h: ∀tm,T.get tm 0=some a0→W (runF envS n ⟨44,23,PE,tm,[.code Xg], .run, .normal,none⟩) (s.cxN cxN) fun p s1=>Q p.1 (s1.cxN s.cx)):W (Ay envS (runF envS n) 44 [a0]) s Q:=
 W.call (by kernel_rfl) (by kernel_rfl) W8 (by kernel_rfl) rfl rfl (by simp) (h _ (by kernel_rfl))
theorem IZ_:Tryz.f44.results.toList=[.tmp 2]:=by kernel_rfl
def RN:List Item:=skim 64 [.code Xg]
def KI:List Item:=skim 64 RN.tail
theorem IR_:skim 64 RN.tail=KI:=by kernel_rfl
def SO:List Item:=skim 64 KI.tail
theorem HO_:skim 64 KI.tail=SO:=by kernel_rfl
def Bd_ (E:Env)(call round:Ad)(tm:T Value):M (T Value):=
 M.bind (oS (T.get tm 0) fun a=>kBox a) fun v1=>
 setF 1 v1 tm fun tm1=>
 mv (some (.slice none 0 0)) fun v2=>
 setF 2 v2 tm1 fun tm2=>
 M.pure tm2
theorem WI_:RegEq 44 23 PE RN Bd_:=⟨by kernel_rfl,fun _ _ _ _ _ _ _ _ _=>by kernel_rfl⟩
def Wy (E:Env)(call round:Ad)(tm:T Value):M (T Value):=
 M.bind (oS (T.get tm 1) fun a=>kFld E 90 a 0) fun v3=>
 M.bind (oS (some v3) fun a=>AE E 3 a) fun v4=>
 M.bind (oS (some v4) fun a=>BR E 3 5 a) fun v5=>
 M.bind (oS (T.get tm 1) fun a=>kFld E 90 a 1) fun v6=>
 M.bind (oS (some v6) fun a=>AE E 3 a) fun v7=>
 M.bind (oS (some v7) fun a=>oS (some (.int .u64 24)) fun b=>Cl.get (aBin E .shr 3 (.tmp 7) (.const (.int .u64 24))) a b) fun v8=>
 M.bind (oS (some v8) fun a=>BR E 3 5 a) fun v9=>
 M.bind (oS (T.get tm 1) fun a=>kFld E 90 a 1) fun v10=>
 M.bind (oS (some v10) fun a=>AE E 3 a) fun v11=>
 M.bind (oS (some v11) fun a=>oS (some (.int .u64 16)) fun b=>Cl.get (aBin E .shr 3 (.tmp 11) (.const (.int .u64 16))) a b) fun v12=>
 M.bind (oS (some v12) fun a=>BR E 3 5 a) fun v13=>
 M.bind (oS (T.get tm 1) fun a=>kFld E 90 a 1) fun v14=>
 M.bind (oS (some v14) fun a=>AE E 3 a) fun v15=>
 M.bind (oS (some v15) fun a=>oS (some (.int .u64 8)) fun b=>Cl.get (aBin E .shr 3 (.tmp 15) (.const (.int .u64 8))) a b) fun v16=>
 M.bind (oS (some v16) fun a=>BR E 3 5 a) fun v17=>
 M.bind (oS (T.get tm 1) fun a=>kFld E 90 a 1) fun v18=>
 M.bind (oS (some v18) fun a=>AE E 3 a) fun v19=>
 M.bind (oS (some v19) fun a=>BR E 3 5 a) fun v20=>
 M.bind (oS (seqP [(0,(some v5)),(1,(some v9)),(2,(some v13)),(3,(some v17)),(4,(some v20))]) fun ps=>Cp E 23 5 ps) fun v21=>
 M.bind (M.on (some (.func (.func 53) #[] #[])) fun f=>M.on (seqO [(some v21)]) fun l=>AL call round f l) fun v22=>
 mv (some v22) fun v2=>
 setF 2 v2 tm fun tm1=>
 M.pure tm1
theorem PZ_:RegEq 44 23 PE KI Wy:=⟨by kernel_rfl,fun _ _ _ _ _ _ _ _ _=>by kernel_rfl⟩
theorem VB_: ∃k,SO= .code .ret::k:=⟨SO.tail,by kernel_rfl⟩
def S1:Nat:=A8 Tryz.f40
def Ye:Code:=Tryz.f40.body.getD .skip
theorem Ae_:envS.fn.get 40=some Tryz.f40:=by kernel_rfl
theorem La_ {a0:Value}{n:Nat}{s:St}{Q:Value→St→Prop}(h: ∀tm,T.get tm 0=some a0→W (runF envS n ⟨40,4,S1,tm,[.code Ye], .run, .normal,none⟩) (s.cxN cxN) fun p s1=>Q p.1 (s1.cxN s.cx)):W (Ay envS (runF envS n) 40 [a0]) s Q:=
 W.call (by kernel_rfl) (by kernel_rfl) Ae_ (by kernel_rfl) rfl rfl (by simp) (h _ (by kernel_rfl))
theorem UG_:Tryz.f40.results.toList=[.tmp 2]:=by kernel_rfl
def PJ:List Item:=skim 64 [.code Ye]
def M7:List Item:=skim 64 PJ.tail
theorem IV_:skim 64 PJ.tail=M7:=by kernel_rfl
def S2:List Item:=skim 64 M7.tail
theorem XR_:skim 64 M7.tail=S2:=by kernel_rfl
def Wj (E:Env)(call round:Ad)(tm:T Value):M (T Value):=
 M.bind (oS (T.get tm 0) fun a=>kBox a) fun v1=>
 setF 1 v1 tm fun tm1=>
 mv (some .nilFunc) fun v2=>
 setF 2 v2 tm1 fun tm2=>
 M.pure tm2
theorem Nq_:RegEq 40 4 S1 PJ Wj:=⟨by kernel_rfl,fun _ _ _ _ _ _ _ _ _=>by kernel_rfl⟩
def AP_ (E:Env)(call round:Ad)(tm:T Value):M (T Value):=
 M.bind (oS (seqO []) fun a=>oS (seqO [(T.get tm 1)]) fun b=>M.pure (.func (.func 64) a.toArray b.toArray)) fun v3=>
 mv (some v3) fun v2=>
 setF 2 v2 tm fun tm1=>
 M.pure tm1
theorem Jd_:RegEq 40 4 S1 M7 AP_:=⟨by kernel_rfl,fun _ _ _ _ _ _ _ _ _=>by kernel_rfl⟩
theorem Xi_: ∃k,S2= .code .ret::k:=⟨S2.tail,by kernel_rfl⟩
def C9:Nat:=A8 Tryz.f64
abbrev Tb:Nat:=65
def YN:Code:=Tryz.f64.body.getD .skip
theorem Fb_:envS.fn.get 64=some Tryz.f64:=by kernel_rfl
theorem Ti_ {a0 a1:Value}{n:Nat}{s:St}{Q:Value→St→Prop}(h: ∀tm,T.get tm 0=some a0→T.get tm 1=some a1→W (runF envS n ⟨64,65,C9,tm,[.code YN], .run, .normal,none⟩) (s.cxN cxN) fun p s1=>Q p.1 (s1.cxN s.cx)):W (Ay envS (runF envS n) 64 [a0,a1]) s Q:=
 W.call (by kernel_rfl) (by kernel_rfl) Fb_ (by kernel_rfl) rfl rfl (by simp) (h _ (by kernel_rfl) (by kernel_rfl))
theorem Lb_:Tryz.f64.results.toList=[]:=by kernel_rfl
def HR:List Item:=skim 64 [.code YN]
def Hu:List Item:=skim 64 HR.tail
theorem EX_:skim 64 HR.tail=Hu:=by kernel_rfl
def JZ:List Item:=skim 64 (brT Hu)
theorem Xa_:skim 64 (brT Hu)=JZ:=by kernel_rfl
def Xv:List Item:=skim 64 (brF Hu)
theorem Qc_:skim 64 (brF Hu)=Xv:=by kernel_rfl
def NG:List Item:=skim 64 JZ.tail
theorem Mt_:skim 64 JZ.tail=NG:=by kernel_rfl
def Ml:List Item:=skim 64 NG.tail
theorem Oo_:skim 64 NG.tail=Ml:=by kernel_rfl
def Fl:List Item:=skim 64 (brF Ml)
theorem Abo_:skim 64 (brF Ml)=Fl:=by kernel_rfl
def LA:List Item:=skim 64 Fl.tail
theorem Hv_:skim 64 Fl.tail=LA:=by kernel_rfl
def MV:List Item:=skim 64 LA.tail
theorem VG_:skim 64 LA.tail=MV:=by kernel_rfl
def Sz:List Item:=skim 64 (brF MV)
theorem SR_:skim 64 (brF MV)=Sz:=by kernel_rfl
theorem Xq_:skim 64 Sz.tail=HR:=by kernel_rfl
def Tz (E:Env)(call round:Ad)(tm:T Value):M (T Value):=
 M.bind (oS (T.get tm 1) fun a=>AE E 23 a) fun v6=>
 M.bind (oS (seqO [(some v6)]) fun l=>A9 E .len [23] l) fun v7=>
 M.bind (oS (some v7) fun a=>oS (some (.int .i64 9)) fun b=>Cl.get (aBin E .geq 3 (.tmp 7) (.const (.int .i64 9))) a b) fun v8=>
 setF 8 v8 tm fun tm1=>
 M.pure tm1
theorem YP:RegEq 64 65 C9 HR Tz:=⟨by kernel_rfl,fun _ _ _ _ _ _ _ _ _=>by kernel_rfl⟩
theorem Da_:A6 Hu=some 8:=by kernel_rfl
def VW (E:Env)(call round:Ad)(tm:T Value):M (T Value):=
 M.bind (oS (T.get tm 1) fun a=>AE E 23 a) fun v10=>
 M.bind (M.on (some v10) fun a=>M.on (some none) fun b=>M.on (onO (some (.int .i64 9)) fun v=>some (some v)) fun c=>Cb E 23 a b c) fun v11=>
 M.bind (M.on (some (.func (.func 22) #[] #[])) fun f=>M.on (seqO [(some v11)]) fun l=>AL call round f l) fun v12=>
 mv (some v12) fun v9=>
 M.bind (oS (some v9) fun a=>kExt 0 a) fun v13=>
 M.bind (oS (some v9) fun a=>kExt 1 a) fun v14=>
 mv (some v13) fun v3=>
 setF 3 v3 tm fun tm1=>
 mv (some v14) fun v4=>
 setF 4 v4 tm1 fun tm2=>
 M.pure tm2
theorem UM_:RegEq 64 65 C9 JZ VW:=⟨by kernel_rfl,fun _ _ _ _ _ _ _ _ _=>by kernel_rfl⟩
def VS (E:Env)(call round:Ad)(tm:T Value):M (T Value):=
 mv (T.get tm 4) fun v15=>
 M.bind (oS (some v15) fun a=>oS (some (.int .i64 0)) fun b=>Cl.get (aBin E .neq 29 (.tmp 15) (.const (.int .i64 0))) a b) fun v16=>
 setF 16 v16 tm fun tm1=>
 M.pure tm1
theorem HM_:RegEq 64 65 C9 NG VS:=⟨by kernel_rfl,fun _ _ _ _ _ _ _ _ _=>by kernel_rfl⟩
theorem AbU_:A6 Ml=some 16:=by kernel_rfl
def Fu_ (E:Env)(call round:Ad)(tm:T Value):M ((Rho×T Value)×List OpLog):=
 M.bind (apartO (oS (T.get tm 3) fun a=>M.pure a)) fun p0=>
 M.bind (apartO (oS (some p0.1) fun a=>oS (some (.int .i64 0)) fun b=>BN E 23 a b)) fun p1=>
 M.bind (apartO (oS (some p1.1) fun a=>AE E 5 a)) fun p2=>
 M.bind (apartO (oS (some p2.1) fun a=>BR E 5 3 a)) fun p3=>
 M.bind (apartO (oS (T.get tm 3) fun a=>M.pure a)) fun p4=>
 M.bind (apartO (oS (some p4.1) fun a=>oS (some (.int .i64 1)) fun b=>BN E 23 a b)) fun p5=>
 M.bind (apartO (oS (some p5.1) fun a=>AE E 5 a)) fun p6=>
 M.bind (apartO (oS (some p6.1) fun a=>BR E 5 3 a)) fun p7=>
 M.bind (apartO (oS (some p7.1) fun a=>oS (some (.int .u64 24)) fun b=>Cl.get (aBin E .shl 3 (.tmp 24) (.const (.int .u64 24))) a b)) fun p8=>
 M.bind (apartO (oS (T.get tm 3) fun a=>M.pure a)) fun p9=>
 M.bind (apartO (oS (some p9.1) fun a=>oS (some (.int .i64 2)) fun b=>BN E 23 a b)) fun p10=>
 M.bind (apartO (oS (some p10.1) fun a=>AE E 5 a)) fun p11=>
 M.bind (apartO (oS (some p11.1) fun a=>BR E 5 3 a)) fun p12=>
 M.bind (apartO (oS (some p12.1) fun a=>oS (some (.int .u64 16)) fun b=>Cl.get (aBin E .shl 3 (.tmp 29) (.const (.int .u64 16))) a b)) fun p13=>
 M.bind (apartO (oS (some p8.1) fun a=>oS (some p13.1) fun b=>Cl.get (aBin E .or 3 (.tmp 25) (.tmp 30)) a b)) fun p14=>
 M.bind (apartO (oS (T.get tm 3) fun a=>M.pure a)) fun p15=>
 M.bind (apartO (oS (some p15.1) fun a=>oS (some (.int .i64 3)) fun b=>BN E 23 a b)) fun p16=>
 M.bind (apartO (oS (some p16.1) fun a=>AE E 5 a)) fun p17=>
 M.bind (apartO (oS (some p17.1) fun a=>BR E 5 3 a)) fun p18=>
 M.bind (apartO (oS (some p18.1) fun a=>oS (some (.int .u64 8)) fun b=>Cl.get (aBin E .shl 3 (.tmp 35) (.const (.int .u64 8))) a b)) fun p19=>
 M.bind (apartO (oS (some p14.1) fun a=>oS (some p19.1) fun b=>Cl.get (aBin E .or 3 (.tmp 31) (.tmp 36)) a b)) fun p20=>
 M.bind (apartO (oS (T.get tm 3) fun a=>M.pure a)) fun p21=>
 M.bind (apartO (oS (some p21.1) fun a=>oS (some (.int .i64 4)) fun b=>BN E 23 a b)) fun p22=>
 M.bind (apartO (oS (some p22.1) fun a=>AE E 5 a)) fun p23=>
 M.bind (apartO (oS (some p23.1) fun a=>BR E 5 3 a)) fun p24=>
 M.bind (apartO (oS (some p20.1) fun a=>oS (some p24.1) fun b=>Cl.get (aBin E .or 3 (.tmp 37) (.tmp 41)) a b)) fun p25=>
 M.bind (apartO (oS (seqP [(0,(some p3.1)),(1,(some p25.1))]) fun ps=>Co E 90 ps)) fun p26=>
 M.bind (apartO (CL E 90)) fun p27=>
 setT 5 p27.1 tm fun tm1=>
 M.pure (([p27.1,p26.1,p25.1,p24.1,p23.1,p22.1,p21.1,p20.1,p19.1,p18.1,p17.1,p16.1,p15.1,p14.1,p13.1,p12.1,p11.1,p10.1,p9.1,p8.1,p7.1,p6.1,p5.1,p4.1,p3.1,p2.1,p1.1,p0.1],tm1),[p27.2,p26.2,p25.2,p24.2,p23.2,p22.2,p21.2,p20.2,p19.2,p18.2,p17.2,p16.2,p15.2,p14.2,p13.2,p12.2,p11.2,p10.2,p9.2,p8.2,p7.2,p6.2,p5.2,p4.2,p3.2,p2.2,p1.2,p0.2])
theorem VF_:DrawEq 64 65 C9 Fl [0,1,3,7,0,16,48,112,240,0,512,1536,3584,7680,16368,0,32768,98304,229376,491520,1048560,0,2097152,6291456,14680064,33554416,67108863,0,268435455] Fu_:=⟨by kernel_rfl,by kernel_rfl,fun _ _ _ _ _ _ _ _ _=>by kernel_rfl⟩
theorem Zp_ (E:Env)(call round:Ad)(x17 x18 x19 x20 x21 x22 x23 x24 x25 x26 x27 x28 x29 x30 x31 x32 x33 x34 x35 x36 x37 x38 x39 x40 x41 x42 x43 x5:Value)(tm:T Value)(s:St):Bo call round (BV E C9 65 (hdC Fl)) [x5,x43,x42,x41,x40,x39,x38,x37,x36,x35,x34,x33,x32,x31,x30,x29,x28,x27,x26,x25,x24,x23,x22,x21,x20,x19,x18,x17] tm s=(M.bind (oS (some x5) fun a=>oS (some x43) fun b=>BK E 90 a b) fun _=>M.pure tm) s:=by kernel_rfl
def XS (E:Env)(call round:Ad)(tm:T Value):M (T Value):=
 M.bind (oS (T.get tm 5) fun a=>kFld E 90 a 0) fun v44=>
 M.bind (oS (some v44) fun a=>AE E 3 a) fun v45=>
 M.bind (oS (some v45) fun a=>oS (some (.int .i64 1)) fun b=>Cl.get (aBin E .lss 3 (.tmp 45) (.const (.int .i64 1))) a b) fun v46=>
 mv (some v46) fun v47=>
 M.bind (M.chk (isK v47) (M.if (isB v47 false) (oS (T.get tm 5) fun a=>kFld E 90 a 0) (M.pure undef))) fun v48=>
 M.bind (M.chk (isK v47) (M.if (isB v47 false) (oS (some v48) fun a=>AE E 3 a) (M.pure undef))) fun v49=>
 M.bind (M.chk (isK v47) (M.if (isB v47 false) (oS (some v49) fun a=>oS (some (.int .i64 2)) fun b=>Cl.get (aBin E .gtr 3 (.tmp 49) (.const (.int .i64 2))) a b) (M.pure undef))) fun v50=>
 M.bind (M.on (some v47) fun a=>M.on (some (.bool true)) fun b=>M.on (some v50) fun c=>Bj a b c) fun v51=>
 mv (some v51) fun v52=>
 M.bind (M.chk (isK v52) (M.if (isB v52 false) (oS (T.get tm 5) fun a=>kFld E 90 a 1) (M.pure undef))) fun v53=>
 M.bind (M.chk (isK v52) (M.if (isB v52 false) (oS (some v53) fun a=>AE E 3 a) (M.pure undef))) fun v54=>
 M.bind (M.chk (isK v52) (M.if (isB v52 false) (oS (some v54) fun a=>oS (some (.int .i64 2147483647)) fun b=>Cl.get (aBin E .gtr 3 (.tmp 54) (.const (.int .i64 2147483647))) a b) (M.pure undef))) fun v55=>
 M.bind (M.on (some v52) fun a=>M.on (some (.bool true)) fun b=>M.on (some v55) fun c=>Bj a b c) fun v56=>
 mv (some v56) fun v57=>
 M.bind (M.chk (isK v57) (M.if (isB v57 false) (oS (T.get tm 0) fun a=>M.pure a) (M.pure undef))) fun v58=>
 M.bind (M.chk (isK v57) (M.if (isB v57 false) (oS (T.get tm 5) fun a=>AE E 90 a) (M.pure undef))) fun v59=>
 M.bind (M.chk (isK v57) (M.if (isB v57 false) (M.on (some v58) fun f=>M.on (seqO [(some v59)]) fun l=>AL call round f l) (M.pure undef))) fun v60=>
 M.bind (M.chk (isK v57) (M.if (isB v57 false) (oS (some v60) fun a=>kUn E.P .not a) (M.pure undef))) fun v61=>
 M.bind (M.on (some v57) fun a=>M.on (some (.bool true)) fun b=>M.on (some v61) fun c=>Bj a b c) fun v62=>
 setF 62 v62 tm fun tm1=>
 M.pure tm1
theorem NI_:RegEq 64 65 C9 LA XS:=⟨by kernel_rfl,fun _ _ _ _ _ _ _ _ _=>by kernel_rfl⟩
theorem HB_:A6 MV=some 62:=by kernel_rfl
def DN_ (E:Env)(call round:Ad)(tm:T Value):M (T Value):=
 M.bind (oS (T.get tm 1) fun a=>AE E 23 a) fun v63=>
 M.bind (M.on (some v63) fun a=>M.on (onO (some (.int .i64 9)) fun v=>some (some v)) fun b=>M.on (some none) fun c=>Cb E 23 a b c) fun v64=>
 M.bind (oS (T.get tm 1) fun a=>oS (some v64) fun b=>BK E 23 a b) fun _=>
 M.pure tm
theorem AeY_:RegEq 64 65 C9 Sz DN_:=⟨by kernel_rfl,fun _ _ _ _ _ _ _ _ _=>by kernel_rfl⟩
def H2:Nat:=A8 Tryz.f41
def Ee_:Code:=Tryz.f41.body.getD .skip
theorem So:envS.fn.get 41=some Tryz.f41:=by kernel_rfl
theorem Uf_ {a0 a1:Value}{n:Nat}{s:St}{Q:Value→St→Prop}(h: ∀tm,T.get tm 0=some a0→T.get tm 1=some a1→W (runF envS n ⟨41,13,H2,tm,[.code Ee_], .run, .normal,none⟩) (s.cxN cxN) fun p s1=>Q p.1 (s1.cxN s.cx)):W (Ay envS (runF envS n) 41 [a0,a1]) s Q:=
 W.call (by kernel_rfl) (by kernel_rfl) So (by kernel_rfl) rfl rfl (by simp) (h _ (by kernel_rfl) (by kernel_rfl))
theorem Zt:Tryz.f41.results.toList=[.tmp 4]:=by kernel_rfl
def TG:List Item:=skim 64 [.code Ee_]
def JD:List Item:=skim 64 TG.tail
theorem YU_:skim 64 TG.tail=JD:=by kernel_rfl
def F0:List Item:=skim 64 JD.tail
theorem Y2:skim 64 JD.tail=F0:=by kernel_rfl
def Js:List Item:=skim 64 (brT F0)
theorem AdD_:skim 64 (brT F0)=Js:=by kernel_rfl
def Lu:List Item:=skim 64 (brF F0)
theorem YJ_:skim 64 (brF F0)=Lu:=by kernel_rfl
def Si:List Item:=skim 64 Js.tail
theorem TE_:skim 64 Js.tail=Si:=by kernel_rfl
def Qd:List Item:=skim 64 Lu.tail
theorem MF_:skim 64 Lu.tail=Qd:=by kernel_rfl
def X2 (E:Env)(call round:Ad)(tm:T Value):M (T Value):=
 mv (some (.pointer none)) fun v4=>
 setF 4 v4 tm fun tm1=>
 M.pure tm1
theorem KX_:RegEq 41 13 H2 TG X2:=⟨by kernel_rfl,fun _ _ _ _ _ _ _ _ _=>by kernel_rfl⟩
def Y6 (E:Env)(call round:Ad)(tm:T Value):M (T Value):=
 mv (T.get tm 1) fun v5=>
 M.bind (oS (some v5) fun a=>oS (some (.int .i64 1)) fun b=>Cl.get (aBin E .eql 3 (.tmp 5) (.const (.int .i64 1))) a b) fun v6=>
 setF 6 v6 tm fun tm1=>
 M.pure tm1
theorem Qz_:RegEq 41 13 H2 JD Y6:=⟨by kernel_rfl,fun _ _ _ _ _ _ _ _ _=>by kernel_rfl⟩
theorem ZH:A6 F0=some 6:=by kernel_rfl
def DQ_ (E:Env)(call round:Ad)(tm:T Value):M (T Value):=
 mv (T.get tm 0) fun v7=>
 M.bind (oS (some v7) fun a=>kNil a) fun v8=>
 M.bind (oS (some v8) fun a=>kFld E 68 a 2) fun v9=>
 mv (some v9) fun v4=>
 setF 4 v4 tm fun tm1=>
 M.pure tm1
theorem Tk_:RegEq 41 13 H2 Js DQ_:=⟨by kernel_rfl,fun _ _ _ _ _ _ _ _ _=>by kernel_rfl⟩
def Ak_ (E:Env)(call round:Ad)(tm:T Value):M (T Value):=
 mv (T.get tm 0) fun v10=>
 M.bind (oS (some v10) fun a=>kNil a) fun v11=>
 M.bind (oS (some v11) fun a=>kFld E 68 a 3) fun v12=>
 mv (some v12) fun v4=>
 setF 4 v4 tm fun tm1=>
 M.pure tm1
theorem UJ_:RegEq 41 13 H2 Lu Ak_:=⟨by kernel_rfl,fun _ _ _ _ _ _ _ _ _=>by kernel_rfl⟩
theorem KQ_: ∃k,Si= .code .ret::k:=⟨Si.tail,by kernel_rfl⟩
theorem IP_: ∃k,Qd= .code .ret::k:=⟨Qd.tail,by kernel_rfl⟩
def CA:Nat:=A8 Tryz.f38
def Wo:Code:=Tryz.f38.body.getD .skip
theorem Q5:envS.fn.get 38=some Tryz.f38:=by kernel_rfl
theorem X0 {a0:Value}{n:Nat}{s:St}{Q:Value→St→Prop}(h: ∀tm,T.get tm 0=some a0→W (runF envS n ⟨38,47,CA,tm,[.code Wo], .run, .normal,none⟩) (s.cxN cxN) fun p s1=>Q p.1 (s1.cxN s.cx)):W (Ay envS (runF envS n) 38 [a0]) s Q:=
 W.call (by kernel_rfl) (by kernel_rfl) Q5 (by kernel_rfl) rfl rfl (by simp) (h _ (by kernel_rfl))
theorem Gb_:Tryz.f38.results.toList=[.tmp 2]:=by kernel_rfl
def S0:List Item:=skim 64 [.code Wo]
def Kk:List Item:=skim 64 S0.tail
theorem XB:skim 64 S0.tail=Kk:=by kernel_rfl
def JF:List Item:=skim 64 Kk.tail
theorem ZY:skim 64 Kk.tail=JF:=by kernel_rfl
def IL:List Item:=skim 64 JF.tail
theorem AW_:skim 64 JF.tail=IL:=by kernel_rfl
def Gk:List Item:=skim 64 IL.tail
theorem RD:skim 64 IL.tail=Gk:=by kernel_rfl
def Ku:List Item:=skim 64 (brT Gk)
theorem UQ_:skim 64 (brT Gk)=Ku:=by kernel_rfl
def JN:List Item:=skim 64 (brF Gk)
theorem Xf:skim 64 (brF Gk)=JN:=by kernel_rfl
def JO:List Item:=skim 64 Ku.tail
theorem Sm_:skim 64 Ku.tail=JO:=by kernel_rfl
def MS:List Item:=skim 64 JN.tail
theorem ZQ:skim 64 JN.tail=MS:=by kernel_rfl
def NF:List Item:=skim 64 JO.tail
theorem Pb_:skim 64 JO.tail=NF:=by kernel_rfl
def TB:List Item:=skim 64 MS.tail
theorem CI_:skim 64 MS.tail=TB:=by kernel_rfl
def Ly:List Item:=skim 64 NF.tail
theorem Adt_:skim 64 NF.tail=Ly:=by kernel_rfl
def H5:List Item:=skim 64 Ly.tail
theorem Tb_:skim 64 Ly.tail=H5:=by kernel_rfl
def Qj:List Item:=skim 64 (brT H5)
theorem Ly_:skim 64 (brT H5)=Qj:=by kernel_rfl
def O9:List Item:=skim 64 (brF H5)
theorem AaN_:skim 64 Qj.tail=O9:=by kernel_rfl
theorem Hu_:skim 64 O9.tail=IL:=by kernel_rfl
def OF (E:Env)(call round:Ad)(tm:T Value):M (T Value):=
 mv (some (.slice none 0 0)) fun v2=>
 setF 2 v2 tm fun tm1=>
 M.pure tm1
theorem YV:RegEq 38 47 CA S0 OF:=⟨by kernel_rfl,fun _ _ _ _ _ _ _ _ _=>by kernel_rfl⟩
def SD (E:Env)(call round:Ad)(tm:T Value):M (T Value):=
 mv (some (.slice none 0 0)) fun v3=>
 setF 3 v3 tm fun tm1=>
 M.pure tm1
theorem FJ_:RegEq 38 47 CA Kk SD:=⟨by kernel_rfl,fun _ _ _ _ _ _ _ _ _=>by kernel_rfl⟩
def TS (E:Env)(call round:Ad)(tm:T Value):M (T Value):=
 mv (T.get tm 0) fun v9=>
 M.bind (M.on (some (.func (.func 18) #[] #[])) fun f=>M.on (seqO [(some v9),(some (.string {data:= #[106,111,117,114,110,97,108,46]}))]) fun l=>AL call round f l) fun v10=>
 setF 10 v10 tm fun tm1=>
 M.bind (oS (seqO [(some v10)]) fun l=>A9 E .len [41] l) fun v11=>
 setF 11 v11 tm1 fun tm2=>
 mv (some (.int .i64 0)) fun v12=>
 setF 12 v12 tm2 fun tm3=>
 M.pure tm3
theorem W0:RegEq 38 47 CA JF TS:=⟨by kernel_rfl,fun _ _ _ _ _ _ _ _ _=>by kernel_rfl⟩
def Mg (E:Env)(call round:Ad)(tm:T Value):M (T Value):=
 M.bind (oS (T.get tm 12) fun a=>oS (T.get tm 11) fun b=>Cl.get (aBin E .lss 3 (.tmp 12) (.tmp 11)) a b) fun v13=>
 setF 13 v13 tm fun tm1=>
 M.pure tm1
theorem R5:RegEq 38 47 CA IL Mg:=⟨by kernel_rfl,fun _ _ _ _ _ _ _ _ _=>by kernel_rfl⟩
theorem RB:A6 Gk=some 13:=by kernel_rfl
def U5 (E:Env)(call round:Ad)(tm:T Value):M (T Value):=
 M.bind (oS (T.get tm 10) fun a=>oS (T.get tm 12) fun b=>BN E 41 a b) fun v14=>
 M.bind (oS (some v14) fun a=>AE E 9 a) fun v15=>
 mv (some v15) fun v5=>
 setF 5 v5 tm fun tm1=>
 M.pure tm1
theorem VV_:RegEq 38 47 CA Ku U5:=⟨by kernel_rfl,fun _ _ _ _ _ _ _ _ _=>by kernel_rfl⟩
def P0 (E:Env)(call round:Ad)(tm:T Value):M (T Value):=
 mv (T.get tm 3) fun v44=>
 M.bind (M.on (some (.func (.func 62) #[] #[])) fun f=>M.on (seqO [(some v44)]) fun l=>AL call round f l) fun v45=>
 M.pure tm
theorem YD:RegEq 38 47 CA JN P0:=⟨by kernel_rfl,fun _ _ _ _ _ _ _ _ _=>by kernel_rfl⟩
def Eg_ (E:Env)(call round:Ad)(tm:T Value):M (T Value):=
 mv (T.get tm 5) fun v16=>
 M.bind (M.on (some (.func (.func 60) #[] #[])) fun f=>M.on (seqO [(some v16),(some (.string {data:= #[106,111,117,114,110,97,108,46]}))]) fun l=>AL call round f l) fun v17=>
 mv (some v17) fun v6=>
 setF 6 v6 tm fun tm1=>
 M.pure tm1
theorem Mo_:RegEq 38 47 CA JO Eg_:=⟨by kernel_rfl,fun _ _ _ _ _ _ _ _ _=>by kernel_rfl⟩
def Rc (E:Env)(call round:Ad)(tm:T Value):M (T Value):=
 mv (T.get tm 3) fun v46=>
 mv (some v46) fun v2=>
 setF 2 v2 tm fun tm1=>
 M.pure tm1
theorem Ed_:RegEq 38 47 CA MS Rc:=⟨by kernel_rfl,fun _ _ _ _ _ _ _ _ _=>by kernel_rfl⟩
def Bk_ (E:Env)(call round:Ad)(tm:T Value):M (T Value):=
 mv (T.get tm 6) fun v19=>
 M.bind (M.on (some (.func (.func 61) #[] #[])) fun f=>M.on (seqO [(some v19)]) fun l=>AL call round f l) fun v20=>
 mv (some v20) fun v18=>
 M.bind (oS (some v18) fun a=>kExt 0 a) fun v21=>
 M.bind (oS (some v18) fun a=>kExt 1 a) fun v22=>
 mv (some v21) fun v7=>
 setF 7 v7 tm fun tm1=>
 mv (some v22) fun v8=>
 setF 8 v8 tm1 fun tm2=>
 M.pure tm2
theorem YO_:RegEq 38 47 CA NF Bk_:=⟨by kernel_rfl,fun _ _ _ _ _ _ _ _ _=>by kernel_rfl⟩
theorem XT: ∃k,TB= .code .ret::k:=⟨TB.tail,by kernel_rfl⟩
def YW (E:Env)(call round:Ad)(tm:T Value):M (T Value):=
 mv (T.get tm 8) fun v23=>
 M.bind (oS (some v23) fun a=>oS (some .nilIface) fun b=>Cl.get (aBin E .eql 108 (.tmp 23) (.const .nilIface)) a b) fun v24=>
 mv (some v24) fun v25=>
 M.bind (M.chk (isK v25) (M.if (isB v25 true) (oS (T.get tm 7) fun a=>M.pure a) (M.pure undef))) fun v26=>
 M.bind (M.chk (isK v25) (M.if (isB v25 true) (oS (some v26) fun a=>oS (some (.int .i64 1)) fun b=>Cl.get (aBin E .geq 3 (.tmp 26) (.const (.int .i64 1))) a b) (M.pure undef))) fun v27=>
 M.bind (M.on (some v25) fun a=>M.on (some v27) fun b=>M.on (some (.bool false)) fun c=>Bj a b c) fun v28=>
 mv (some v28) fun v29=>
 M.bind (M.chk (isK v29) (M.if (isB v29 true) (oS (T.get tm 7) fun a=>M.pure a) (M.pure undef))) fun v30=>
 M.bind (M.chk (isK v29) (M.if (isB v29 true) (oS (some v30) fun a=>oS (some (.int .i64 2147483647)) fun b=>Cl.get (aBin E .leq 3 (.tmp 30) (.const (.int .i64 2147483647))) a b) (M.pure undef))) fun v31=>
 M.bind (M.on (some v29) fun a=>M.on (some v31) fun b=>M.on (some (.bool false)) fun c=>Bj a b c) fun v32=>
 mv (some v32) fun v33=>
 M.bind (M.chk (isK v33) (M.if (isB v33 true) (oS (T.get tm 7) fun a=>M.pure a) (M.pure undef))) fun v34=>
 M.bind (M.chk (isK v33) (M.if (isB v33 true) (M.on (some (.func (.func 39) #[] #[])) fun f=>M.on (seqO [(some v34)]) fun l=>AL call round f l) (M.pure undef))) fun v35=>
 M.bind (M.chk (isK v33) (M.if (isB v33 true) (oS (T.get tm 6) fun a=>M.pure a) (M.pure undef))) fun v36=>
 M.bind (M.chk (isK v33) (M.if (isB v33 true) (oS (some v35) fun a=>oS (some v36) fun b=>Cl.get (aBin E .eql 9 (.tmp 35) (.tmp 36)) a b) (M.pure undef))) fun v37=>
 M.bind (M.on (some v33) fun a=>M.on (some v37) fun b=>M.on (some (.bool false)) fun c=>Bj a b c) fun v38=>
 setF 38 v38 tm fun tm1=>
 M.pure tm1
theorem HD_:RegEq 38 47 CA Ly YW:=⟨by kernel_rfl,fun _ _ _ _ _ _ _ _ _=>by kernel_rfl⟩
theorem Tq_:A6 H5=some 38:=by kernel_rfl
def Gj_ (E:Env)(call round:Ad)(tm:T Value):M (T Value):=
 mv (T.get tm 3) fun v39=>
 mv (T.get tm 7) fun v40=>
 M.bind (oS (seqP [(0,(some v40))]) fun ps=>Cp E 63 1 ps) fun v41=>
 M.bind (oS (seqO [(some v39),(some v41)]) fun l=>A9 E .append [63,63] l) fun v42=>
 mv (some v42) fun v3=>
 setF 3 v3 tm fun tm1=>
 M.pure tm1
theorem YP_:RegEq 38 47 CA Qj Gj_:=⟨by kernel_rfl,fun _ _ _ _ _ _ _ _ _=>by kernel_rfl⟩
def V5 (E:Env)(call round:Ad)(tm:T Value):M (T Value):=
 M.bind (oS (T.get tm 12) fun a=>oS (some (.int .i64 1)) fun b=>Cl.get (aBin E .add 3 (.tmp 12) (.const (.int .i64 1))) a b) fun v43=>
 mv (some v43) fun v12=>
 setF 12 v12 tm fun tm1=>
 M.pure tm1
theorem Nf_:RegEq 38 47 CA O9 V5:=⟨by kernel_rfl,fun _ _ _ _ _ _ _ _ _=>by kernel_rfl⟩
def Bi:Nat:=A8 Tryz.f13
abbrev DN:Nat:=110
def Ws:Code:=Tryz.f13.body.getD .skip
theorem FU_:envS.fn.get 13=some Tryz.f13:=by kernel_rfl
theorem Up_ {a0:Value}{n:Nat}{s:St}{Q:Value→St→Prop}(h: ∀tm,T.get tm 0=some a0→W (runF envS n ⟨13,110,Bi,tm,[.code Ws], .run, .normal,none⟩) (s.cxN cxN) fun p s1=>Q p.1 (s1.cxN s.cx)):W (Ay envS (runF envS n) 13 [a0]) s Q:=
 W.call (by kernel_rfl) (by kernel_rfl) FU_ (by kernel_rfl) rfl rfl (by simp) (h _ (by kernel_rfl))
theorem RW_:Tryz.f13.results.toList=[.tmp 2, .tmp 3]:=by kernel_rfl
def Ro:List Item:=skim 64 [.code Ws]
def JK:List Item:=skim 64 Ro.tail
theorem LC_:skim 64 Ro.tail=JK:=by kernel_rfl
def Nb:List Item:=skim 64 JK.tail
theorem Aak_:skim 64 JK.tail=Nb:=by kernel_rfl
def Oi:List Item:=skim 64 Nb.tail
theorem UO_:skim 64 Nb.tail=Oi:=by kernel_rfl
def Ot:List Item:=skim 64 (brF Oi)
theorem Adm_:skim 64 (brF Oi)=Ot:=by kernel_rfl
def N4:List Item:=skim 64 Ot.tail
theorem XH_:skim 64 Ot.tail=N4:=by kernel_rfl
def JR:List Item:=skim 64 N4.tail
theorem Sr_:skim 64 N4.tail=JR:=by kernel_rfl
def LG:List Item:=skim 64 JR.tail
theorem Zo_:skim 64 JR.tail=LG:=by kernel_rfl
def GM:List Item:=skim 64 LG.tail
theorem Aep_:skim 64 LG.tail=GM:=by kernel_rfl
def FS:List Item:=skim 64 GM.tail
theorem YE:skim 64 GM.tail=FS:=by kernel_rfl
def Lj:List Item:=skim 64 (brT FS)
theorem YC_:skim 64 (brT FS)=Lj:=by kernel_rfl
def GS:List Item:=skim 64 (brF FS)
theorem LP_:skim 64 (brF FS)=GS:=by kernel_rfl
def MA:List Item:=skim 64 Lj.tail
theorem Va_:skim 64 Lj.tail=MA:=by kernel_rfl
def J1:List Item:=skim 64 GS.tail
theorem UE_:skim 64 GS.tail=J1:=by kernel_rfl
def MZ:List Item:=skim 64 MA.tail
theorem Sy_:skim 64 MA.tail=MZ:=by kernel_rfl
def IK:List Item:=skim 64 (brF J1)
theorem JD_:skim 64 (brF J1)=IK:=by kernel_rfl
def KX:List Item:=skim 64 MZ.tail
theorem TW_:skim 64 MZ.tail=KX:=by kernel_rfl
def Fz:List Item:=skim 64 IK.tail
theorem MU_:skim 64 IK.tail=Fz:=by kernel_rfl
def Nh:List Item:=skim 64 (brF KX)
theorem Ih_:skim 64 (brF KX)=Nh:=by kernel_rfl
def Ij:List Item:=skim 64 Fz.tail
theorem Acf_:skim 64 Fz.tail=Ij:=by kernel_rfl
def Dz:List Item:=skim 64 Nh.tail
theorem Wp_:skim 64 Nh.tail=Dz:=by kernel_rfl
def Gz:List Item:=skim 64 Ij.tail
theorem X9:skim 64 Ij.tail=Gz:=by kernel_rfl
def Lc:Code:=asC Dz
def Nl:Code:=bdC Dz
theorem Acr_:rfP Dz=some (50,[51],Lc,Nl):=by kernel_rfl
theorem Se_:Tt Dz=[.code Lc, .beginRound, .code Nl]:=by kernel_rfl
def Lo:List Item:=skim 64 Dz.tail
theorem TJ_:skim 64 Dz.tail=Lo:=by kernel_rfl
def Ir:List Item:=skim 64 (Tt Dz)
theorem ZD_:skim 64 (Tt Dz)=Ir:=by kernel_rfl
def Jx:List Item:=skim 64 (brT Gz)
theorem Id_:skim 64 (brT Gz)=Jx:=by kernel_rfl
def Ny:List Item:=skim 64 (brF Gz)
theorem NW_:skim 64 (brF Gz)=Ny:=by kernel_rfl
def Q2:List Item:=skim 64 Lo.tail
theorem Abs_:skim 64 Lo.tail=Q2:=by kernel_rfl
def HA:List Item:=skim 64 Ir.tail
theorem JO_:skim 64 Ir.tail=HA:=by kernel_rfl
def JS:List Item:=skim 64 Jx.tail
theorem SL_:skim 64 Jx.tail=JS:=by kernel_rfl
def Gt:List Item:=skim 64 Ny.tail
theorem Yz_:skim 64 Ny.tail=Gt:=by kernel_rfl
theorem AeF_:skim 64 Q2.tail=GM:=by kernel_rfl
def Kb:List Item:=skim 64 HA.tail
theorem Aey_:skim 64 HA.tail=Kb:=by kernel_rfl
def F9:List Item:=skim 64 Gt.tail
theorem DG_:skim 64 Gt.tail=F9:=by kernel_rfl
def H3:List Item:=skim 64 Kb.tail
theorem Tn_:skim 64 Kb.tail=H3:=by kernel_rfl
def N7:List Item:=skim 64 (brT F9)
theorem Yl_:skim 64 (brT F9)=N7:=by kernel_rfl
def Kf:List Item:=skim 64 (brF F9)
theorem Rt_:skim 64 (brF F9)=Kf:=by kernel_rfl
def Vl:List Item:=skim 64 H3.tail
theorem SF_:skim 64 H3.tail=Vl:=by kernel_rfl
def Md:List Item:=skim 64 N7.tail
theorem KL_:skim 64 N7.tail=Md:=by kernel_rfl
def JE:List Item:=skim 64 Kf.tail
theorem AaV_:skim 64 Kf.tail=JE:=by kernel_rfl
def J8:List Item:=skim 64 Md.tail
theorem Wq:skim 64 Md.tail=J8:=by kernel_rfl
def Hl:List Item:=skim 64 J8.tail
theorem Do_:skim 64 J8.tail=Hl:=by kernel_rfl
def NO:List Item:=skim 64 (brT Hl)
theorem AbZ_:skim 64 (brT Hl)=NO:=by kernel_rfl
def SR:List Item:=skim 64 (brF Hl)
theorem KK_:skim 64 (brF Hl)=SR:=by kernel_rfl
def NP:List Item:=skim 64 NO.tail
theorem Un_:skim 64 NO.tail=NP:=by kernel_rfl
theorem YK_:skim 64 SR.tail=Gt:=by kernel_rfl
def Bz_ (E:Env)(call round:Ad)(tm:T Value):M (T Value):=
 mv (some (.pointer none)) fun v2=>
 setF 2 v2 tm fun tm1=>
 mv (some (.int .i64 0)) fun v3=>
 setF 3 v3 tm1 fun tm2=>
 M.pure tm2
theorem LN_:RegEq 13 110 Bi Ro Bz_:=⟨by kernel_rfl,fun _ _ _ _ _ _ _ _ _=>by kernel_rfl⟩
def BA_ (E:Env)(call round:Ad)(tm:T Value):M (T Value):=
 mv (T.get tm 0) fun v20=>
 M.bind (M.on (some (.func (.func 21) #[] #[])) fun f=>M.on (seqO [(some v20),(some (.string {data:= #[]}))]) fun l=>AL call round f l) fun v21=>
 mv (some v21) fun v19=>
 M.bind (oS (some v19) fun a=>kExt 0 a) fun v22=>
 M.bind (oS (some v19) fun a=>kExt 1 a) fun v23=>
 mv (some v22) fun v4=>
 mv (some v23) fun v5=>
 setF 5 v5 tm fun tm1=>
 M.pure tm1
theorem Aal_:RegEq 13 110 Bi JK BA_:=⟨by kernel_rfl,fun _ _ _ _ _ _ _ _ _=>by kernel_rfl⟩
def DO_ (E:Env)(call round:Ad)(tm:T Value):M (T Value):=
 mv (T.get tm 5) fun v24=>
 M.bind (oS (some v24) fun a=>oS (some (.int .i64 1)) fun b=>Cl.get (aBin E .eql 29 (.tmp 24) (.const (.int .i64 1))) a b) fun v25=>
 setF 25 v25 tm fun tm1=>
 M.pure tm1
theorem Acb_:RegEq 13 110 Bi Nb DO_:=⟨by kernel_rfl,fun _ _ _ _ _ _ _ _ _=>by kernel_rfl⟩
theorem Vo_:A6 Oi=some 25:=by kernel_rfl
def DT_ (E:Env)(call round:Ad)(tm:T Value):M (T Value):=
 mv (T.get tm 0) fun v27=>
 M.bind (oS (seqP [(0,(some v27))]) fun ps=>Co E 68 ps) fun v28=>
 M.bind (oS (some v28) fun a=>kBox a) fun v29=>
 M.bind (CL E 26) fun v6=>
 setF 6 v6 tm fun tm1=>
 M.bind (oS (some v6) fun a=>oS (some v29) fun b=>BK E 26 a b) fun _=>
 M.pure tm1
theorem Ix_:RegEq 13 110 Bi Ot DT_:=⟨by kernel_rfl,fun _ _ _ _ _ _ _ _ _=>by kernel_rfl⟩
def Az_ (E:Env)(call round:Ad)(tm:T Value):M (T Value):=
 mv (T.get tm 0) fun v30=>
 M.bind (M.on (some (.func (.func 38) #[] #[])) fun f=>M.on (seqO [(some v30)]) fun l=>AL call round f l) fun v31=>
 mv (some v31) fun v7=>
 setF 7 v7 tm fun tm1=>
 M.pure tm1
theorem LR_:RegEq 13 110 Bi N4 Az_:=⟨by kernel_rfl,fun _ _ _ _ _ _ _ _ _=>by kernel_rfl⟩
def VL (E:Env)(call round:Ad)(tm:T Value):M (T Value):=
 mv (some (.int .i64 1)) fun v8=>
 setF 8 v8 tm fun tm1=>
 M.pure tm1
theorem Act_:RegEq 13 110 Bi JR VL:=⟨by kernel_rfl,fun _ _ _ _ _ _ _ _ _=>by kernel_rfl⟩
def Fg_ (E:Env)(call round:Ad)(tm:T Value):M (T Value):=
 mv (T.get tm 7) fun v32=>
 setF 32 v32 tm fun tm1=>
 M.bind (oS (seqO [(some v32)]) fun l=>A9 E .len [63] l) fun v33=>
 setF 33 v33 tm1 fun tm2=>
 mv (some (.int .i64 0)) fun v34=>
 setF 34 v34 tm2 fun tm3=>
 M.pure tm3
theorem Xb_:RegEq 13 110 Bi LG Fg_:=⟨by kernel_rfl,fun _ _ _ _ _ _ _ _ _=>by kernel_rfl⟩
def RA (E:Env)(call round:Ad)(tm:T Value):M (T Value):=
 M.bind (oS (T.get tm 34) fun a=>oS (T.get tm 33) fun b=>Cl.get (aBin E .lss 3 (.tmp 34) (.tmp 33)) a b) fun v35=>
 setF 35 v35 tm fun tm1=>
 M.pure tm1
theorem Bb_:RegEq 13 110 Bi GM RA:=⟨by kernel_rfl,fun _ _ _ _ _ _ _ _ _=>by kernel_rfl⟩
theorem Cy_:A6 FS=some 35:=by kernel_rfl
def VM (E:Env)(call round:Ad)(tm:T Value):M (T Value):=
 M.bind (oS (T.get tm 32) fun a=>oS (T.get tm 34) fun b=>BN E 63 a b) fun v36=>
 M.bind (oS (some v36) fun a=>AE E 3 a) fun v37=>
 mv (some v37) fun v10=>
 setF 10 v10 tm fun tm1=>
 M.pure tm1
theorem Adu_:RegEq 13 110 Bi Lj VM:=⟨by kernel_rfl,fun _ _ _ _ _ _ _ _ _=>by kernel_rfl⟩
def BE_ (E:Env)(call round:Ad)(tm:T Value):M (T Value):=
 mv (T.get tm 8) fun v67=>
 M.bind (oS (some v67) fun a=>oS (some (.int .i64 2147483647)) fun b=>Cl.get (aBin E .gtr 3 (.tmp 67) (.const (.int .i64 2147483647))) a b) fun v68=>
 setF 68 v68 tm fun tm1=>
 M.pure tm1
theorem PL_:RegEq 13 110 Bi GS BE_:=⟨by kernel_rfl,fun _ _ _ _ _ _ _ _ _=>by kernel_rfl⟩
def ZC (E:Env)(call round:Ad)(tm:T Value):M (T Value):=
 mv (T.get tm 0) fun v39=>
 mv (T.get tm 10) fun v40=>
 M.bind (M.on (some (.func (.func 39) #[] #[])) fun f=>M.on (seqO [(some v40)]) fun l=>AL call round f l) fun v41=>
 M.bind (oS (some (.string {data:= #[106,111,117,114,110,97,108,46]})) fun a=>oS (some v41) fun b=>Cl.get (aBin E .add 9 (.const (.string {data:= #[106,111,117,114,110,97,108,46]})) (.tmp 41)) a b) fun v42=>
 M.bind (M.on (some (.func (.func 21) #[] #[])) fun f=>M.on (seqO [(some v39),(some v42)]) fun l=>AL call round f l) fun v43=>
 mv (some v43) fun v38=>
 M.bind (oS (some v38) fun a=>kExt 0 a) fun v44=>
 M.bind (oS (some v38) fun a=>kExt 1 a) fun v45=>
 mv (some v44) fun v11=>
 setF 11 v11 tm fun tm1=>
 mv (some v45) fun v12=>
 setF 12 v12 tm1 fun tm2=>
 M.pure tm2
theorem MP_:RegEq 13 110 Bi MA ZC:=⟨by kernel_rfl,fun _ _ _ _ _ _ _ _ _=>by kernel_rfl⟩
theorem Vp_:A6 J1=some 68:=by kernel_rfl
def Ci_ (E:Env)(call round:Ad)(tm:T Value):M (T Value):=
 mv (T.get tm 12) fun v46=>
 M.bind (oS (some v46) fun a=>oS (some (.int .i64 0)) fun b=>Cl.get (aBin E .neq 29 (.tmp 46) (.const (.int .i64 0))) a b) fun v47=>
 setF 47 v47 tm fun tm1=>
 M.pure tm1
theorem Jq_:RegEq 13 110 Bi MZ Ci_:=⟨by kernel_rfl,fun _ _ _ _ _ _ _ _ _=>by kernel_rfl⟩
def Xm (E:Env)(call round:Ad)(tm:T Value):M ((Rho×T Value)×List OpLog):=
 M.bind (apartO (oS (T.get tm 6) fun a=>AE E 26 a)) fun p0=>
 M.bind (apartO (oS (T.get tm 8) fun a=>M.pure a)) fun p1=>
 M.bind (apartO (M.on (some (.func (.func 39) #[] #[])) fun f=>M.on (seqO [(some p1.1)]) fun l=>AL call round f l)) fun p2=>
 M.bind (apartO (oS (some (.string {data:= #[106,111,117,114,110,97,108,46]})) fun a=>oS (some p2.1) fun b=>Cl.get (aBin E .add 9 (.const (.string {data:= #[106,111,117,114,110,97,108,46]})) (.tmp 71)) a b)) fun p3=>
 M.bind (apartO (oS (some p0.1) fun a=>kNil a)) fun p4=>
 M.bind (apartO (oS (some p4.1) fun a=>kFld E 68 a 1)) fun p5=>
 M.pure (([p5.1,p4.1,p3.1,p2.1,p1.1,p0.1],tm),[p5.2,p4.2,p3.2,p2.2,p1.2,p0.2])
theorem Ju_:DrawEq 13 110 Bi IK [0,0,2,6,15,31,63] Xm:=⟨by kernel_rfl,by kernel_rfl,fun _ _ _ _ _ _ _ _ _=>by kernel_rfl⟩
theorem Wm_ (E:Env)(call round:Ad)(x69 x70 x71 x72 x73 x74:Value)(tm:T Value)(s:St):Bo call round (BV E Bi 110 (hdC IK)) [x74,x73,x72,x71,x70,x69] tm s=(M.bind (oS (some x74) fun a=>oS (some x72) fun b=>BK E 9 a b) fun _=>M.pure tm) s:=by kernel_rfl
theorem MT_:A6 KX=some 47:=by kernel_rfl
def Zl (E:Env)(call round:Ad)(tm:T Value):M ((Rho×T Value)×List OpLog):=
 M.bind (apartO (oS (T.get tm 6) fun a=>AE E 26 a)) fun p0=>
 M.bind (apartO (oS (T.get tm 6) fun a=>AE E 26 a)) fun p1=>
 M.bind (apartO (oS (some p1.1) fun a=>kNil a)) fun p2=>
 M.bind (apartO (oS (some p2.1) fun a=>kFld E 68 a 2)) fun p3=>
 M.bind (apartO (oS (some p3.1) fun a=>AE E 3 a)) fun p4=>
 M.bind (apartO (oS (seqP [(0,(some (.int .i64 1))),(1,(some p4.1))]) fun ps=>Co E 90 ps)) fun p5=>
 M.bind (apartO (M.on (some (.func (.func 44) #[] #[])) fun f=>M.on (seqO [(some p5.1)]) fun l=>AL call round f l)) fun p6=>
 M.bind (apartO (oS (T.get tm 6) fun a=>AE E 26 a)) fun p7=>
 M.bind (apartO (oS (some p7.1) fun a=>kNil a)) fun p8=>
 M.bind (apartO (oS (some p8.1) fun a=>kFld E 68 a 3)) fun p9=>
 M.bind (apartO (oS (some p9.1) fun a=>AE E 3 a)) fun p10=>
 M.bind (apartO (oS (seqP [(0,(some (.int .i64 2))),(1,(some p10.1))]) fun ps=>Co E 90 ps)) fun p11=>
 M.bind (apartO (M.on (some (.func (.func 44) #[] #[])) fun f=>M.on (seqO [(some p11.1)]) fun l=>AL call round f l)) fun p12=>
 M.bind (apartO (oS (seqP [(0,(some p6.1)),(1,(some p12.1))]) fun ps=>Cp E 114 2 ps)) fun p13=>
 M.bind (apartO (M.on (some (.func (.func 43) #[] #[])) fun f=>M.on (seqO [(some p13.1)]) fun l=>AL call round f l)) fun p14=>
 M.bind (apartO (M.on (some (.func (.func 42) #[] #[])) fun f=>M.on (seqO [(some p0.1),(some p14.1)]) fun l=>AL call round f l)) fun p15=>
 M.pure (([p15.1,p14.1,p13.1,p12.1,p11.1,p10.1,p9.1,p8.1,p7.1,p6.1,p5.1,p4.1,p3.1,p2.1,p1.1,p0.1],tm),[p15.2,p14.2,p13.2,p12.2,p11.2,p10.2,p9.2,p8.2,p7.2,p6.2,p5.2,p4.2,p3.2,p2.2,p1.2,p0.2])
theorem Mg_:DrawEq 13 110 Bi Fz [0,0,2,6,14,30,62,0,128,384,896,1920,4094,8190,16382,32767,65535] Zl:=⟨by kernel_rfl,by kernel_rfl,fun _ _ _ _ _ _ _ _ _=>by kernel_rfl⟩
theorem HK_ (E:Env)(call round:Ad)(x75 x76 x77 x78 x79 x80 x81 x82 x83 x84 x85 x86 x87 x88 x89 x90:Value)(tm:T Value)(s:St):Bo call round (BV E Bi 110 (hdC Fz)) [x90,x89,x88,x87,x86,x85,x84,x83,x82,x81,x80,x79,x78,x77,x76,x75] tm s=(M.bind (oS (some x90) fun a=>M.pure a) fun v15=>setT 15 v15 tm fun tm1=>M.pure tm1) s:=by kernel_rfl
def WN (E:Env)(call round:Ad)(tm:T Value):M (T Value):=
 mv (T.get tm 11) fun v49=>
 M.bind (M.on (some (.func (.func 40) #[] #[])) fun f=>M.on (seqO [(some v49)]) fun l=>AL call round f l) fun v50=>
 setF 50 v50 tm fun tm1=>
 M.pure tm1
theorem NR_:RegEq 13 110 Bi Nh WN:=⟨by kernel_rfl,fun _ _ _ _ _ _ _ _ _=>by kernel_rfl⟩
def QZ (E:Env)(call round:Ad)(tm:T Value):M (T Value):=
 mv (T.get tm 15) fun v91=>
 M.bind (oS (some v91) fun a=>oS (some (.int .i64 0)) fun b=>Cl.get (aBin E .neq 29 (.tmp 91) (.const (.int .i64 0))) a b) fun v92=>
 setF 92 v92 tm fun tm1=>
 M.pure tm1
theorem Vn_:RegEq 13 110 Bi Ij QZ:=⟨by kernel_rfl,fun _ _ _ _ _ _ _ _ _=>by kernel_rfl⟩
theorem Yx:A6 Gz=some 92:=by kernel_rfl
def Fy_ (E:Env)(call round:Ad)(tm:T Value):M (T Value):=
 mv (T.get tm 10) fun v64=>
 M.bind (oS (some v64) fun a=>oS (some (.int .i64 1)) fun b=>Cl.get (aBin E .add 3 (.tmp 64) (.const (.int .i64 1))) a b) fun v65=>
 mv (some v65) fun v8=>
 setF 8 v8 tm fun tm1=>
 M.pure tm1
theorem RB_:RegEq 13 110 Bi Lo Fy_:=⟨by kernel_rfl,fun _ _ _ _ _ _ _ _ _=>by kernel_rfl⟩
def W3 (E:Env)(call round:Ad)(tm:T Value):M (T Value):=
 M.bind (CL E 90) fun v13=>
 setF 13 v13 tm fun tm1=>
 M.bind (oS (some v13) fun a=>oS (T.get tm1 51) fun b=>BK E 90 a b) fun _=>
 M.pure tm1
theorem Uu_:RegEq 13 110 Bi Ir W3:=⟨by kernel_rfl,fun _ _ _ _ _ _ _ _ _=>by kernel_rfl⟩
def Di_ (E:Env)(call round:Ad)(tm:T Value):M (T Value):=
 mv (T.get tm 15) fun v93=>
 mv (some (.pointer none)) fun v2=>
 setF 2 v2 tm fun tm1=>
 mv (some v93) fun v3=>
 setF 3 v3 tm1 fun tm2=>
 M.pure tm2
theorem Wa_:RegEq 13 110 Bi Jx Di_:=⟨by kernel_rfl,fun _ _ _ _ _ _ _ _ _=>by kernel_rfl⟩
def Xj (E:Env)(call round:Ad)(tm:T Value):M (T Value):=
 mv (T.get tm 7) fun v94=>
 setF 94 v94 tm fun tm1=>
 M.bind (oS (seqO [(some v94)]) fun l=>A9 E .len [63] l) fun v95=>
 setF 95 v95 tm1 fun tm2=>
 mv (some (.int .i64 0)) fun v96=>
 setF 96 v96 tm2 fun tm3=>
 M.pure tm3
theorem Iy_:RegEq 13 110 Bi Ny Xj:=⟨by kernel_rfl,fun _ _ _ _ _ _ _ _ _=>by kernel_rfl⟩
def Va (E:Env)(call round:Ad)(tm:T Value):M (T Value):=
 M.bind (oS (T.get tm 34) fun a=>oS (some (.int .i64 1)) fun b=>Cl.get (aBin E .add 3 (.tmp 34) (.const (.int .i64 1))) a b) fun v66=>
 mv (some v66) fun v34=>
 setF 34 v34 tm fun tm1=>
 M.pure tm1
theorem OC_:RegEq 13 110 Bi Q2 Va:=⟨by kernel_rfl,fun _ _ _ _ _ _ _ _ _=>by kernel_rfl⟩
theorem GW_:HA= .beginRound::HA.tail:=by kernel_rfl
theorem Rg_: ∃k,JS= .code .ret::k:=⟨JS.tail,by kernel_rfl⟩
def PP (E:Env)(call round:Ad)(tm:T Value):M (T Value):=
 M.bind (oS (T.get tm 96) fun a=>oS (T.get tm 95) fun b=>Cl.get (aBin E .lss 3 (.tmp 96) (.tmp 95)) a b) fun v97=>
 setF 97 v97 tm fun tm1=>
 M.pure tm1
theorem Yt:RegEq 13 110 Bi Gt PP:=⟨by kernel_rfl,fun _ _ _ _ _ _ _ _ _=>by kernel_rfl⟩
def Ve (E:Env)(call round:Ad)(tm:T Value):M (T Value):=
 M.bind (oS (T.get tm 6) fun a=>AE E 26 a) fun v52=>
 M.bind (oS (T.get tm 13) fun a=>kFld E 90 a 0) fun v53=>
 M.bind (oS (some v53) fun a=>AE E 3 a) fun v54=>
 M.bind (M.on (some (.func (.func 41) #[] #[])) fun f=>M.on (seqO [(some v52),(some v54)]) fun l=>AL call round f l) fun v55=>
 mv (some v55) fun v14=>
 setF 14 v14 tm fun tm1=>
 M.pure tm1
theorem Kq_:RegEq 13 110 Bi Kb Ve:=⟨by kernel_rfl,fun _ _ _ _ _ _ _ _ _=>by kernel_rfl⟩
theorem Wh:A6 F9=some 97:=by kernel_rfl
def XQ (E:Env)(call round:Ad)(tm:T Value):M ((Rho×T Value)×List OpLog):=
 M.bind (apartO (oS (T.get tm 14) fun a=>M.pure a)) fun p0=>
 M.bind (apartO (oS (T.get tm 14) fun a=>M.pure a)) fun p1=>
 M.bind (apartO (oS (some p1.1) fun a=>kNil a)) fun p2=>
 M.bind (apartO (oS (some p2.1) fun a=>AE E 3 a)) fun p3=>
 M.bind (apartO (oS (T.get tm 13) fun a=>kFld E 90 a 1)) fun p4=>
 M.bind (apartO (oS (some p4.1) fun a=>AE E 3 a)) fun p5=>
 M.bind (apartO (oS (seqO [(some p3.1),(some p5.1)]) fun l=>A9 E .max [3,3] l)) fun p6=>
 M.bind (apartO (oS (some p0.1) fun a=>kNil a)) fun p7=>
 M.pure (([p7.1,p6.1,p5.1,p4.1,p3.1,p2.1,p1.1,p0.1],tm),[p7.2,p6.2,p5.2,p4.2,p3.2,p2.2,p1.2,p0.2])
theorem Ja_:DrawEq 13 110 Bi H3 [0,0,2,6,0,16,62,127,255] XQ:=⟨by kernel_rfl,by kernel_rfl,fun _ _ _ _ _ _ _ _ _=>by kernel_rfl⟩
theorem Aee_ (E:Env)(call round:Ad)(x56 x57 x58 x59 x60 x61 x62 x63:Value)(tm:T Value)(s:St):Bo call round (BV E Bi 110 (hdC H3)) [x63,x62,x61,x60,x59,x58,x57,x56] tm s=(M.bind (oS (some x63) fun a=>oS (some x62) fun b=>BK E 3 a b) fun _=>M.pure tm) s:=by kernel_rfl
def Y1 (E:Env)(call round:Ad)(tm:T Value):M (T Value):=
 M.bind (oS (T.get tm 94) fun a=>oS (T.get tm 96) fun b=>BN E 63 a b) fun v98=>
 M.bind (oS (some v98) fun a=>AE E 3 a) fun v99=>
 mv (some v99) fun v17=>
 setF 17 v17 tm fun tm1=>
 M.pure tm1
theorem Afi_:RegEq 13 110 Bi N7 Y1:=⟨by kernel_rfl,fun _ _ _ _ _ _ _ _ _=>by kernel_rfl⟩
def Cr_ (E:Env)(call round:Ad)(tm:T Value):M (T Value):=
 M.bind (oS (T.get tm 6) fun a=>AE E 26 a) fun v109=>
 mv (some v109) fun v2=>
 setF 2 v2 tm fun tm1=>
 mv (some (.int .i64 0)) fun v3=>
 setF 3 v3 tm1 fun tm2=>
 M.pure tm2
theorem Adb_:RegEq 13 110 Bi Kf Cr_:=⟨by kernel_rfl,fun _ _ _ _ _ _ _ _ _=>by kernel_rfl⟩
def Dc_ (E:Env)(call round:Ad)(tm:T Value):M (T Value):=
 mv (T.get tm 0) fun v100=>
 mv (T.get tm 17) fun v101=>
 M.bind (M.on (some (.func (.func 39) #[] #[])) fun f=>M.on (seqO [(some v101)]) fun l=>AL call round f l) fun v102=>
 M.bind (oS (some (.string {data:= #[106,111,117,114,110,97,108,46]})) fun a=>oS (some v102) fun b=>Cl.get (aBin E .add 9 (.const (.string {data:= #[106,111,117,114,110,97,108,46]})) (.tmp 102)) a b) fun v103=>
 M.bind (M.on (some (.func (.func 45) #[] #[])) fun f=>M.on (seqO [(some v100),(some v103)]) fun l=>AL call round f l) fun v104=>
 mv (some v104) fun v18=>
 setF 18 v18 tm fun tm1=>
 M.pure tm1
theorem Ri_:RegEq 13 110 Bi Md Dc_:=⟨by kernel_rfl,fun _ _ _ _ _ _ _ _ _=>by kernel_rfl⟩
theorem Mi_: ∃k,JE= .code .ret::k:=⟨JE.tail,by kernel_rfl⟩
def SP (E:Env)(call round:Ad)(tm:T Value):M (T Value):=
 mv (T.get tm 18) fun v105=>
 M.bind (oS (some v105) fun a=>oS (some (.int .i64 0)) fun b=>Cl.get (aBin E .neq 29 (.tmp 105) (.const (.int .i64 0))) a b) fun v106=>
 setF 106 v106 tm fun tm1=>
 M.pure tm1
theorem VH:RegEq 13 110 Bi J8 SP:=⟨by kernel_rfl,fun _ _ _ _ _ _ _ _ _=>by kernel_rfl⟩
theorem W7:A6 Hl=some 106:=by kernel_rfl
def Ap_ (E:Env)(call round:Ad)(tm:T Value):M (T Value):=
 mv (T.get tm 18) fun v107=>
 mv (some (.pointer none)) fun v2=>
 setF 2 v2 tm fun tm1=>
 mv (some v107) fun v3=>
 setF 3 v3 tm1 fun tm2=>
 M.pure tm2
theorem IH_:RegEq 13 110 Bi NO Ap_:=⟨by kernel_rfl,fun _ _ _ _ _ _ _ _ _=>by kernel_rfl⟩
def DH_ (E:Env)(call round:Ad)(tm:T Value):M (T Value):=
 M.bind (oS (T.get tm 96) fun a=>oS (some (.int .i64 1)) fun b=>Cl.get (aBin E .add 3 (.tmp 96) (.const (.int .i64 1))) a b) fun v108=>
 mv (some v108) fun v96=>
 setF 96 v96 tm fun tm1=>
 M.pure tm1
theorem Vx_:RegEq 13 110 Bi SR DH_:=⟨by kernel_rfl,fun _ _ _ _ _ _ _ _ _=>by kernel_rfl⟩
theorem LX_: ∃k,NP= .code .ret::k:=⟨NP.tail,by kernel_rfl⟩
def Ex:Nat:=A8 Tryz.f42
def Fr_:Code:=Tryz.f42.body.getD .skip
theorem Lk:envS.fn.get 42=some Tryz.f42:=by kernel_rfl
theorem NO_ {a0 a1:Value}{n:Nat}{s:St}{Q:Value→St→Prop}(h: ∀tm,T.get tm 0=some a0→T.get tm 1=some a1→W (runF envS n ⟨42,28,Ex,tm,[.code Fr_], .run, .normal,none⟩) (s.cxN cxN) fun p s1=>Q p.1 (s1.cxN s.cx)):W (Ay envS (runF envS n) 42 [a0,a1]) s Q:=
 W.call (by kernel_rfl) (by kernel_rfl) Lk (by kernel_rfl) rfl rfl (by simp) (h _ (by kernel_rfl) (by kernel_rfl))
theorem QD:Tryz.f42.results.toList=[.tmp 4]:=by kernel_rfl
def QH:List Item:=skim 64 [.code Fr_]
def IN:List Item:=skim 64 QH.tail
theorem Kr_:skim 64 QH.tail=IN:=by kernel_rfl
def Jn:List Item:=skim 64 IN.tail
theorem Fa_:skim 64 IN.tail=Jn:=by kernel_rfl
def Hj:List Item:=skim 64 Jn.tail
theorem Cn_:skim 64 Jn.tail=Hj:=by kernel_rfl
def L0:List Item:=skim 64 (brT Hj)
theorem Aew_:skim 64 (brT Hj)=L0:=by kernel_rfl
def Ip:List Item:=skim 64 (brF Hj)
theorem Uj_:skim 64 (brF Hj)=Ip:=by kernel_rfl
def PM:List Item:=skim 64 L0.tail
theorem Iu_:skim 64 L0.tail=PM:=by kernel_rfl
def T1:List Item:=skim 64 Ip.tail
theorem Af_:skim 64 Ip.tail=T1:=by kernel_rfl
def Z9 (E:Env)(call round:Ad)(tm:T Value):M (T Value):=
 mv (some (.int .i64 0)) fun v4=>
 setF 4 v4 tm fun tm1=>
 M.pure tm1
theorem AdS_:RegEq 42 28 Ex QH Z9:=⟨by kernel_rfl,fun _ _ _ _ _ _ _ _ _=>by kernel_rfl⟩
def Vz (E:Env)(call round:Ad)(tm:T Value):M ((Rho×T Value)×List OpLog):=
 M.bind (apartO (oS (T.get tm 0) fun a=>M.pure a)) fun p0=>
 M.bind (apartO (oS (some p0.1) fun a=>kNil a)) fun p1=>
 M.bind (apartO (oS (some p1.1) fun a=>kFld E 68 a 0)) fun p2=>
 M.bind (apartO (oS (some p2.1) fun a=>AE E 25 a)) fun p3=>
 M.bind (apartO (oS (T.get tm 0) fun a=>M.pure a)) fun p4=>
 M.bind (apartO (oS (some p4.1) fun a=>kNil a)) fun p5=>
 M.bind (apartO (oS (some p5.1) fun a=>kFld E 68 a 1)) fun p6=>
 M.bind (apartO (oS (some p6.1) fun a=>AE E 9 a)) fun p7=>
 M.bind (apartO (oS (T.get tm 1) fun a=>M.pure a)) fun p8=>
 M.bind (apartO (M.on (some (.func (.func 11) #[] #[])) fun f=>M.on (seqO [(some p3.1),(some p7.1),(some p8.1)]) fun l=>AL call round f l)) fun p9=>
 M.pure (([p9.1,p8.1,p7.1,p6.1,p5.1,p4.1,p3.1,p2.1,p1.1,p0.1],tm),[p9.2,p8.2,p7.2,p6.2,p5.2,p4.2,p3.2,p2.2,p1.2,p0.2])
theorem Nm_:DrawEq 42 28 Ex IN [0,1,3,7,0,16,48,112,0,511,1023] Vz:=⟨by kernel_rfl,by kernel_rfl,fun _ _ _ _ _ _ _ _ _=>by kernel_rfl⟩
theorem Xu (E:Env)(call round:Ad)(x6 x7 x8 x9 x10 x11 x12 x13 x14 x15:Value)(tm:T Value)(s:St):Bo call round (BV E Ex 28 (hdC IN)) [x15,x14,x13,x12,x11,x10,x9,x8,x7,x6] tm s=(M.bind (oS (some x15) fun a=>M.pure a) fun v5=>setT 5 v5 tm fun tm1=>M.pure tm1) s:=by kernel_rfl
def RF (E:Env)(call round:Ad)(tm:T Value):M (T Value):=
 mv (T.get tm 5) fun v16=>
 M.bind (oS (some v16) fun a=>oS (some (.int .i64 0)) fun b=>Cl.get (aBin E .neq 29 (.tmp 16) (.const (.int .i64 0))) a b) fun v17=>
 setF 17 v17 tm fun tm1=>
 M.pure tm1
theorem CN_:RegEq 42 28 Ex Jn RF:=⟨by kernel_rfl,fun _ _ _ _ _ _ _ _ _=>by kernel_rfl⟩
theorem Xy:A6 Hj=some 17:=by kernel_rfl
def Dw_ (E:Env)(call round:Ad)(tm:T Value):M (T Value):=
 mv (T.get tm 5) fun v18=>
 mv (some v18) fun v4=>
 setF 4 v4 tm fun tm1=>
 M.pure tm1
theorem Afb_:RegEq 42 28 Ex L0 Dw_:=⟨by kernel_rfl,fun _ _ _ _ _ _ _ _ _=>by kernel_rfl⟩
def ES_ (E:Env)(call round:Ad)(tm:T Value):M ((Rho×T Value)×List OpLog):=
 M.bind (apartO (oS (T.get tm 0) fun a=>M.pure a)) fun p0=>
 M.bind (apartO (oS (some p0.1) fun a=>kNil a)) fun p1=>
 M.bind (apartO (oS (some p1.1) fun a=>kFld E 68 a 0)) fun p2=>
 M.bind (apartO (oS (some p2.1) fun a=>AE E 25 a)) fun p3=>
 M.bind (apartO (oS (T.get tm 0) fun a=>M.pure a)) fun p4=>
 M.bind (apartO (oS (some p4.1) fun a=>kNil a)) fun p5=>
 M.bind (apartO (oS (some p5.1) fun a=>kFld E 68 a 1)) fun p6=>
 M.bind (apartO (oS (some p6.1) fun a=>AE E 9 a)) fun p7=>
 M.bind (apartO (M.on (some (.func (.func 12) #[] #[])) fun f=>M.on (seqO [(some p3.1),(some p7.1)]) fun l=>AL call round f l)) fun p8=>
 M.pure (([p8.1,p7.1,p6.1,p5.1,p4.1,p3.1,p2.1,p1.1,p0.1],tm),[p8.2,p7.2,p6.2,p5.2,p4.2,p3.2,p2.2,p1.2,p0.2])
theorem Mk_:DrawEq 42 28 Ex Ip [0,1,3,7,0,16,48,112,255,511] ES_:=⟨by kernel_rfl,by kernel_rfl,fun _ _ _ _ _ _ _ _ _=>by kernel_rfl⟩
theorem U0 (E:Env)(call round:Ad)(x19 x20 x21 x22 x23 x24 x25 x26 x27:Value)(tm:T Value)(s:St):Bo call round (BV E Ex 28 (hdC Ip)) [x27,x26,x25,x24,x23,x22,x21,x20,x19] tm s=(M.bind (oS (some x27) fun a=>M.pure a) fun v4=>setT 4 v4 tm fun tm1=>M.pure tm1) s:=by kernel_rfl
theorem ZL_: ∃k,PM= .code .ret::k:=⟨PM.tail,by kernel_rfl⟩
theorem Zm: ∃k,T1= .code .ret::k:=⟨T1.tail,by kernel_rfl⟩
def SZ:Nat:=A8 Tryz.f30
def YQ:Code:=Tryz.f30.body.getD .skip
theorem Dr_:envS.fn.get 30=some Tryz.f30:=by kernel_rfl
theorem Hd_ {a0:Value}{n:Nat}{s:St}{Q:Value→St→Prop}(h: ∀tm,T.get tm 0=some a0→W (runF envS n ⟨30,12,SZ,tm,[.code YQ], .run, .normal,none⟩) (s.cxN cxN) fun p s1=>Q p.1 (s1.cxN s.cx)):W (Ay envS (runF envS n) 30 [a0]) s Q:=
 W.call (by kernel_rfl) (by kernel_rfl) Dr_ (by kernel_rfl) rfl rfl (by simp) (h _ (by kernel_rfl))
theorem ZB_:Tryz.f30.results.toList=[.tmp 2]:=by kernel_rfl
def Tg:List Item:=skim 64 [.code YQ]
def MT:List Item:=skim 64 Tg.tail
theorem SB_:skim 64 Tg.tail=MT:=by kernel_rfl
def QY:List Item:=skim 64 MT.tail
theorem RZ_:skim 64 MT.tail=QY:=by kernel_rfl
def VD (E:Env)(call round:Ad)(tm:T Value):M (T Value):=
 mv (some (.bool false)) fun v2=>
 setF 2 v2 tm fun tm1=>
 M.pure tm1
theorem OO_:RegEq 30 12 SZ Tg VD:=⟨by kernel_rfl,fun _ _ _ _ _ _ _ _ _=>by kernel_rfl⟩
def Bx_ (E:Env)(call round:Ad)(tm:T Value):M (T Value):=
 mv (T.get tm 0) fun v3=>
 M.bind (oS (some v3) fun a=>oS (some (.pointer none)) fun b=>Cl.get (aBin E .eql 26 (.tmp 3) (.const (.pointer none))) a b) fun v4=>
 mv (some v4) fun v5=>
 M.bind (M.chk (isK v5) (M.if (isB v5 false) (oS (T.get tm 0) fun a=>M.pure a) (M.pure undef))) fun v6=>
 M.bind (M.chk (isK v5) (M.if (isB v5 false) (oS (some v6) fun a=>kNil a) (M.pure undef))) fun v7=>
 M.bind (M.chk (isK v5) (M.if (isB v5 false) (oS (some v7) fun a=>kFld E 68 a 0) (M.pure undef))) fun v8=>
 M.bind (M.chk (isK v5) (M.if (isB v5 false) (oS (some v8) fun a=>AE E 25 a) (M.pure undef))) fun v9=>
 M.bind (M.chk (isK v5) (M.if (isB v5 false) (oS (some v9) fun a=>oS (some (.pointer none)) fun b=>Cl.get (aBin E .eql 25 (.tmp 9) (.const (.pointer none))) a b) (M.pure undef))) fun v10=>
 M.bind (M.on (some v5) fun a=>M.on (some (.bool true)) fun b=>M.on (some v10) fun c=>Bj a b c) fun v11=>
 mv (some v11) fun v2=>
 setF 2 v2 tm fun tm1=>
 M.pure tm1
theorem Km_:RegEq 30 12 SZ MT Bx_:=⟨by kernel_rfl,fun _ _ _ _ _ _ _ _ _=>by kernel_rfl⟩
theorem IB_: ∃k,QY= .code .ret::k:=⟨QY.tail,by kernel_rfl⟩
def Dy:Nat:=A8 Tryz.f31
def Wb:Code:=Tryz.f31.body.getD .skip
theorem O5:envS.fn.get 31=some Tryz.f31:=by kernel_rfl
theorem AdM_ {a0 a1 a2:Value}{n:Nat}{s:St}{Q:Value→St→Prop}(h: ∀tm,T.get tm 0=some a0→T.get tm 1=some a1→T.get tm 2=some a2→W (runF envS n ⟨31,40,Dy,tm,[.code Wb], .run, .normal,none⟩) (s.cxN cxN) fun p s1=>Q p.1 (s1.cxN s.cx)):W (Ay envS (runF envS n) 31 [a0,a1,a2]) s Q:=
 W.call (by kernel_rfl) (by kernel_rfl) O5 (by kernel_rfl) rfl rfl (by simp) (h _ (by kernel_rfl) (by kernel_rfl) (by kernel_rfl))
theorem Be_:Tryz.f31.results.toList=[.tmp 6, .tmp 7]:=by kernel_rfl
def Qq:List Item:=skim 64 [.code Wb]
def MI:List Item:=skim 64 Qq.tail
theorem NZ_:skim 64 Qq.tail=MI:=by kernel_rfl
def Mn:List Item:=skim 64 MI.tail
theorem It_:skim 64 MI.tail=Mn:=by kernel_rfl
def Ls:List Item:=skim 64 (brF Mn)
theorem Abt_:skim 64 (brF Mn)=Ls:=by kernel_rfl
def Mk:List Item:=skim 64 Ls.tail
theorem QW_:skim 64 Ls.tail=Mk:=by kernel_rfl
def Nu:List Item:=skim 64 (brF Mk)
theorem Oi_:skim 64 (brF Mk)=Nu:=by kernel_rfl
def Kh:List Item:=skim 64 Nu.tail
theorem Cs_:skim 64 Nu.tail=Kh:=by kernel_rfl
def Hh:List Item:=skim 64 Kh.tail
theorem WH:skim 64 Kh.tail=Hh:=by kernel_rfl
def MF:List Item:=skim 64 (brT Hh)
theorem Vu_:skim 64 (brT Hh)=MF:=by kernel_rfl
def Nw:List Item:=skim 64 (brF Hh)
theorem Oq_:skim 64 (brF Hh)=Nw:=by kernel_rfl
def NI:List Item:=skim 64 MF.tail
theorem Lu_:skim 64 MF.tail=NI:=by kernel_rfl
def J0:List Item:=skim 64 Nw.tail
theorem AaM_:skim 64 Nw.tail=J0:=by kernel_rfl
def ON:List Item:=skim 64 NI.tail
theorem MB_:skim 64 NI.tail=ON:=by kernel_rfl
def Te:List Item:=skim 64 J0.tail
theorem Tg_:skim 64 J0.tail=Te:=by kernel_rfl
def WA (E:Env)(call round:Ad)(tm:T Value):M (T Value):=
 mv (some (.int .i64 0)) fun v6=>
 setF 6 v6 tm fun tm1=>
 mv (some (.int .i64 0)) fun v7=>
 setF 7 v7 tm1 fun tm2=>
 M.pure tm2
theorem AdQ_:RegEq 31 40 Dy Qq WA:=⟨by kernel_rfl,fun _ _ _ _ _ _ _ _ _=>by kernel_rfl⟩
def CG_ (E:Env)(call round:Ad)(tm:T Value):M (T Value):=
 mv (T.get tm 0) fun v10=>
 M.bind (M.on (some (.func (.func 27) #[] #[])) fun f=>M.on (seqO [(some v10)]) fun l=>AL call round f l) fun v11=>
 mv (some v11) fun v9=>
 setF 9 v9 tm fun tm1=>
 M.pure tm1
theorem Ka_:RegEq 31 40 Dy MI CG_:=⟨by kernel_rfl,fun _ _ _ _ _ _ _ _ _=>by kernel_rfl⟩
theorem Vh_:A6 Mn=some 9:=by kernel_rfl
def W5 (E:Env)(call round:Ad)(tm:T Value):M (T Value):=
 mv (T.get tm 2) fun v13=>
 M.bind (oS (some v13) fun a=>kNil a) fun v14=>
 M.bind (oS (some v14) fun a=>AE E 3 a) fun v15=>
 M.bind (oS (some v15) fun a=>oS (some (.int .i64 2147483647)) fun b=>Cl.get (aBin E .eql 3 (.tmp 15) (.const (.int .i64 2147483647))) a b) fun v16=>
 mv (some v16) fun v12=>
 setF 12 v12 tm fun tm1=>
 M.pure tm1
theorem HQ_:RegEq 31 40 Dy Ls W5:=⟨by kernel_rfl,fun _ _ _ _ _ _ _ _ _=>by kernel_rfl⟩
theorem Abh_:A6 Mk=some 12:=by kernel_rfl
def Uv (E:Env)(call round:Ad)(tm:T Value):M (T Value):=
 mv (T.get tm 0) fun v17=>
 mv (T.get tm 1) fun v18=>
 mv (T.get tm 2) fun v19=>
 M.bind (oS (some v19) fun a=>kNil a) fun v20=>
 M.bind (oS (some v20) fun a=>AE E 3 a) fun v21=>
 M.bind (oS (some v21) fun a=>oS (some (.int .i64 1)) fun b=>Cl.get (aBin E .add 3 (.tmp 21) (.const (.int .i64 1))) a b) fun v22=>
 M.bind (oS (seqP [(0,(some v18)),(1,(some v22))]) fun ps=>Co E 90 ps) fun v23=>
 M.bind (M.on (some (.func (.func 44) #[] #[])) fun f=>M.on (seqO [(some v23)]) fun l=>AL call round f l) fun v24=>
 M.bind (M.on (some (.func (.func 42) #[] #[])) fun f=>M.on (seqO [(some v17),(some v24)]) fun l=>AL call round f l) fun v25=>
 mv (some v25) fun v8=>
 setF 8 v8 tm fun tm1=>
 M.pure tm1
theorem AcH_:RegEq 31 40 Dy Nu Uv:=⟨by kernel_rfl,fun _ _ _ _ _ _ _ _ _=>by kernel_rfl⟩
def Ps (E:Env)(call round:Ad)(tm:T Value):M (T Value):=
 mv (T.get tm 8) fun v26=>
 M.bind (oS (some v26) fun a=>oS (some (.int .i64 0)) fun b=>Cl.get (aBin E .neq 29 (.tmp 26) (.const (.int .i64 0))) a b) fun v27=>
 setF 27 v27 tm fun tm1=>
 M.pure tm1
theorem Cu_:RegEq 31 40 Dy Kh Ps:=⟨by kernel_rfl,fun _ _ _ _ _ _ _ _ _=>by kernel_rfl⟩
theorem Vh:A6 Hh=some 27:=by kernel_rfl
def Yl (E:Env)(call round:Ad)(tm:T Value):M (T Value):=
 mv (T.get tm 0) fun v28=>
 M.bind (oS (some v28) fun a=>kNil a) fun v29=>
 M.bind (oS (some v29) fun a=>kFld E 68 a 4) fun v30=>
 M.bind (oS (some v30) fun a=>oS (some (.bool true)) fun b=>BK E 4 a b) fun _=>
 M.pure tm
theorem QX_:RegEq 31 40 Dy MF Yl:=⟨by kernel_rfl,fun _ _ _ _ _ _ _ _ _=>by kernel_rfl⟩
def WK (E:Env)(call round:Ad)(tm:T Value):M (T Value):=
 mv (T.get tm 2) fun v32=>
 M.bind (oS (some v32) fun a=>kNil a) fun v33=>
 M.bind (oS (some v33) fun a=>AE E 3 a) fun v34=>
 M.bind (oS (some v34) fun a=>oS (some (.int .i64 1)) fun b=>Cl.get (aBin E .add 3 (.tmp 34) (.const (.int .i64 1))) a b) fun v35=>
 M.bind (oS (some v32) fun a=>kNil a) fun v36=>
 M.bind (oS (some v36) fun a=>oS (some v35) fun b=>BK E 3 a b) fun _=>
 M.pure tm
theorem Ta_:RegEq 31 40 Dy Nw WK:=⟨by kernel_rfl,fun _ _ _ _ _ _ _ _ _=>by kernel_rfl⟩
def FV_ (E:Env)(call round:Ad)(tm:T Value):M (T Value):=
 mv (T.get tm 8) fun v31=>
 mv (some (.int .i64 0)) fun v6=>
 setF 6 v6 tm fun tm1=>
 mv (some v31) fun v7=>
 setF 7 v7 tm1 fun tm2=>
 M.pure tm2
theorem ZN_:RegEq 31 40 Dy NI FV_:=⟨by kernel_rfl,fun _ _ _ _ _ _ _ _ _=>by kernel_rfl⟩
def Xo (E:Env)(call round:Ad)(tm:T Value):M (T Value):=
 mv (T.get tm 2) fun v37=>
 M.bind (oS (some v37) fun a=>kNil a) fun v38=>
 M.bind (oS (some v38) fun a=>AE E 3 a) fun v39=>
 mv (some v39) fun v6=>
 setF 6 v6 tm fun tm1=>
 mv (some (.int .i64 0)) fun v7=>
 setF 7 v7 tm1 fun tm2=>
 M.pure tm2
theorem VS_:RegEq 31 40 Dy J0 Xo:=⟨by kernel_rfl,fun _ _ _ _ _ _ _ _ _=>by kernel_rfl⟩
theorem WD_: ∃k,ON= .code .ret::k:=⟨ON.tail,by kernel_rfl⟩
theorem Xj_: ∃k,Te= .code .ret::k:=⟨Te.tail,by kernel_rfl⟩
def JL:Nat:=A8 Tryz.f8
def UK:Code:=Tryz.f8.body.getD .skip
theorem OO:envS.fn.get 8=some Tryz.f8:=by kernel_rfl
theorem OQ_ {a0:Value}{n:Nat}{s:St}{Q:Value→St→Prop}(h: ∀tm,T.get tm 0=some a0→W (runF envS n ⟨8,13,JL,tm,[.code UK], .run, .normal,none⟩) (s.cxN cxN) fun p s1=>Q p.1 (s1.cxN s.cx)):W (Ay envS (runF envS n) 8 [a0]) s Q:=
 W.call (by kernel_rfl) (by kernel_rfl) OO (by kernel_rfl) rfl rfl (by simp) (h _ (by kernel_rfl))
theorem Ay_:Tryz.f8.results.toList=[.tmp 2, .tmp 3]:=by kernel_rfl
def O6:List Item:=skim 64 [.code UK]
def K0:List Item:=skim 64 O6.tail
theorem Qj_:skim 64 O6.tail=K0:=by kernel_rfl
def M5:List Item:=skim 64 K0.tail
theorem Ua_:skim 64 K0.tail=M5:=by kernel_rfl
def Ld:List Item:=skim 64 (brF M5)
theorem Sx_:skim 64 (brF M5)=Ld:=by kernel_rfl
def QE:List Item:=skim 64 Ld.tail
theorem AT_:skim 64 Ld.tail=QE:=by kernel_rfl
def UH (E:Env)(call round:Ad)(tm:T Value):M (T Value):=
 mv (some (.int .i64 0)) fun v2=>
 setF 2 v2 tm fun tm1=>
 mv (some (.int .i64 0)) fun v3=>
 setF 3 v3 tm1 fun tm2=>
 M.pure tm2
theorem Qb_:RegEq 8 13 JL O6 UH:=⟨by kernel_rfl,fun _ _ _ _ _ _ _ _ _=>by kernel_rfl⟩
def Y0 (E:Env)(call round:Ad)(tm:T Value):M (T Value):=
 mv (T.get tm 0) fun v4=>
 M.bind (M.on (some (.func (.func 30) #[] #[])) fun f=>M.on (seqO [(some v4)]) fun l=>AL call round f l) fun v5=>
 setF 5 v5 tm fun tm1=>
 M.pure tm1
theorem RP_:RegEq 8 13 JL K0 Y0:=⟨by kernel_rfl,fun _ _ _ _ _ _ _ _ _=>by kernel_rfl⟩
theorem Ra_:A6 M5=some 5:=by kernel_rfl
def Xt (E:Env)(call round:Ad)(tm:T Value):M (T Value):=
 mv (T.get tm 0) fun v6=>
 mv (T.get tm 0) fun v7=>
 M.bind (oS (some v7) fun a=>kNil a) fun v8=>
 M.bind (oS (some v8) fun a=>kFld E 68 a 2) fun v9=>
 M.bind (M.on (some (.func (.func 31) #[] #[])) fun f=>M.on (seqO [(some v6),(some (.int .i64 1)),(some v9)]) fun l=>AL call round f l) fun v10=>
 M.bind (oS (some v10) fun a=>kExt 0 a) fun v11=>
 M.bind (oS (some v10) fun a=>kExt 1 a) fun v12=>
 mv (some v11) fun v2=>
 setF 2 v2 tm fun tm1=>
 mv (some v12) fun v3=>
 setF 3 v3 tm1 fun tm2=>
 M.pure tm2
theorem IE_:RegEq 8 13 JL Ld Xt:=⟨by kernel_rfl,fun _ _ _ _ _ _ _ _ _=>by kernel_rfl⟩
theorem Zn: ∃k,QE= .code .ret::k:=⟨QE.tail,by kernel_rfl⟩
def Jz:Nat:=A8 Tryz.f9
def UX:Code:=Tryz.f9.body.getD .skip
theorem Q6:envS.fn.get 9=some Tryz.f9:=by kernel_rfl
theorem Xm_ {a0:Value}{n:Nat}{s:St}{Q:Value→St→Prop}(h: ∀tm,T.get tm 0=some a0→W (runF envS n ⟨9,13,Jz,tm,[.code UX], .run, .normal,none⟩) (s.cxN cxN) fun p s1=>Q p.1 (s1.cxN s.cx)):W (Ay envS (runF envS n) 9 [a0]) s Q:=
 W.call (by kernel_rfl) (by kernel_rfl) Q6 (by kernel_rfl) rfl rfl (by simp) (h _ (by kernel_rfl))
theorem XZ:Tryz.f9.results.toList=[.tmp 2, .tmp 3]:=by kernel_rfl
def Tr:List Item:=skim 64 [.code UX]
def MK:List Item:=skim 64 Tr.tail
theorem Im_:skim 64 Tr.tail=MK:=by kernel_rfl
def JG:List Item:=skim 64 MK.tail
theorem ZC_:skim 64 MK.tail=JG:=by kernel_rfl
def MG:List Item:=skim 64 (brF JG)
theorem VN_:skim 64 (brF JG)=MG:=by kernel_rfl
def TA:List Item:=skim 64 MG.tail
theorem Zv:skim 64 MG.tail=TA:=by kernel_rfl
def BD_ (E:Env)(call round:Ad)(tm:T Value):M (T Value):=
 mv (some (.int .i64 0)) fun v2=>
 setF 2 v2 tm fun tm1=>
 mv (some (.int .i64 0)) fun v3=>
 setF 3 v3 tm1 fun tm2=>
 M.pure tm2
theorem Aah_:RegEq 9 13 Jz Tr BD_:=⟨by kernel_rfl,fun _ _ _ _ _ _ _ _ _=>by kernel_rfl⟩
def ZG (E:Env)(call round:Ad)(tm:T Value):M (T Value):=
 mv (T.get tm 0) fun v4=>
 M.bind (M.on (some (.func (.func 30) #[] #[])) fun f=>M.on (seqO [(some v4)]) fun l=>AL call round f l) fun v5=>
 setF 5 v5 tm fun tm1=>
 M.pure tm1
theorem KW_:RegEq 9 13 Jz MK ZG:=⟨by kernel_rfl,fun _ _ _ _ _ _ _ _ _=>by kernel_rfl⟩
theorem Hq_:A6 JG=some 5:=by kernel_rfl
def Aq_ (E:Env)(call round:Ad)(tm:T Value):M (T Value):=
 mv (T.get tm 0) fun v6=>
 mv (T.get tm 0) fun v7=>
 M.bind (oS (some v7) fun a=>kNil a) fun v8=>
 M.bind (oS (some v8) fun a=>kFld E 68 a 3) fun v9=>
 M.bind (M.on (some (.func (.func 31) #[] #[])) fun f=>M.on (seqO [(some v6),(some (.int .i64 2)),(some v9)]) fun l=>AL call round f l) fun v10=>
 M.bind (oS (some v10) fun a=>kExt 0 a) fun v11=>
 M.bind (oS (some v10) fun a=>kExt 1 a) fun v12=>
 mv (some v11) fun v2=>
 setF 2 v2 tm fun tm1=>
 mv (some v12) fun v3=>
 setF 3 v3 tm1 fun tm2=>
 M.pure tm2
theorem OR_:RegEq 9 13 Jz MG Aq_:=⟨by kernel_rfl,fun _ _ _ _ _ _ _ _ _=>by kernel_rfl⟩
theorem Z0: ∃k,TA= .code .ret::k:=⟨TA.tail,by kernel_rfl⟩
def Jf:Nat:=A8 Tryz.f10
def Y8:Code:=Tryz.f10.body.getD .skip
theorem EV_:envS.fn.get 10=some Tryz.f10:=by kernel_rfl
theorem Ko_ {a0:Value}{n:Nat}{s:St}{Q:Value→St→Prop}(h: ∀tm,T.get tm 0=some a0→W (runF envS n ⟨10,18,Jf,tm,[.code Y8], .run, .normal,none⟩) (s.cxN cxN) fun p s1=>Q p.1 (s1.cxN s.cx)):W (Ay envS (runF envS n) 10 [a0]) s Q:=
 W.call (by kernel_rfl) (by kernel_rfl) EV_ (by kernel_rfl) rfl rfl (by simp) (h _ (by kernel_rfl))
theorem IN_:Tryz.f10.results.toList=[.tmp 2, .tmp 3]:=by kernel_rfl
def Qu:List Item:=skim 64 [.code Y8]
def J5:List Item:=skim 64 Qu.tail
theorem ZW_:skim 64 Qu.tail=J5:=by kernel_rfl
def Mq:List Item:=skim 64 J5.tail
theorem Aau_:skim 64 J5.tail=Mq:=by kernel_rfl
def Ix:List Item:=skim 64 (brF Mq)
theorem GO_:skim 64 (brF Mq)=Ix:=by kernel_rfl
def RX:List Item:=skim 64 Ix.tail
theorem Ns_:skim 64 Ix.tail=RX:=by kernel_rfl
def Gq_ (E:Env)(call round:Ad)(tm:T Value):M (T Value):=
 mv (some (.int .i64 0)) fun v2=>
 setF 2 v2 tm fun tm1=>
 mv (some (.int .i64 0)) fun v3=>
 setF 3 v3 tm1 fun tm2=>
 M.pure tm2
theorem Vi_:RegEq 10 18 Jf Qu Gq_:=⟨by kernel_rfl,fun _ _ _ _ _ _ _ _ _=>by kernel_rfl⟩
def V3 (E:Env)(call round:Ad)(tm:T Value):M (T Value):=
 mv (T.get tm 0) fun v4=>
 M.bind (M.on (some (.func (.func 30) #[] #[])) fun f=>M.on (seqO [(some v4)]) fun l=>AL call round f l) fun v5=>
 mv (some v5) fun v6=>
 M.bind (M.chk (isK v6) (M.if (isB v6 false) (oS (T.get tm 0) fun a=>M.pure a) (M.pure undef))) fun v7=>
 M.bind (M.chk (isK v6) (M.if (isB v6 false) (M.on (some (.func (.func 27) #[] #[])) fun f=>M.on (seqO [(some v7)]) fun l=>AL call round f l) (M.pure undef))) fun v8=>
 M.bind (M.on (some v6) fun a=>M.on (some (.bool true)) fun b=>M.on (some v8) fun c=>Bj a b c) fun v9=>
 setF 9 v9 tm fun tm1=>
 M.pure tm1
theorem AeJ_:RegEq 10 18 Jf J5 V3:=⟨by kernel_rfl,fun _ _ _ _ _ _ _ _ _=>by kernel_rfl⟩
theorem ZK_:A6 Mq=some 9:=by kernel_rfl
def Bo_ (E:Env)(call round:Ad)(tm:T Value):M ((Rho×T Value)×List OpLog):=
 M.bind (apartO (oS (T.get tm 0) fun a=>M.pure a)) fun p0=>
 M.bind (apartO (oS (some p0.1) fun a=>kNil a)) fun p1=>
 M.bind (apartO (oS (some p1.1) fun a=>kFld E 68 a 2)) fun p2=>
 M.bind (apartO (oS (some p2.1) fun a=>AE E 3 a)) fun p3=>
 M.bind (apartO (oS (T.get tm 0) fun a=>M.pure a)) fun p4=>
 M.bind (apartO (oS (some p4.1) fun a=>kNil a)) fun p5=>
 M.bind (apartO (oS (some p5.1) fun a=>kFld E 68 a 3)) fun p6=>
 M.bind (apartO (oS (some p6.1) fun a=>AE E 3 a)) fun p7=>
 M.bind (apartO (oS (some p3.1) fun a=>M.pure a)) fun p8=>
 setT 2 p8.1 tm fun tm1=>
 M.pure (([p8.1,p7.1,p6.1,p5.1,p4.1,p3.1,p2.1,p1.1,p0.1],tm1),[p8.2,p7.2,p6.2,p5.2,p4.2,p3.2,p2.2,p1.2,p0.2])
theorem NC_:DrawEq 10 18 Jf Ix [0,1,3,7,0,16,48,112,15,511] Bo_:=⟨by kernel_rfl,by kernel_rfl,fun _ _ _ _ _ _ _ _ _=>by kernel_rfl⟩
theorem Lp_ (E:Env)(call round:Ad)(x10 x11 x12 x13 x14 x15 x16 x17 x2:Value)(tm:T Value)(s:St):Bo call round (BV E Jf 18 (hdC Ix)) [x2,x17,x16,x15,x14,x13,x12,x11,x10] tm s=(M.bind (oS (some x17) fun a=>M.pure a) fun v3=>setT 3 v3 tm fun tm1=>M.pure tm1) s:=by kernel_rfl
theorem AdA_: ∃k,RX= .code .ret::k:=⟨RX.tail,by kernel_rfl⟩
def Qs:Nat:=A8 Tryz.f27
def Fz_:Code:=Tryz.f27.body.getD .skip
theorem CM_:envS.fn.get 27=some Tryz.f27:=by kernel_rfl
theorem OI_ {a0:Value}{n:Nat}{s:St}{Q:Value→St→Prop}(h: ∀tm,T.get tm 0=some a0→W (runF envS n ⟨27,20,Qs,tm,[.code Fz_], .run, .normal,none⟩) (s.cxN cxN) fun p s1=>Q p.1 (s1.cxN s.cx)):W (Ay envS (runF envS n) 27 [a0]) s Q:=
 W.call (by kernel_rfl) (by kernel_rfl) CM_ (by kernel_rfl) rfl rfl (by simp) (h _ (by kernel_rfl))
theorem In_:Tryz.f27.results.toList=[.tmp 2]:=by kernel_rfl
def Sl:List Item:=skim 64 [.code Fz_]
def Ka:List Item:=skim 64 Sl.tail
theorem Acn_:skim 64 Sl.tail=Ka:=by kernel_rfl
def Q9:List Item:=skim 64 Ka.tail
theorem Ib_:skim 64 Ka.tail=Q9:=by kernel_rfl
def Gs_ (E:Env)(call round:Ad)(tm:T Value):M (T Value):=
 mv (some (.bool false)) fun v2=>
 setF 2 v2 tm fun tm1=>
 M.pure tm1
theorem KM_:RegEq 27 20 Qs Sl Gs_:=⟨by kernel_rfl,fun _ _ _ _ _ _ _ _ _=>by kernel_rfl⟩
def VC (E:Env)(call round:Ad)(tm:T Value):M (T Value):=
 mv (T.get tm 0) fun v3=>
 M.bind (M.on (some (.func (.func 30) #[] #[])) fun f=>M.on (seqO [(some v3)]) fun l=>AL call round f l) fun v4=>
 M.bind (oS (some v4) fun a=>kUn E.P .not a) fun v5=>
 mv (some v5) fun v6=>
 M.bind (M.chk (isK v6) (M.if (isB v6 true) (oS (T.get tm 0) fun a=>M.pure a) (M.pure undef))) fun v7=>
 M.bind (M.chk (isK v6) (M.if (isB v6 true) (oS (some v7) fun a=>kNil a) (M.pure undef))) fun v8=>
 M.bind (M.chk (isK v6) (M.if (isB v6 true) (oS (some v8) fun a=>kFld E 68 a 4) (M.pure undef))) fun v9=>
 M.bind (M.chk (isK v6) (M.if (isB v6 true) (oS (some v9) fun a=>AE E 4 a) (M.pure undef))) fun v10=>
 M.bind (M.chk (isK v6) (M.if (isB v6 true) (oS (some v10) fun a=>M.pure a) (M.pure undef))) fun v11=>
 M.bind (M.chk (isK v11) (M.if (isB v11 false) (oS (T.get tm 0) fun a=>M.pure a) (M.pure undef))) fun v12=>
 M.bind (M.chk (isK v11) (M.if (isB v11 false) (oS (some v12) fun a=>kNil a) (M.pure undef))) fun v13=>
 M.bind (M.chk (isK v11) (M.if (isB v11 false) (oS (some v13) fun a=>kFld E 68 a 0) (M.pure undef))) fun v14=>
 M.bind (M.chk (isK v11) (M.if (isB v11 false) (oS (some v14) fun a=>AE E 25 a) (M.pure undef))) fun v15=>
 M.bind (M.chk (isK v11) (M.if (isB v11 false) (M.on (some (.func (.func 28) #[] #[])) fun f=>M.on (seqO [(some v15)]) fun l=>AL call round f l) (M.pure undef))) fun v16=>
 M.bind (M.chk (isK v11) (M.if (isB v11 false) (oS (some v16) fun a=>kUn E.P .not a) (M.pure undef))) fun v17=>
 M.bind (M.chk (isK v6) (M.if (isB v6 true) (M.on (some v11) fun a=>M.on (some (.bool true)) fun b=>M.on (some v17) fun c=>Bj a b c) (M.pure undef))) fun v18=>
 M.bind (M.on (some v6) fun a=>M.on (some v18) fun b=>M.on (some (.bool false)) fun c=>Bj a b c) fun v19=>
 mv (some v19) fun v2=>
 setF 2 v2 tm fun tm1=>
 M.pure tm1
theorem Xn_:RegEq 27 20 Qs Ka VC:=⟨by kernel_rfl,fun _ _ _ _ _ _ _ _ _=>by kernel_rfl⟩
theorem TB_: ∃k,Q9= .code .ret::k:=⟨Q9.tail,by kernel_rfl⟩
def Pl:Nat:=A8 Tryz.f62
def Zo:Code:=Tryz.f62.body.getD .skip
theorem VZ:envS.fn.get 62=some Tryz.f62:=by kernel_rfl
theorem Aaa_ {a0:Value}{n:Nat}{s:St}{Q:Value→St→Prop}(h: ∀tm,T.get tm 0=some a0→W (runF envS n ⟨62,11,Pl,tm,[.code Zo], .run, .normal,none⟩) (s.cxN cxN) fun p s1=>Q p.1 (s1.cxN s.cx)):W (Ay envS (runF envS n) 62 [a0]) s Q:=
 W.call (by kernel_rfl) (by kernel_rfl) VZ (by kernel_rfl) rfl rfl (by simp) (h _ (by kernel_rfl))
theorem Ht_:Tryz.f62.results.toList=[]:=by kernel_rfl
def Pt:List Item:=skim 64 [.code Zo]
def MJ:List Item:=skim 64 Pt.tail
theorem OT_:skim 64 Pt.tail=MJ:=by kernel_rfl
def Dv_:List Item:=skim 64 MJ.tail
theorem GU_:skim 64 MJ.tail=Dv_:=by kernel_rfl
def Zi (E:Env)(call round:Ad)(tm:T Value):M (T Value):=
 mv (T.get tm 0) fun v3=>
 M.bind (oS (seqO [(some v3)]) fun l=>A9 E .len [63] l) fun v4=>
 mv (some v4) fun v2=>
 setF 2 v2 tm fun tm1=>
 M.pure tm1
theorem LO_:RegEq 62 11 Pl Pt Zi:=⟨by kernel_rfl,fun _ _ _ _ _ _ _ _ _=>by kernel_rfl⟩
def Ze (E:Env)(call round:Ad)(tm:T Value):M (T Value):=
 mv (T.get tm 0) fun v5=>
 mv (T.get tm 2) fun v6=>
 mv (T.get tm 2) fun v7=>
 M.bind (oS (some v7) fun a=>BR E 3 113 a) fun v8=>
 M.bind (M.on (some (.func (.func 79) #[] #[])) fun f=>M.on (seqO [(some v8)]) fun l=>AL call round f l) fun v9=>
 M.bind (M.on (some (.func (.func 78) #[] #[])) fun f=>M.on (seqO [(some v5),(some (.int .i64 0)),(some v6),(some v9)]) fun l=>AL call round f l) fun v10=>
 M.pure tm
theorem Md_:RegEq 62 11 Pl MJ Ze:=⟨by kernel_rfl,fun _ _ _ _ _ _ _ _ _=>by kernel_rfl⟩
def Gi:Nat:=A8 Tryz.f78
def Xs:Code:=Tryz.f78.body.getD .skip
theorem XL:envS.fn.get 78=some Tryz.f78:=by kernel_rfl
theorem Ww_ {a0 a1 a2 a3:Value}{n:Nat}{s:St}{Q:Value→St→Prop}(h: ∀tm,T.get tm 0=some a0→T.get tm 1=some a1→T.get tm 2=some a2→T.get tm 3=some a3→W (runF envS n ⟨78,134,Gi,tm,[.code Xs], .run, .normal,none⟩) (s.cxN cxN) fun p s1=>Q p.1 (s1.cxN s.cx)):W (Ay envS (runF envS n) 78 [a0,a1,a2,a3]) s Q:=
 W.call (by kernel_rfl) (by kernel_rfl) XL (by kernel_rfl) rfl rfl (by simp) (h _ (by kernel_rfl) (by kernel_rfl) (by kernel_rfl) (by kernel_rfl))
theorem Vg_:Tryz.f78.results.toList=[]:=by kernel_rfl
def SW:List Item:=skim 64 [.code Xs]
def M9:List Item:=skim 64 SW.tail
theorem Nc_:skim 64 SW.tail=M9:=by kernel_rfl
def Ma:List Item:=skim 64 M9.tail
theorem Abf_:skim 64 M9.tail=Ma:=by kernel_rfl
def KQ:List Item:=skim 64 Ma.tail
theorem Ade_:skim 64 Ma.tail=KQ:=by kernel_rfl
def LR:List Item:=skim 64 KQ.tail
theorem Kb_:skim 64 KQ.tail=LR:=by kernel_rfl
def LV:List Item:=skim 64 (brT LR)
theorem ZS_:skim 64 (brT LR)=LV:=by kernel_rfl
def OH:List Item:=skim 64 LV.tail
theorem IG_:skim 64 LV.tail=OH:=by kernel_rfl
def YR (E:Env)(call round:Ad)(tm:T Value):M (T Value):=
 mv (some (.bool true)) fun v8=>
 setF 8 v8 tm fun tm1=>
 M.pure tm1
theorem Acw_:RegEq 78 134 Gi SW YR:=⟨by kernel_rfl,fun _ _ _ _ _ _ _ _ _=>by kernel_rfl⟩
def FH_ (E:Env)(call round:Ad)(tm:T Value):M (T Value):=
 mv (some (.bool true)) fun v9=>
 setF 9 v9 tm fun tm1=>
 M.pure tm1
theorem Aex_:RegEq 78 134 Gi M9 FH_:=⟨by kernel_rfl,fun _ _ _ _ _ _ _ _ _=>by kernel_rfl⟩
def VA (E:Env)(call round:Ad)(tm:T Value):M (T Value):=
 mv (T.get tm 2) fun v19=>
 mv (T.get tm 1) fun v20=>
 M.bind (oS (some v19) fun a=>oS (some v20) fun b=>Cl.get (aBin E .sub 3 (.tmp 19) (.tmp 20)) a b) fun v21=>
 mv (some v21) fun v10=>
 setF 10 v10 tm fun tm1=>
 M.pure tm1
theorem Mp_:RegEq 78 134 Gi Ma VA:=⟨by kernel_rfl,fun _ _ _ _ _ _ _ _ _=>by kernel_rfl⟩
def Bl_ (E:Env)(call round:Ad)(tm:T Value):M (T Value):=
 mv (T.get tm 10) fun v22=>
 M.bind (oS (some v22) fun a=>oS (some (.int .i64 12)) fun b=>Cl.get (aBin E .leq 3 (.tmp 22) (.const (.int .i64 12))) a b) fun v23=>
 setF 23 v23 tm fun tm1=>
 M.pure tm1
theorem PW_:RegEq 78 134 Gi KQ Bl_:=⟨by kernel_rfl,fun _ _ _ _ _ _ _ _ _=>by kernel_rfl⟩
theorem HU_:A6 LR=some 23:=by kernel_rfl
def Vg (E:Env)(call round:Ad)(tm:T Value):M (T Value):=
 mv (T.get tm 0) fun v24=>
 mv (T.get tm 1) fun v25=>
 mv (T.get tm 2) fun v26=>
 M.bind (M.on (some (.func (.func 90) #[] #[])) fun f=>M.on (seqO [(some v24),(some v25),(some v26)]) fun l=>AL call round f l) fun v27=>
 M.pure tm
theorem Hk_:RegEq 78 134 Gi LV Vg:=⟨by kernel_rfl,fun _ _ _ _ _ _ _ _ _=>by kernel_rfl⟩
theorem RT_: ∃k,OH= .code .ret::k:=⟨OH.tail,by kernel_rfl⟩
def Q8:Nat:=A8 Tryz.f90
def Ew_:Code:=Tryz.f90.body.getD .skip
theorem EA_:envS.fn.get 90=some Tryz.f90:=by kernel_rfl
theorem QK_ {a0 a1 a2:Value}{n:Nat}{s:St}{Q:Value→St→Prop}(h: ∀tm,T.get tm 0=some a0→T.get tm 1=some a1→T.get tm 2=some a2→W (runF envS n ⟨90,49,Q8,tm,[.code Ew_], .run, .normal,none⟩) (s.cxN cxN) fun p s1=>Q p.1 (s1.cxN s.cx)):W (Ay envS (runF envS n) 90 [a0,a1,a2]) s Q:=
 W.call (by kernel_rfl) (by kernel_rfl) EA_ (by kernel_rfl) rfl rfl (by simp) (h _ (by kernel_rfl) (by kernel_rfl) (by kernel_rfl))
theorem JS_:Tryz.f90.results.toList=[]:=by kernel_rfl
def SV:List Item:=skim 64 [.code Ew_]
def J4:List Item:=skim 64 SV.tail
theorem Tc_:skim 64 SV.tail=J4:=by kernel_rfl
def N8:List Item:=skim 64 J4.tail
theorem Vz_:skim 64 J4.tail=N8:=by kernel_rfl
def UO:List Item:=skim 64 (brF N8)
theorem Ny_:skim 64 (brF N8)=UO:=by kernel_rfl
def WB (E:Env)(call round:Ad)(tm:T Value):M (T Value):=
 mv (T.get tm 1) fun v8=>
 M.bind (oS (some v8) fun a=>oS (some (.int .i64 1)) fun b=>Cl.get (aBin E .add 3 (.tmp 8) (.const (.int .i64 1))) a b) fun v9=>
 mv (some v9) fun v6=>
 setF 6 v6 tm fun tm1=>
 M.pure tm1
theorem Acm_:RegEq 90 49 Q8 SV WB:=⟨by kernel_rfl,fun _ _ _ _ _ _ _ _ _=>by kernel_rfl⟩
def En_ (E:Env)(call round:Ad)(tm:T Value):M (T Value):=
 mv (T.get tm 6) fun v10=>
 mv (T.get tm 2) fun v11=>
 M.bind (oS (some v10) fun a=>oS (some v11) fun b=>Cl.get (aBin E .lss 3 (.tmp 10) (.tmp 11)) a b) fun v12=>
 setF 12 v12 tm fun tm1=>
 M.pure tm1
theorem YB_:RegEq 90 49 Q8 J4 En_:=⟨by kernel_rfl,fun _ _ _ _ _ _ _ _ _=>by kernel_rfl⟩
theorem Yq_:A6 N8=some 12:=by kernel_rfl
end Go.Proofs.YtndednnianphoaaGreatDoor.Am
end
