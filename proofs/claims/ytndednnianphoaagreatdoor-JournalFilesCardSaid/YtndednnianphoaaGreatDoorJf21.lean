import Derived.Test.YtndednnianphoaaGreatDoorJf16
import Derived.Test.YtndednnianphoaaGreatDoorJf09
import Derived.KernelRfl
import Derived.Test.YtndednnianphoaaGreatDoorJf20
noncomputable section
namespace Go.Proofs.YtndednnianphoaaGreatDoor.Am
open Go.RowKit
def PR:Nat:=A8 Tryz.f44
def XJ:Code:=Tryz.f44.body.getD .skip
theorem XC:envS.fn.get 44=some Tryz.f44:=by kernel_rfl
theorem MG_ {a0:Value}{n:Nat}{s:St}{Q:Value→St→Prop}(h: ∀tm,T.get tm 0=some a0→W (runF envS n ⟨44,23,PR,tm,[.code XJ], .run, .normal,none⟩) (s.cxN cxN) fun p s1=>Q p.1 (s1.cxN s.cx)):W (Ay envS (runF envS n) 44 [a0]) s Q:=
 W.call (by kernel_rfl) (by kernel_rfl) XC (by kernel_rfl) rfl rfl (by simp) (h _ (by kernel_rfl))
theorem JM_:Tryz.f44.results.toList=[.tmp 2]:=by kernel_rfl
def R4:List Item:=skim 64 [.code XJ]
def KO:List Item:=skim 64 R4.tail
theorem JC_:skim 64 R4.tail=KO:=by kernel_rfl
def S5:List Item:=skim 64 KO.tail
theorem Iw_:skim 64 KO.tail=S5:=by kernel_rfl
def BM_ (E:Env)(call round:Ad)(tm:T Value):M (T Value):=
 M.bind (oS (T.get tm 0) fun a=>kBox a) fun v1=>
 setF 1 v1 tm fun tm1=>
 mv (some (.slice none 0 0)) fun v2=>
 setF 2 v2 tm1 fun tm2=>
 M.pure tm2
theorem XV_:RegEq 44 23 PR R4 BM_:=⟨by kernel_rfl,fun _ _ _ _ _ _ _ _ _=>by kernel_rfl⟩
def W5 (E:Env)(call round:Ad)(tm:T Value):M (T Value):=
 M.bind (oS (T.get tm 1) fun a=>kFld E 90 a 0) fun v3=>
 M.bind (oS (some v3) fun a=>AC E 3 a) fun v4=>
 M.bind (oS (some v4) fun a=>BP E 3 5 a) fun v5=>
 M.bind (oS (T.get tm 1) fun a=>kFld E 90 a 1) fun v6=>
 M.bind (oS (some v6) fun a=>AC E 3 a) fun v7=>
 M.bind (oS (some v7) fun a=>oS (some (.int .u64 24)) fun b=>Cl.get (aBin E .shr 3 (.tmp 7) (.const (.int .u64 24))) a b) fun v8=>
 M.bind (oS (some v8) fun a=>BP E 3 5 a) fun v9=>
 M.bind (oS (T.get tm 1) fun a=>kFld E 90 a 1) fun v10=>
 M.bind (oS (some v10) fun a=>AC E 3 a) fun v11=>
 M.bind (oS (some v11) fun a=>oS (some (.int .u64 16)) fun b=>Cl.get (aBin E .shr 3 (.tmp 11) (.const (.int .u64 16))) a b) fun v12=>
 M.bind (oS (some v12) fun a=>BP E 3 5 a) fun v13=>
 M.bind (oS (T.get tm 1) fun a=>kFld E 90 a 1) fun v14=>
 M.bind (oS (some v14) fun a=>AC E 3 a) fun v15=>
 M.bind (oS (some v15) fun a=>oS (some (.int .u64 8)) fun b=>Cl.get (aBin E .shr 3 (.tmp 15) (.const (.int .u64 8))) a b) fun v16=>
 M.bind (oS (some v16) fun a=>BP E 3 5 a) fun v17=>
 M.bind (oS (T.get tm 1) fun a=>kFld E 90 a 1) fun v18=>
 M.bind (oS (some v18) fun a=>AC E 3 a) fun v19=>
 M.bind (oS (some v19) fun a=>BP E 3 5 a) fun v20=>
 M.bind (oS (seqP [(0,(some v5)),(1,(some v9)),(2,(some v13)),(3,(some v17)),(4,(some v20))]) fun ps=>Cu E 23 5 ps) fun v21=>
 M.bind (M.on (some (.func (.func 53) #[] #[])) fun f=>M.on (seqO [(some v21)]) fun l=>AL call round f l) fun v22=>
 mv (some v22) fun v2=>
 setF 2 v2 tm fun tm1=>
 M.pure tm1
theorem QX_:RegEq 44 23 PR KO W5:=⟨by kernel_rfl,fun _ _ _ _ _ _ _ _ _=>by kernel_rfl⟩
theorem WM_: ∃k,S5= .code .ret::k:=⟨S5.tail,by kernel_rfl⟩
def Ti:Nat:=A8 Tryz.f40
def YN:Code:=Tryz.f40.body.getD .skip
theorem AP_:envS.fn.get 40=some Tryz.f40:=by kernel_rfl
theorem LS_ {a0:Value}{n:Nat}{s:St}{Q:Value→St→Prop}(h: ∀tm,T.get tm 0=some a0→W (runF envS n ⟨40,4,Ti,tm,[.code YN], .run, .normal,none⟩) (s.cxN cxN) fun p s1=>Q p.1 (s1.cxN s.cx)):W (Ay envS (runF envS n) 40 [a0]) s Q:=
 W.call (by kernel_rfl) (by kernel_rfl) AP_ (by kernel_rfl) rfl rfl (by simp) (h _ (by kernel_rfl))
theorem VM_:Tryz.f40.results.toList=[.tmp 2]:=by kernel_rfl
def PV:List Item:=skim 64 [.code YN]
def Nh:List Item:=skim 64 PV.tail
theorem JI_:skim 64 PV.tail=Nh:=by kernel_rfl
def Tj:List Item:=skim 64 Nh.tail
theorem Zf_:skim 64 Nh.tail=Tj:=by kernel_rfl
def WQ (E:Env)(call round:Ad)(tm:T Value):M (T Value):=
 M.bind (oS (T.get tm 0) fun a=>kBox a) fun v1=>
 setF 1 v1 tm fun tm1=>
 mv (some .nilFunc) fun v2=>
 setF 2 v2 tm1 fun tm2=>
 M.pure tm2
theorem Ok_:RegEq 40 4 Ti PV WQ:=⟨by kernel_rfl,fun _ _ _ _ _ _ _ _ _=>by kernel_rfl⟩
def By_ (E:Env)(call round:Ad)(tm:T Value):M (T Value):=
 M.bind (oS (seqO []) fun a=>oS (seqO [(T.get tm 1)]) fun b=>M.pure (.func (.func 64) a.toArray b.toArray)) fun v3=>
 mv (some v3) fun v2=>
 setF 2 v2 tm fun tm1=>
 M.pure tm1
theorem JR_:RegEq 40 4 Ti Nh By_:=⟨by kernel_rfl,fun _ _ _ _ _ _ _ _ _=>by kernel_rfl⟩
theorem Yv_: ∃k,Tj= .code .ret::k:=⟨Tj.tail,by kernel_rfl⟩
def Dd:Nat:=A8 Tryz.f64
abbrev Ts:Nat:=65
def Zl:Code:=Tryz.f64.body.getD .skip
theorem FM_:envS.fn.get 64=some Tryz.f64:=by kernel_rfl
theorem Uq_ {a0 a1:Value}{n:Nat}{s:St}{Q:Value→St→Prop}(h: ∀tm,T.get tm 0=some a0→T.get tm 1=some a1→W (runF envS n ⟨64,65,Dd,tm,[.code Zl], .run, .normal,none⟩) (s.cxN cxN) fun p s1=>Q p.1 (s1.cxN s.cx)):W (Ay envS (runF envS n) 64 [a0,a1]) s Q:=
 W.call (by kernel_rfl) (by kernel_rfl) FM_ (by kernel_rfl) rfl rfl (by simp) (h _ (by kernel_rfl) (by kernel_rfl))
theorem LT_:Tryz.f64.results.toList=[]:=by kernel_rfl
def H0:List Item:=skim 64 [.code Zl]
def HG:List Item:=skim 64 H0.tail
theorem FI_:skim 64 H0.tail=HG:=by kernel_rfl
def J5:List Item:=skim 64 (brT HG)
theorem Ym_:skim 64 (brT HG)=J5:=by kernel_rfl
def XZ:List Item:=skim 64 (brF HG)
theorem Ra_:skim 64 (brF HG)=XZ:=by kernel_rfl
def NV:List Item:=skim 64 J5.tail
theorem Nr_:skim 64 J5.tail=NV:=by kernel_rfl
def My:List Item:=skim 64 NV.tail
theorem Pj_:skim 64 NV.tail=My:=by kernel_rfl
def Fm:List Item:=skim 64 (brF My)
theorem AcO_:skim 64 (brF My)=Fm:=by kernel_rfl
def LJ:List Item:=skim 64 Fm.tail
theorem If_:skim 64 Fm.tail=LJ:=by kernel_rfl
def M5:List Item:=skim 64 LJ.tail
theorem WR_:skim 64 LJ.tail=M5:=by kernel_rfl
def SP:List Item:=skim 64 (brF M5)
theorem Ua_:skim 64 (brF M5)=SP:=by kernel_rfl
theorem YG_:skim 64 SP.tail=H0:=by kernel_rfl
def TS (E:Env)(call round:Ad)(tm:T Value):M (T Value):=
 M.bind (oS (T.get tm 1) fun a=>AC E 23 a) fun v6=>
 M.bind (oS (seqO [(some v6)]) fun l=>Ba E .len [23] l) fun v7=>
 M.bind (oS (some v7) fun a=>oS (some (.int .i64 9)) fun b=>Cl.get (aBin E .geq 3 (.tmp 7) (.const (.int .i64 9))) a b) fun v8=>
 setF 8 v8 tm fun tm1=>
 M.pure tm1
theorem Zn:RegEq 64 65 Dd H0 TS:=⟨by kernel_rfl,fun _ _ _ _ _ _ _ _ _=>by kernel_rfl⟩
theorem DM_:A4 HG=some 8:=by kernel_rfl
def Wn (E:Env)(call round:Ad)(tm:T Value):M (T Value):=
 M.bind (oS (T.get tm 1) fun a=>AC E 23 a) fun v10=>
 M.bind (M.on (some v10) fun a=>M.on (some none) fun b=>M.on (onO (some (.int .i64 9)) fun v=>some (some v)) fun c=>B5 E 23 a b c) fun v11=>
 M.bind (M.on (some (.func (.func 22) #[] #[])) fun f=>M.on (seqO [(some v11)]) fun l=>AL call round f l) fun v12=>
 mv (some v12) fun v9=>
 M.bind (oS (some v9) fun a=>kExt 0 a) fun v13=>
 M.bind (oS (some v9) fun a=>kExt 1 a) fun v14=>
 mv (some v13) fun v3=>
 setF 3 v3 tm fun tm1=>
 mv (some v14) fun v4=>
 setF 4 v4 tm1 fun tm2=>
 M.pure tm2
theorem VT_:RegEq 64 65 Dd J5 Wn:=⟨by kernel_rfl,fun _ _ _ _ _ _ _ _ _=>by kernel_rfl⟩
def Wj (E:Env)(call round:Ad)(tm:T Value):M (T Value):=
 mv (T.get tm 4) fun v15=>
 M.bind (oS (some v15) fun a=>oS (some (.int .i64 0)) fun b=>Cl.get (aBin E .neq 29 (.tmp 15) (.const (.int .i64 0))) a b) fun v16=>
 setF 16 v16 tm fun tm1=>
 M.pure tm1
theorem Iv_:RegEq 64 65 Dd NV Wj:=⟨by kernel_rfl,fun _ _ _ _ _ _ _ _ _=>by kernel_rfl⟩
theorem Adu_:A4 My=some 16:=by kernel_rfl
def Gf_ (E:Env)(call round:Ad)(tm:T Value):M ((Rho×T Value)×List OpLog):=
 M.bind (apartO (oS (T.get tm 3) fun a=>M.pure a)) fun p0=>
 M.bind (apartO (oS (some p0.1) fun a=>oS (some (.int .i64 0)) fun b=>BD E 23 a b)) fun p1=>
 M.bind (apartO (oS (some p1.1) fun a=>AC E 5 a)) fun p2=>
 M.bind (apartO (oS (some p2.1) fun a=>BP E 5 3 a)) fun p3=>
 M.bind (apartO (oS (T.get tm 3) fun a=>M.pure a)) fun p4=>
 M.bind (apartO (oS (some p4.1) fun a=>oS (some (.int .i64 1)) fun b=>BD E 23 a b)) fun p5=>
 M.bind (apartO (oS (some p5.1) fun a=>AC E 5 a)) fun p6=>
 M.bind (apartO (oS (some p6.1) fun a=>BP E 5 3 a)) fun p7=>
 M.bind (apartO (oS (some p7.1) fun a=>oS (some (.int .u64 24)) fun b=>Cl.get (aBin E .shl 3 (.tmp 24) (.const (.int .u64 24))) a b)) fun p8=>
 M.bind (apartO (oS (T.get tm 3) fun a=>M.pure a)) fun p9=>
 M.bind (apartO (oS (some p9.1) fun a=>oS (some (.int .i64 2)) fun b=>BD E 23 a b)) fun p10=>
 M.bind (apartO (oS (some p10.1) fun a=>AC E 5 a)) fun p11=>
 M.bind (apartO (oS (some p11.1) fun a=>BP E 5 3 a)) fun p12=>
 M.bind (apartO (oS (some p12.1) fun a=>oS (some (.int .u64 16)) fun b=>Cl.get (aBin E .shl 3 (.tmp 29) (.const (.int .u64 16))) a b)) fun p13=>
 M.bind (apartO (oS (some p8.1) fun a=>oS (some p13.1) fun b=>Cl.get (aBin E .or 3 (.tmp 25) (.tmp 30)) a b)) fun p14=>
 M.bind (apartO (oS (T.get tm 3) fun a=>M.pure a)) fun p15=>
 M.bind (apartO (oS (some p15.1) fun a=>oS (some (.int .i64 3)) fun b=>BD E 23 a b)) fun p16=>
 M.bind (apartO (oS (some p16.1) fun a=>AC E 5 a)) fun p17=>
 M.bind (apartO (oS (some p17.1) fun a=>BP E 5 3 a)) fun p18=>
 M.bind (apartO (oS (some p18.1) fun a=>oS (some (.int .u64 8)) fun b=>Cl.get (aBin E .shl 3 (.tmp 35) (.const (.int .u64 8))) a b)) fun p19=>
 M.bind (apartO (oS (some p14.1) fun a=>oS (some p19.1) fun b=>Cl.get (aBin E .or 3 (.tmp 31) (.tmp 36)) a b)) fun p20=>
 M.bind (apartO (oS (T.get tm 3) fun a=>M.pure a)) fun p21=>
 M.bind (apartO (oS (some p21.1) fun a=>oS (some (.int .i64 4)) fun b=>BD E 23 a b)) fun p22=>
 M.bind (apartO (oS (some p22.1) fun a=>AC E 5 a)) fun p23=>
 M.bind (apartO (oS (some p23.1) fun a=>BP E 5 3 a)) fun p24=>
 M.bind (apartO (oS (some p20.1) fun a=>oS (some p24.1) fun b=>Cl.get (aBin E .or 3 (.tmp 37) (.tmp 41)) a b)) fun p25=>
 M.bind (apartO (oS (seqP [(0,(some p3.1)),(1,(some p25.1))]) fun ps=>Cm E 90 ps)) fun p26=>
 M.bind (apartO (CP E 90)) fun p27=>
 setT 5 p27.1 tm fun tm1=>
 M.pure (([p27.1,p26.1,p25.1,p24.1,p23.1,p22.1,p21.1,p20.1,p19.1,p18.1,p17.1,p16.1,p15.1,p14.1,p13.1,p12.1,p11.1,p10.1,p9.1,p8.1,p7.1,p6.1,p5.1,p4.1,p3.1,p2.1,p1.1,p0.1],tm1),[p27.2,p26.2,p25.2,p24.2,p23.2,p22.2,p21.2,p20.2,p19.2,p18.2,p17.2,p16.2,p15.2,p14.2,p13.2,p12.2,p11.2,p10.2,p9.2,p8.2,p7.2,p6.2,p5.2,p4.2,p3.2,p2.2,p1.2,p0.2])
theorem WQ_:DrawEq 64 65 Dd Fm [0,1,3,7,0,16,48,112,240,0,512,1536,3584,7680,16368,0,32768,98304,229376,491520,1048560,0,2097152,6291456,14680064,33554416,67108863,0,268435455] Gf_:=⟨by kernel_rfl,by kernel_rfl,fun _ _ _ _ _ _ _ _ _=>by kernel_rfl⟩
theorem AaK_ (E:Env)(call round:Ad)(x17 x18 x19 x20 x21 x22 x23 x24 x25 x26 x27 x28 x29 x30 x31 x32 x33 x34 x35 x36 x37 x38 x39 x40 x41 x42 x43 x5:Value)(tm:T Value)(s:St):Br call round (BY E Dd 65 (hdC Fm)) [x5,x43,x42,x41,x40,x39,x38,x37,x36,x35,x34,x33,x32,x31,x30,x29,x28,x27,x26,x25,x24,x23,x22,x21,x20,x19,x18,x17] tm s=(M.bind (oS (some x5) fun a=>oS (some x43) fun b=>BM E 90 a b) fun _=>M.pure tm) s:=by kernel_rfl
def Ys (E:Env)(call round:Ad)(tm:T Value):M (T Value):=
 M.bind (oS (T.get tm 5) fun a=>kFld E 90 a 0) fun v44=>
 M.bind (oS (some v44) fun a=>AC E 3 a) fun v45=>
 M.bind (oS (some v45) fun a=>oS (some (.int .i64 1)) fun b=>Cl.get (aBin E .lss 3 (.tmp 45) (.const (.int .i64 1))) a b) fun v46=>
 mv (some v46) fun v47=>
 M.bind (M.chk (isK v47) (M.if (isB v47 false) (oS (T.get tm 5) fun a=>kFld E 90 a 0) (M.pure undef))) fun v48=>
 M.bind (M.chk (isK v47) (M.if (isB v47 false) (oS (some v48) fun a=>AC E 3 a) (M.pure undef))) fun v49=>
 M.bind (M.chk (isK v47) (M.if (isB v47 false) (oS (some v49) fun a=>oS (some (.int .i64 2)) fun b=>Cl.get (aBin E .gtr 3 (.tmp 49) (.const (.int .i64 2))) a b) (M.pure undef))) fun v50=>
 M.bind (M.on (some v47) fun a=>M.on (some (.bool true)) fun b=>M.on (some v50) fun c=>Bj a b c) fun v51=>
 mv (some v51) fun v52=>
 M.bind (M.chk (isK v52) (M.if (isB v52 false) (oS (T.get tm 5) fun a=>kFld E 90 a 1) (M.pure undef))) fun v53=>
 M.bind (M.chk (isK v52) (M.if (isB v52 false) (oS (some v53) fun a=>AC E 3 a) (M.pure undef))) fun v54=>
 M.bind (M.chk (isK v52) (M.if (isB v52 false) (oS (some v54) fun a=>oS (some (.int .i64 2147483647)) fun b=>Cl.get (aBin E .gtr 3 (.tmp 54) (.const (.int .i64 2147483647))) a b) (M.pure undef))) fun v55=>
 M.bind (M.on (some v52) fun a=>M.on (some (.bool true)) fun b=>M.on (some v55) fun c=>Bj a b c) fun v56=>
 mv (some v56) fun v57=>
 M.bind (M.chk (isK v57) (M.if (isB v57 false) (oS (T.get tm 0) fun a=>M.pure a) (M.pure undef))) fun v58=>
 M.bind (M.chk (isK v57) (M.if (isB v57 false) (oS (T.get tm 5) fun a=>AC E 90 a) (M.pure undef))) fun v59=>
 M.bind (M.chk (isK v57) (M.if (isB v57 false) (M.on (some v58) fun f=>M.on (seqO [(some v59)]) fun l=>AL call round f l) (M.pure undef))) fun v60=>
 M.bind (M.chk (isK v57) (M.if (isB v57 false) (oS (some v60) fun a=>kUn E.P .not a) (M.pure undef))) fun v61=>
 M.bind (M.on (some v57) fun a=>M.on (some (.bool true)) fun b=>M.on (some v61) fun c=>Bj a b c) fun v62=>
 setF 62 v62 tm fun tm1=>
 M.pure tm1
theorem OA_:RegEq 64 65 Dd LJ Ys:=⟨by kernel_rfl,fun _ _ _ _ _ _ _ _ _=>by kernel_rfl⟩
theorem Il_:A4 M5=some 62:=by kernel_rfl
def Ez_ (E:Env)(call round:Ad)(tm:T Value):M (T Value):=
 M.bind (oS (T.get tm 1) fun a=>AC E 23 a) fun v63=>
 M.bind (M.on (some v63) fun a=>M.on (onO (some (.int .i64 9)) fun v=>some (some v)) fun b=>M.on (some none) fun c=>B5 E 23 a b c) fun v64=>
 M.bind (oS (T.get tm 1) fun a=>oS (some v64) fun b=>BM E 23 a b) fun _=>
 M.pure tm
theorem Agw_:RegEq 64 65 Dd SP Ez_:=⟨by kernel_rfl,fun _ _ _ _ _ _ _ _ _=>by kernel_rfl⟩
def H7:Nat:=A8 Tryz.f41
def EQ_:Code:=Tryz.f41.body.getD .skip
theorem SE:envS.fn.get 41=some Tryz.f41:=by kernel_rfl
theorem Vn_ {a0 a1:Value}{n:Nat}{s:St}{Q:Value→St→Prop}(h: ∀tm,T.get tm 0=some a0→T.get tm 1=some a1→W (runF envS n ⟨41,13,H7,tm,[.code EQ_], .run, .normal,none⟩) (s.cxN cxN) fun p s1=>Q p.1 (s1.cxN s.cx)):W (Ay envS (runF envS n) 41 [a0,a1]) s Q:=
 W.call (by kernel_rfl) (by kernel_rfl) SE (by kernel_rfl) rfl rfl (by simp) (h _ (by kernel_rfl) (by kernel_rfl))
theorem Z0:Tryz.f41.results.toList=[.tmp 4]:=by kernel_rfl
def TZ:List Item:=skim 64 [.code EQ_]
def JG:List Item:=skim 64 TZ.tail
theorem Aan_:skim 64 TZ.tail=JG:=by kernel_rfl
def F5:List Item:=skim 64 JG.tail
theorem ZA:skim 64 JG.tail=F5:=by kernel_rfl
def Jv:List Item:=skim 64 (brT F5)
theorem Afb_:skim 64 (brT F5)=Jv:=by kernel_rfl
def LC:List Item:=skim 64 (brF F5)
theorem Aae_:skim 64 (brF F5)=LC:=by kernel_rfl
def Sy:List Item:=skim 64 Jv.tail
theorem UN_:skim 64 Jv.tail=Sy:=by kernel_rfl
def Qq:List Item:=skim 64 LC.tail
theorem ND_:skim 64 LC.tail=Qq:=by kernel_rfl
def YB (E:Env)(call round:Ad)(tm:T Value):M (T Value):=
 mv (some (.pointer none)) fun v4=>
 setF 4 v4 tm fun tm1=>
 M.pure tm1
theorem LP_:RegEq 41 13 H7 TZ YB:=⟨by kernel_rfl,fun _ _ _ _ _ _ _ _ _=>by kernel_rfl⟩
def ZD (E:Env)(call round:Ad)(tm:T Value):M (T Value):=
 mv (T.get tm 1) fun v5=>
 M.bind (oS (some v5) fun a=>oS (some (.int .i64 1)) fun b=>Cl.get (aBin E .eql 3 (.tmp 5) (.const (.int .i64 1))) a b) fun v6=>
 setF 6 v6 tm fun tm1=>
 M.pure tm1
theorem Rz_:RegEq 41 13 H7 JG ZD:=⟨by kernel_rfl,fun _ _ _ _ _ _ _ _ _=>by kernel_rfl⟩
theorem Af_:A4 F5=some 6:=by kernel_rfl
def EC_ (E:Env)(call round:Ad)(tm:T Value):M (T Value):=
 mv (T.get tm 0) fun v7=>
 M.bind (oS (some v7) fun a=>kNil a) fun v8=>
 M.bind (oS (some v8) fun a=>kFld E 68 a 2) fun v9=>
 mv (some v9) fun v4=>
 setF 4 v4 tm fun tm1=>
 M.pure tm1
theorem Us_:RegEq 41 13 H7 Jv EC_:=⟨by kernel_rfl,fun _ _ _ _ _ _ _ _ _=>by kernel_rfl⟩
def AV_ (E:Env)(call round:Ad)(tm:T Value):M (T Value):=
 mv (T.get tm 0) fun v10=>
 M.bind (oS (some v10) fun a=>kNil a) fun v11=>
 M.bind (oS (some v11) fun a=>kFld E 68 a 3) fun v12=>
 mv (some v12) fun v4=>
 setF 4 v4 tm fun tm1=>
 M.pure tm1
theorem VQ_:RegEq 41 13 H7 LC AV_:=⟨by kernel_rfl,fun _ _ _ _ _ _ _ _ _=>by kernel_rfl⟩
theorem LH_: ∃k,Sy= .code .ret::k:=⟨Sy.tail,by kernel_rfl⟩
theorem JA_: ∃k,Qq= .code .ret::k:=⟨Qq.tail,by kernel_rfl⟩
def CB:Nat:=A8 Tryz.f38
def WW:Code:=Tryz.f38.body.getD .skip
theorem Rl:envS.fn.get 38=some Tryz.f38:=by kernel_rfl
theorem YA {a0:Value}{n:Nat}{s:St}{Q:Value→St→Prop}(h: ∀tm,T.get tm 0=some a0→W (runF envS n ⟨38,47,CB,tm,[.code WW], .run, .normal,none⟩) (s.cxN cxN) fun p s1=>Q p.1 (s1.cxN s.cx)):W (Ay envS (runF envS n) 38 [a0]) s Q:=
 W.call (by kernel_rfl) (by kernel_rfl) Rl (by kernel_rfl) rfl rfl (by simp) (h _ (by kernel_rfl))
theorem GM_:Tryz.f38.results.toList=[.tmp 2]:=by kernel_rfl
def Th:List Item:=skim 64 [.code WW]
def Ko:List Item:=skim 64 Th.tail
theorem X6:skim 64 Th.tail=Ko:=by kernel_rfl
def JK:List Item:=skim 64 Ko.tail
theorem Aw_:skim 64 Ko.tail=JK:=by kernel_rfl
def IP:List Item:=skim 64 JK.tail
theorem BE_:skim 64 JK.tail=IP:=by kernel_rfl
def Gp:List Item:=skim 64 IP.tail
theorem RR:skim 64 IP.tail=Gp:=by kernel_rfl
def Kz:List Item:=skim 64 (brT Gp)
theorem VY_:skim 64 (brT Gp)=Kz:=by kernel_rfl
def JT:List Item:=skim 64 (brF Gp)
theorem XI:skim 64 (brF Gp)=JT:=by kernel_rfl
def JU:List Item:=skim 64 Kz.tail
theorem Tq_:skim 64 Kz.tail=JU:=by kernel_rfl
def M2:List Item:=skim 64 JT.tail
theorem Am_:skim 64 JT.tail=M2:=by kernel_rfl
def NU:List Item:=skim 64 JU.tail
theorem PY_:skim 64 JU.tail=NU:=by kernel_rfl
def TU:List Item:=skim 64 M2.tail
theorem Du_:skim 64 M2.tail=TU:=by kernel_rfl
def LG:List Item:=skim 64 NU.tail
theorem AeT_:skim 64 NU.tail=LG:=by kernel_rfl
def Ia:List Item:=skim 64 LG.tail
theorem Uk_:skim 64 LG.tail=Ia:=by kernel_rfl
def Qw:List Item:=skim 64 (brT Ia)
theorem Ms_:skim 64 (brT Ia)=Qw:=by kernel_rfl
def Pn:List Item:=skim 64 (brF Ia)
theorem Acm_:skim 64 Qw.tail=Pn:=by kernel_rfl
theorem Ie_:skim 64 Pn.tail=IP:=by kernel_rfl
def OT (E:Env)(call round:Ad)(tm:T Value):M (T Value):=
 mv (some (.slice none 0 0)) fun v2=>
 setF 2 v2 tm fun tm1=>
 M.pure tm1
theorem Zt:RegEq 38 47 CB Th OT:=⟨by kernel_rfl,fun _ _ _ _ _ _ _ _ _=>by kernel_rfl⟩
def SU (E:Env)(call round:Ad)(tm:T Value):M (T Value):=
 mv (some (.slice none 0 0)) fun v3=>
 setF 3 v3 tm fun tm1=>
 M.pure tm1
theorem Gv_:RegEq 38 47 CB Ko SU:=⟨by kernel_rfl,fun _ _ _ _ _ _ _ _ _=>by kernel_rfl⟩
def Ub (E:Env)(call round:Ad)(tm:T Value):M (T Value):=
 mv (T.get tm 0) fun v9=>
 M.bind (M.on (some (.func (.func 18) #[] #[])) fun f=>M.on (seqO [(some v9),(some (.string {data:= #[106,111,117,114,110,97,108,46]}))]) fun l=>AL call round f l) fun v10=>
 setF 10 v10 tm fun tm1=>
 M.bind (oS (seqO [(some v10)]) fun l=>Ba E .len [41] l) fun v11=>
 setF 11 v11 tm1 fun tm2=>
 mv (some (.int .i64 0)) fun v12=>
 setF 12 v12 tm2 fun tm3=>
 M.pure tm3
theorem Xw:RegEq 38 47 CB JK Ub:=⟨by kernel_rfl,fun _ _ _ _ _ _ _ _ _=>by kernel_rfl⟩
def Mt (E:Env)(call round:Ad)(tm:T Value):M (T Value):=
 M.bind (oS (T.get tm 12) fun a=>oS (T.get tm 11) fun b=>Cl.get (aBin E .lss 3 (.tmp 12) (.tmp 11)) a b) fun v13=>
 setF 13 v13 tm fun tm1=>
 M.pure tm1
theorem Sk:RegEq 38 47 CB IP Mt:=⟨by kernel_rfl,fun _ _ _ _ _ _ _ _ _=>by kernel_rfl⟩
theorem RP:A4 Gp=some 13:=by kernel_rfl
def Vt (E:Env)(call round:Ad)(tm:T Value):M (T Value):=
 M.bind (oS (T.get tm 10) fun a=>oS (T.get tm 12) fun b=>BD E 41 a b) fun v14=>
 M.bind (oS (some v14) fun a=>AC E 9 a) fun v15=>
 mv (some v15) fun v5=>
 setF 5 v5 tm fun tm1=>
 M.pure tm1
theorem Xd_:RegEq 38 47 CB Kz Vt:=⟨by kernel_rfl,fun _ _ _ _ _ _ _ _ _=>by kernel_rfl⟩
def Qe (E:Env)(call round:Ad)(tm:T Value):M (T Value):=
 mv (T.get tm 3) fun v44=>
 M.bind (M.on (some (.func (.func 62) #[] #[])) fun f=>M.on (seqO [(some v44)]) fun l=>AL call round f l) fun v45=>
 M.pure tm
theorem Za:RegEq 38 47 CB JT Qe:=⟨by kernel_rfl,fun _ _ _ _ _ _ _ _ _=>by kernel_rfl⟩
def ES_ (E:Env)(call round:Ad)(tm:T Value):M (T Value):=
 mv (T.get tm 5) fun v16=>
 M.bind (M.on (some (.func (.func 60) #[] #[])) fun f=>M.on (seqO [(some v16),(some (.string {data:= #[106,111,117,114,110,97,108,46]}))]) fun l=>AL call round f l) fun v17=>
 mv (some v17) fun v6=>
 setF 6 v6 tm fun tm1=>
 M.pure tm1
theorem Nn_:RegEq 38 47 CB JU ES_:=⟨by kernel_rfl,fun _ _ _ _ _ _ _ _ _=>by kernel_rfl⟩
def Rt (E:Env)(call round:Ad)(tm:T Value):M (T Value):=
 mv (T.get tm 3) fun v46=>
 mv (some v46) fun v2=>
 setF 2 v2 tm fun tm1=>
 M.pure tm1
theorem EP_:RegEq 38 47 CB M2 Rt:=⟨by kernel_rfl,fun _ _ _ _ _ _ _ _ _=>by kernel_rfl⟩
def BS_ (E:Env)(call round:Ad)(tm:T Value):M (T Value):=
 mv (T.get tm 6) fun v19=>
 M.bind (M.on (some (.func (.func 61) #[] #[])) fun f=>M.on (seqO [(some v19)]) fun l=>AL call round f l) fun v20=>
 mv (some v20) fun v18=>
 M.bind (oS (some v18) fun a=>kExt 0 a) fun v21=>
 M.bind (oS (some v18) fun a=>kExt 1 a) fun v22=>
 mv (some v21) fun v7=>
 setF 7 v7 tm fun tm1=>
 mv (some v22) fun v8=>
 setF 8 v8 tm1 fun tm2=>
 M.pure tm2
theorem Aai_:RegEq 38 47 CB NU BS_:=⟨by kernel_rfl,fun _ _ _ _ _ _ _ _ _=>by kernel_rfl⟩
theorem Yt: ∃k,TU= .code .ret::k:=⟨TU.tail,by kernel_rfl⟩
def Zu (E:Env)(call round:Ad)(tm:T Value):M (T Value):=
 mv (T.get tm 8) fun v23=>
 M.bind (oS (some v23) fun a=>oS (some .nilIface) fun b=>Cl.get (aBin E .eql 108 (.tmp 23) (.const .nilIface)) a b) fun v24=>
 mv (some v24) fun v25=>
 M.bind (M.chk (isK v25) (M.if (isB v25 true) (oS (T.get tm 7) fun a=>M.pure a) (M.pure undef))) fun v26=>
 M.bind (M.chk (isK v25) (M.if (isB v25 true) (oS (some v26) fun a=>oS (some (.int .i64 1)) fun b=>Cl.get (aBin E .geq 3 (.tmp 26) (.const (.int .i64 1))) a b) (M.pure undef))) fun v27=>
 M.bind (M.on (some v25) fun a=>M.on (some v27) fun b=>M.on (some (.bool false)) fun c=>Bj a b c) fun v28=>
 mv (some v28) fun v29=>
 M.bind (M.chk (isK v29) (M.if (isB v29 true) (oS (T.get tm 7) fun a=>M.pure a) (M.pure undef))) fun v30=>
 M.bind (M.chk (isK v29) (M.if (isB v29 true) (oS (some v30) fun a=>oS (some (.int .i64 2147483647)) fun b=>Cl.get (aBin E .leq 3 (.tmp 30) (.const (.int .i64 2147483647))) a b) (M.pure undef))) fun v31=>
 M.bind (M.on (some v29) fun a=>M.on (some v31) fun b=>M.on (some (.bool false)) fun c=>Bj a b c) fun v32=>
 mv (some v32) fun v33=>
 M.bind (M.chk (isK v33) (M.if (isB v33 true) (oS (T.get tm 7) fun a=>M.pure a) (M.pure undef))) fun v34=>
 M.bind (M.chk (isK v33) (M.if (isB v33 true) (M.on (some (.func (.func 39) #[] #[])) fun f=>M.on (seqO [(some v34)]) fun l=>AL call round f l) (M.pure undef))) fun v35=>
 M.bind (M.chk (isK v33) (M.if (isB v33 true) (oS (T.get tm 6) fun a=>M.pure a) (M.pure undef))) fun v36=>
 M.bind (M.chk (isK v33) (M.if (isB v33 true) (oS (some v35) fun a=>oS (some v36) fun b=>Cl.get (aBin E .eql 9 (.tmp 35) (.tmp 36)) a b) (M.pure undef))) fun v37=>
 M.bind (M.on (some v33) fun a=>M.on (some v37) fun b=>M.on (some (.bool false)) fun c=>Bj a b c) fun v38=>
 setF 38 v38 tm fun tm1=>
 M.pure tm1
theorem In_:RegEq 38 47 CB LG Zu:=⟨by kernel_rfl,fun _ _ _ _ _ _ _ _ _=>by kernel_rfl⟩
theorem Uy_:A4 Ia=some 38:=by kernel_rfl
def GT_ (E:Env)(call round:Ad)(tm:T Value):M (T Value):=
 mv (T.get tm 3) fun v39=>
 mv (T.get tm 7) fun v40=>
 M.bind (oS (seqP [(0,(some v40))]) fun ps=>Cu E 63 1 ps) fun v41=>
 M.bind (oS (seqO [(some v39),(some v41)]) fun l=>Ba E .append [63,63] l) fun v42=>
 mv (some v42) fun v3=>
 setF 3 v3 tm fun tm1=>
 M.pure tm1
theorem Aaj_:RegEq 38 47 CB Qw GT_:=⟨by kernel_rfl,fun _ _ _ _ _ _ _ _ _=>by kernel_rfl⟩
def Wz (E:Env)(call round:Ad)(tm:T Value):M (T Value):=
 M.bind (oS (T.get tm 12) fun a=>oS (some (.int .i64 1)) fun b=>Cl.get (aBin E .add 3 (.tmp 12) (.const (.int .i64 1))) a b) fun v43=>
 mv (some v43) fun v12=>
 setF 12 v12 tm fun tm1=>
 M.pure tm1
theorem Ob_:RegEq 38 47 CB Pn Wz:=⟨by kernel_rfl,fun _ _ _ _ _ _ _ _ _=>by kernel_rfl⟩
def Bi:Nat:=A8 Tryz.f13
abbrev DP:Nat:=110
def WY:Code:=Tryz.f13.body.getD .skip
theorem GF_:envS.fn.get 13=some Tryz.f13:=by kernel_rfl
theorem Vy_ {a0:Value}{n:Nat}{s:St}{Q:Value→St→Prop}(h: ∀tm,T.get tm 0=some a0→W (runF envS n ⟨13,110,Bi,tm,[.code WY], .run, .normal,none⟩) (s.cxN cxN) fun p s1=>Q p.1 (s1.cxN s.cx)):W (Ay envS (runF envS n) 13 [a0]) s Q:=
 W.call (by kernel_rfl) (by kernel_rfl) GF_ (by kernel_rfl) rfl rfl (by simp) (h _ (by kernel_rfl))
theorem Tb_:Tryz.f13.results.toList=[.tmp 2, .tmp 3]:=by kernel_rfl
def RC:List Item:=skim 64 [.code WY]
def JQ:List Item:=skim 64 RC.tail
theorem Mw_:skim 64 RC.tail=JQ:=by kernel_rfl
def Nl:List Item:=skim 64 JQ.tail
theorem AbF_:skim 64 JQ.tail=Nl:=by kernel_rfl
def OA:List Item:=skim 64 Nl.tail
theorem VW_:skim 64 Nl.tail=OA:=by kernel_rfl
def OH:List Item:=skim 64 (brF OA)
theorem AeL_:skim 64 (brF OA)=OH:=by kernel_rfl
def Oj:List Item:=skim 64 OH.tail
theorem YW_:skim 64 OH.tail=Oj:=by kernel_rfl
def JX:List Item:=skim 64 Oj.tail
theorem Tw_:skim 64 Oj.tail=JX:=by kernel_rfl
def LQ:List Item:=skim 64 JX.tail
theorem AaJ_:skim 64 JX.tail=LQ:=by kernel_rfl
def GS:List Item:=skim 64 LQ.tail
theorem AfM_:skim 64 LQ.tail=GS:=by kernel_rfl
def FT:List Item:=skim 64 GS.tail
theorem Zb:skim 64 GS.tail=FT:=by kernel_rfl
def Lp:List Item:=skim 64 (brT FT)
theorem ZX_:skim 64 (brT FT)=Lp:=by kernel_rfl
def GX:List Item:=skim 64 (brF FT)
theorem MJ_:skim 64 (brF FT)=GX:=by kernel_rfl
def MM:List Item:=skim 64 Lp.tail
theorem Wh_:skim 64 Lp.tail=MM:=by kernel_rfl
def J8:List Item:=skim 64 GX.tail
theorem VK_:skim 64 GX.tail=J8:=by kernel_rfl
def M9:List Item:=skim 64 MM.tail
theorem TD_:skim 64 MM.tail=M9:=by kernel_rfl
def IN:List Item:=skim 64 (brF J8)
theorem Ks_:skim 64 (brF J8)=IN:=by kernel_rfl
def K1:List Item:=skim 64 M9.tail
theorem Ve_:skim 64 M9.tail=K1:=by kernel_rfl
def Fz:List Item:=skim 64 IN.tail
theorem NQ_:skim 64 IN.tail=Fz:=by kernel_rfl
def Ns:List Item:=skim 64 (brF K1)
theorem IQ_:skim 64 (brF K1)=Ns:=by kernel_rfl
def Im:List Item:=skim 64 Fz.tail
theorem AdH_:skim 64 Fz.tail=Im:=by kernel_rfl
def DF:List Item:=skim 64 Ns.tail
theorem XA_:skim 64 Ns.tail=DF:=by kernel_rfl
def GE:List Item:=skim 64 Im.tail
theorem YI:skim 64 Im.tail=GE:=by kernel_rfl
def Li:Code:=asC DF
def Nz:Code:=bdC DF
theorem AdS_:rfP DF=some (50,[51],Li,Nz):=by kernel_rfl
theorem Ti_:TM DF=[.code Li, .beginRound, .code Nz]:=by kernel_rfl
def Lx:List Item:=skim 64 DF.tail
theorem US_:skim 64 DF.tail=Lx:=by kernel_rfl
def Iv:List Item:=skim 64 (TM DF)
theorem AaY_:skim 64 (TM DF)=Iv:=by kernel_rfl
def Jz:List Item:=skim 64 (brT GE)
theorem IM_:skim 64 (brT GE)=Jz:=by kernel_rfl
def NO:List Item:=skim 64 (brF GE)
theorem OO_:skim 64 (brF GE)=NO:=by kernel_rfl
def Ri:List Item:=skim 64 Lx.tail
theorem AcS_:skim 64 Lx.tail=Ri:=by kernel_rfl
def HM:List Item:=skim 64 Iv.tail
theorem KC_:skim 64 Iv.tail=HM:=by kernel_rfl
def JY:List Item:=skim 64 Jz.tail
theorem TR_:skim 64 Jz.tail=JY:=by kernel_rfl
def Gx:List Item:=skim 64 NO.tail
theorem ZT_:skim 64 NO.tail=Gx:=by kernel_rfl
theorem Agc_:skim 64 Ri.tail=GS:=by kernel_rfl
def Kh:List Item:=skim 64 HM.tail
theorem AfU_:skim 64 HM.tail=Kh:=by kernel_rfl
def Gd:List Item:=skim 64 Gx.tail
theorem Eu_:skim 64 Gx.tail=Gd:=by kernel_rfl
def H8:List Item:=skim 64 Kh.tail
theorem Uv_:skim 64 Kh.tail=H8:=by kernel_rfl
def On:List Item:=skim 64 (brT Gd)
theorem ZC_:skim 64 (brT Gd)=On:=by kernel_rfl
def Kk:List Item:=skim 64 (brF Gd)
theorem Sx_:skim 64 (brF Gd)=Kk:=by kernel_rfl
def VK:List Item:=skim 64 H8.tail
theorem TK_:skim 64 H8.tail=VK:=by kernel_rfl
def Mq:List Item:=skim 64 On.tail
theorem LB_:skim 64 On.tail=Mq:=by kernel_rfl
def JI:List Item:=skim 64 Kk.tail
theorem Acu_:skim 64 Kk.tail=JI:=by kernel_rfl
def Ke:List Item:=skim 64 Mq.tail
theorem WX:skim 64 Mq.tail=Ke:=by kernel_rfl
def Hr:List Item:=skim 64 Ke.tail
theorem Ea_:skim 64 Ke.tail=Hr:=by kernel_rfl
def N2:List Item:=skim 64 (brT Hr)
theorem AdA_:skim 64 (brT Hr)=N2:=by kernel_rfl
def S8:List Item:=skim 64 (brF Hr)
theorem LA_:skim 64 (brF Hr)=S8:=by kernel_rfl
def N3:List Item:=skim 64 N2.tail
theorem Vu_:skim 64 N2.tail=N3:=by kernel_rfl
theorem Aaf_:skim 64 S8.tail=Gx:=by kernel_rfl
def Ck_ (E:Env)(call round:Ad)(tm:T Value):M (T Value):=
 mv (some (.pointer none)) fun v2=>
 setF 2 v2 tm fun tm1=>
 mv (some (.int .i64 0)) fun v3=>
 setF 3 v3 tm1 fun tm2=>
 M.pure tm2
theorem MH_:RegEq 13 110 Bi RC Ck_:=⟨by kernel_rfl,fun _ _ _ _ _ _ _ _ _=>by kernel_rfl⟩
def Cl_ (E:Env)(call round:Ad)(tm:T Value):M (T Value):=
 mv (T.get tm 0) fun v20=>
 M.bind (M.on (some (.func (.func 21) #[] #[])) fun f=>M.on (seqO [(some v20),(some (.string {data:= #[]}))]) fun l=>AL call round f l) fun v21=>
 mv (some v21) fun v19=>
 M.bind (oS (some v19) fun a=>kExt 0 a) fun v22=>
 M.bind (oS (some v19) fun a=>kExt 1 a) fun v23=>
 mv (some v22) fun v4=>
 mv (some v23) fun v5=>
 setF 5 v5 tm fun tm1=>
 M.pure tm1
theorem AbG_:RegEq 13 110 Bi JQ Cl_:=⟨by kernel_rfl,fun _ _ _ _ _ _ _ _ _=>by kernel_rfl⟩
def EA_ (E:Env)(call round:Ad)(tm:T Value):M (T Value):=
 mv (T.get tm 5) fun v24=>
 M.bind (oS (some v24) fun a=>oS (some (.int .i64 1)) fun b=>Cl.get (aBin E .eql 29 (.tmp 24) (.const (.int .i64 1))) a b) fun v25=>
 setF 25 v25 tm fun tm1=>
 M.pure tm1
theorem AdD_:RegEq 13 110 Bi Nl EA_:=⟨by kernel_rfl,fun _ _ _ _ _ _ _ _ _=>by kernel_rfl⟩
theorem Wx_:A4 OA=some 25:=by kernel_rfl
def EF_ (E:Env)(call round:Ad)(tm:T Value):M (T Value):=
 mv (T.get tm 0) fun v27=>
 M.bind (oS (seqP [(0,(some v27))]) fun ps=>Cm E 68 ps) fun v28=>
 M.bind (oS (some v28) fun a=>kBox a) fun v29=>
 M.bind (CP E 26) fun v6=>
 setF 6 v6 tm fun tm1=>
 M.bind (oS (some v6) fun a=>oS (some v29) fun b=>BM E 26 a b) fun _=>
 M.pure tm1
theorem Ji_:RegEq 13 110 Bi OH EF_:=⟨by kernel_rfl,fun _ _ _ _ _ _ _ _ _=>by kernel_rfl⟩
def Bi_ (E:Env)(call round:Ad)(tm:T Value):M (T Value):=
 mv (T.get tm 0) fun v30=>
 M.bind (M.on (some (.func (.func 38) #[] #[])) fun f=>M.on (seqO [(some v30)]) fun l=>AL call round f l) fun v31=>
 mv (some v31) fun v7=>
 setF 7 v7 tm fun tm1=>
 M.pure tm1
theorem MM_:RegEq 13 110 Bi Oj Bi_:=⟨by kernel_rfl,fun _ _ _ _ _ _ _ _ _=>by kernel_rfl⟩
def Wd (E:Env)(call round:Ad)(tm:T Value):M (T Value):=
 mv (some (.int .i64 1)) fun v8=>
 setF 8 v8 tm fun tm1=>
 M.pure tm1
theorem AdU_:RegEq 13 110 Bi JX Wd:=⟨by kernel_rfl,fun _ _ _ _ _ _ _ _ _=>by kernel_rfl⟩
def FR_ (E:Env)(call round:Ad)(tm:T Value):M (T Value):=
 mv (T.get tm 7) fun v32=>
 setF 32 v32 tm fun tm1=>
 M.bind (oS (seqO [(some v32)]) fun l=>Ba E .len [63] l) fun v33=>
 setF 33 v33 tm1 fun tm2=>
 mv (some (.int .i64 0)) fun v34=>
 setF 34 v34 tm2 fun tm3=>
 M.pure tm3
theorem Yn_:RegEq 13 110 Bi LQ FR_:=⟨by kernel_rfl,fun _ _ _ _ _ _ _ _ _=>by kernel_rfl⟩
def RO (E:Env)(call round:Ad)(tm:T Value):M (T Value):=
 M.bind (oS (T.get tm 34) fun a=>oS (T.get tm 33) fun b=>Cl.get (aBin E .lss 3 (.tmp 34) (.tmp 33)) a b) fun v35=>
 setF 35 v35 tm fun tm1=>
 M.pure tm1
theorem BK_:RegEq 13 110 Bi GS RO:=⟨by kernel_rfl,fun _ _ _ _ _ _ _ _ _=>by kernel_rfl⟩
theorem Dj_:A4 FT=some 35:=by kernel_rfl
def We (E:Env)(call round:Ad)(tm:T Value):M (T Value):=
 M.bind (oS (T.get tm 32) fun a=>oS (T.get tm 34) fun b=>BD E 63 a b) fun v36=>
 M.bind (oS (some v36) fun a=>AC E 3 a) fun v37=>
 mv (some v37) fun v10=>
 setF 10 v10 tm fun tm1=>
 M.pure tm1
theorem AeU_:RegEq 13 110 Bi Lp We:=⟨by kernel_rfl,fun _ _ _ _ _ _ _ _ _=>by kernel_rfl⟩
def Cq_ (E:Env)(call round:Ad)(tm:T Value):M (T Value):=
 mv (T.get tm 8) fun v67=>
 M.bind (oS (some v67) fun a=>oS (some (.int .i64 2147483647)) fun b=>Cl.get (aBin E .gtr 3 (.tmp 67) (.const (.int .i64 2147483647))) a b) fun v68=>
 setF 68 v68 tm fun tm1=>
 M.pure tm1
theorem QI_:RegEq 13 110 Bi GX Cq_:=⟨by kernel_rfl,fun _ _ _ _ _ _ _ _ _=>by kernel_rfl⟩
def Z9 (E:Env)(call round:Ad)(tm:T Value):M (T Value):=
 mv (T.get tm 0) fun v39=>
 mv (T.get tm 10) fun v40=>
 M.bind (M.on (some (.func (.func 39) #[] #[])) fun f=>M.on (seqO [(some v40)]) fun l=>AL call round f l) fun v41=>
 M.bind (oS (some (.string {data:= #[106,111,117,114,110,97,108,46]})) fun a=>oS (some v41) fun b=>Cl.get (aBin E .add 9 (.const (.string {data:= #[106,111,117,114,110,97,108,46]})) (.tmp 41)) a b) fun v42=>
 M.bind (M.on (some (.func (.func 21) #[] #[])) fun f=>M.on (seqO [(some v39),(some v42)]) fun l=>AL call round f l) fun v43=>
 mv (some v43) fun v38=>
 M.bind (oS (some v38) fun a=>kExt 0 a) fun v44=>
 M.bind (oS (some v38) fun a=>kExt 1 a) fun v45=>
 mv (some v44) fun v11=>
 setF 11 v11 tm fun tm1=>
 mv (some v45) fun v12=>
 setF 12 v12 tm1 fun tm2=>
 M.pure tm2
theorem NL_:RegEq 13 110 Bi MM Z9:=⟨by kernel_rfl,fun _ _ _ _ _ _ _ _ _=>by kernel_rfl⟩
theorem Wy_:A4 J8=some 68:=by kernel_rfl
def CT_ (E:Env)(call round:Ad)(tm:T Value):M (T Value):=
 mv (T.get tm 12) fun v46=>
 M.bind (oS (some v46) fun a=>oS (some (.int .i64 0)) fun b=>Cl.get (aBin E .neq 29 (.tmp 46) (.const (.int .i64 0))) a b) fun v47=>
 setF 47 v47 tm fun tm1=>
 M.pure tm1
theorem Kf_:RegEq 13 110 Bi M9 CT_:=⟨by kernel_rfl,fun _ _ _ _ _ _ _ _ _=>by kernel_rfl⟩
def XP (E:Env)(call round:Ad)(tm:T Value):M ((Rho×T Value)×List OpLog):=
 M.bind (apartO (oS (T.get tm 6) fun a=>AC E 26 a)) fun p0=>
 M.bind (apartO (oS (T.get tm 8) fun a=>M.pure a)) fun p1=>
 M.bind (apartO (M.on (some (.func (.func 39) #[] #[])) fun f=>M.on (seqO [(some p1.1)]) fun l=>AL call round f l)) fun p2=>
 M.bind (apartO (oS (some (.string {data:= #[106,111,117,114,110,97,108,46]})) fun a=>oS (some p2.1) fun b=>Cl.get (aBin E .add 9 (.const (.string {data:= #[106,111,117,114,110,97,108,46]})) (.tmp 71)) a b)) fun p3=>
 M.bind (apartO (oS (some p0.1) fun a=>kNil a)) fun p4=>
 M.bind (apartO (oS (some p4.1) fun a=>kFld E 68 a 1)) fun p5=>
 M.pure (([p5.1,p4.1,p3.1,p2.1,p1.1,p0.1],tm),[p5.2,p4.2,p3.2,p2.2,p1.2,p0.2])
theorem Kj_:DrawEq 13 110 Bi IN [0,0,2,6,15,31,63] XP:=⟨by kernel_rfl,by kernel_rfl,fun _ _ _ _ _ _ _ _ _=>by kernel_rfl⟩
theorem Xx_ (E:Env)(call round:Ad)(x69 x70 x71 x72 x73 x74:Value)(tm:T Value)(s:St):Br call round (BY E Bi 110 (hdC IN)) [x74,x73,x72,x71,x70,x69] tm s=(M.bind (oS (some x74) fun a=>oS (some x72) fun b=>BM E 9 a b) fun _=>M.pure tm) s:=by kernel_rfl
theorem NP_:A4 K1=some 47:=by kernel_rfl
def ZT (E:Env)(call round:Ad)(tm:T Value):M ((Rho×T Value)×List OpLog):=
 M.bind (apartO (oS (T.get tm 6) fun a=>AC E 26 a)) fun p0=>
 M.bind (apartO (oS (T.get tm 6) fun a=>AC E 26 a)) fun p1=>
 M.bind (apartO (oS (some p1.1) fun a=>kNil a)) fun p2=>
 M.bind (apartO (oS (some p2.1) fun a=>kFld E 68 a 2)) fun p3=>
 M.bind (apartO (oS (some p3.1) fun a=>AC E 3 a)) fun p4=>
 M.bind (apartO (oS (seqP [(0,(some (.int .i64 1))),(1,(some p4.1))]) fun ps=>Cm E 90 ps)) fun p5=>
 M.bind (apartO (M.on (some (.func (.func 44) #[] #[])) fun f=>M.on (seqO [(some p5.1)]) fun l=>AL call round f l)) fun p6=>
 M.bind (apartO (oS (T.get tm 6) fun a=>AC E 26 a)) fun p7=>
 M.bind (apartO (oS (some p7.1) fun a=>kNil a)) fun p8=>
 M.bind (apartO (oS (some p8.1) fun a=>kFld E 68 a 3)) fun p9=>
 M.bind (apartO (oS (some p9.1) fun a=>AC E 3 a)) fun p10=>
 M.bind (apartO (oS (seqP [(0,(some (.int .i64 2))),(1,(some p10.1))]) fun ps=>Cm E 90 ps)) fun p11=>
 M.bind (apartO (M.on (some (.func (.func 44) #[] #[])) fun f=>M.on (seqO [(some p11.1)]) fun l=>AL call round f l)) fun p12=>
 M.bind (apartO (oS (seqP [(0,(some p6.1)),(1,(some p12.1))]) fun ps=>Cu E 114 2 ps)) fun p13=>
 M.bind (apartO (M.on (some (.func (.func 43) #[] #[])) fun f=>M.on (seqO [(some p13.1)]) fun l=>AL call round f l)) fun p14=>
 M.bind (apartO (M.on (some (.func (.func 42) #[] #[])) fun f=>M.on (seqO [(some p0.1),(some p14.1)]) fun l=>AL call round f l)) fun p15=>
 M.pure (([p15.1,p14.1,p13.1,p12.1,p11.1,p10.1,p9.1,p8.1,p7.1,p6.1,p5.1,p4.1,p3.1,p2.1,p1.1,p0.1],tm),[p15.2,p14.2,p13.2,p12.2,p11.2,p10.2,p9.2,p8.2,p7.2,p6.2,p5.2,p4.2,p3.2,p2.2,p1.2,p0.2])
theorem Nd_:DrawEq 13 110 Bi Fz [0,0,2,6,14,30,62,0,128,384,896,1920,4094,8190,16382,32767,65535] ZT:=⟨by kernel_rfl,by kernel_rfl,fun _ _ _ _ _ _ _ _ _=>by kernel_rfl⟩
theorem It_ (E:Env)(call round:Ad)(x75 x76 x77 x78 x79 x80 x81 x82 x83 x84 x85 x86 x87 x88 x89 x90:Value)(tm:T Value)(s:St):Br call round (BY E Bi 110 (hdC Fz)) [x90,x89,x88,x87,x86,x85,x84,x83,x82,x81,x80,x79,x78,x77,x76,x75] tm s=(M.bind (oS (some x90) fun a=>M.pure a) fun v15=>setT 15 v15 tm fun tm1=>M.pure tm1) s:=by kernel_rfl
def Xj (E:Env)(call round:Ad)(tm:T Value):M (T Value):=
 mv (T.get tm 11) fun v49=>
 M.bind (M.on (some (.func (.func 40) #[] #[])) fun f=>M.on (seqO [(some v49)]) fun l=>AL call round f l) fun v50=>
 setF 50 v50 tm fun tm1=>
 M.pure tm1
theorem OJ_:RegEq 13 110 Bi Ns Xj:=⟨by kernel_rfl,fun _ _ _ _ _ _ _ _ _=>by kernel_rfl⟩
def Rf (E:Env)(call round:Ad)(tm:T Value):M (T Value):=
 mv (T.get tm 15) fun v91=>
 M.bind (oS (some v91) fun a=>oS (some (.int .i64 0)) fun b=>Cl.get (aBin E .neq 29 (.tmp 91) (.const (.int .i64 0))) a b) fun v92=>
 setF 92 v92 tm fun tm1=>
 M.pure tm1
theorem Ww_:RegEq 13 110 Bi Im Rf:=⟨by kernel_rfl,fun _ _ _ _ _ _ _ _ _=>by kernel_rfl⟩
theorem Y2:A4 GE=some 92:=by kernel_rfl
def Gk_ (E:Env)(call round:Ad)(tm:T Value):M (T Value):=
 mv (T.get tm 10) fun v64=>
 M.bind (oS (some v64) fun a=>oS (some (.int .i64 1)) fun b=>Cl.get (aBin E .add 3 (.tmp 64) (.const (.int .i64 1))) a b) fun v65=>
 mv (some v65) fun v8=>
 setF 8 v8 tm fun tm1=>
 M.pure tm1
theorem SE_:RegEq 13 110 Bi Lx Gk_:=⟨by kernel_rfl,fun _ _ _ _ _ _ _ _ _=>by kernel_rfl⟩
def Xx (E:Env)(call round:Ad)(tm:T Value):M (T Value):=
 M.bind (CP E 90) fun v13=>
 setF 13 v13 tm fun tm1=>
 M.bind (oS (some v13) fun a=>oS (T.get tm1 51) fun b=>BM E 90 a b) fun _=>
 M.pure tm1
theorem VB_:RegEq 13 110 Bi Iv Xx:=⟨by kernel_rfl,fun _ _ _ _ _ _ _ _ _=>by kernel_rfl⟩
def DV_ (E:Env)(call round:Ad)(tm:T Value):M (T Value):=
 mv (T.get tm 15) fun v93=>
 mv (some (.pointer none)) fun v2=>
 setF 2 v2 tm fun tm1=>
 mv (some v93) fun v3=>
 setF 3 v3 tm1 fun tm2=>
 M.pure tm2
theorem Xi_:RegEq 13 110 Bi Jz DV_:=⟨by kernel_rfl,fun _ _ _ _ _ _ _ _ _=>by kernel_rfl⟩
def XM (E:Env)(call round:Ad)(tm:T Value):M (T Value):=
 mv (T.get tm 7) fun v94=>
 setF 94 v94 tm fun tm1=>
 M.bind (oS (seqO [(some v94)]) fun l=>Ba E .len [63] l) fun v95=>
 setF 95 v95 tm1 fun tm2=>
 mv (some (.int .i64 0)) fun v96=>
 setF 96 v96 tm2 fun tm3=>
 M.pure tm3
theorem Jj_:RegEq 13 110 Bi NO XM:=⟨by kernel_rfl,fun _ _ _ _ _ _ _ _ _=>by kernel_rfl⟩
def Vy (E:Env)(call round:Ad)(tm:T Value):M (T Value):=
 M.bind (oS (T.get tm 34) fun a=>oS (some (.int .i64 1)) fun b=>Cl.get (aBin E .add 3 (.tmp 34) (.const (.int .i64 1))) a b) fun v66=>
 mv (some v66) fun v34=>
 setF 34 v34 tm fun tm1=>
 M.pure tm1
theorem Px_:RegEq 13 110 Bi Ri Vy:=⟨by kernel_rfl,fun _ _ _ _ _ _ _ _ _=>by kernel_rfl⟩
theorem HF_:HM= .beginRound::HM.tail:=by kernel_rfl
theorem Sk_: ∃k,JY= .code .ret::k:=⟨JY.tail,by kernel_rfl⟩
def P3 (E:Env)(call round:Ad)(tm:T Value):M (T Value):=
 M.bind (oS (T.get tm 96) fun a=>oS (T.get tm 95) fun b=>Cl.get (aBin E .lss 3 (.tmp 96) (.tmp 95)) a b) fun v97=>
 setF 97 v97 tm fun tm1=>
 M.pure tm1
theorem YZ:RegEq 13 110 Bi Gx P3:=⟨by kernel_rfl,fun _ _ _ _ _ _ _ _ _=>by kernel_rfl⟩
def VC (E:Env)(call round:Ad)(tm:T Value):M (T Value):=
 M.bind (oS (T.get tm 6) fun a=>AC E 26 a) fun v52=>
 M.bind (oS (T.get tm 13) fun a=>kFld E 90 a 0) fun v53=>
 M.bind (oS (some v53) fun a=>AC E 3 a) fun v54=>
 M.bind (M.on (some (.func (.func 41) #[] #[])) fun f=>M.on (seqO [(some v52),(some v54)]) fun l=>AL call round f l) fun v55=>
 mv (some v55) fun v14=>
 setF 14 v14 tm fun tm1=>
 M.pure tm1
theorem Ld_:RegEq 13 110 Bi Kh VC:=⟨by kernel_rfl,fun _ _ _ _ _ _ _ _ _=>by kernel_rfl⟩
theorem WN:A4 Gd=some 97:=by kernel_rfl
def Yq (E:Env)(call round:Ad)(tm:T Value):M ((Rho×T Value)×List OpLog):=
 M.bind (apartO (oS (T.get tm 14) fun a=>M.pure a)) fun p0=>
 M.bind (apartO (oS (T.get tm 14) fun a=>M.pure a)) fun p1=>
 M.bind (apartO (oS (some p1.1) fun a=>kNil a)) fun p2=>
 M.bind (apartO (oS (some p2.1) fun a=>AC E 3 a)) fun p3=>
 M.bind (apartO (oS (T.get tm 13) fun a=>kFld E 90 a 1)) fun p4=>
 M.bind (apartO (oS (some p4.1) fun a=>AC E 3 a)) fun p5=>
 M.bind (apartO (oS (seqO [(some p3.1),(some p5.1)]) fun l=>Ba E .max [3,3] l)) fun p6=>
 M.bind (apartO (oS (some p0.1) fun a=>kNil a)) fun p7=>
 M.pure (([p7.1,p6.1,p5.1,p4.1,p3.1,p2.1,p1.1,p0.1],tm),[p7.2,p6.2,p5.2,p4.2,p3.2,p2.2,p1.2,p0.2])
theorem JN_:DrawEq 13 110 Bi H8 [0,0,2,6,0,16,62,127,255] Yq:=⟨by kernel_rfl,by kernel_rfl,fun _ _ _ _ _ _ _ _ _=>by kernel_rfl⟩
theorem AfA_ (E:Env)(call round:Ad)(x56 x57 x58 x59 x60 x61 x62 x63:Value)(tm:T Value)(s:St):Br call round (BY E Bi 110 (hdC H8)) [x63,x62,x61,x60,x59,x58,x57,x56] tm s=(M.bind (oS (some x63) fun a=>oS (some x62) fun b=>BM E 3 a b) fun _=>M.pure tm) s:=by kernel_rfl
def Zz (E:Env)(call round:Ad)(tm:T Value):M (T Value):=
 M.bind (oS (T.get tm 94) fun a=>oS (T.get tm 96) fun b=>BD E 63 a b) fun v98=>
 M.bind (oS (some v98) fun a=>AC E 3 a) fun v99=>
 mv (some v99) fun v17=>
 setF 17 v17 tm fun tm1=>
 M.pure tm1
theorem AgG_:RegEq 13 110 Bi On Zz:=⟨by kernel_rfl,fun _ _ _ _ _ _ _ _ _=>by kernel_rfl⟩
def Dc_ (E:Env)(call round:Ad)(tm:T Value):M (T Value):=
 M.bind (oS (T.get tm 6) fun a=>AC E 26 a) fun v109=>
 mv (some v109) fun v2=>
 setF 2 v2 tm fun tm1=>
 mv (some (.int .i64 0)) fun v3=>
 setF 3 v3 tm1 fun tm2=>
 M.pure tm2
theorem AeA_:RegEq 13 110 Bi Kk Dc_:=⟨by kernel_rfl,fun _ _ _ _ _ _ _ _ _=>by kernel_rfl⟩
def DO_ (E:Env)(call round:Ad)(tm:T Value):M (T Value):=
 mv (T.get tm 0) fun v100=>
 mv (T.get tm 17) fun v101=>
 M.bind (M.on (some (.func (.func 39) #[] #[])) fun f=>M.on (seqO [(some v101)]) fun l=>AL call round f l) fun v102=>
 M.bind (oS (some (.string {data:= #[106,111,117,114,110,97,108,46]})) fun a=>oS (some v102) fun b=>Cl.get (aBin E .add 9 (.const (.string {data:= #[106,111,117,114,110,97,108,46]})) (.tmp 102)) a b) fun v103=>
 M.bind (M.on (some (.func (.func 45) #[] #[])) fun f=>M.on (seqO [(some v100),(some v103)]) fun l=>AL call round f l) fun v104=>
 mv (some v104) fun v18=>
 setF 18 v18 tm fun tm1=>
 M.pure tm1
theorem Sl_:RegEq 13 110 Bi Mq DO_:=⟨by kernel_rfl,fun _ _ _ _ _ _ _ _ _=>by kernel_rfl⟩
theorem Nf_: ∃k,JI= .code .ret::k:=⟨JI.tail,by kernel_rfl⟩
def S6 (E:Env)(call round:Ad)(tm:T Value):M (T Value):=
 mv (T.get tm 18) fun v105=>
 M.bind (oS (some v105) fun a=>oS (some (.int .i64 0)) fun b=>Cl.get (aBin E .neq 29 (.tmp 105) (.const (.int .i64 0))) a b) fun v106=>
 setF 106 v106 tm fun tm1=>
 M.pure tm1
theorem V9:RegEq 13 110 Bi Ke S6:=⟨by kernel_rfl,fun _ _ _ _ _ _ _ _ _=>by kernel_rfl⟩
theorem XB:A4 Hr=some 106:=by kernel_rfl
def AZ_ (E:Env)(call round:Ad)(tm:T Value):M (T Value):=
 mv (T.get tm 18) fun v107=>
 mv (some (.pointer none)) fun v2=>
 setF 2 v2 tm fun tm1=>
 mv (some v107) fun v3=>
 setF 3 v3 tm1 fun tm2=>
 M.pure tm2
theorem Jt_:RegEq 13 110 Bi N2 AZ_:=⟨by kernel_rfl,fun _ _ _ _ _ _ _ _ _=>by kernel_rfl⟩
def Ev_ (E:Env)(call round:Ad)(tm:T Value):M (T Value):=
 M.bind (oS (T.get tm 96) fun a=>oS (some (.int .i64 1)) fun b=>Cl.get (aBin E .add 3 (.tmp 96) (.const (.int .i64 1))) a b) fun v108=>
 mv (some v108) fun v96=>
 setF 96 v96 tm fun tm1=>
 M.pure tm1
theorem WH_:RegEq 13 110 Bi S8 Ev_:=⟨by kernel_rfl,fun _ _ _ _ _ _ _ _ _=>by kernel_rfl⟩
theorem MT_: ∃k,N3= .code .ret::k:=⟨N3.tail,by kernel_rfl⟩
def Ez:Nat:=A8 Tryz.f42
def Gc_:Code:=Tryz.f42.body.getD .skip
theorem Lq:envS.fn.get 42=some Tryz.f42:=by kernel_rfl
theorem OG_ {a0 a1:Value}{n:Nat}{s:St}{Q:Value→St→Prop}(h: ∀tm,T.get tm 0=some a0→T.get tm 1=some a1→W (runF envS n ⟨42,28,Ez,tm,[.code Gc_], .run, .normal,none⟩) (s.cxN cxN) fun p s1=>Q p.1 (s1.cxN s.cx)):W (Ay envS (runF envS n) 42 [a0,a1]) s Q:=
 W.call (by kernel_rfl) (by kernel_rfl) Lq (by kernel_rfl) rfl rfl (by simp) (h _ (by kernel_rfl) (by kernel_rfl))
theorem QQ:Tryz.f42.results.toList=[.tmp 4]:=by kernel_rfl
def QU:List Item:=skim 64 [.code Gc_]
def IR:List Item:=skim 64 QU.tail
theorem Le_:skim 64 QU.tail=IR:=by kernel_rfl
def Jp:List Item:=skim 64 IR.tail
theorem FL_:skim 64 IR.tail=Jp:=by kernel_rfl
def Hp:List Item:=skim 64 Jp.tail
theorem CX_:skim 64 Jp.tail=Hp:=by kernel_rfl
def Mf:List Item:=skim 64 (brT Hp)
theorem AfS_:skim 64 (brT Hp)=Mf:=by kernel_rfl
def It:List Item:=skim 64 (brF Hp)
theorem Vr_:skim 64 (brF Hp)=It:=by kernel_rfl
def PY:List Item:=skim 64 Mf.tail
theorem Jf_:skim 64 Mf.tail=PY:=by kernel_rfl
def Ul:List Item:=skim 64 It.tail
theorem AQ_:skim 64 It.tail=Ul:=by kernel_rfl
def AJ_ (E:Env)(call round:Ad)(tm:T Value):M (T Value):=
 mv (some (.int .i64 0)) fun v4=>
 setF 4 v4 tm fun tm1=>
 M.pure tm1
theorem Afo_:RegEq 42 28 Ez QU AJ_:=⟨by kernel_rfl,fun _ _ _ _ _ _ _ _ _=>by kernel_rfl⟩
def V1 (E:Env)(call round:Ad)(tm:T Value):M ((Rho×T Value)×List OpLog):=
 M.bind (apartO (oS (T.get tm 0) fun a=>M.pure a)) fun p0=>
 M.bind (apartO (oS (some p0.1) fun a=>kNil a)) fun p1=>
 M.bind (apartO (oS (some p1.1) fun a=>kFld E 68 a 0)) fun p2=>
 M.bind (apartO (oS (some p2.1) fun a=>AC E 25 a)) fun p3=>
 M.bind (apartO (oS (T.get tm 0) fun a=>M.pure a)) fun p4=>
 M.bind (apartO (oS (some p4.1) fun a=>kNil a)) fun p5=>
 M.bind (apartO (oS (some p5.1) fun a=>kFld E 68 a 1)) fun p6=>
 M.bind (apartO (oS (some p6.1) fun a=>AC E 9 a)) fun p7=>
 M.bind (apartO (oS (T.get tm 1) fun a=>M.pure a)) fun p8=>
 M.bind (apartO (M.on (some (.func (.func 11) #[] #[])) fun f=>M.on (seqO [(some p3.1),(some p7.1),(some p8.1)]) fun l=>AL call round f l)) fun p9=>
 M.pure (([p9.1,p8.1,p7.1,p6.1,p5.1,p4.1,p3.1,p2.1,p1.1,p0.1],tm),[p9.2,p8.2,p7.2,p6.2,p5.2,p4.2,p3.2,p2.2,p1.2,p0.2])
theorem Oh_:DrawEq 42 28 Ez IR [0,1,3,7,0,16,48,112,0,511,1023] V1:=⟨by kernel_rfl,by kernel_rfl,fun _ _ _ _ _ _ _ _ _=>by kernel_rfl⟩
theorem XY (E:Env)(call round:Ad)(x6 x7 x8 x9 x10 x11 x12 x13 x14 x15:Value)(tm:T Value)(s:St):Br call round (BY E Ez 28 (hdC IR)) [x15,x14,x13,x12,x11,x10,x9,x8,x7,x6] tm s=(M.bind (oS (some x15) fun a=>M.pure a) fun v5=>setT 5 v5 tm fun tm1=>M.pure tm1) s:=by kernel_rfl
def RU (E:Env)(call round:Ad)(tm:T Value):M (T Value):=
 mv (T.get tm 5) fun v16=>
 M.bind (oS (some v16) fun a=>oS (some (.int .i64 0)) fun b=>Cl.get (aBin E .neq 29 (.tmp 16) (.const (.int .i64 0))) a b) fun v17=>
 setF 17 v17 tm fun tm1=>
 M.pure tm1
theorem Dy_:RegEq 42 28 Ez Jp RU:=⟨by kernel_rfl,fun _ _ _ _ _ _ _ _ _=>by kernel_rfl⟩
theorem X2:A4 Hp=some 17:=by kernel_rfl
def Ej_ (E:Env)(call round:Ad)(tm:T Value):M (T Value):=
 mv (T.get tm 5) fun v18=>
 mv (some v18) fun v4=>
 setF 4 v4 tm fun tm1=>
 M.pure tm1
theorem Agz_:RegEq 42 28 Ez Mf Ej_:=⟨by kernel_rfl,fun _ _ _ _ _ _ _ _ _=>by kernel_rfl⟩
def FD_ (E:Env)(call round:Ad)(tm:T Value):M ((Rho×T Value)×List OpLog):=
 M.bind (apartO (oS (T.get tm 0) fun a=>M.pure a)) fun p0=>
 M.bind (apartO (oS (some p0.1) fun a=>kNil a)) fun p1=>
 M.bind (apartO (oS (some p1.1) fun a=>kFld E 68 a 0)) fun p2=>
 M.bind (apartO (oS (some p2.1) fun a=>AC E 25 a)) fun p3=>
 M.bind (apartO (oS (T.get tm 0) fun a=>M.pure a)) fun p4=>
 M.bind (apartO (oS (some p4.1) fun a=>kNil a)) fun p5=>
 M.bind (apartO (oS (some p5.1) fun a=>kFld E 68 a 1)) fun p6=>
 M.bind (apartO (oS (some p6.1) fun a=>AC E 9 a)) fun p7=>
 M.bind (apartO (M.on (some (.func (.func 12) #[] #[])) fun f=>M.on (seqO [(some p3.1),(some p7.1)]) fun l=>AL call round f l)) fun p8=>
 M.pure (([p8.1,p7.1,p6.1,p5.1,p4.1,p3.1,p2.1,p1.1,p0.1],tm),[p8.2,p7.2,p6.2,p5.2,p4.2,p3.2,p2.2,p1.2,p0.2])
theorem Ni_:DrawEq 42 28 Ez It [0,1,3,7,0,16,48,112,255,511] FD_:=⟨by kernel_rfl,by kernel_rfl,fun _ _ _ _ _ _ _ _ _=>by kernel_rfl⟩
theorem Vo (E:Env)(call round:Ad)(x19 x20 x21 x22 x23 x24 x25 x26 x27:Value)(tm:T Value)(s:St):Br call round (BY E Ez 28 (hdC It)) [x27,x26,x25,x24,x23,x22,x21,x20,x19] tm s=(M.bind (oS (some x27) fun a=>M.pure a) fun v4=>setT 4 v4 tm fun tm1=>M.pure tm1) s:=by kernel_rfl
theorem Abg_: ∃k,PY= .code .ret::k:=⟨PY.tail,by kernel_rfl⟩
theorem ZU: ∃k,Ul= .code .ret::k:=⟨Ul.tail,by kernel_rfl⟩
def Tg:Nat:=A8 Tryz.f30
def Zo:Code:=Tryz.f30.body.getD .skip
theorem Ee_:envS.fn.get 30=some Tryz.f30:=by kernel_rfl
theorem HN_ {a0:Value}{n:Nat}{s:St}{Q:Value→St→Prop}(h: ∀tm,T.get tm 0=some a0→W (runF envS n ⟨30,12,Tg,tm,[.code Zo], .run, .normal,none⟩) (s.cxN cxN) fun p s1=>Q p.1 (s1.cxN s.cx)):W (Ay envS (runF envS n) 30 [a0]) s Q:=
 W.call (by kernel_rfl) (by kernel_rfl) Ee_ (by kernel_rfl) rfl rfl (by simp) (h _ (by kernel_rfl))
theorem AaU_:Tryz.f30.results.toList=[.tmp 2]:=by kernel_rfl
def Ty:List Item:=skim 64 [.code Zo]
def M3:List Item:=skim 64 Ty.tail
theorem TG_:skim 64 Ty.tail=M3:=by kernel_rfl
def Re:List Item:=skim 64 M3.tail
theorem Te_:skim 64 M3.tail=Re:=by kernel_rfl
def V5 (E:Env)(call round:Ad)(tm:T Value):M (T Value):=
 mv (some (.bool false)) fun v2=>
 setF 2 v2 tm fun tm1=>
 M.pure tm1
theorem PK_:RegEq 30 12 Tg Ty V5:=⟨by kernel_rfl,fun _ _ _ _ _ _ _ _ _=>by kernel_rfl⟩
def Ci_ (E:Env)(call round:Ad)(tm:T Value):M (T Value):=
 mv (T.get tm 0) fun v3=>
 M.bind (oS (some v3) fun a=>oS (some (.pointer none)) fun b=>Cl.get (aBin E .eql 26 (.tmp 3) (.const (.pointer none))) a b) fun v4=>
 mv (some v4) fun v5=>
 M.bind (M.chk (isK v5) (M.if (isB v5 false) (oS (T.get tm 0) fun a=>M.pure a) (M.pure undef))) fun v6=>
 M.bind (M.chk (isK v5) (M.if (isB v5 false) (oS (some v6) fun a=>kNil a) (M.pure undef))) fun v7=>
 M.bind (M.chk (isK v5) (M.if (isB v5 false) (oS (some v7) fun a=>kFld E 68 a 0) (M.pure undef))) fun v8=>
 M.bind (M.chk (isK v5) (M.if (isB v5 false) (oS (some v8) fun a=>AC E 25 a) (M.pure undef))) fun v9=>
 M.bind (M.chk (isK v5) (M.if (isB v5 false) (oS (some v9) fun a=>oS (some (.pointer none)) fun b=>Cl.get (aBin E .eql 25 (.tmp 9) (.const (.pointer none))) a b) (M.pure undef))) fun v10=>
 M.bind (M.on (some v5) fun a=>M.on (some (.bool true)) fun b=>M.on (some v10) fun c=>Bj a b c) fun v11=>
 mv (some v11) fun v2=>
 setF 2 v2 tm fun tm1=>
 M.pure tm1
theorem KZ_:RegEq 30 12 Tg M3 Ci_:=⟨by kernel_rfl,fun _ _ _ _ _ _ _ _ _=>by kernel_rfl⟩
theorem Jn_: ∃k,Re= .code .ret::k:=⟨Re.tail,by kernel_rfl⟩
def DD:Nat:=A8 Tryz.f31
def WG:Code:=Tryz.f31.body.getD .skip
theorem Pj:envS.fn.get 31=some Tryz.f31:=by kernel_rfl
theorem Afj_ {a0 a1 a2:Value}{n:Nat}{s:St}{Q:Value→St→Prop}(h: ∀tm,T.get tm 0=some a0→T.get tm 1=some a1→T.get tm 2=some a2→W (runF envS n ⟨31,40,DD,tm,[.code WG], .run, .normal,none⟩) (s.cxN cxN) fun p s1=>Q p.1 (s1.cxN s.cx)):W (Ay envS (runF envS n) 31 [a0,a1,a2]) s Q:=
 W.call (by kernel_rfl) (by kernel_rfl) Pj (by kernel_rfl) rfl rfl (by simp) (h _ (by kernel_rfl) (by kernel_rfl) (by kernel_rfl))
theorem BN_:Tryz.f31.results.toList=[.tmp 6, .tmp 7]:=by kernel_rfl
def QD:List Item:=skim 64 [.code WG]
def MS:List Item:=skim 64 QD.tail
theorem OT_:skim 64 QD.tail=MS:=by kernel_rfl
def Mz:List Item:=skim 64 MS.tail
theorem Jd_:skim 64 MS.tail=Mz:=by kernel_rfl
def LA:List Item:=skim 64 (brF Mz)
theorem AcT_:skim 64 (brF Mz)=LA:=by kernel_rfl
def Mx:List Item:=skim 64 LA.tail
theorem RZ_:skim 64 LA.tail=Mx:=by kernel_rfl
def NL:List Item:=skim 64 (brF Mx)
theorem Pd_:skim 64 (brF Mx)=NL:=by kernel_rfl
def Km:List Item:=skim 64 NL.tail
theorem Dd_:skim 64 NL.tail=Km:=by kernel_rfl
def Hn:List Item:=skim 64 Km.tail
theorem Xd:skim 64 Km.tail=Hn:=by kernel_rfl
def MP:List Item:=skim 64 (brT Hn)
theorem WE_:skim 64 (brT Hn)=MP:=by kernel_rfl
def NN:List Item:=skim 64 (brF Hn)
theorem Pm_:skim 64 (brF Hn)=NN:=by kernel_rfl
def NX:List Item:=skim 64 MP.tail
theorem Mn_:skim 64 MP.tail=NX:=by kernel_rfl
def J6:List Item:=skim 64 NN.tail
theorem Acl_:skim 64 NN.tail=J6:=by kernel_rfl
def O3:List Item:=skim 64 NX.tail
theorem Nz_:skim 64 NX.tail=O3:=by kernel_rfl
def Tv:List Item:=skim 64 J6.tail
theorem Uo_:skim 64 J6.tail=Tv:=by kernel_rfl
def W7 (E:Env)(call round:Ad)(tm:T Value):M (T Value):=
 mv (some (.int .i64 0)) fun v6=>
 setF 6 v6 tm fun tm1=>
 mv (some (.int .i64 0)) fun v7=>
 setF 7 v7 tm1 fun tm2=>
 M.pure tm2
theorem Afm_:RegEq 31 40 DD QD W7:=⟨by kernel_rfl,fun _ _ _ _ _ _ _ _ _=>by kernel_rfl⟩
def Ds_ (E:Env)(call round:Ad)(tm:T Value):M (T Value):=
 mv (T.get tm 0) fun v10=>
 M.bind (M.on (some (.func (.func 27) #[] #[])) fun f=>M.on (seqO [(some v10)]) fun l=>AL call round f l) fun v11=>
 mv (some v11) fun v9=>
 setF 9 v9 tm fun tm1=>
 M.pure tm1
theorem KO_:RegEq 31 40 DD MS Ds_:=⟨by kernel_rfl,fun _ _ _ _ _ _ _ _ _=>by kernel_rfl⟩
theorem Wp_:A4 Mz=some 9:=by kernel_rfl
def Xz (E:Env)(call round:Ad)(tm:T Value):M (T Value):=
 mv (T.get tm 2) fun v13=>
 M.bind (oS (some v13) fun a=>kNil a) fun v14=>
 M.bind (oS (some v14) fun a=>AC E 3 a) fun v15=>
 M.bind (oS (some v15) fun a=>oS (some (.int .i64 2147483647)) fun b=>Cl.get (aBin E .eql 3 (.tmp 15) (.const (.int .i64 2147483647))) a b) fun v16=>
 mv (some v16) fun v12=>
 setF 12 v12 tm fun tm1=>
 M.pure tm1
theorem Iy_:RegEq 31 40 DD LA Xz:=⟨by kernel_rfl,fun _ _ _ _ _ _ _ _ _=>by kernel_rfl⟩
theorem AcI_:A4 Mx=some 12:=by kernel_rfl
def UT (E:Env)(call round:Ad)(tm:T Value):M (T Value):=
 mv (T.get tm 0) fun v17=>
 mv (T.get tm 1) fun v18=>
 mv (T.get tm 2) fun v19=>
 M.bind (oS (some v19) fun a=>kNil a) fun v20=>
 M.bind (oS (some v20) fun a=>AC E 3 a) fun v21=>
 M.bind (oS (some v21) fun a=>oS (some (.int .i64 1)) fun b=>Cl.get (aBin E .add 3 (.tmp 21) (.const (.int .i64 1))) a b) fun v22=>
 M.bind (oS (seqP [(0,(some v18)),(1,(some v22))]) fun ps=>Cm E 90 ps) fun v23=>
 M.bind (M.on (some (.func (.func 44) #[] #[])) fun f=>M.on (seqO [(some v23)]) fun l=>AL call round f l) fun v24=>
 M.bind (M.on (some (.func (.func 42) #[] #[])) fun f=>M.on (seqO [(some v17),(some v24)]) fun l=>AL call round f l) fun v25=>
 mv (some v25) fun v8=>
 setF 8 v8 tm fun tm1=>
 M.pure tm1
theorem Aei_:RegEq 31 40 DD NL UT:=⟨by kernel_rfl,fun _ _ _ _ _ _ _ _ _=>by kernel_rfl⟩
def PF (E:Env)(call round:Ad)(tm:T Value):M (T Value):=
 mv (T.get tm 8) fun v26=>
 M.bind (oS (some v26) fun a=>oS (some (.int .i64 0)) fun b=>Cl.get (aBin E .neq 29 (.tmp 26) (.const (.int .i64 0))) a b) fun v27=>
 setF 27 v27 tm fun tm1=>
 M.pure tm1
theorem Df_:RegEq 31 40 DD Km PF:=⟨by kernel_rfl,fun _ _ _ _ _ _ _ _ _=>by kernel_rfl⟩
theorem VF:A4 Hn=some 27:=by kernel_rfl
def YS (E:Env)(call round:Ad)(tm:T Value):M (T Value):=
 mv (T.get tm 0) fun v28=>
 M.bind (oS (some v28) fun a=>kNil a) fun v29=>
 M.bind (oS (some v29) fun a=>kFld E 68 a 4) fun v30=>
 M.bind (oS (some v30) fun a=>oS (some (.bool true)) fun b=>BM E 4 a b) fun _=>
 M.pure tm
theorem Sa_:RegEq 31 40 DD MP YS:=⟨by kernel_rfl,fun _ _ _ _ _ _ _ _ _=>by kernel_rfl⟩
def Xg (E:Env)(call round:Ad)(tm:T Value):M (T Value):=
 mv (T.get tm 2) fun v32=>
 M.bind (oS (some v32) fun a=>kNil a) fun v33=>
 M.bind (oS (some v33) fun a=>AC E 3 a) fun v34=>
 M.bind (oS (some v34) fun a=>oS (some (.int .i64 1)) fun b=>Cl.get (aBin E .add 3 (.tmp 34) (.const (.int .i64 1))) a b) fun v35=>
 M.bind (oS (some v32) fun a=>kNil a) fun v36=>
 M.bind (oS (some v36) fun a=>oS (some v35) fun b=>BM E 3 a b) fun _=>
 M.pure tm
theorem Uj_:RegEq 31 40 DD NN Xg:=⟨by kernel_rfl,fun _ _ _ _ _ _ _ _ _=>by kernel_rfl⟩
def GG_ (E:Env)(call round:Ad)(tm:T Value):M (T Value):=
 mv (T.get tm 8) fun v31=>
 mv (some (.int .i64 0)) fun v6=>
 setF 6 v6 tm fun tm1=>
 mv (some v31) fun v7=>
 setF 7 v7 tm1 fun tm2=>
 M.pure tm2
theorem Abi_:RegEq 31 40 DD NX GG_:=⟨by kernel_rfl,fun _ _ _ _ _ _ _ _ _=>by kernel_rfl⟩
def XS (E:Env)(call round:Ad)(tm:T Value):M (T Value):=
 mv (T.get tm 2) fun v37=>
 M.bind (oS (some v37) fun a=>kNil a) fun v38=>
 M.bind (oS (some v38) fun a=>AC E 3 a) fun v39=>
 mv (some v39) fun v6=>
 setF 6 v6 tm fun tm1=>
 mv (some (.int .i64 0)) fun v7=>
 setF 7 v7 tm1 fun tm2=>
 M.pure tm2
theorem Xa_:RegEq 31 40 DD J6 XS:=⟨by kernel_rfl,fun _ _ _ _ _ _ _ _ _=>by kernel_rfl⟩
theorem XQ_: ∃k,O3= .code .ret::k:=⟨O3.tail,by kernel_rfl⟩
theorem Yw_: ∃k,Tv= .code .ret::k:=⟨Tv.tail,by kernel_rfl⟩
def JR:Nat:=A8 Tryz.f8
def U8:Code:=Tryz.f8.body.getD .skip
theorem O4:envS.fn.get 8=some Tryz.f8:=by kernel_rfl
theorem PM_ {a0:Value}{n:Nat}{s:St}{Q:Value→St→Prop}(h: ∀tm,T.get tm 0=some a0→W (runF envS n ⟨8,13,JR,tm,[.code U8], .run, .normal,none⟩) (s.cxN cxN) fun p s1=>Q p.1 (s1.cxN s.cx)):W (Ay envS (runF envS n) 8 [a0]) s Q:=
 W.call (by kernel_rfl) (by kernel_rfl) O4 (by kernel_rfl) rfl rfl (by simp) (h _ (by kernel_rfl))
theorem Bh_:Tryz.f8.results.toList=[.tmp 2, .tmp 3]:=by kernel_rfl
def Pk:List Item:=skim 64 [.code U8]
def K6:List Item:=skim 64 Pk.tail
theorem Rh_:skim 64 Pk.tail=K6:=by kernel_rfl
def Nf:List Item:=skim 64 K6.tail
theorem Vi_:skim 64 K6.tail=Nf:=by kernel_rfl
def Lj:List Item:=skim 64 (brF Nf)
theorem TC_:skim 64 (brF Nf)=Lj:=by kernel_rfl
def QR:List Item:=skim 64 Lj.tail
theorem BB_:skim 64 Lj.tail=QR:=by kernel_rfl
def U5 (E:Env)(call round:Ad)(tm:T Value):M (T Value):=
 mv (some (.int .i64 0)) fun v2=>
 setF 2 v2 tm fun tm1=>
 mv (some (.int .i64 0)) fun v3=>
 setF 3 v3 tm1 fun tm2=>
 M.pure tm2
theorem QZ_:RegEq 8 13 JR Pk U5:=⟨by kernel_rfl,fun _ _ _ _ _ _ _ _ _=>by kernel_rfl⟩
def Zy (E:Env)(call round:Ad)(tm:T Value):M (T Value):=
 mv (T.get tm 0) fun v4=>
 M.bind (M.on (some (.func (.func 30) #[] #[])) fun f=>M.on (seqO [(some v4)]) fun l=>AL call round f l) fun v5=>
 setF 5 v5 tm fun tm1=>
 M.pure tm1
theorem ST_:RegEq 8 13 JR K6 Zy:=⟨by kernel_rfl,fun _ _ _ _ _ _ _ _ _=>by kernel_rfl⟩
theorem Se_:A4 Nf=some 5:=by kernel_rfl
def XX (E:Env)(call round:Ad)(tm:T Value):M (T Value):=
 mv (T.get tm 0) fun v6=>
 mv (T.get tm 0) fun v7=>
 M.bind (oS (some v7) fun a=>kNil a) fun v8=>
 M.bind (oS (some v8) fun a=>kFld E 68 a 2) fun v9=>
 M.bind (M.on (some (.func (.func 31) #[] #[])) fun f=>M.on (seqO [(some v6),(some (.int .i64 1)),(some v9)]) fun l=>AL call round f l) fun v10=>
 M.bind (oS (some v10) fun a=>kExt 0 a) fun v11=>
 M.bind (oS (some v10) fun a=>kExt 1 a) fun v12=>
 mv (some v11) fun v2=>
 setF 2 v2 tm fun tm1=>
 mv (some v12) fun v3=>
 setF 3 v3 tm1 fun tm2=>
 M.pure tm2
theorem Jq_:RegEq 8 13 JR Lj XX:=⟨by kernel_rfl,fun _ _ _ _ _ _ _ _ _=>by kernel_rfl⟩
theorem ZV: ∃k,QR= .code .ret::k:=⟨QR.tail,by kernel_rfl⟩
def JB:Nat:=A8 Tryz.f9
def Vl:Code:=Tryz.f9.body.getD .skip
theorem Rm:envS.fn.get 9=some Tryz.f9:=by kernel_rfl
theorem Yz_ {a0:Value}{n:Nat}{s:St}{Q:Value→St→Prop}(h: ∀tm,T.get tm 0=some a0→W (runF envS n ⟨9,13,JB,tm,[.code Vl], .run, .normal,none⟩) (s.cxN cxN) fun p s1=>Q p.1 (s1.cxN s.cx)):W (Ay envS (runF envS n) 9 [a0]) s Q:=
 W.call (by kernel_rfl) (by kernel_rfl) Rm (by kernel_rfl) rfl rfl (by simp) (h _ (by kernel_rfl))
theorem Yz:Tryz.f9.results.toList=[.tmp 2, .tmp 3]:=by kernel_rfl
def TK:List Item:=skim 64 [.code Vl]
def MU:List Item:=skim 64 TK.tail
theorem IV_:skim 64 TK.tail=MU:=by kernel_rfl
def JL:List Item:=skim 64 MU.tail
theorem AaW_:skim 64 MU.tail=JL:=by kernel_rfl
def MQ:List Item:=skim 64 (brF JL)
theorem WV_:skim 64 (brF JL)=MQ:=by kernel_rfl
def TT:List Item:=skim 64 MQ.tail
theorem Z2:skim 64 MQ.tail=TT:=by kernel_rfl
def Cp_ (E:Env)(call round:Ad)(tm:T Value):M (T Value):=
 mv (some (.int .i64 0)) fun v2=>
 setF 2 v2 tm fun tm1=>
 mv (some (.int .i64 0)) fun v3=>
 setF 3 v3 tm1 fun tm2=>
 M.pure tm2
theorem AbC_:RegEq 9 13 JB TK Cp_:=⟨by kernel_rfl,fun _ _ _ _ _ _ _ _ _=>by kernel_rfl⟩
def Ae_ (E:Env)(call round:Ad)(tm:T Value):M (T Value):=
 mv (T.get tm 0) fun v4=>
 M.bind (M.on (some (.func (.func 30) #[] #[])) fun f=>M.on (seqO [(some v4)]) fun l=>AL call round f l) fun v5=>
 setF 5 v5 tm fun tm1=>
 M.pure tm1
theorem LO_:RegEq 9 13 JB MU Ae_:=⟨by kernel_rfl,fun _ _ _ _ _ _ _ _ _=>by kernel_rfl⟩
theorem Ia_:A4 JL=some 5:=by kernel_rfl
def Ba_ (E:Env)(call round:Ad)(tm:T Value):M (T Value):=
 mv (T.get tm 0) fun v6=>
 mv (T.get tm 0) fun v7=>
 M.bind (oS (some v7) fun a=>kNil a) fun v8=>
 M.bind (oS (some v8) fun a=>kFld E 68 a 3) fun v9=>
 M.bind (M.on (some (.func (.func 31) #[] #[])) fun f=>M.on (seqO [(some v6),(some (.int .i64 2)),(some v9)]) fun l=>AL call round f l) fun v10=>
 M.bind (oS (some v10) fun a=>kExt 0 a) fun v11=>
 M.bind (oS (some v10) fun a=>kExt 1 a) fun v12=>
 mv (some v11) fun v2=>
 setF 2 v2 tm fun tm1=>
 mv (some v12) fun v3=>
 setF 3 v3 tm1 fun tm2=>
 M.pure tm2
theorem PN_:RegEq 9 13 JB MQ Ba_:=⟨by kernel_rfl,fun _ _ _ _ _ _ _ _ _=>by kernel_rfl⟩
theorem Ax_: ∃k,TT= .code .ret::k:=⟨TT.tail,by kernel_rfl⟩
def Ji:Nat:=A8 Tryz.f10
def ZF:Code:=Tryz.f10.body.getD .skip
theorem FG_:envS.fn.get 10=some Tryz.f10:=by kernel_rfl
theorem Lb_ {a0:Value}{n:Nat}{s:St}{Q:Value→St→Prop}(h: ∀tm,T.get tm 0=some a0→W (runF envS n ⟨10,18,Ji,tm,[.code ZF], .run, .normal,none⟩) (s.cxN cxN) fun p s1=>Q p.1 (s1.cxN s.cx)):W (Ay envS (runF envS n) 10 [a0]) s Q:=
 W.call (by kernel_rfl) (by kernel_rfl) FG_ (by kernel_rfl) rfl rfl (by simp) (h _ (by kernel_rfl))
theorem Jy_:Tryz.f10.results.toList=[.tmp 2, .tmp 3]:=by kernel_rfl
def QI:List Item:=skim 64 [.code ZF]
def Kc:List Item:=skim 64 QI.tail
theorem Abs_:skim 64 QI.tail=Kc:=by kernel_rfl
def MC:List Item:=skim 64 Kc.tail
theorem AbP_:skim 64 Kc.tail=MC:=by kernel_rfl
def IA:List Item:=skim 64 (brF MC)
theorem Hy_:skim 64 (brF MC)=IA:=by kernel_rfl
def Se:List Item:=skim 64 IA.tail
theorem Om_:skim 64 IA.tail=Se:=by kernel_rfl
def Hb_ (E:Env)(call round:Ad)(tm:T Value):M (T Value):=
 mv (some (.int .i64 0)) fun v2=>
 setF 2 v2 tm fun tm1=>
 mv (some (.int .i64 0)) fun v3=>
 setF 3 v3 tm1 fun tm2=>
 M.pure tm2
theorem Wq_:RegEq 10 18 Ji QI Hb_:=⟨by kernel_rfl,fun _ _ _ _ _ _ _ _ _=>by kernel_rfl⟩
def Ww (E:Env)(call round:Ad)(tm:T Value):M (T Value):=
 mv (T.get tm 0) fun v4=>
 M.bind (M.on (some (.func (.func 30) #[] #[])) fun f=>M.on (seqO [(some v4)]) fun l=>AL call round f l) fun v5=>
 mv (some v5) fun v6=>
 M.bind (M.chk (isK v6) (M.if (isB v6 false) (oS (T.get tm 0) fun a=>M.pure a) (M.pure undef))) fun v7=>
 M.bind (M.chk (isK v6) (M.if (isB v6 false) (M.on (some (.func (.func 27) #[] #[])) fun f=>M.on (seqO [(some v7)]) fun l=>AL call round f l) (M.pure undef))) fun v8=>
 M.bind (M.on (some v6) fun a=>M.on (some (.bool true)) fun b=>M.on (some v8) fun c=>Bj a b c) fun v9=>
 setF 9 v9 tm fun tm1=>
 M.pure tm1
theorem Agg_:RegEq 10 18 Ji Kc Ww:=⟨by kernel_rfl,fun _ _ _ _ _ _ _ _ _=>by kernel_rfl⟩
theorem Abf_:A4 MC=some 9:=by kernel_rfl
def BY_ (E:Env)(call round:Ad)(tm:T Value):M ((Rho×T Value)×List OpLog):=
 M.bind (apartO (oS (T.get tm 0) fun a=>M.pure a)) fun p0=>
 M.bind (apartO (oS (some p0.1) fun a=>kNil a)) fun p1=>
 M.bind (apartO (oS (some p1.1) fun a=>kFld E 68 a 2)) fun p2=>
 M.bind (apartO (oS (some p2.1) fun a=>AC E 3 a)) fun p3=>
 M.bind (apartO (oS (T.get tm 0) fun a=>M.pure a)) fun p4=>
 M.bind (apartO (oS (some p4.1) fun a=>kNil a)) fun p5=>
 M.bind (apartO (oS (some p5.1) fun a=>kFld E 68 a 3)) fun p6=>
 M.bind (apartO (oS (some p6.1) fun a=>AC E 3 a)) fun p7=>
 M.bind (apartO (oS (some p3.1) fun a=>M.pure a)) fun p8=>
 setT 2 p8.1 tm fun tm1=>
 M.pure (([p8.1,p7.1,p6.1,p5.1,p4.1,p3.1,p2.1,p1.1,p0.1],tm1),[p8.2,p7.2,p6.2,p5.2,p4.2,p3.2,p2.2,p1.2,p0.2])
theorem Ov_:DrawEq 10 18 Ji IA [0,1,3,7,0,16,48,112,15,511] BY_:=⟨by kernel_rfl,by kernel_rfl,fun _ _ _ _ _ _ _ _ _=>by kernel_rfl⟩
theorem Mi_ (E:Env)(call round:Ad)(x10 x11 x12 x13 x14 x15 x16 x17 x2:Value)(tm:T Value)(s:St):Br call round (BY E Ji 18 (hdC IA)) [x2,x17,x16,x15,x14,x13,x12,x11,x10] tm s=(M.bind (oS (some x17) fun a=>M.pure a) fun v3=>setT 3 v3 tm fun tm1=>M.pure tm1) s:=by kernel_rfl
theorem AeZ_: ∃k,Se= .code .ret::k:=⟨Se.tail,by kernel_rfl⟩
def QF:Nat:=A8 Tryz.f27
def Gl_:Code:=Tryz.f27.body.getD .skip
theorem Dx_:envS.fn.get 27=some Tryz.f27:=by kernel_rfl
theorem PE_ {a0:Value}{n:Nat}{s:St}{Q:Value→St→Prop}(h: ∀tm,T.get tm 0=some a0→W (runF envS n ⟨27,20,QF,tm,[.code Gl_], .run, .normal,none⟩) (s.cxN cxN) fun p s1=>Q p.1 (s1.cxN s.cx)):W (Ay envS (runF envS n) 27 [a0]) s Q:=
 W.call (by kernel_rfl) (by kernel_rfl) Dx_ (by kernel_rfl) rfl rfl (by simp) (h _ (by kernel_rfl))
theorem IW_:Tryz.f27.results.toList=[.tmp 2]:=by kernel_rfl
def SB:List Item:=skim 64 [.code Gl_]
def Kg:List Item:=skim 64 SB.tail
theorem AdP_:skim 64 SB.tail=Kg:=by kernel_rfl
def Rp:List Item:=skim 64 Kg.tail
theorem IJ_:skim 64 Kg.tail=Rp:=by kernel_rfl
def Hd_ (E:Env)(call round:Ad)(tm:T Value):M (T Value):=
 mv (some (.bool false)) fun v2=>
 setF 2 v2 tm fun tm1=>
 M.pure tm1
theorem LC_:RegEq 27 20 QF SB Hd_:=⟨by kernel_rfl,fun _ _ _ _ _ _ _ _ _=>by kernel_rfl⟩
def V4 (E:Env)(call round:Ad)(tm:T Value):M (T Value):=
 mv (T.get tm 0) fun v3=>
 M.bind (M.on (some (.func (.func 30) #[] #[])) fun f=>M.on (seqO [(some v3)]) fun l=>AL call round f l) fun v4=>
 M.bind (oS (some v4) fun a=>kUn E.P .not a) fun v5=>
 mv (some v5) fun v6=>
 M.bind (M.chk (isK v6) (M.if (isB v6 true) (oS (T.get tm 0) fun a=>M.pure a) (M.pure undef))) fun v7=>
 M.bind (M.chk (isK v6) (M.if (isB v6 true) (oS (some v7) fun a=>kNil a) (M.pure undef))) fun v8=>
 M.bind (M.chk (isK v6) (M.if (isB v6 true) (oS (some v8) fun a=>kFld E 68 a 4) (M.pure undef))) fun v9=>
 M.bind (M.chk (isK v6) (M.if (isB v6 true) (oS (some v9) fun a=>AC E 4 a) (M.pure undef))) fun v10=>
 M.bind (M.chk (isK v6) (M.if (isB v6 true) (oS (some v10) fun a=>M.pure a) (M.pure undef))) fun v11=>
 M.bind (M.chk (isK v11) (M.if (isB v11 false) (oS (T.get tm 0) fun a=>M.pure a) (M.pure undef))) fun v12=>
 M.bind (M.chk (isK v11) (M.if (isB v11 false) (oS (some v12) fun a=>kNil a) (M.pure undef))) fun v13=>
 M.bind (M.chk (isK v11) (M.if (isB v11 false) (oS (some v13) fun a=>kFld E 68 a 0) (M.pure undef))) fun v14=>
 M.bind (M.chk (isK v11) (M.if (isB v11 false) (oS (some v14) fun a=>AC E 25 a) (M.pure undef))) fun v15=>
 M.bind (M.chk (isK v11) (M.if (isB v11 false) (M.on (some (.func (.func 28) #[] #[])) fun f=>M.on (seqO [(some v15)]) fun l=>AL call round f l) (M.pure undef))) fun v16=>
 M.bind (M.chk (isK v11) (M.if (isB v11 false) (oS (some v16) fun a=>kUn E.P .not a) (M.pure undef))) fun v17=>
 M.bind (M.chk (isK v6) (M.if (isB v6 true) (M.on (some v11) fun a=>M.on (some (.bool true)) fun b=>M.on (some v17) fun c=>Bj a b c) (M.pure undef))) fun v18=>
 M.bind (M.on (some v6) fun a=>M.on (some v18) fun b=>M.on (some (.bool false)) fun c=>Bj a b c) fun v19=>
 mv (some v19) fun v2=>
 setF 2 v2 tm fun tm1=>
 M.pure tm1
theorem YB_:RegEq 27 20 QF Kg V4:=⟨by kernel_rfl,fun _ _ _ _ _ _ _ _ _=>by kernel_rfl⟩
theorem UJ_: ∃k,Rp= .code .ret::k:=⟨Rp.tail,by kernel_rfl⟩
def Pz:Nat:=A8 Tryz.f62
def ZW:Code:=Tryz.f62.body.getD .skip
theorem Ws:envS.fn.get 62=some Tryz.f62:=by kernel_rfl
theorem Abw_ {a0:Value}{n:Nat}{s:St}{Q:Value→St→Prop}(h: ∀tm,T.get tm 0=some a0→W (runF envS n ⟨62,11,Pz,tm,[.code ZW], .run, .normal,none⟩) (s.cxN cxN) fun p s1=>Q p.1 (s1.cxN s.cx)):W (Ay envS (runF envS n) 62 [a0]) s Q:=
 W.call (by kernel_rfl) (by kernel_rfl) Ws (by kernel_rfl) rfl rfl (by simp) (h _ (by kernel_rfl))
theorem Id_:Tryz.f62.results.toList=[]:=by kernel_rfl
def PG:List Item:=skim 64 [.code ZW]
def MT:List Item:=skim 64 PG.tail
theorem PP_:skim 64 PG.tail=MT:=by kernel_rfl
def Ei_:List Item:=skim 64 MT.tail
theorem HD_:skim 64 MT.tail=Ei_:=by kernel_rfl
def ZQ (E:Env)(call round:Ad)(tm:T Value):M (T Value):=
 mv (T.get tm 0) fun v3=>
 M.bind (oS (seqO [(some v3)]) fun l=>Ba E .len [63] l) fun v4=>
 mv (some v4) fun v2=>
 setF 2 v2 tm fun tm1=>
 M.pure tm1
theorem MI_:RegEq 62 11 Pz PG ZQ:=⟨by kernel_rfl,fun _ _ _ _ _ _ _ _ _=>by kernel_rfl⟩
def ZM (E:Env)(call round:Ad)(tm:T Value):M (T Value):=
 mv (T.get tm 0) fun v5=>
 mv (T.get tm 2) fun v6=>
 mv (T.get tm 2) fun v7=>
 M.bind (oS (some v7) fun a=>BP E 3 113 a) fun v8=>
 M.bind (M.on (some (.func (.func 79) #[] #[])) fun f=>M.on (seqO [(some v8)]) fun l=>AL call round f l) fun v9=>
 M.bind (M.on (some (.func (.func 78) #[] #[])) fun f=>M.on (seqO [(some v5),(some (.int .i64 0)),(some v6),(some v9)]) fun l=>AL call round f l) fun v10=>
 M.pure tm
theorem Na_:RegEq 62 11 Pz MT ZM:=⟨by kernel_rfl,fun _ _ _ _ _ _ _ _ _=>by kernel_rfl⟩
def Gm:Nat:=A8 Tryz.f78
def XW:Code:=Tryz.f78.body.getD .skip
theorem Yi:envS.fn.get 78=some Tryz.f78:=by kernel_rfl
theorem XI_ {a0 a1 a2 a3:Value}{n:Nat}{s:St}{Q:Value→St→Prop}(h: ∀tm,T.get tm 0=some a0→T.get tm 1=some a1→T.get tm 2=some a2→T.get tm 3=some a3→W (runF envS n ⟨78,134,Gm,tm,[.code XW], .run, .normal,none⟩) (s.cxN cxN) fun p s1=>Q p.1 (s1.cxN s.cx)):W (Ay envS (runF envS n) 78 [a0,a1,a2,a3]) s Q:=
 W.call (by kernel_rfl) (by kernel_rfl) Yi (by kernel_rfl) rfl rfl (by simp) (h _ (by kernel_rfl) (by kernel_rfl) (by kernel_rfl) (by kernel_rfl))
theorem Wo_:Tryz.f78.results.toList=[]:=by kernel_rfl
def Td:List Item:=skim 64 [.code XW]
def Nj:List Item:=skim 64 Td.tail
theorem NZ_:skim 64 Td.tail=Nj:=by kernel_rfl
def Ml:List Item:=skim 64 Nj.tail
theorem AcG_:skim 64 Nj.tail=Ml:=by kernel_rfl
def KV:List Item:=skim 64 Ml.tail
theorem AeD_:skim 64 Ml.tail=KV:=by kernel_rfl
def L0:List Item:=skim 64 KV.tail
theorem KP_:skim 64 KV.tail=L0:=by kernel_rfl
def Mb:List Item:=skim 64 (brT L0)
theorem Abp_:skim 64 (brT L0)=Mb:=by kernel_rfl
def OV:List Item:=skim 64 Mb.tail
theorem Js_:skim 64 Mb.tail=OV:=by kernel_rfl
def Zp (E:Env)(call round:Ad)(tm:T Value):M (T Value):=
 mv (some (.bool true)) fun v8=>
 setF 8 v8 tm fun tm1=>
 M.pure tm1
theorem AdZ_:RegEq 78 134 Gm Td Zp:=⟨by kernel_rfl,fun _ _ _ _ _ _ _ _ _=>by kernel_rfl⟩
def Gt_ (E:Env)(call round:Ad)(tm:T Value):M (T Value):=
 mv (some (.bool true)) fun v9=>
 setF 9 v9 tm fun tm1=>
 M.pure tm1
theorem AfT_:RegEq 78 134 Gm Nj Gt_:=⟨by kernel_rfl,fun _ _ _ _ _ _ _ _ _=>by kernel_rfl⟩
def V2 (E:Env)(call round:Ad)(tm:T Value):M (T Value):=
 mv (T.get tm 2) fun v19=>
 mv (T.get tm 1) fun v20=>
 M.bind (oS (some v19) fun a=>oS (some v20) fun b=>Cl.get (aBin E .sub 3 (.tmp 19) (.tmp 20)) a b) fun v21=>
 mv (some v21) fun v10=>
 setF 10 v10 tm fun tm1=>
 M.pure tm1
theorem No_:RegEq 78 134 Gm Ml V2:=⟨by kernel_rfl,fun _ _ _ _ _ _ _ _ _=>by kernel_rfl⟩
def BT_ (E:Env)(call round:Ad)(tm:T Value):M (T Value):=
 mv (T.get tm 10) fun v22=>
 M.bind (oS (some v22) fun a=>oS (some (.int .i64 12)) fun b=>Cl.get (aBin E .leq 3 (.tmp 22) (.const (.int .i64 12))) a b) fun v23=>
 setF 23 v23 tm fun tm1=>
 M.pure tm1
theorem QT_:RegEq 78 134 Gm KV BT_:=⟨by kernel_rfl,fun _ _ _ _ _ _ _ _ _=>by kernel_rfl⟩
theorem IC_:A4 L0=some 23:=by kernel_rfl
def VE (E:Env)(call round:Ad)(tm:T Value):M (T Value):=
 mv (T.get tm 0) fun v24=>
 mv (T.get tm 1) fun v25=>
 mv (T.get tm 2) fun v26=>
 M.bind (M.on (some (.func (.func 90) #[] #[])) fun f=>M.on (seqO [(some v24),(some v25),(some v26)]) fun l=>AL call round f l) fun v27=>
 M.pure tm
theorem HU_:RegEq 78 134 Gm Mb VE:=⟨by kernel_rfl,fun _ _ _ _ _ _ _ _ _=>by kernel_rfl⟩
theorem SZ_: ∃k,OV= .code .ret::k:=⟨OV.tail,by kernel_rfl⟩
def Ro:Nat:=A8 Tryz.f90
def Ff_:Code:=Tryz.f90.body.getD .skip
theorem Fj_:envS.fn.get 90=some Tryz.f90:=by kernel_rfl
theorem RM_ {a0 a1 a2:Value}{n:Nat}{s:St}{Q:Value→St→Prop}(h: ∀tm,T.get tm 0=some a0→T.get tm 1=some a1→T.get tm 2=some a2→W (runF envS n ⟨90,49,Ro,tm,[.code Ff_], .run, .normal,none⟩) (s.cxN cxN) fun p s1=>Q p.1 (s1.cxN s.cx)):W (Ay envS (runF envS n) 90 [a0,a1,a2]) s Q:=
 W.call (by kernel_rfl) (by kernel_rfl) Fj_ (by kernel_rfl) rfl rfl (by simp) (h _ (by kernel_rfl) (by kernel_rfl) (by kernel_rfl))
theorem KG_:Tryz.f90.results.toList=[]:=by kernel_rfl
def Tc:List Item:=skim 64 [.code Ff_]
def Kb:List Item:=skim 64 Tc.tail
theorem Ul_:skim 64 Tc.tail=Kb:=by kernel_rfl
def Oo:List Item:=skim 64 Kb.tail
theorem WJ_:skim 64 Kb.tail=Oo:=by kernel_rfl
def Vc:List Item:=skim 64 (brF Oo)
theorem Os_:skim 64 (brF Oo)=Vc:=by kernel_rfl
def W8 (E:Env)(call round:Ad)(tm:T Value):M (T Value):=
 mv (T.get tm 1) fun v8=>
 M.bind (oS (some v8) fun a=>oS (some (.int .i64 1)) fun b=>Cl.get (aBin E .add 3 (.tmp 8) (.const (.int .i64 1))) a b) fun v9=>
 mv (some v9) fun v6=>
 setF 6 v6 tm fun tm1=>
 M.pure tm1
theorem AdO_:RegEq 90 49 Ro Tc W8:=⟨by kernel_rfl,fun _ _ _ _ _ _ _ _ _=>by kernel_rfl⟩
def EY_ (E:Env)(call round:Ad)(tm:T Value):M (T Value):=
 mv (T.get tm 6) fun v10=>
 mv (T.get tm 2) fun v11=>
 M.bind (oS (some v10) fun a=>oS (some v11) fun b=>Cl.get (aBin E .lss 3 (.tmp 10) (.tmp 11)) a b) fun v12=>
 setF 12 v12 tm fun tm1=>
 M.pure tm1
theorem ZW_:RegEq 90 49 Ro Kb EY_:=⟨by kernel_rfl,fun _ _ _ _ _ _ _ _ _=>by kernel_rfl⟩
theorem ZI_:A4 Oo=some 12:=by kernel_rfl
end Go.Proofs.YtndednnianphoaaGreatDoor.Am
end
