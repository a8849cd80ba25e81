import Derived.Test.YtofanlcjeohcjaaPPt15
import Derived.Test.YtofanlcjeohcjaaPPt08
import Derived.KernelRfl
import Derived.Test.YtofanlcjeohcjaaPPt20
import Derived.Test.YtofanlcjeohcjaaPPt14
import Derived.Test.YtofanlcjeohcjaaPPt16
noncomputable section
namespace Go.Proofs.Ytofanlcjeohcjaa.Am
open Go.RowKit
def Dg:Nat:=BE Try.f18
abbrev R3:Nat:=29
def YE:Code:=Try.f18.body.getD .skip
theorem Ud:envS.fn.get 18=some Try.f18:=by kernel_rfl
theorem NJ_ {a0:Value}{n:Nat}{s:St}{Q:Value→St→Prop}(h: ∀tm,T.get tm 0=some a0→W (runF envS n ⟨18,29,Dg,tm,[.code YE], .run, .normal,none⟩) (s.cxN cxN) fun p s1=>Q p.1 (s1.cxN s.cx)):W (AJ envS (runF envS n) 18 [a0]) s Q:=
 W.call (by kernel_rfl) (by kernel_rfl) Ud (by kernel_rfl) rfl rfl (by simp) (h _ (by kernel_rfl))
theorem CL_:Try.f18.results.toList=[.tmp 2, .cell 3 26, .tmp 4]:=by kernel_rfl
def Qr:List Item:=skim 64 [.code YE]
def MF:List Item:=skim 64 Qr.tail
theorem If_:skim 64 Qr.tail=MF:=by kernel_rfl
def FX:List Item:=skim 64 MF.tail
theorem X1:skim 64 MF.tail=FX:=by kernel_rfl
def LG:List Item:=skim 64 (brT FX)
theorem Rh_:skim 64 (brT FX)=LG:=by kernel_rfl
def Kf:List Item:=skim 64 (brF FX)
theorem Oj_:skim 64 (brF FX)=Kf:=by kernel_rfl
def P9:List Item:=skim 64 LG.tail
theorem RD_:skim 64 LG.tail=P9:=by kernel_rfl
def G5:List Item:=skim 64 Kf.tail
theorem At_:skim 64 Kf.tail=G5:=by kernel_rfl
def LJ:List Item:=skim 64 (brT G5)
theorem Tn_:skim 64 (brT G5)=LJ:=by kernel_rfl
def MM:List Item:=skim 64 (brF G5)
theorem Er_:skim 64 (brF G5)=MM:=by kernel_rfl
def Ou:List Item:=skim 64 LJ.tail
theorem Mr_:skim 64 LJ.tail=Ou:=by kernel_rfl
def Lm:List Item:=skim 64 MM.tail
theorem QM_:skim 64 MM.tail=Lm:=by kernel_rfl
def Jk:List Item:=skim 64 Lm.tail
theorem FK_:skim 64 Lm.tail=Jk:=by kernel_rfl
def OV:List Item:=skim 64 Jk.tail
theorem BV_:skim 64 Jk.tail=OV:=by kernel_rfl
def Yx (E:Env)(call round:Aa)(tm:T Value):M (T Value):=
 mv (some (.slice none 0 0)) fun v2=>
 setF 2 v2 tm fun tm1=>
 M.bind (BH E 26) fun v3=>
 setF 3 v3 tm1 fun tm2=>
 mv (some (.int .i64 0)) fun v4=>
 setF 4 v4 tm2 fun tm3=>
 M.pure tm3
theorem SA_:RegEq 18 29 Dg Qr Yx:=⟨by kernel_rfl,fun _ _ _ _ _ _ _ _ _=>by kernel_rfl⟩
def Xp (E:Env)(call round:Aa)(tm:T Value):M (T Value):=
 mv (T.get tm 0) fun v7=>
 M.bind (oS (seqO [(some v7)]) fun l=>A6 E .len [22] l) fun v8=>
 M.bind (oS (some v8) fun a=>oS (some (.int .i64 0)) fun b=>Cl.get (aBin E .eql 3 (.tmp 8) (.const (.int .i64 0))) a b) fun v9=>
 setF 9 v9 tm fun tm1=>
 M.pure tm1
theorem KT_:RegEq 18 29 Dg MF Xp:=⟨by kernel_rfl,fun _ _ _ _ _ _ _ _ _=>by kernel_rfl⟩
theorem WG:BO FX=some 9:=by kernel_rfl
def Y0 (E:Env)(call round:Aa)(tm:T Value):M (T Value):=
 M.bind (oS (seqP []) fun ps=>Cn E 26 ps) fun v10=>
 mv (some (.slice none 0 0)) fun v2=>
 setF 2 v2 tm fun tm1=>
 M.bind (oS (T.get tm1 3) fun a=>oS (some v10) fun b=>Bo E 26 a b) fun _=>
 mv (some (.int .i64 2)) fun v4=>
 setF 4 v4 tm1 fun tm2=>
 M.pure tm2
theorem FR_:RegEq 18 29 Dg LG Y0:=⟨by kernel_rfl,fun _ _ _ _ _ _ _ _ _=>by kernel_rfl⟩
def Yj (E:Env)(call round:Aa)(tm:T Value):M (T Value):=
 mv (T.get tm 0) fun v11=>
 M.bind (oS (seqO [(some v11)]) fun l=>A6 E .len [22] l) fun v12=>
 M.bind (oS (some v12) fun a=>oS (some (.int .i64 1024)) fun b=>Cl.get (aBin E .gtr 3 (.tmp 12) (.const (.int .i64 1024))) a b) fun v13=>
 setF 13 v13 tm fun tm1=>
 M.pure tm1
theorem PD_:RegEq 18 29 Dg Kf Yj:=⟨by kernel_rfl,fun _ _ _ _ _ _ _ _ _=>by kernel_rfl⟩
theorem IU_: ∃k,P9= .code .ret::k:=⟨P9.tail,by kernel_rfl⟩
theorem ZA:BO G5=some 13:=by kernel_rfl
def ZL (E:Env)(call round:Aa)(tm:T Value):M (T Value):=
 M.bind (oS (seqP []) fun ps=>Cn E 26 ps) fun v14=>
 mv (some (.slice none 0 0)) fun v2=>
 setF 2 v2 tm fun tm1=>
 M.bind (oS (T.get tm1 3) fun a=>oS (some v14) fun b=>Bo E 26 a b) fun _=>
 mv (some (.int .i64 3)) fun v4=>
 setF 4 v4 tm1 fun tm2=>
 M.pure tm2
theorem EZ_:RegEq 18 29 Dg LJ ZL:=⟨by kernel_rfl,fun _ _ _ _ _ _ _ _ _=>by kernel_rfl⟩
def UW (E:Env)(call round:Aa)(tm:T Value):M (T Value):=
 mv (T.get tm 0) fun v15=>
 M.bind (M.on (some (.func (.func 65) #[] #[])) fun f=>M.on (seqO [(some v15)]) fun l=>Bi call round f l) fun v16=>
 M.bind (BH E 26) fun v5=>
 setF 5 v5 tm fun tm1=>
 M.bind (oS (some v5) fun a=>oS (some v16) fun b=>Bo E 26 a b) fun _=>
 M.pure tm1
theorem DB_:RegEq 18 29 Dg MM UW:=⟨by kernel_rfl,fun _ _ _ _ _ _ _ _ _=>by kernel_rfl⟩
theorem QU_: ∃k,Ou= .code .ret::k:=⟨Ou.tail,by kernel_rfl⟩
def SJ (E:Env)(call round:Aa)(tm:T Value):M (T Value):=
 M.bind (oS (seqP []) fun ps=>BX E 22 0 ps) fun v17=>
 M.bind (M.on (T.get tm 5) fun a=>M.on (some none) fun b=>M.on (some none) fun c=>BW E 26 a b c) fun v18=>
 M.bind (oS (seqO [(some v17),(some v18)]) fun l=>A6 E .append [22,22] l) fun v19=>
 mv (T.get tm 0) fun v20=>
 M.bind (oS (seqO [(some v19),(some v20)]) fun l=>A6 E .append [22,22] l) fun v21=>
 mv (some v21) fun v6=>
 setF 6 v6 tm fun tm1=>
 M.pure tm1
theorem FS_:RegEq 18 29 Dg Lm SJ:=⟨by kernel_rfl,fun _ _ _ _ _ _ _ _ _=>by kernel_rfl⟩
def Yg (E:Env)(call round:Aa)(tm:T Value):M ((Rho×T Value)×List OpLog):=
 M.bind (apartO (oS (T.get tm 0) fun a=>M.pure a)) fun p0=>
 M.bind (apartO (oS (seqO [(some p0.1)]) fun l=>A6 E .len [22] l)) fun p1=>
 M.bind (apartO (M.on (some (.func (.func 66) #[] #[])) fun f=>M.on (seqO [(some p1.1)]) fun l=>Bi call round f l)) fun p2=>
 M.bind (apartO (oS (T.get tm 6) fun a=>M.pure a)) fun p3=>
 M.bind (apartO (M.on (some (.func (.func 67) #[] #[])) fun f=>M.on (seqO [(some p3.1)]) fun l=>Bi call round f l)) fun p4=>
 M.bind (apartO (oS (seqO [(some p2.1),(some p4.1)]) fun l=>A6 E .append [22,22] l)) fun p5=>
 M.bind (apartO (oS (T.get tm 5) fun a=>A5 E 26 a)) fun p6=>
 M.bind (apartO (oS (some p5.1) fun a=>M.pure a)) fun p7=>
 setT 2 p7.1 tm fun tm1=>
 M.bind (apartO (oS (T.get tm1 3) fun a=>oS (some p6.1) fun b=>Bo E 26 a b)) fun p8=>
 M.pure (([p7.1,p6.1,p5.1,p4.1,p3.1,p2.1,p1.1,p0.1],tm1),[p8.2,p7.2,p6.2,p5.2,p4.2,p3.2,p2.2,p1.2,p0.2])
theorem Dj_:DrawEq 18 29 Dg Jk [0,1,3,0,15,31,0,63,255,511] Yg:=⟨by kernel_rfl,by kernel_rfl,fun _ _ _ _ _ _ _ _ _=>by kernel_rfl⟩
theorem Qk_ (E:Env)(call round:Aa)(x22 x23 x24 x25 x26 x27 x28 x2:Value)(tm:T Value)(s:St):BM call round (CH E Dg 29 (hdC Jk)) [x2,x28,x27,x26,x25,x24,x23,x22] tm s=(M.bind (oS (some (.int .i64 0)) fun a=>M.pure a) fun v4=>setT 4 v4 tm fun tm1=>M.pure tm1) s:=by kernel_rfl
theorem UE_: ∃k,OV= .code .ret::k:=⟨OV.tail,by kernel_rfl⟩
def Js:Nat:=BE Try.f21
def AK_:Code:=Try.f21.body.getD .skip
theorem M8:envS.fn.get 21=some Try.f21:=by kernel_rfl
theorem TJ_ {a0:Value}{n:Nat}{s:St}{Q:Value→St→Prop}(h: ∀tm,T.get tm 0=some a0→W (runF envS n ⟨21,11,Js,tm,[.code AK_], .run, .normal,none⟩) (s.cxN cxN) fun p s1=>Q p.1 (s1.cxN s.cx)):W (AJ envS (runF envS n) 21 [a0]) s Q:=
 W.call (by kernel_rfl) (by kernel_rfl) M8 (by kernel_rfl) rfl rfl (by simp) (h _ (by kernel_rfl))
theorem PP:Try.f21.results.toList=[.tmp 2]:=by kernel_rfl
def Qx:List Item:=skim 64 [.code AK_]
def LS:List Item:=skim 64 Qx.tail
theorem IL_:skim 64 Qx.tail=LS:=by kernel_rfl
def GH:List Item:=skim 64 LS.tail
theorem N4:skim 64 LS.tail=GH:=by kernel_rfl
def MK:List Item:=skim 64 (brT GH)
theorem Sa:skim 64 (brT GH)=MK:=by kernel_rfl
def Lp:List Item:=skim 64 (brF GH)
theorem PA_:skim 64 (brF GH)=Lp:=by kernel_rfl
def QI:List Item:=skim 64 MK.tail
theorem Yv:skim 64 MK.tail=QI:=by kernel_rfl
def PK:List Item:=skim 64 Lp.tail
theorem Mf_:skim 64 Lp.tail=PK:=by kernel_rfl
def S4 (E:Env)(call round:Aa)(tm:T Value):M (T Value):=
 mv (some (.int .i64 0)) fun v2=>
 setF 2 v2 tm fun tm1=>
 M.pure tm1
theorem UI_:RegEq 21 11 Js Qx S4:=⟨by kernel_rfl,fun _ _ _ _ _ _ _ _ _=>by kernel_rfl⟩
def Tj (E:Env)(call round:Aa)(tm:T Value):M (T Value):=
 mv (T.get tm 0) fun v3=>
 M.bind (oS (some v3) fun a=>oS (some (.int .i64 1)) fun b=>Cl.get (aBin E .lss 3 (.tmp 3) (.const (.int .i64 1))) a b) fun v4=>
 mv (some v4) fun v5=>
 M.bind (M.chk (isK v5) (M.if (isB v5 false) (oS (T.get tm 0) fun a=>M.pure a) (M.pure undef))) fun v6=>
 M.bind (M.chk (isK v5) (M.if (isB v5 false) (oS (some v6) fun a=>oS (some (.int .i64 1024)) fun b=>Cl.get (aBin E .gtr 3 (.tmp 6) (.const (.int .i64 1024))) a b) (M.pure undef))) fun v7=>
 M.bind (M.on (some v5) fun a=>M.on (some (.bool true)) fun b=>M.on (some v7) fun c=>Cw a b c) fun v8=>
 setF 8 v8 tm fun tm1=>
 M.pure tm1
theorem CU_:RegEq 21 11 Js LS Tj:=⟨by kernel_rfl,fun _ _ _ _ _ _ _ _ _=>by kernel_rfl⟩
theorem NC:BO GH=some 8:=by kernel_rfl
def Pw (E:Env)(call round:Aa)(tm:T Value):M (T Value):=
 mv (some (.int .i64 0)) fun v2=>
 setF 2 v2 tm fun tm1=>
 M.pure tm1
theorem Uu:RegEq 21 11 Js MK Pw:=⟨by kernel_rfl,fun _ _ _ _ _ _ _ _ _=>by kernel_rfl⟩
def X8 (E:Env)(call round:Aa)(tm:T Value):M (T Value):=
 mv (T.get tm 0) fun v9=>
 M.bind (oS (some v9) fun a=>oS (some (.int .i64 26)) fun b=>Cl.get (aBin E .add 3 (.tmp 9) (.const (.int .i64 26))) a b) fun v10=>
 mv (some v10) fun v2=>
 setF 2 v2 tm fun tm1=>
 M.pure tm1
theorem Wl_:RegEq 21 11 Js Lp X8:=⟨by kernel_rfl,fun _ _ _ _ _ _ _ _ _=>by kernel_rfl⟩
theorem Sm: ∃k,QI= .code .ret::k:=⟨QI.tail,by kernel_rfl⟩
theorem Bq_: ∃k,PK= .code .ret::k:=⟨PK.tail,by kernel_rfl⟩
def H6:Nat:=BE Try.f66
def Xl:Code:=Try.f66.body.getD .skip
theorem WN:envS.fn.get 66=some Try.f66:=by kernel_rfl
theorem Uh_ {a0:Value}{n:Nat}{s:St}{Q:Value→St→Prop}(h: ∀tm,T.get tm 0=some a0→W (runF envS n ⟨66,30,H6,tm,[.code Xl], .run, .normal,none⟩) (s.cxN cxN) fun p s1=>Q p.1 (s1.cxN s.cx)):W (AJ envS (runF envS n) 66 [a0]) s Q:=
 W.call (by kernel_rfl) (by kernel_rfl) WN (by kernel_rfl) rfl rfl (by simp) (h _ (by kernel_rfl))
theorem Tz_:Try.f66.results.toList=[.tmp 2]:=by kernel_rfl
def PG:List Item:=skim 64 [.code Xl]
def Mt:List Item:=skim 64 PG.tail
theorem MI_:skim 64 PG.tail=Mt:=by kernel_rfl
def Mz:List Item:=skim 64 Mt.tail
theorem Sk_:skim 64 Mt.tail=Mz:=by kernel_rfl
def M4:List Item:=skim 64 Mz.tail
theorem Os_:skim 64 Mz.tail=M4:=by kernel_rfl
def Q0:List Item:=skim 64 M4.tail
theorem PO_:skim 64 M4.tail=Q0:=by kernel_rfl
def Vt (E:Env)(call round:Aa)(tm:T Value):M (T Value):=
 mv (some (.slice none 0 0)) fun v2=>
 setF 2 v2 tm fun tm1=>
 M.pure tm1
theorem ON_:RegEq 66 30 H6 PG Vt:=⟨by kernel_rfl,fun _ _ _ _ _ _ _ _ _=>by kernel_rfl⟩
def TG (E:Env)(call round:Aa)(tm:T Value):M (T Value):=
 mv (T.get tm 0) fun v5=>
 M.bind (oS (some v5) fun a=>oS (some (.int .i64 256)) fun b=>Cl.get (aBin E .quo 3 (.tmp 5) (.const (.int .i64 256))) a b) fun v6=>
 M.bind (oS (some v6) fun a=>Bu E 3 5 a) fun v7=>
 mv (T.get tm 0) fun v8=>
 M.bind (oS (some v8) fun a=>oS (some (.int .i64 256)) fun b=>Cl.get (aBin E .rem 3 (.tmp 8) (.const (.int .i64 256))) a b) fun v9=>
 M.bind (oS (some v9) fun a=>Bu E 3 5 a) fun v10=>
 mv (T.get tm 0) fun v11=>
 M.bind (oS (some v11) fun a=>oS (some (.int .i64 256)) fun b=>Cl.get (aBin E .quo 3 (.tmp 11) (.const (.int .i64 256))) a b) fun v12=>
 M.bind (oS (some (.int .i64 255)) fun a=>oS (some v12) fun b=>Cl.get (aBin E .sub 3 (.const (.int .i64 255)) (.tmp 12)) a b) fun v13=>
 M.bind (oS (some v13) fun a=>Bu E 3 5 a) fun v14=>
 mv (T.get tm 0) fun v15=>
 M.bind (oS (some v15) fun a=>oS (some (.int .i64 256)) fun b=>Cl.get (aBin E .rem 3 (.tmp 15) (.const (.int .i64 256))) a b) fun v16=>
 M.bind (oS (some (.int .i64 255)) fun a=>oS (some v16) fun b=>Cl.get (aBin E .sub 3 (.const (.int .i64 255)) (.tmp 16)) a b) fun v17=>
 M.bind (oS (some v17) fun a=>Bu E 3 5 a) fun v18=>
 M.bind (oS (seqP [(0,(some v7)),(1,(some v10)),(2,(some v14)),(3,(some v18))]) fun ps=>BX E 22 4 ps) fun v19=>
 mv (some v19) fun v3=>
 setF 3 v3 tm fun tm1=>
 M.pure tm1
theorem MZ_:RegEq 66 30 H6 Mt TG:=⟨by kernel_rfl,fun _ _ _ _ _ _ _ _ _=>by kernel_rfl⟩
def WE (E:Env)(call round:Aa)(tm:T Value):M (T Value):=
 mv (T.get tm 3) fun v20=>
 M.bind (M.on (some (.func (.func 108) #[] #[])) fun f=>M.on (seqO [(some v20)]) fun l=>Bi call round f l) fun v21=>
 mv (some v21) fun v4=>
 setF 4 v4 tm fun tm1=>
 M.pure tm1
theorem Bj_:RegEq 66 30 H6 Mz WE:=⟨by kernel_rfl,fun _ _ _ _ _ _ _ _ _=>by kernel_rfl⟩
def UO (E:Env)(call round:Aa)(tm:T Value):M (T Value):=
 mv (T.get tm 3) fun v22=>
 mv (T.get tm 4) fun v23=>
 M.bind (oS (some v23) fun a=>Bu E 51 5 a) fun v24=>
 mv (T.get tm 4) fun v25=>
 M.bind (oS (some v25) fun a=>oS (some (.int .u64 8)) fun b=>Cl.get (aBin E .shr 51 (.tmp 25) (.const (.int .u64 8))) a b) fun v26=>
 M.bind (oS (some v26) fun a=>Bu E 51 5 a) fun v27=>
 M.bind (oS (seqP [(0,(some v24)),(1,(some v27))]) fun ps=>BX E 22 2 ps) fun v28=>
 M.bind (oS (seqO [(some v22),(some v28)]) fun l=>A6 E .append [22,22] l) fun v29=>
 mv (some v29) fun v2=>
 setF 2 v2 tm fun tm1=>
 M.pure tm1
theorem Bw_:RegEq 66 30 H6 M4 UO:=⟨by kernel_rfl,fun _ _ _ _ _ _ _ _ _=>by kernel_rfl⟩
theorem TU_: ∃k,Q0= .code .ret::k:=⟨Q0.tail,by kernel_rfl⟩
def JZ:Nat:=BE Try.f67
def Sk:Code:=Try.f67.body.getD .skip
theorem TD:envS.fn.get 67=some Try.f67:=by kernel_rfl
theorem Fh_ {a0:Value}{n:Nat}{s:St}{Q:Value→St→Prop}(h: ∀tm,T.get tm 0=some a0→W (runF envS n ⟨67,22,JZ,tm,[.code Sk], .run, .normal,none⟩) (s.cxN cxN) fun p s1=>Q p.1 (s1.cxN s.cx)):W (AJ envS (runF envS n) 67 [a0]) s Q:=
 W.call (by kernel_rfl) (by kernel_rfl) TD (by kernel_rfl) rfl rfl (by simp) (h _ (by kernel_rfl))
theorem QK_:Try.f67.results.toList=[.tmp 2]:=by kernel_rfl
def Oy:List Item:=skim 64 [.code Sk]
def Na:List Item:=skim 64 Oy.tail
theorem Sp_:skim 64 Oy.tail=Na:=by kernel_rfl
def Mp:List Item:=skim 64 Na.tail
theorem FO_:skim 64 Na.tail=Mp:=by kernel_rfl
def OQ:List Item:=skim 64 Mp.tail
theorem Vt_:skim 64 Mp.tail=OQ:=by kernel_rfl
def Ua (E:Env)(call round:Aa)(tm:T Value):M (T Value):=
 mv (some (.slice none 0 0)) fun v2=>
 setF 2 v2 tm fun tm1=>
 M.pure tm1
theorem BC_:RegEq 67 22 JZ Oy Ua:=⟨by kernel_rfl,fun _ _ _ _ _ _ _ _ _=>by kernel_rfl⟩
def Ay_ (E:Env)(call round:Aa)(tm:T Value):M (T Value):=
 mv (T.get tm 0) fun v4=>
 M.bind (M.on (some (.func (.func 108) #[] #[])) fun f=>M.on (seqO [(some v4)]) fun l=>Bi call round f l) fun v5=>
 mv (some v5) fun v3=>
 setF 3 v3 tm fun tm1=>
 M.pure tm1
theorem BZ_:RegEq 67 22 JZ Na Ay_:=⟨by kernel_rfl,fun _ _ _ _ _ _ _ _ _=>by kernel_rfl⟩
def Xh (E:Env)(call round:Aa)(tm:T Value):M (T Value):=
 M.bind (oS (seqP []) fun ps=>BX E 22 0 ps) fun v6=>
 mv (T.get tm 0) fun v7=>
 M.bind (oS (seqO [(some v6),(some v7)]) fun l=>A6 E .append [22,22] l) fun v8=>
 mv (T.get tm 3) fun v9=>
 M.bind (oS (some v9) fun a=>Bu E 51 5 a) fun v10=>
 mv (T.get tm 3) fun v11=>
 M.bind (oS (some v11) fun a=>oS (some (.int .u64 8)) fun b=>Cl.get (aBin E .shr 51 (.tmp 11) (.const (.int .u64 8))) a b) fun v12=>
 M.bind (oS (some v12) fun a=>Bu E 51 5 a) fun v13=>
 mv (T.get tm 3) fun v14=>
 M.bind (oS (some v14) fun a=>oS (some (.int .u64 16)) fun b=>Cl.get (aBin E .shr 51 (.tmp 14) (.const (.int .u64 16))) a b) fun v15=>
 M.bind (oS (some v15) fun a=>Bu E 51 5 a) fun v16=>
 mv (T.get tm 3) fun v17=>
 M.bind (oS (some v17) fun a=>oS (some (.int .u64 24)) fun b=>Cl.get (aBin E .shr 51 (.tmp 17) (.const (.int .u64 24))) a b) fun v18=>
 M.bind (oS (some v18) fun a=>Bu E 51 5 a) fun v19=>
 M.bind (oS (seqP [(0,(some v10)),(1,(some v13)),(2,(some v16)),(3,(some v19))]) fun ps=>BX E 22 4 ps) fun v20=>
 M.bind (oS (seqO [(some v8),(some v20)]) fun l=>A6 E .append [22,22] l) fun v21=>
 mv (some v21) fun v2=>
 setF 2 v2 tm fun tm1=>
 M.pure tm1
theorem Ht_:RegEq 67 22 JZ Mp Xh:=⟨by kernel_rfl,fun _ _ _ _ _ _ _ _ _=>by kernel_rfl⟩
theorem EV_: ∃k,OQ= .code .ret::k:=⟨OQ.tail,by kernel_rfl⟩
def CA:Nat:=BE Try.f108
abbrev KJ:Nat:=35
def Wm:Code:=Try.f108.body.getD .skip
theorem Ak_:envS.fn.get 108=some Try.f108:=by kernel_rfl
theorem HL_ {a0:Value}{n:Nat}{s:St}{Q:Value→St→Prop}(h: ∀tm,T.get tm 0=some a0→W (runF envS n ⟨108,35,CA,tm,[.code Wm], .run, .normal,none⟩) (s.cxN cxN) fun p s1=>Q p.1 (s1.cxN s.cx)):W (AJ envS (runF envS n) 108 [a0]) s Q:=
 W.call (by kernel_rfl) (by kernel_rfl) Ak_ (by kernel_rfl) rfl rfl (by simp) (h _ (by kernel_rfl))
theorem BL_:Try.f108.results.toList=[.tmp 2]:=by kernel_rfl
def OC:List Item:=skim 64 [.code Wm]
def Ke:List Item:=skim 64 OC.tail
theorem Kf_:skim 64 OC.tail=Ke:=by kernel_rfl
def L9:List Item:=skim 64 Ke.tail
theorem EX_:skim 64 Ke.tail=L9:=by kernel_rfl
def G4:List Item:=skim 64 L9.tail
theorem Cw_:skim 64 L9.tail=G4:=by kernel_rfl
def Hk:List Item:=skim 64 G4.tail
theorem VW:skim 64 G4.tail=Hk:=by kernel_rfl
def Mb:List Item:=skim 64 (brT Hk)
theorem HC_:skim 64 (brT Hk)=Mb:=by kernel_rfl
def IM:List Item:=skim 64 (brF Hk)
theorem Wg_:skim 64 (brF Hk)=IM:=by kernel_rfl
def GC:List Item:=skim 64 Mb.tail
theorem MU_:skim 64 Mb.tail=GC:=by kernel_rfl
def Pt:List Item:=skim 64 IM.tail
theorem Jo_:skim 64 IM.tail=Pt:=by kernel_rfl
def Gl:List Item:=skim 64 GC.tail
theorem RW:skim 64 GC.tail=Gl:=by kernel_rfl
def LM:List Item:=skim 64 (brT Gl)
theorem SF_:skim 64 (brT Gl)=LM:=by kernel_rfl
def Ky:List Item:=skim 64 (brF Gl)
theorem Qc_:skim 64 (brF Gl)=Ky:=by kernel_rfl
def J2:List Item:=skim 64 LM.tail
theorem TP_:skim 64 LM.tail=J2:=by kernel_rfl
theorem Sx_:skim 64 Ky.tail=G4:=by kernel_rfl
def ME:List Item:=skim 64 J2.tail
theorem Dv_:skim 64 J2.tail=ME:=by kernel_rfl
def GJ:List Item:=skim 64 ME.tail
theorem Um:skim 64 ME.tail=GJ:=by kernel_rfl
def Oi:List Item:=skim 64 (brT GJ)
theorem TN_:skim 64 (brT GJ)=Oi:=by kernel_rfl
def MW:List Item:=skim 64 (brF GJ)
theorem EM_:skim 64 (brF GJ)=MW:=by kernel_rfl
theorem Bt_:skim 64 Oi.tail=MW:=by kernel_rfl
theorem SK:skim 64 MW.tail=GC:=by kernel_rfl
def Ar_ (E:Env)(call round:Aa)(tm:T Value):M (T Value):=
 mv (some (.int .u32 0)) fun v2=>
 setF 2 v2 tm fun tm1=>
 M.pure tm1
theorem EN_:RegEq 108 35 CA OC Ar_:=⟨by kernel_rfl,fun _ _ _ _ _ _ _ _ _=>by kernel_rfl⟩
def YA (E:Env)(call round:Aa)(tm:T Value):M (T Value):=
 mv (some (.int .u32 4294967295)) fun v3=>
 setF 3 v3 tm fun tm1=>
 M.pure tm1
theorem JR_:RegEq 108 35 CA Ke YA:=⟨by kernel_rfl,fun _ _ _ _ _ _ _ _ _=>by kernel_rfl⟩
def RE (E:Env)(call round:Aa)(tm:T Value):M (T Value):=
 mv (some (.int .i64 0)) fun v4=>
 setF 4 v4 tm fun tm1=>
 M.pure tm1
theorem Mp_:RegEq 108 35 CA L9 RE:=⟨by kernel_rfl,fun _ _ _ _ _ _ _ _ _=>by kernel_rfl⟩
def NY (E:Env)(call round:Aa)(tm:T Value):M (T Value):=
 mv (T.get tm 4) fun v7=>
 mv (T.get tm 0) fun v8=>
 M.bind (oS (seqO [(some v8)]) fun l=>A6 E .len [22] l) fun v9=>
 M.bind (oS (some v7) fun a=>oS (some v9) fun b=>Cl.get (aBin E .lss 3 (.tmp 7) (.tmp 9)) a b) fun v10=>
 setF 10 v10 tm fun tm1=>
 M.pure tm1
theorem Wd:RegEq 108 35 CA G4 NY:=⟨by kernel_rfl,fun _ _ _ _ _ _ _ _ _=>by kernel_rfl⟩
theorem Ad_:BO Hk=some 10:=by kernel_rfl
def UC (E:Env)(call round:Aa)(tm:T Value):M (T Value):=
 mv (some (.int .i64 0)) fun v5=>
 setF 5 v5 tm fun tm1=>
 M.pure tm1
theorem Jp_:RegEq 108 35 CA Mb UC:=⟨by kernel_rfl,fun _ _ _ _ _ _ _ _ _=>by kernel_rfl⟩
def RF (E:Env)(call round:Aa)(tm:T Value):M (T Value):=
 mv (T.get tm 3) fun v33=>
 M.bind (oS (some v33) fun a=>kUn E.P .xor a) fun v34=>
 mv (some v34) fun v2=>
 setF 2 v2 tm fun tm1=>
 M.pure tm1
theorem Ho_:RegEq 108 35 CA IM RF:=⟨by kernel_rfl,fun _ _ _ _ _ _ _ _ _=>by kernel_rfl⟩
def Qb (E:Env)(call round:Aa)(tm:T Value):M (T Value):=
 mv (T.get tm 5) fun v13=>
 M.bind (oS (some v13) fun a=>oS (some (.int .i64 8)) fun b=>Cl.get (aBin E .lss 3 (.tmp 13) (.const (.int .i64 8))) a b) fun v14=>
 setF 14 v14 tm fun tm1=>
 M.pure tm1
theorem Yy:RegEq 108 35 CA GC Qb:=⟨by kernel_rfl,fun _ _ _ _ _ _ _ _ _=>by kernel_rfl⟩
theorem RL_: ∃k,Pt= .code .ret::k:=⟨Pt.tail,by kernel_rfl⟩
theorem WA:BO Gl=some 14:=by kernel_rfl
def XE (E:Env)(call round:Aa)(tm:T Value):M (T Value):=
 mv (T.get tm 3) fun v17=>
 M.bind (oS (some v17) fun a=>oS (some (.int .u32 2)) fun b=>Cl.get (aBin E .rem 51 (.tmp 17) (.const (.int .u32 2))) a b) fun v18=>
 mv (T.get tm 0) fun v19=>
 mv (T.get tm 4) fun v20=>
 M.bind (oS (some v19) fun a=>oS (some v20) fun b=>A9 E 22 a b) fun v21=>
 M.bind (oS (some v21) fun a=>A5 E 5 a) fun v22=>
 mv (T.get tm 5) fun v23=>
 M.bind (oS (some v22) fun a=>oS (some v23) fun b=>Cl.get (aBin E .shr 5 (.tmp 22) (.tmp 23)) a b) fun v24=>
 M.bind (oS (some v24) fun a=>Bu E 5 51 a) fun v25=>
 M.bind (oS (some v25) fun a=>oS (some (.int .u32 2)) fun b=>Cl.get (aBin E .rem 51 (.tmp 25) (.const (.int .u32 2))) a b) fun v26=>
 M.bind (oS (some v18) fun a=>oS (some v26) fun b=>Cl.get (aBin E .neq 51 (.tmp 18) (.tmp 26)) a b) fun v27=>
 mv (some v27) fun v6=>
 setF 6 v6 tm fun tm1=>
 M.pure tm1
theorem JL_:RegEq 108 35 CA LM XE:=⟨by kernel_rfl,fun _ _ _ _ _ _ _ _ _=>by kernel_rfl⟩
def Av_ (E:Env)(call round:Aa)(tm:T Value):M (T Value):=
 mv (T.get tm 4) fun v11=>
 M.bind (oS (some v11) fun a=>oS (some (.int .i64 1)) fun b=>Cl.get (aBin E .add 3 (.tmp 11) (.const (.int .i64 1))) a b) fun v12=>
 mv (some v12) fun v4=>
 setF 4 v4 tm fun tm1=>
 M.pure tm1
theorem Bd_:RegEq 108 35 CA Ky Av_:=⟨by kernel_rfl,fun _ _ _ _ _ _ _ _ _=>by kernel_rfl⟩
def As_ (E:Env)(call round:Aa)(tm:T Value):M (T Value):=
 mv (T.get tm 3) fun v28=>
 M.bind (oS (some v28) fun a=>oS (some (.int .u64 1)) fun b=>Cl.get (aBin E .shr 51 (.tmp 28) (.const (.int .u64 1))) a b) fun v29=>
 mv (some v29) fun v3=>
 setF 3 v3 tm fun tm1=>
 M.pure tm1
theorem Wi_:RegEq 108 35 CA J2 As_:=⟨by kernel_rfl,fun _ _ _ _ _ _ _ _ _=>by kernel_rfl⟩
def W5 (E:Env)(call round:Aa)(tm:T Value):M (T Value):=
 mv (T.get tm 6) fun v30=>
 setF 30 v30 tm fun tm1=>
 M.pure tm1
theorem Dm_:RegEq 108 35 CA ME W5:=⟨by kernel_rfl,fun _ _ _ _ _ _ _ _ _=>by kernel_rfl⟩
theorem ZH:BO GJ=some 30:=by kernel_rfl
def WQ (E:Env)(call round:Aa)(tm:T Value):M (T Value):=
 mv (T.get tm 3) fun v31=>
 M.bind (oS (some v31) fun a=>oS (some (.int .u32 3988292384)) fun b=>Cl.get (aBin E .xor 51 (.tmp 31) (.const (.int .u32 3988292384))) a b) fun v32=>
 mv (some v32) fun v3=>
 setF 3 v3 tm fun tm1=>
 M.pure tm1
theorem HT_:RegEq 108 35 CA Oi WQ:=⟨by kernel_rfl,fun _ _ _ _ _ _ _ _ _=>by kernel_rfl⟩
def Pu (E:Env)(call round:Aa)(tm:T Value):M (T Value):=
 mv (T.get tm 5) fun v15=>
 M.bind (oS (some v15) fun a=>oS (some (.int .i64 1)) fun b=>Cl.get (aBin E .add 3 (.tmp 15) (.const (.int .i64 1))) a b) fun v16=>
 mv (some v16) fun v5=>
 setF 5 v5 tm fun tm1=>
 M.pure tm1
theorem Yt:RegEq 108 35 CA MW Pu:=⟨by kernel_rfl,fun _ _ _ _ _ _ _ _ _=>by kernel_rfl⟩
def crc1 (n:Nat):Nat:=if n%2=1 then n/2^^^3988292384 else n/2
def crcN:Nat→Nat→Nat
 |0,n=>n
 |k+1,n=>crcN k (crc1 n)
theorem PZ: ∀(k n:Nat),crc8 n k=crcN k n
 |0,n=>rfl
 |k+1,n=>by
  unfold crc8 crcN crc1
  split
  ·exact PZ k _
  ·exact PZ k _
theorem AP_ (a b:Nat):crc1 (a^^^b)=crc1 a^^^crc1 b:=by
 have hd:(a^^^b)/2=a/2^^^b/2:=by
  have h:=Nat.shiftRight_xor_distrib (a:=a) (b:=b) (i:=1)
  rw[Nat.shiftRight_eq_div_pow,Nat.shiftRight_eq_div_pow,Nat.shiftRight_eq_div_pow]at h
  exact h
 have hm:(a^^^b)%2=(a%2+b%2)%2:=by
  rw[←Nat.pow_one 2,Nat.xor_mod_two_pow]
  rcases Nat.mod_two_eq_zero_or_one a with h|h<;>rcases Nat.mod_two_eq_zero_or_one b with h'|h'<;>simp[h,h']
 unfold crc1
 rw[hd,hm]
 have e: ∀x y z:Nat,x^^^z^^^(y^^^z)=x^^^y:=fun x y z=>by
  rw[Nat.xor_comm y z,Nat.xor_assoc,←Nat.xor_assoc z z y,Nat.xor_self,Nat.zero_xor]
 rcases Nat.mod_two_eq_zero_or_one a with h|h<;>rcases Nat.mod_two_eq_zero_or_one b with h'|h'<;>rw[h,h']<;>simp -implicitDefEqProofs only[Nat.reduceAdd,Nat.reduceMod,Nat.zero_ne_one,if_true,if_false]
 ·rw[Nat.xor_assoc]
 ·rw[Nat.xor_assoc,Nat.xor_comm (b/2),←Nat.xor_assoc]
 ·rw[e]
theorem Wn: ∀(k a b:Nat),crcN k (a^^^b)=crcN k a^^^crcN k b
 |0,_,_=>rfl
 |k+1,a,b=>by
  show crcN k (crc1 (a^^^b))=crcN k (crc1 a)^^^crcN k (crc1 b)
  rw[AP_,Wn k]
theorem Yc: ∀(j k n:Nat),crcN (j+k) n=crcN k (crcN j n)
 |0,k,n=>by rw[Nat.zero_add];rfl
 |j+1,k,n=>by
  rw[Nat.succ_add]
  exact Yc j k _
theorem We: ∀(k n:Nat),crcN k (n*2^k)=n
 |0,n=>by rw[Nat.pow_zero,Nat.mul_one];rfl
 |k+1,n=>by
  show crcN k (crc1 (n*2^(k+1)))=n
  have e:n*2^(k+1)=2*(n*2^k):=by rw[Nat.pow_succ];rw[←Nat.mul_assoc,Nat.mul_comm]
  unfold crc1
  rw[e,Nat.mul_mod_right,if_neg (by decide),Nat.mul_div_cancel_left _ (by decide)]
  exact We k n
theorem Jx_ {n:Nat}(h:n<4294967296):crc1 n<4294967296:=by
 unfold crc1
 split
 ·exact Nat.xor_lt_two_pow (n:=32) (show n/2<2^32 by omega) (by decide)
 ·omega
theorem QF_ {a b k:Nat}(h:a<2^k):a^^^b*2^k=a+b*2^k:=by
 apply Nat.eq_of_testBit_eq
 intro i
 rw[Nat.testBit_xor,Nat.add_comm,Nat.mul_comm b,Nat.testBit_two_pow_mul_add _ h,Nat.testBit_two_pow_mul]
 by_cases hi:i<k
 ·rw[if_pos hi]
  simp[show ¬k≤i by omega]
 ·rw[if_neg hi,Nat.testBit_lt_two_pow (Nat.lt_of_lt_of_le h (Nat.pow_le_pow_right (by decide) (by omega)))]
  simp[show k≤i by omega]
theorem Wq_ (n c:Nat):EM n c=crcN 8 (n^^^c):=by
 have e:n=n%256^^^n/256*2^8:=by
  rw[QF_ (k:=8) (Nat.mod_lt _ (by decide))]
  omega
 have e2:n^^^c=(n%256^^^c)^^^n/256*2^8:=by
  conv=>lhs;rw[e]
  rw[Nat.xor_assoc,Nat.xor_comm _ c,←Nat.xor_assoc]
 rw[e2,Wn,We]
 unfold EM crcT
 rw[PZ]
theorem Vw: ∀(k:Nat) {n:Nat},n<4294967296→crcN k n<4294967296
 |0,_,h=>h
 |k+1,_,h=>Vw k (Jx_ h)
theorem GI_ (k n:Nat):crcN (k+1) n=crc1 (crcN k n):=Yc k 1 n
theorem Rw_ (x d:Nat):(if((x^^^d)%2=d%2)then(x^^^d)>>>1 else(x^^^d)>>>1^^^3988292384)=crc1 x^^^d>>>1:=by
 have hp:(x^^^d)%2=(x%2+d%2)%2:=by
  rw[←Nat.pow_one 2,Nat.xor_mod_two_pow]
  rcases Nat.mod_two_eq_zero_or_one x with h|h<;>rcases Nat.mod_two_eq_zero_or_one d with h'|h'<;>simp[h,h']
 have hs:(x^^^d)>>>1=x>>>1^^^d>>>1:=Nat.shiftRight_xor_distrib
 have h1:x>>>1=x/2:=Nat.shiftRight_eq_div_pow x 1
 unfold crc1
 rw[hp,hs,h1]
 by_cases hx:x%2=1
 ·rw[if_neg (by omega),if_pos hx,Nat.xor_assoc,Nat.xor_assoc,Nat.xor_comm (d>>>1)]
 ·rw[if_pos (by omega),if_neg hx]
theorem Sr_ {n c:Nat}(hc:c<256):crcN 8 (n^^^c)^^^c>>>8=EM n c:=by
 have h:c>>>8=0:=by rw[Nat.shiftRight_eq_div_pow];omega
 rw[h,Nat.xor_zero,Wq_]
theorem WI:hasT envS 5=true:=by kernel_rfl
theorem YM:intK envS 51=some .u32:=by kernel_rfl
section
variable {s:St}{E:Env}{t:Nat}{xo yo:Operand}
theorem AZ_ {k kk:IntKind}{m:Nat}(hn:1≤btOf k)(Q:Value→St→Prop):W (Cl.get (aBin E .shr t xo yo) (.int k (m:Nat)) (.int kk 1)) s Q=Q (.int k (m>>>1:Nat)) s:=EO (n:=1) hn Q
theorem Mi_ {m:Nat}(h:m^^^3988292384<4294967296)(Q:Value→St→Prop):W (Cl.get (aBin E .xor t xo yo) (.int .u32 (m:Nat)) (.int .u32 3988292384)) s Q=Q (.int .u32 (m^^^3988292384:Nat)) s:=Uy_ (n:=3988292384) h Q
end
theorem MI {x:Nat}(h:x<4294967296)(k:Nat):x>>>k<4294967296:=Nat.lt_of_le_of_lt (Nat.shiftRight_le x k) h
theorem PB_ {b o cc len i c R:Nat}{F:Nat→Prop}{Q:Value×FrameMode→St→Prop}{s0:St}(hb0:s0.lim≤s0.next)(hat:At s0 b (o+i*1) (.int .u8 (c:Nat)))(hF:F (b+(o+i*1)))(hil:i<len)(hc:c<256)(hR:R<4294967296): ∀(k j n:Nat) (tm:T Value) (s:St) (td:List Item),j+k=8→12*k+20≤n→skim 64 td=GC→Ext F Non s0 s→s.mem=s0.mem→s.next=s0.next→
  T.get tm 0=some (.slice (some ⟨b,o,none⟩) len cc)→T.get tm 3=some (.int .u32 (crcN j (R^^^c)^^^c>>>j:Nat))→T.get tm 4=some (.int .i64 (i:Nat))→T.get tm 5=some (.int .i64 (j:Nat))→
  (∀n' tm' s1 td',n≤n'+12*k+10→skim 64 td'=Ky→Ext F Non s0 s1→s1.mem=s0.mem→s1.next=s0.next→T.get tm' 0=some (.slice (some ⟨b,o,none⟩) len cc)→T.get tm' 3=some (.int .u32 (EM R c:Nat))→T.get tm' 4=some (.int .i64 (i:Nat))→W (runF envS n' ⟨108,KJ,CA,tm',td', .run, .normal,none⟩) s1 Q)→
  W (runF envS n ⟨108,KJ,CA,tm,td, .run, .normal,none⟩) s Q:=by
 intro k
 induction k with
 |zero=>
  intro j n tm s td hj hn hT hx hm hnx h0 h3 h4 h5 q
  obtain rfl:j=8:=by omega
  rw[Sr_ hc]at h3
  refine Yy.w hT (by omega) ?_
  simp only[Qb,Ac,W_oS,W_on,Ab,W_mv,Ad,As,T.get_set,Ag,Af,Aq,Ap,Ae,Ak,reduceIte,An,Ar,Ay,AA,Av,Aw,Ax,Az,Au,Ao,Nat.reduceEqDiff,reduceCtorEq, ↓reduceIte,h5]
  simp only[A7,Bd,A8,Bc,Bm,Bj,Bg,Bk,show decide (((8:Nat):Int)<8)=false from rfl]
  refine W.cond (v:=false) RW WA (by simp[T.get_set]) (by omega) (fun h=>by cases h) fun _=> ?_
  exact q _ _ _ _ (by omega) Qc_ hx hm hnx (by simp[T.get_set,h0]) (by simp[T.get_set,h3]) (by simp[T.get_set,h4])
 |succ k ih=>
  intro j n tm s td hj hn hT hx hm hnx h0 h3 h4 h5 q
  have hRc:R^^^c<4294967296:=Sha.xor_lt hR (by omega)
  have hxl:crcN j (R^^^c)<4294967296:=Vw j hRc
  have hdl:c>>>j<4294967296:=MI (by omega) j
  have hst:=Rw_ (crcN j (R^^^c)) (c>>>j)
  rw[←GI_,←Nat.shiftRight_add]at hst
  have hyl:crcN j (R^^^c)^^^c>>>j<4294967296:=Sha.xor_lt hxl hdl
  generalize hy:crcN j (R^^^c)^^^c>>>j=y at *
  refine Yy.w hT (by omega) ?_
  simp only[Qb,Ac,W_oS,W_on,Ab,W_mv,Ad,As,T.get_set,Ag,Af,Aq,Ap,Ae,Ak,reduceIte,An,Ar,Ay,AA,Av,Aw,Ax,Az,Au,Ao,Nat.reduceEqDiff,reduceCtorEq, ↓reduceIte,h5]
  simp only[A7,Bd,A8,Bc,Bm,Bj,Bg,Bk,show decide (((j:Nat):Int)<8)=true from decide_eq_true (by omega)]
  refine W.cond (v:=true) RW WA (by simp[T.get_set]) (by omega) (fun _=> ?_) fun h=>by cases h
  refine JL_.w SF_ (by omega) ?_
  simp only[XE,Ac,W_oS,W_on,Ab,W_mv,Ad,As,T.get_set,Ag,Af,Aq,Ap,Ae,Ak,reduceIte,An,Ar,Ay,AA,Av,Aw,Ax,Az,Au,Ao,Nat.reduceEqDiff,reduceCtorEq, ↓reduceIte,h0,h3,h4,h5,VG,GO BA hil]
  refine W.load1 DO (hat.same hm hnx) ?_
  simp only[Ac,W_oS,W_on,Ab,W_mv,Ad,As,T.get_set,Ag,Af,Aq,Ap,Ae,Ak,reduceIte,An,Ar,Ay,AA,Av,Aw,Ax,Az,Au,Ao,Nat.reduceEqDiff,reduceCtorEq, ↓reduceIte,EO (k:= .u8) (show j≤btOf .u8 by show j≤8;omega),Da WI YM,wrap_u32,Nat.mod_eq_of_lt hdl,VG,TD_]
  have hx1:Ext F Non s0 (s.rdN (b+(o+i*1))):=hx.trans (Ext.rdN (F:=F) s _ fun _=>hF) hb0 (fun _ _ h=>h) fun _ _ h=>h
  refine Wi_.w TP_ (by omega) ?_
  simp only[As_,Ac,W_oS,W_on,Ab,W_mv,Ad,As,T.get_set,Ag,Af,Aq,Ap,Ae,Ak,reduceIte,An,Ar,Ay,AA,Av,Aw,Ax,Az,Au,Ao,Nat.reduceEqDiff,reduceCtorEq, ↓reduceIte,h3,AZ_ (k:= .u32) (show 1≤btOf .u32 by decide)]
  refine Dm_.w Dv_ (by omega) ?_
  simp only[W5,Ac,W_oS,W_on,Ab,W_mv,Ad,As,T.get_set,Ag,Af,Aq,Ap,Ae,Ak,reduceIte,An,Ar,Ay,AA,Av,Aw,Ax,Az,Au,Ao,Nat.reduceEqDiff,reduceCtorEq, ↓reduceIte]
  have ej:wrap64 ((j:Nat)+1:Int)=((j+1:Nat):Int):=by
   rw[BB (by omega) (by omega)];simp
  by_cases he:y%2=(c>>>j)%2
  ·rw[if_pos he]at hst
   refine W.cond (v:=false) Um ZH (by simp[T.get_set,he]) (by omega) (fun h=>by cases h) fun _=> ?_
   refine Yt.w EM_ (by omega) ?_
   simp only[Pu,Ac,W_oS,W_on,Ab,W_mv,Ad,As,T.get_set,Ag,Af,Aq,Ap,Ae,Ak,reduceIte,An,Ar,Ay,AA,Av,Aw,Ax,Az,Au,Ao,Nat.reduceEqDiff,reduceCtorEq, ↓reduceIte,A7,Bd,A8,Bc,Bm,Bj,Bg,Bk,h5,ej]
   exact ih (j+1) _ _ _ _ (by omega) (by omega) SK hx1 hm hnx (by simp[T.get_set,h0]) (by simp[T.get_set,hst]) (by simp[T.get_set,h4]) (by simp[T.get_set]) fun n' tm' s1 td' e=>q n' tm' s1 td' (by omega)
  ·rw[if_neg he]at hst
   refine W.cond (v:=true) Um ZH (by simp[T.get_set,he]) (by omega) (fun _=> ?_) fun h=>by cases h
   refine HT_.w TN_ (by omega) ?_
   have hz:y>>>1^^^3988292384<4294967296:=Sha.xor_lt (MI hyl 1) (by decide)
   simp only[WQ,Ac,W_oS,W_on,Ab,W_mv,Ad,As,T.get_set,Ag,Af,Aq,Ap,Ae,Ak,reduceIte,An,Ar,Ay,AA,Av,Aw,Ax,Az,Au,Ao,Nat.reduceEqDiff,reduceCtorEq, ↓reduceIte,Mi_ hz]
   refine Yt.w Bt_ (by omega) ?_
   simp only[Pu,Ac,W_oS,W_on,Ab,W_mv,Ad,As,T.get_set,Ag,Af,Aq,Ap,Ae,Ak,reduceIte,An,Ar,Ay,AA,Av,Aw,Ax,Az,Au,Ao,Nat.reduceEqDiff,reduceCtorEq, ↓reduceIte,A7,Bd,A8,Bc,Bm,Bj,Bg,Bk,h5,ej]
   exact ih (j+1) _ _ _ _ (by omega) (by omega) SK hx1 hm hnx (by simp[T.get_set,h0]) (by simp[T.get_set,hst]) (by simp[T.get_set,h4]) (by simp[T.get_set]) fun n' tm' s1 td' e=>q n' tm' s1 td' (by omega)
theorem Qx_ {b o cc:Nat}{l:List Nat}{F:Nat→Prop}{Q:Value×FrameMode→St→Prop}{s0:St}(hb0:s0.lim≤s0.next)(hrow:Row s0 b o (u8l l))(hF: ∀x,In b o l.length x→F x)(hl:Byt l)(hz:l.length≤1000000): ∀(k i n:Nat) (tm:T Value) (s:St) (td:List Item),i+k=l.length→120*k+20≤n→skim 64 td=G4→Ext F Non s0 s→s.mem=s0.mem→s.next=s0.next→
  T.get tm 0=some (.slice (some ⟨b,o,none⟩) l.length cc)→T.get tm 3=some (.int .u32 (crcs 4294967295 (l.take i):Nat))→T.get tm 4=some (.int .i64 (i:Nat))→
  (∀n' tm' s1 td',n≤n'+120*k+10→skim 64 td'=IM→Ext F Non s0 s1→s1.mem=s0.mem→s1.next=s0.next→T.get tm' 3=some (.int .u32 (crcs 4294967295 l:Nat))→W (runF envS n' ⟨108,KJ,CA,tm',td', .run, .normal,none⟩) s1 Q)→
  W (runF envS n ⟨108,KJ,CA,tm,td, .run, .normal,none⟩) s Q:=by
 intro k
 induction k with
 |zero=>
  intro i n tm s td hi hn hT hx hm hnx h0 h3 h4 q
  refine Wd.w hT (by omega) ?_
  simp only[NY,Ac,W_oS,W_on,Ab,W_mv,Ad,As,T.get_set,Ag,Af,Aq,Ap,Ae,Ak,reduceIte,An,Ar,Ay,AA,Av,Aw,Ax,Az,Au,Ao,Nat.reduceEqDiff,reduceCtorEq, ↓reduceIte,A7,Bd,A8,Bc,Bm,Bj,Bg,Bk,h0,h4,Ch BA]
  refine W.cond (v:=false) VW Ad_ (by simp[T.get_set];omega) (by omega) (fun h=>by cases h) fun _=> ?_
  rw[show i=l.length by omega,List.take_length]at h3
  exact q _ _ _ _ (by omega) Wg_ hx hm hnx (by simp[T.get_set,h3])
 |succ k ih=>
  intro i n tm s td hi hn hT hx hm hnx h0 h3 h4 q
  have hil:i<l.length:=by omega
  refine Wd.w hT (by omega) ?_
  simp only[NY,Ac,W_oS,W_on,Ab,W_mv,Ad,As,T.get_set,Ag,Af,Aq,Ap,Ae,Ak,reduceIte,An,Ar,Ay,AA,Av,Aw,Ax,Az,Au,Ao,Nat.reduceEqDiff,reduceCtorEq, ↓reduceIte,A7,Bd,A8,Bc,Bm,Bj,Bg,Bk,h0,h4,Ch BA]
  refine W.cond (v:=true) VW Ad_ (by simp[T.get_set];omega) (by omega) (fun _=> ?_) fun h=>by cases h
  refine Jp_.w HC_ (by omega) ?_
  simp only[UC,Ac,W_oS,W_on,Ab,W_mv,Ad,As,T.get_set,Ag,Af,Aq,Ap,Ae,Ak,reduceIte,An,Ar,Ay,AA,Av,Aw,Ax,Az,Au,Ao,Nat.reduceEqDiff,reduceCtorEq, ↓reduceIte]
  have hc:l[i]<256:=hl _ (List.getElem_mem hil)
  have hR:crcs 4294967295 (l.take i)<4294967296:=Mc _ _ (by decide) fun c hc=>hl c (List.mem_of_mem_take hc)
  have hat:At s0 b (o+i*1) (.int .u8 (l[i]:Nat)):=by
   rw[Nat.mul_one]
   exact hrow i _ (by unfold u8l;rw[List.getElem?_map,List.getElem?_eq_getElem hil];rfl)
  refine PB_ (c:=l[i]) (R:=crcs 4294967295 (l.take i)) (cc:=cc) hb0 hat (hF _ ⟨by omega,by omega⟩) hil hc hR 8 0 _ _ _ _ (by omega) (by omega) MU_ hx hm hnx (by simp[T.get_set,h0]) ?_ (by simp[T.get_set,h4]) (by simp[T.get_set]) fun n1 tm1 s1 td1 hn1 hT1 hx1 hm1 hnx1 g0 g3 g4=> ?_
  ·have e:crcN 0 (crcs 4294967295 (l.take i)^^^l[i])^^^l[i]>>>0=crcs 4294967295 (l.take i):=by
    show(crcs 4294967295 (l.take i)^^^l[i])^^^l[i]=_
    rw[Nat.xor_assoc,Nat.xor_self,Nat.xor_zero]
   rw[e]
   simp[T.get_set,h3]
  have ei:wrap64 ((i:Nat)+1:Int)=((i+1:Nat):Int):=by
   rw[BB (by omega) (by omega)];simp
  refine Bd_.w hT1 (by omega) ?_
  simp only[Av_,Ac,W_oS,W_on,Ab,W_mv,Ad,As,T.get_set,Ag,Af,Aq,Ap,Ae,Ak,reduceIte,An,Ar,Ay,AA,Av,Aw,Ax,Az,Au,Ao,Nat.reduceEqDiff,reduceCtorEq, ↓reduceIte,A7,Bd,A8,Bc,Bm,Bj,Bg,Bk,g4,ei]
  rw[←RP 4294967295 l i hil]at g3
  exact ih (i+1) _ _ _ _ (by omega) (by omega) Sx_ hx1 hm1 hnx1 (by simp[T.get_set,g0]) (by simp[T.get_set,g3]) (by simp[T.get_set]) fun n' tm' s2 td' e=>q n' tm' s2 td' (by omega)
theorem Ut {n:Nat}{s:St}{v:Value}{l:List Nat}{Q:Value→St→Prop}(hbd:s.lim≤s.next)(hn:120*l.length+60≤n)(h:Bn s v l)(hl:Byt l)(hz:l.length≤1000000)
  (q: ∀s1,s1.mem=s.mem→s1.next=s.next→Ext (BsF v) Non s s1→Q (.int .u32 (Co 0 l:Nat)) s1):W (AJ envS (runF envS n) 108 [v]) s Q:=by
 refine HL_ fun tm hk0=> ?_
 obtain⟨b,o,cc,rfl,h1,h2,h3⟩:=h
 refine EN_.w rfl (by omega) ?_
 simp only[Ar_,Ac,W_oS,W_on,Ab,W_mv,Ad,As,T.get_set,Ag,Af,Aq,Ap,Ae,Ak,reduceIte,An,Ar,Ay,AA,Av,Aw,Ax,Az,Au,Ao,Nat.reduceEqDiff,reduceCtorEq, ↓reduceIte]
 refine JR_.w Kf_ (by omega) ?_
 simp only[YA,Ac,W_oS,W_on,Ab,W_mv,Ad,As,T.get_set,Ag,Af,Aq,Ap,Ae,Ak,reduceIte,An,Ar,Ay,AA,Av,Aw,Ax,Az,Au,Ao,Nat.reduceEqDiff,reduceCtorEq, ↓reduceIte]
 refine Mp_.w EX_ (by omega) ?_
 simp only[RE,Ac,W_oS,W_on,Ab,W_mv,Ad,As,T.get_set,Ag,Af,Aq,Ap,Ae,Ak,reduceIte,An,Ar,Ay,AA,Av,Aw,Ax,Az,Au,Ao,Nat.reduceEqDiff,reduceCtorEq, ↓reduceIte]
 refine Qx_ (s0:=s.cxN cxN) (cc:=cc) (F:=BsF (.slice (some ⟨b,o,none⟩) l.length cc)) hbd h3 (fun x h=>h) hl hz l.length 0 _ _ _ _ (by omega) (by omega) Cw_ (Ext.refl _) rfl rfl (by simp[T.get_set,hk0]) (by simp[T.get_set,crcs]) (by simp[T.get_set]) fun n1 tm1 s1 td1 hn1 hT1 hx1 hm1 hnx1 g3=> ?_
 have hR:crcs 4294967295 l<4294967296:=Mc _ _ (by decide) hl
 refine Ho_.w hT1 (by omega) ?_
 simp only[RF,Ac,W_oS,W_on,Ab,W_mv,Ad,As,T.get_set,Ag,Af,Aq,Ap,Ae,Ak,reduceIte,An,Ar,Ay,AA,Av,Aw,Ax,Az,Au,Ao,Nat.reduceEqDiff,reduceCtorEq, ↓reduceIte,g3,Dr_ hR]
 have e:4294967295^^^crcs 4294967295 l=Co 0 l:=by unfold Co;rw[Nat.xor_zero]
 refine W.end' (rs:=[2]) (vs:=[.int .u32 (Co 0 l:Nat)]) Jo_ (.inl RL_) (by omega) Ak_ BL_ hx1.cx (by simp[T.get_set,e]) ?_
 exact q _ hm1 hnx1 hx1.cx'
def EmB (s:St)(l:List Nat)(v:Value)(b:Nat):Prop:=EmS s 1 l.length (u8l l) v b
theorem EmB.same {s s':St}{l:List Nat}{v:Value}{b:Nat}(h:EmB s l v b)(hm:s'.mem=s.mem)(hn:s'.next=s.next):EmB s' l v b:=EmS.same h hm hn
theorem EmB.ext {F G:Nat→Prop}{s s':St}{l:List Nat}{v:Value}{b:Nat}(h:EmB s l v b)(e:Ext F G s s')(hG: ∀x,MkF 1 l.length b x→ ¬G x):EmB s' l v b:=by
 rcases h with h|⟨h,h0⟩
 ·exact .inl h
 ·exact .inr ⟨h.ext e fun x hx=>hG x ⟨h0,hx⟩,h0⟩
theorem EmB.ext0 {F:Nat→Prop}{s s':St}{l:List Nat}{v:Value}{b:Nat}(h:EmB s l v b)(e:Ext F Non s s'):EmB s' l v b:=h.ext e fun _ _=>id
theorem EmB.bn {s:St}{l:List Nat}{v:Value}{b:Nat}(h:EmB s l v b)(hz:l.length≤1000000):Bn s v l:=by
 rcases h with⟨rfl,h0,h1⟩|⟨h,_⟩
 ·obtain rfl:l=[]:=List.eq_nil_of_length_eq_zero h0
  exact⟨b,0,0,rfl,by simp,D3 (by unfold capU;decide),fun i v e=>by simp[u8l]at e⟩
 ·have hl:l.length<capU:=Bt (by omega)
  exact⟨b,0,_,h.val,by rw[Mj hl];exact Nat.le_refl _,Gc hl (by decide),h.own.row⟩
theorem EmB.at {s:St}{l:List Nat}{v:Value}{b:Nat}(h:EmB s l v b): ∃c,v= .slice (some ⟨b,0,none⟩) l.length c:=by
 obtain⟨c,e,_⟩:=EmS.row h
 exact⟨c,e⟩
theorem EmB.new {s0 s:St}{l:List Nat}{v:Value}{b:Nat}(h:EmB s l v b)(hb:s0.next≤b)(hz:l.length≤1000000):New s0 s v l:=by
 refine⟨h.bn hz,fun x hx=> ?_⟩
 obtain⟨c,rfl⟩:=h.at
 have:b+0≤x:=hx.1
 omega
theorem EmB.nil {s:St}{b:Nat}:EmB s [] (.slice (some ⟨b,0,none⟩) 0 0) b:= .inl ⟨rfl,rfl,rfl⟩
theorem W.appBy {s:St}{l m:List Nat}{v x:Value}{b:Nat}{Q:Value→St→Prop}(hbd:s.lim≤s.next)(h:EmB s l v b)(hx:Bs s x m)(hz:l.length+m.length≤1000000)
  (q: ∀s2 v2 b2,(b2=b∨s.next≤b2)→EmB s2 (l++m) v2 b2→Ext (fun y=>BsF x y∨MkF 1 l.length b y) (MkF 1 l.length b) s s2→Q v2 s2):W (A6 envS .append [22,22] [v,x]) s Q:=by
 rw[Jp]
 refine W.appE hbd Lr h hx.src.g (by decide) (by decide) (by omega) (by rw[Be,Nat.mul_one]) (BY _) fun s2 v2 b2 hb2 h2 x2=>q s2 v2 b2 hb2 ?_ x2
 have e:u8l (l++m)=u8l l++u8l m:=List.map_append
 unfold EmB
 rw[e,List.length_append]
 exact h2
theorem Ew_ {n:Nat}{s:St}{v:Value}{l:List Nat}{Q:Value→St→Prop}(hbd:s.lim≤s.next)(hn:120*l.length+200≤n)(h:Bn s v l)(hl:Byt l)(hz:l.length≤900000)
  (q: ∀s1 w b,s.next≤b→Ext (BsF v) Non s s1→EmB s1 (gput l) w b→Q w s1):W (AJ envS (runF envS n) 67 [v]) s Q:=by
 refine Fh_ fun tm h0=> ?_
 have hc:Bn (s.cxN cxN) v l:=h.same rfl rfl
 refine BC_.w rfl (by omega) ?_
 simp only[Ua,Ac,W_oS,W_on,Ab,W_mv,Ad,As,T.get_set,Ag,Af,Aq,Ap,Ae,Ak,reduceIte,An,Ar,Ay,AA,Av,Aw,Ax,Az,Au,Ao,Nat.reduceEqDiff,reduceCtorEq, ↓reduceIte]
 refine BZ_.w Sp_ (by omega) ?_
 simp only[Ay_,Ac,W_oS,W_on,Ab,W_mv,Ad,As,T.get_set,Ag,Af,Aq,Ap,Ae,Ak,reduceIte,An,Ar,Ay,AA,Av,Aw,Ax,Az,Au,Ao,Nat.reduceEqDiff,reduceCtorEq, ↓reduceIte,h0]
 refine Ut (s:=s.cxN cxN) hbd (by omega) hc hl (by omega) fun s1 m1 n1 x1=> ?_
 refine Ht_.w FO_ (by omega) ?_
 generalize hS:Co 0 l=S
 have hb1:s1.lim≤s1.next:=x1.bnd hbd
 simp only[Xh,Ac,W_oS,W_on,Ab,W_mv,Ad,As,T.get_set,Ag,Af,Aq,Ap,Ae,Ak,reduceIte,An,Ar,Ay,AA,Av,Aw,Ax,Az,Au,Ao,Nat.reduceEqDiff,reduceCtorEq, ↓reduceIte,h0]
 refine W.buildS hb1 (r:=[]) CK (by decide) rfl (Bt (by decide)) fun s2 n2 x2 r2=> ?_
 have hb2:s2.lim≤s2.next:=x2.bnd hb1
 have hx2:Ext (BsF v) Non (s.cxN cxN) s2:=x1.step x2 hbd (fun _ _ h=>h.elim) fun _ h=>h.elim
 refine W.appBy hb2 EmB.nil (hc.bs.ext0 hx2) (by show 0+_≤_;omega) fun s3 w3 b3 hb3 h3 x3=> ?_
 have hnm: ∀y,¬MkF 1 ([]:List Nat).length s1.next y:=fun y hy=>absurd hy.1 (by simp)
 have x3':Ext (BsF v) Non s2 s3:=x3.weak hb2 (fun y _ hy=>hy.elim id fun hy=>(hnm y hy).elim) fun y _ hy=>hnm y hy
 have hx3:Ext (BsF v) Non (s.cxN cxN) s3:=hx2.step x3' hbd (fun _ _ h=>h) fun _ h=>h.elim
 have hbd3:s3.lim≤s3.next:=x3.bnd hb2
 have hn1:s.next≤s1.next:=x1.nxt
 have hs3:s.next≤b3:=by
  have:s1.next≤s2.next:=x2.nxt
  rcases hb3 with rfl|hb3<;>omega
 rw[List.nil_append]at h3
 simp only[Ac,W_oS,W_on,Ab,W_mv,Ad,As,T.get_set,Ag,Af,Aq,Ap,Ae,Ak,reduceIte,An,Ar,Ay,AA,Av,Aw,Ax,Az,Au,Ao,Nat.reduceEqDiff,reduceCtorEq, ↓reduceIte,h0,Da G6 Dp,wrap_u8,Hm (k:= .u32) (by decide),Pp (k:= .u32) (by decide),QD (k:= .u32) (by decide)]
 refine W.buildS hbd3 (r:=u8l (le4 S)) CK (by decide) rfl (Bt (by decide)) fun s4 n4 x4 r4=> ?_
 have hb4:s4.lim≤s4.next:=x4.bnd hbd3
 have hB4:Bs s4 (.slice (some ⟨s3.next,0,none⟩) 4 4) (le4 S):=Ah.bn r4 (Bt (by simp[le4]))
 have hx4:=hx3.step x4 hbd (fun _ _ h=>h.elim) fun _ h=>h.elim
 refine W.appBy hb4 (h3.ext0 x4) hB4 (by simp[le4];omega) fun s5 w5 b5 hb5 h5 x5=> ?_
 have hx5:Ext (BsF v) Non (s.cxN cxN) s5:=hx4.step x5 hbd (fun y hy h=>by
  have h6:y<s.lim:=hy
  have h8:s3.next≤s4.next:=x4.nxt
  have h9:s.next≤s3.next:=hx3.nxt
  rcases h with h|h
  ·have h7:s3.next+0≤y:=h.1
   omega
  ·have h7:b3+0≤y:=h.2.1
   omega) fun y h=>by
  have h7:b3+0≤y:=h.2.1
  show s.next≤y
  omega
 refine W.end' (rs:=[2]) (vs:=[w5]) Vt_ (.inl EV_) (by omega) TD QK_ hx5.cx (by simp[T.get_set]) ?_
 refine q _ _ b5 ?_ hx5.cx' ?_
 ·have h9:s.next≤s4.next:=hx4.nxt
  rcases hb5 with rfl|hb5<;>omega
 ·have:=h5.same (s':=s5.cxN s.cx) rfl rfl
  unfold gput
  rw[hS]
  exact this
end Go.Proofs.Ytofanlcjeohcjaa.Am
end
