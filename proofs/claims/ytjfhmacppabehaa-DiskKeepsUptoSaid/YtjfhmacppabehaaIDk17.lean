import Derived.Test.YtjfhmacppabehaaIDk15
import Derived.Test.YtjfhmacppabehaaIDk08
import Derived.KernelRfl
import Derived.Test.YtjfhmacppabehaaIDk07
import Derived.Test.YtjfhmacppabehaaIDk14
import Derived.Test.YtjfhmacppabehaaIDk16
noncomputable section
namespace Go.Proofs.Ytjfhmacppabehaa.Am
open Go.RowKit
def Qd:Nat:=Bh Try.f67
def Qq:Code:=Try.f67.body.getD .skip
theorem VJ:envS.fn.get 67=some Try.f67:=by kernel_rfl
theorem Oy_ {a0 a1:Value}{n:Nat}{s:St}{Q:Value→St→Prop}(h: ∀tm,T.get tm 0=some a0→T.get tm 1=some a1→W (runF envS n ⟨67,9,Qd,tm,[.code Qq], .run, .normal,none⟩) (s.cxN cxN) fun p s1=>Q p.1 (s1.cxN s.cx)):W (Av envS (runF envS n) 67 [a0,a1]) s Q:=
 W.call (by kernel_rfl) (by kernel_rfl) VJ (by kernel_rfl) rfl rfl (by simp) (h _ (by kernel_rfl) (by kernel_rfl))
theorem Ip_:Try.f67.results.toList=[.tmp 4]:=by kernel_rfl
def MM:List Item:=skim 64 [.code Qq]
def IJ:List Item:=skim 64 MM.tail
theorem Bn_:skim 64 MM.tail=IJ:=by kernel_rfl
def PC:List Item:=skim 64 IJ.tail
theorem ZU:skim 64 IJ.tail=PC:=by kernel_rfl
def UA (E:Env)(call round:Ac)(tm:T Value):M (T Value):=
 mv (some (.bool false)) fun v4=>
 setF 4 v4 tm fun tm1=>
 M.pure tm1
theorem Zy:RegEq 67 9 Qd MM UA:=⟨by kernel_rfl,fun _ _ _ _ _ _ _ _ _=>by kernel_rfl⟩
def R9 (E:Env)(call round:Ac)(tm:T Value):M (T Value):=
 mv (T.get tm 0) fun v5=>
 mv (T.get tm 1) fun v6=>
 M.bind (M.on (some (.func (.func 82) #[] #[])) fun f=>M.on (seqO [(some v5),(some v6)]) fun l=>A5 call round f l) fun v7=>
 M.bind (oS (some v7) fun a=>oS (some (.int .i64 0)) fun b=>Cl.get (aBin E .geq 3 (.tmp 7) (.const (.int .i64 0))) a b) fun v8=>
 mv (some v8) fun v4=>
 setF 4 v4 tm fun tm1=>
 M.pure tm1
theorem Ed_:RegEq 67 9 Qd IJ R9:=⟨by kernel_rfl,fun _ _ _ _ _ _ _ _ _=>by kernel_rfl⟩
theorem IY_: ∃k,PC= .code .ret::k:=⟨PC.tail,by kernel_rfl⟩
def P0:Nat:=Bh Try.f82
def Tq:Code:=Try.f82.body.getD .skip
theorem TG:envS.fn.get 82=some Try.f82:=by kernel_rfl
theorem ML_ {a0 a1:Value}{n:Nat}{s:St}{Q:Value→St→Prop}(h: ∀tm,T.get tm 0=some a0→T.get tm 1=some a1→W (runF envS n ⟨82,8,P0,tm,[.code Tq], .run, .normal,none⟩) (s.cxN cxN) fun p s1=>Q p.1 (s1.cxN s.cx)):W (Av envS (runF envS n) 82 [a0,a1]) s Q:=
 W.call (by kernel_rfl) (by kernel_rfl) TG (by kernel_rfl) rfl rfl (by simp) (h _ (by kernel_rfl) (by kernel_rfl))
theorem Js_:Try.f82.results.toList=[.tmp 4]:=by kernel_rfl
def P2:List Item:=skim 64 [.code Tq]
def Lc:List Item:=skim 64 P2.tail
theorem BB_:skim 64 P2.tail=Lc:=by kernel_rfl
def MK:List Item:=skim 64 Lc.tail
theorem Oe_:skim 64 Lc.tail=MK:=by kernel_rfl
def QM (E:Env)(call round:Ac)(tm:T Value):M (T Value):=
 mv (some (.int .i64 0)) fun v4=>
 setF 4 v4 tm fun tm1=>
 M.pure tm1
theorem CD_:RegEq 82 8 P0 P2 QM:=⟨by kernel_rfl,fun _ _ _ _ _ _ _ _ _=>by kernel_rfl⟩
def Sp (E:Env)(call round:Ac)(tm:T Value):M (T Value):=
 mv (T.get tm 0) fun v5=>
 mv (T.get tm 1) fun v6=>
 M.bind (M.on (some (.func (.func 89) #[] #[])) fun f=>M.on (seqO [(some v5),(some v6),(some (.bool true))]) fun l=>A5 call round f l) fun v7=>
 mv (some v7) fun v4=>
 setF 4 v4 tm fun tm1=>
 M.pure tm1
theorem BJ_:RegEq 82 8 P0 Lc Sp:=⟨by kernel_rfl,fun _ _ _ _ _ _ _ _ _=>by kernel_rfl⟩
theorem Gr_: ∃k,MK= .code .ret::k:=⟨MK.tail,by kernel_rfl⟩
def Eu:Nat:=Bh Try.f89
def Qx:Code:=Try.f89.body.getD .skip
theorem Xn:envS.fn.get 89=some Try.f89:=by kernel_rfl
theorem MV_ {a0 a1 a2:Value}{n:Nat}{s:St}{Q:Value→St→Prop}(h: ∀tm,T.get tm 0=some a0→T.get tm 1=some a1→T.get tm 2=some a2→W (runF envS n ⟨89,21,Eu,tm,[.code Qx], .run, .normal,none⟩) (s.cxN cxN) fun p s1=>Q p.1 (s1.cxN s.cx)):W (Av envS (runF envS n) 89 [a0,a1,a2]) s Q:=
 W.call (by kernel_rfl) (by kernel_rfl) Xn (by kernel_rfl) rfl rfl (by simp) (h _ (by kernel_rfl) (by kernel_rfl) (by kernel_rfl))
theorem EZ_:Try.f89.results.toList=[.tmp 6]:=by kernel_rfl
def Pd:List Item:=skim 64 [.code Qx]
def IH:List Item:=skim 64 Pd.tail
theorem AF_:skim 64 Pd.tail=IH:=by kernel_rfl
def H2:List Item:=skim 64 IH.tail
theorem BV_:skim 64 IH.tail=H2:=by kernel_rfl
def Ga:List Item:=skim 64 H2.tail
theorem Rv:skim 64 H2.tail=Ga:=by kernel_rfl
def LD:List Item:=skim 64 (brT Ga)
theorem Ac_:skim 64 (brT Ga)=LD:=by kernel_rfl
def Jw:List Item:=skim 64 (brF Ga)
theorem AB_:skim 64 (brF Ga)=Jw:=by kernel_rfl
def IF:List Item:=skim 64 LD.tail
theorem Lp_:skim 64 LD.tail=IF:=by kernel_rfl
def PX:List Item:=skim 64 Jw.tail
theorem Bv_:skim 64 Jw.tail=PX:=by kernel_rfl
def Pf:List Item:=skim 64 IF.tail
theorem JU_:skim 64 IF.tail=Pf:=by kernel_rfl
theorem QU_:skim 64 (brF Pf)=H2:=by kernel_rfl
def RK (E:Env)(call round:Ac)(tm:T Value):M (T Value):=
 mv (some (.int .i64 0)) fun v6=>
 setF 6 v6 tm fun tm1=>
 M.pure tm1
theorem Ri_:RegEq 89 21 Eu Pd RK:=⟨by kernel_rfl,fun _ _ _ _ _ _ _ _ _=>by kernel_rfl⟩
def Xm (E:Env)(call round:Ac)(tm:T Value):M (T Value):=
 mv (T.get tm 0) fun v9=>
 M.bind (oS (some v9) fun a=>C4 E 9 a) fun v10=>
 setF 10 v10 tm fun tm1=>
 M.pure tm1
theorem Z0:RegEq 89 21 Eu IH Xm:=⟨by kernel_rfl,fun _ _ _ _ _ _ _ _ _=>by kernel_rfl⟩
def MT (E:Env)(call round:Ac)(tm:T Value):M (T Value):=
 M.bind (oS (T.get tm 10) fun a=>DF a) fun v11=>
 setF 11 v11 tm fun tm1=>
 M.bind (oS (some v11) fun a=>kExt 0 a) fun v12=>
 setF 12 v12 tm1 fun tm2=>
 M.pure tm2
theorem WG:RegEq 89 21 Eu H2 MT:=⟨by kernel_rfl,fun _ _ _ _ _ _ _ _ _=>by kernel_rfl⟩
theorem SQ:Bc Ga=some 12:=by kernel_rfl
def Xb (E:Env)(call round:Ac)(tm:T Value):M (T Value):=
 M.bind (oS (T.get tm 11) fun a=>kExt 1 a) fun v13=>
 M.bind (oS (T.get tm 11) fun a=>kExt 2 a) fun v14=>
 mv (some v13) fun v7=>
 setF 7 v7 tm fun tm1=>
 mv (some v14) fun v8=>
 setF 8 v8 tm1 fun tm2=>
 M.pure tm2
theorem NE_:RegEq 89 21 Eu LD Xb:=⟨by kernel_rfl,fun _ _ _ _ _ _ _ _ _=>by kernel_rfl⟩
def Yn (E:Env)(call round:Ac)(tm:T Value):M (T Value):=
 mv (some (.int .i64 (-1))) fun v6=>
 setF 6 v6 tm fun tm1=>
 M.pure tm1
theorem QX_:RegEq 89 21 Eu Jw Yn:=⟨by kernel_rfl,fun _ _ _ _ _ _ _ _ _=>by kernel_rfl⟩
def Wu (E:Env)(call round:Ac)(tm:T Value):M (T Value):=
 mv (T.get tm 1) fun v15=>
 mv (T.get tm 8) fun v16=>
 M.bind (M.on (some v15) fun f=>M.on (seqO [(some v16)]) fun l=>A5 call round f l) fun v17=>
 mv (T.get tm 2) fun v18=>
 M.bind (oS (some v17) fun a=>oS (some v18) fun b=>Cl.get (aBin E .eql 4 (.tmp 17) (.tmp 18)) a b) fun v19=>
 setF 19 v19 tm fun tm1=>
 M.pure tm1
theorem Im_:RegEq 89 21 Eu IF Wu:=⟨by kernel_rfl,fun _ _ _ _ _ _ _ _ _=>by kernel_rfl⟩
theorem QV_: ∃k,PX= .code .ret::k:=⟨PX.tail,by kernel_rfl⟩
theorem HV_:Bc Pf=some 19:=by kernel_rfl
def Nc:Nat:=Bh Try.f46
def QA:Code:=Try.f46.body.getD .skip
theorem SY:envS.fn.get 46=some Try.f46:=by kernel_rfl
theorem RJ_ {a0 a1:Value}{n:Nat}{s:St}{Q:Value→St→Prop}(h: ∀tm,T.get tm 0=some a0→T.get tm 1=some a1→W (runF envS n ⟨46,8,Nc,tm,[.code QA], .run, .normal,none⟩) (s.cxN cxN) fun p s1=>Q p.1 (s1.cxN s.cx)):W (Av envS (runF envS n) 46 [a0,a1]) s Q:=
 W.call (by kernel_rfl) (by kernel_rfl) SY (by kernel_rfl) rfl rfl (by simp) (h _ (by kernel_rfl) (by kernel_rfl))
theorem Cp_:Try.f46.results.toList=[.tmp 4]:=by kernel_rfl
def Oz:List Item:=skim 64 [.code QA]
def IB:List Item:=skim 64 Oz.tail
theorem RW_:skim 64 Oz.tail=IB:=by kernel_rfl
def LR:List Item:=skim 64 IB.tail
theorem AU_:skim 64 IB.tail=LR:=by kernel_rfl
def Ut (E:Env)(call round:Ac)(tm:T Value):M (T Value):=
 mv (some (.bool false)) fun v4=>
 setF 4 v4 tm fun tm1=>
 M.pure tm1
theorem Bt_:RegEq 46 8 Nc Oz Ut:=⟨by kernel_rfl,fun _ _ _ _ _ _ _ _ _=>by kernel_rfl⟩
def TR (E:Env)(call round:Ac)(tm:T Value):M (T Value):=
 mv (T.get tm 0) fun v5=>
 mv (T.get tm 1) fun v6=>
 M.bind (M.on (some (.func (.func 74) #[] #[])) fun f=>M.on (seqO [(some v5),(some v6)]) fun l=>A5 call round f l) fun v7=>
 mv (some v7) fun v4=>
 setF 4 v4 tm fun tm1=>
 M.pure tm1
theorem CO_:RegEq 46 8 Nc IB TR:=⟨by kernel_rfl,fun _ _ _ _ _ _ _ _ _=>by kernel_rfl⟩
theorem Cs_: ∃k,LR= .code .ret::k:=⟨LR.tail,by kernel_rfl⟩
def Pv:Nat:=Bh Try.f74
def Y1:Code:=Try.f74.body.getD .skip
theorem R0:envS.fn.get 74=some Try.f74:=by kernel_rfl
theorem Ax_ {a0 a1:Value}{n:Nat}{s:St}{Q:Value→St→Prop}(h: ∀tm,T.get tm 0=some a0→T.get tm 1=some a1→W (runF envS n ⟨74,18,Pv,tm,[.code Y1], .run, .normal,none⟩) (s.cxN cxN) fun p s1=>Q p.1 (s1.cxN s.cx)):W (Av envS (runF envS n) 74 [a0,a1]) s Q:=
 W.call (by kernel_rfl) (by kernel_rfl) R0 (by kernel_rfl) rfl rfl (by simp) (h _ (by kernel_rfl) (by kernel_rfl))
theorem KF_:Try.f74.results.toList=[.tmp 4]:=by kernel_rfl
def MR:List Item:=skim 64 [.code Y1]
def KP:List Item:=skim 64 MR.tail
theorem MM_:skim 64 MR.tail=KP:=by kernel_rfl
def P1:List Item:=skim 64 KP.tail
theorem AC_:skim 64 KP.tail=P1:=by kernel_rfl
def V8 (E:Env)(call round:Ac)(tm:T Value):M (T Value):=
 mv (some (.bool false)) fun v4=>
 setF 4 v4 tm fun tm1=>
 M.pure tm1
theorem DT_:RegEq 74 18 Pv MR V8:=⟨by kernel_rfl,fun _ _ _ _ _ _ _ _ _=>by kernel_rfl⟩
def RF (E:Env)(call round:Ac)(tm:T Value):M (T Value):=
 mv (T.get tm 0) fun v5=>
 M.bind (oS (seqO [(some v5)]) fun l=>A6 E .len [9] l) fun v6=>
 mv (T.get tm 1) fun v7=>
 M.bind (oS (seqO [(some v7)]) fun l=>A6 E .len [9] l) fun v8=>
 M.bind (oS (some v6) fun a=>oS (some v8) fun b=>Cl.get (aBin E .geq 3 (.tmp 6) (.tmp 8)) a b) fun v9=>
 mv (some v9) fun v10=>
 M.bind (M.chk (isK v10) (M.if (isB v10 true) (oS (T.get tm 0) fun a=>M.pure a) (M.pure undef))) fun v11=>
 M.bind (M.chk (isK v10) (M.if (isB v10 true) (oS (T.get tm 1) fun a=>M.pure a) (M.pure undef))) fun v12=>
 M.bind (M.chk (isK v10) (M.if (isB v10 true) (oS (seqO [(some v12)]) fun l=>A6 E .len [9] l) (M.pure undef))) fun v13=>
 M.bind (M.chk (isK v10) (M.if (isB v10 true) (M.on (some v11) fun a=>M.on (some none) fun b=>M.on (onO (some v13) fun v=>some (some v)) fun c=>BR E 9 a b c) (M.pure undef))) fun v14=>
 M.bind (M.chk (isK v10) (M.if (isB v10 true) (oS (T.get tm 1) fun a=>M.pure a) (M.pure undef))) fun v15=>
 M.bind (M.chk (isK v10) (M.if (isB v10 true) (oS (some v14) fun a=>oS (some v15) fun b=>Cl.get (aBin E .eql 9 (.tmp 14) (.tmp 15)) a b) (M.pure undef))) fun v16=>
 M.bind (M.on (some v10) fun a=>M.on (some v16) fun b=>M.on (some (.bool false)) fun c=>Bl a b c) fun v17=>
 mv (some v17) fun v4=>
 setF 4 v4 tm fun tm1=>
 M.pure tm1
theorem JX_:RegEq 74 18 Pv KP RF:=⟨by kernel_rfl,fun _ _ _ _ _ _ _ _ _=>by kernel_rfl⟩
theorem HY_: ∃k,P1= .code .ret::k:=⟨P1.tail,by kernel_rfl⟩
def GQ:Nat:=Bh Try.f44
def Rt:Code:=Try.f44.body.getD .skip
theorem WI:envS.fn.get 44=some Try.f44:=by kernel_rfl
theorem FO_ {a0 a1:Value}{n:Nat}{s:St}{Q:Value→St→Prop}(h: ∀tm,T.get tm 0=some a0→T.get tm 1=some a1→W (runF envS n ⟨44,42,GQ,tm,[.code Rt], .run, .normal,none⟩) (s.cxN cxN) fun p s1=>Q p.1 (s1.cxN s.cx)):W (Av envS (runF envS n) 44 [a0,a1]) s Q:=
 W.call (by kernel_rfl) (by kernel_rfl) WI (by kernel_rfl) rfl rfl (by simp) (h _ (by kernel_rfl) (by kernel_rfl))
theorem Bw_:Try.f44.results.toList=[.tmp 4]:=by kernel_rfl
def MY:List Item:=skim 64 [.code Rt]
def I2:List Item:=skim 64 MY.tail
theorem Ol_:skim 64 MY.tail=I2:=by kernel_rfl
def Lm:List Item:=skim 64 I2.tail
theorem Aw_:skim 64 I2.tail=Lm:=by kernel_rfl
def IK:List Item:=skim 64 Lm.tail
theorem MW_:skim 64 Lm.tail=IK:=by kernel_rfl
def KY:List Item:=skim 64 (brT IK)
theorem JC_:skim 64 (brT IK)=KY:=by kernel_rfl
def P6:List Item:=skim 64 KY.tail
theorem JN_:skim 64 KY.tail=P6:=by kernel_rfl
def XO (E:Env)(call round:Ac)(tm:T Value):M (T Value):=
 mv (some (.slice none 0 0)) fun v4=>
 setF 4 v4 tm fun tm1=>
 M.pure tm1
theorem CT_:RegEq 44 42 GQ MY XO:=⟨by kernel_rfl,fun _ _ _ _ _ _ _ _ _=>by kernel_rfl⟩
def QY (E:Env)(call round:Ac)(tm:T Value):M (T Value):=
 mv (T.get tm 0) fun v8=>
 mv (T.get tm 1) fun v9=>
 M.bind (M.on (some (.func (.func 73) #[] #[])) fun f=>M.on (seqO [(some v8),(some v9)]) fun l=>A5 call round f l) fun v10=>
 mv (some v10) fun v5=>
 setF 5 v5 tm fun tm1=>
 M.pure tm1
theorem Eq_:RegEq 44 42 GQ I2 QY:=⟨by kernel_rfl,fun _ _ _ _ _ _ _ _ _=>by kernel_rfl⟩
def TP (E:Env)(call round:Ac)(tm:T Value):M (T Value):=
 mv (T.get tm 5) fun v11=>
 M.bind (oS (some v11) fun a=>oS (some (.int .i64 (-1))) fun b=>Cl.get (aBin E .eql 3 (.tmp 11) (.const (.int .i64 (-1)))) a b) fun v12=>
 setF 12 v12 tm fun tm1=>
 M.pure tm1
theorem PB_:RegEq 44 42 GQ Lm TP:=⟨by kernel_rfl,fun _ _ _ _ _ _ _ _ _=>by kernel_rfl⟩
theorem Qr_:Bc IK=some 12:=by kernel_rfl
def YX (E:Env)(call round:Ac)(tm:T Value):M (T Value):=
 mv (T.get tm 0) fun v13=>
 mv (some v13) fun v4=>
 setF 4 v4 tm fun tm1=>
 M.pure tm1
theorem De_:RegEq 44 42 GQ KY YX:=⟨by kernel_rfl,fun _ _ _ _ _ _ _ _ _=>by kernel_rfl⟩
theorem Ai_: ∃k,P6= .code .ret::k:=⟨P6.tail,by kernel_rfl⟩
def Dz:Nat:=Bh Try.f73
abbrev FW_:Nat:=19
def X3:Code:=Try.f73.body.getD .skip
theorem W3:envS.fn.get 73=some Try.f73:=by kernel_rfl
theorem Ff_ {a0 a1:Value}{n:Nat}{s:St}{Q:Value→St→Prop}(h: ∀tm,T.get tm 0=some a0→T.get tm 1=some a1→W (runF envS n ⟨73,19,Dz,tm,[.code X3], .run, .normal,none⟩) (s.cxN cxN) fun p s1=>Q p.1 (s1.cxN s.cx)):W (Av envS (runF envS n) 73 [a0,a1]) s Q:=
 W.call (by kernel_rfl) (by kernel_rfl) W3 (by kernel_rfl) rfl rfl (by simp) (h _ (by kernel_rfl) (by kernel_rfl))
theorem JV_:Try.f73.results.toList=[.tmp 4]:=by kernel_rfl
def OZ:List Item:=skim 64 [.code X3]
def IC:List Item:=skim 64 OZ.tail
theorem KA_:skim 64 OZ.tail=IC:=by kernel_rfl
def Fu:List Item:=skim 64 IC.tail
theorem LS_:skim 64 IC.tail=Fu:=by kernel_rfl
def FG:List Item:=skim 64 Fu.tail
theorem WP:skim 64 Fu.tail=FG:=by kernel_rfl
def LI:List Item:=skim 64 (brT FG)
theorem Hj_:skim 64 (brT FG)=LI:=by kernel_rfl
def Lh:List Item:=skim 64 (brF FG)
theorem PY_:skim 64 (brF FG)=Lh:=by kernel_rfl
def IV:List Item:=skim 64 LI.tail
theorem KP_:skim 64 LI.tail=IV:=by kernel_rfl
def Ns:List Item:=skim 64 Lh.tail
theorem OX_:skim 64 Lh.tail=Ns:=by kernel_rfl
def Iv:List Item:=skim 64 IV.tail
theorem CF_:skim 64 IV.tail=Iv:=by kernel_rfl
def Nu:List Item:=skim 64 (brF Iv)
theorem Sf_:skim 64 (brF Iv)=Nu:=by kernel_rfl
theorem ZQ:skim 64 Nu.tail=Fu:=by kernel_rfl
def Ty (E:Env)(call round:Ac)(tm:T Value):M (T Value):=
 mv (some (.int .i64 0)) fun v4=>
 setF 4 v4 tm fun tm1=>
 M.pure tm1
theorem Nw_:RegEq 73 19 Dz OZ Ty:=⟨by kernel_rfl,fun _ _ _ _ _ _ _ _ _=>by kernel_rfl⟩
def Ta (E:Env)(call round:Ac)(tm:T Value):M (T Value):=
 mv (T.get tm 0) fun v6=>
 M.bind (oS (seqO [(some v6)]) fun l=>A6 E .len [30] l) fun v7=>
 setF 7 v7 tm fun tm1=>
 mv (some (.int .i64 0)) fun v8=>
 setF 8 v8 tm1 fun tm2=>
 M.pure tm2
theorem Cw_:RegEq 73 19 Dz IC Ta:=⟨by kernel_rfl,fun _ _ _ _ _ _ _ _ _=>by kernel_rfl⟩
def No (E:Env)(call round:Ac)(tm:T Value):M (T Value):=
 M.bind (oS (T.get tm 8) fun a=>oS (T.get tm 7) fun b=>Cl.get (aBin E .lss 3 (.tmp 8) (.tmp 7)) a b) fun v9=>
 setF 9 v9 tm fun tm1=>
 M.pure tm1
theorem RV:RegEq 73 19 Dz Fu No:=⟨by kernel_rfl,fun _ _ _ _ _ _ _ _ _=>by kernel_rfl⟩
theorem TL:Bc FG=some 9:=by kernel_rfl
def VZ (E:Env)(call round:Ac)(tm:T Value):M (T Value):=
 mv (T.get tm 8) fun v10=>
 mv (some v10) fun v5=>
 setF 5 v5 tm fun tm1=>
 M.pure tm1
theorem Rq_:RegEq 73 19 Dz LI VZ:=⟨by kernel_rfl,fun _ _ _ _ _ _ _ _ _=>by kernel_rfl⟩
def QU (E:Env)(call round:Ac)(tm:T Value):M (T Value):=
 mv (some (.int .i64 (-1))) fun v4=>
 setF 4 v4 tm fun tm1=>
 M.pure tm1
theorem RH_:RegEq 73 19 Dz Lh QU:=⟨by kernel_rfl,fun _ _ _ _ _ _ _ _ _=>by kernel_rfl⟩
def XF (E:Env)(call round:Ac)(tm:T Value):M (T Value):=
 mv (T.get tm 1) fun v11=>
 mv (T.get tm 0) fun v12=>
 mv (T.get tm 5) fun v13=>
 M.bind (oS (some v12) fun a=>oS (some v13) fun b=>BN E 30 a b) fun v14=>
 M.bind (oS (some v14) fun a=>A1 E 9 a) fun v15=>
 M.bind (M.on (some v11) fun f=>M.on (seqO [(some v15)]) fun l=>A5 call round f l) fun v16=>
 setF 16 v16 tm fun tm1=>
 M.pure tm1
theorem ZK:RegEq 73 19 Dz IV XF:=⟨by kernel_rfl,fun _ _ _ _ _ _ _ _ _=>by kernel_rfl⟩
theorem Nn_: ∃k,Ns= .code .ret::k:=⟨Ns.tail,by kernel_rfl⟩
theorem Op_:Bc Iv=some 16:=by kernel_rfl
def XK (E:Env)(call round:Ac)(tm:T Value):M (T Value):=
 M.bind (oS (T.get tm 8) fun a=>oS (some (.int .i64 1)) fun b=>Cl.get (aBin E .add 3 (.tmp 8) (.const (.int .i64 1))) a b) fun v18=>
 mv (some v18) fun v8=>
 setF 8 v8 tm fun tm1=>
 M.pure tm1
theorem Hh_:RegEq 73 19 Dz Nu XK:=⟨by kernel_rfl,fun _ _ _ _ _ _ _ _ _=>by kernel_rfl⟩
def BI:Nat:=Bh Try.f47
abbrev FX:Nat:=36
def Ts:Code:=Try.f47.body.getD .skip
theorem NQ:envS.fn.get 47=some Try.f47:=by kernel_rfl
theorem WO {a0:Value}{n:Nat}{s:St}{Q:Value→St→Prop}(h: ∀tm,T.get tm 0=some a0→W (runF envS n ⟨47,36,BI,tm,[.code Ts], .run, .normal,none⟩) (s.cxN cxN) fun p s1=>Q p.1 (s1.cxN s.cx)):W (Av envS (runF envS n) 47 [a0]) s Q:=
 W.call (by kernel_rfl) (by kernel_rfl) NQ (by kernel_rfl) rfl rfl (by simp) (h _ (by kernel_rfl))
theorem Qp:Try.f47.results.toList=[.tmp 2]:=by kernel_rfl
def ML:List Item:=skim 64 [.code Ts]
def JX:List Item:=skim 64 ML.tail
theorem VT:skim 64 ML.tail=JX:=by kernel_rfl
def Jg:List Item:=skim 64 JX.tail
theorem Vo:skim 64 JX.tail=Jg:=by kernel_rfl
def Gb:List Item:=skim 64 Jg.tail
theorem Wb:skim 64 Jg.tail=Gb:=by kernel_rfl
def F5:List Item:=skim 64 Gb.tail
theorem Uv:skim 64 Gb.tail=F5:=by kernel_rfl
def Lq:List Item:=skim 64 (brT F5)
theorem Gl_:skim 64 (brT F5)=Lq:=by kernel_rfl
def Hm:List Item:=skim 64 (brF F5)
theorem JF_:skim 64 (brF F5)=Hm:=by kernel_rfl
def Jb:List Item:=skim 64 Lq.tail
theorem Ee_:skim 64 Lq.tail=Jb:=by kernel_rfl
def JJ:List Item:=skim 64 Hm.tail
theorem Va:skim 64 Hm.tail=JJ:=by kernel_rfl
def Ik:List Item:=skim 64 Jb.tail
theorem PP_:skim 64 Jb.tail=Ik:=by kernel_rfl
def E0:List Item:=skim 64 JJ.tail
theorem TC:skim 64 JJ.tail=E0:=by kernel_rfl
def IS:List Item:=skim 64 Ik.tail
theorem GQ_:skim 64 Ik.tail=IS:=by kernel_rfl
def Fy:List Item:=skim 64 E0.tail
theorem Lg:skim 64 E0.tail=Fy:=by kernel_rfl
def OT:List Item:=skim 64 (brF IS)
theorem LW_:skim 64 (brF IS)=OT:=by kernel_rfl
def JH:List Item:=skim 64 (brT Fy)
theorem Vm:skim 64 (brT Fy)=JH:=by kernel_rfl
def Fr:List Item:=skim 64 (brF Fy)
theorem QH:skim 64 (brF Fy)=Fr:=by kernel_rfl
theorem Qv_:skim 64 OT.tail=Gb:=by kernel_rfl
def LH:List Item:=skim 64 JH.tail
theorem V1:skim 64 JH.tail=LH:=by kernel_rfl
def Nb:List Item:=skim 64 Fr.tail
theorem W6:skim 64 Fr.tail=Nb:=by kernel_rfl
def OH:List Item:=skim 64 LH.tail
theorem Tz:skim 64 LH.tail=OH:=by kernel_rfl
theorem S2:skim 64 OH.tail=E0:=by kernel_rfl
def Pg (E:Env)(call round:Ac)(tm:T Value):M (T Value):=
 mv (some (.slice none 0 0)) fun v2=>
 setF 2 v2 tm fun tm1=>
 M.pure tm1
theorem Us:RegEq 47 36 BI ML Pg:=⟨by kernel_rfl,fun _ _ _ _ _ _ _ _ _=>by kernel_rfl⟩
def MJ (E:Env)(call round:Ac)(tm:T Value):M (T Value):=
 mv (some (.int .i64 0)) fun v3=>
 setF 3 v3 tm fun tm1=>
 M.pure tm1
theorem UB:RegEq 47 36 BI JX MJ:=⟨by kernel_rfl,fun _ _ _ _ _ _ _ _ _=>by kernel_rfl⟩
def Md (E:Env)(call round:Ac)(tm:T Value):M (T Value):=
 mv (T.get tm 0) fun v9=>
 setF 9 v9 tm fun tm1=>
 M.bind (oS (seqO [(some v9)]) fun l=>A6 E .len [22] l) fun v10=>
 setF 10 v10 tm1 fun tm2=>
 mv (some (.int .i64 0)) fun v11=>
 setF 11 v11 tm2 fun tm3=>
 M.pure tm3
theorem Ry:RegEq 47 36 BI Jg Md:=⟨by kernel_rfl,fun _ _ _ _ _ _ _ _ _=>by kernel_rfl⟩
def OD (E:Env)(call round:Ac)(tm:T Value):M (T Value):=
 M.bind (oS (T.get tm 11) fun a=>oS (T.get tm 10) fun b=>Cl.get (aBin E .lss 3 (.tmp 11) (.tmp 10)) a b) fun v12=>
 setF 12 v12 tm fun tm1=>
 M.pure tm1
theorem V2:RegEq 47 36 BI Gb OD:=⟨by kernel_rfl,fun _ _ _ _ _ _ _ _ _=>by kernel_rfl⟩
theorem UL:Bc F5=some 12:=by kernel_rfl
def Sj (E:Env)(call round:Ac)(tm:T Value):M (T Value):=
 M.bind (oS (T.get tm 9) fun a=>oS (T.get tm 11) fun b=>BN E 22 a b) fun v13=>
 M.bind (oS (some v13) fun a=>A1 E 26 a) fun v14=>
 mv (some v14) fun v5=>
 setF 5 v5 tm fun tm1=>
 M.pure tm1
theorem EM_:RegEq 47 36 BI Lq Sj:=⟨by kernel_rfl,fun _ _ _ _ _ _ _ _ _=>by kernel_rfl⟩
def Qc (E:Env)(call round:Ac)(tm:T Value):M (T Value):=
 mv (T.get tm 3) fun v23=>
 M.bind (M.on (some (.func (.func 75) #[] #[])) fun f=>M.on (seqO [(some (.slice none 0 0)),(some v23)]) fun l=>A5 call round f l) fun v24=>
 mv (some v24) fun v6=>
 setF 6 v6 tm fun tm1=>
 M.pure tm1
theorem RP:RegEq 47 36 BI Hm Qc:=⟨by kernel_rfl,fun _ _ _ _ _ _ _ _ _=>by kernel_rfl⟩
def Qr (E:Env)(call round:Ac)(tm:T Value):M (T Value):=
 mv (T.get tm 3) fun v15=>
 mv (T.get tm 5) fun v16=>
 M.bind (oS (seqO [(some v16)]) fun l=>A6 E .len [26] l) fun v17=>
 M.bind (oS (some v15) fun a=>oS (some v17) fun b=>Cl.get (aBin E .add 3 (.tmp 15) (.tmp 17)) a b) fun v18=>
 mv (some v18) fun v3=>
 setF 3 v3 tm fun tm1=>
 M.pure tm1
theorem Ev_:RegEq 47 36 BI Jb Qr:=⟨by kernel_rfl,fun _ _ _ _ _ _ _ _ _=>by kernel_rfl⟩
def Nh (E:Env)(call round:Ac)(tm:T Value):M (T Value):=
 mv (T.get tm 0) fun v25=>
 setF 25 v25 tm fun tm1=>
 M.bind (oS (seqO [(some v25)]) fun l=>A6 E .len [22] l) fun v26=>
 setF 26 v26 tm1 fun tm2=>
 mv (some (.int .i64 0)) fun v27=>
 setF 27 v27 tm2 fun tm3=>
 M.pure tm3
theorem Yf:RegEq 47 36 BI JJ Nh:=⟨by kernel_rfl,fun _ _ _ _ _ _ _ _ _=>by kernel_rfl⟩
def SO (E:Env)(call round:Ac)(tm:T Value):M (T Value):=
 mv (T.get tm 3) fun v19=>
 M.bind (oS (some v19) fun a=>oS (some (.int .i64 0)) fun b=>Cl.get (aBin E .lss 3 (.tmp 19) (.const (.int .i64 0))) a b) fun v20=>
 setF 20 v20 tm fun tm1=>
 M.pure tm1
theorem EH_:RegEq 47 36 BI Ik SO:=⟨by kernel_rfl,fun _ _ _ _ _ _ _ _ _=>by kernel_rfl⟩
def Hc (E:Env)(call round:Ac)(tm:T Value):M (T Value):=
 M.bind (oS (T.get tm 27) fun a=>oS (T.get tm 26) fun b=>Cl.get (aBin E .lss 3 (.tmp 27) (.tmp 26)) a b) fun v28=>
 setF 28 v28 tm fun tm1=>
 M.pure tm1
theorem Ib:RegEq 47 36 BI E0 Hc:=⟨by kernel_rfl,fun _ _ _ _ _ _ _ _ _=>by kernel_rfl⟩
theorem CZ_:Bc IS=some 20:=by kernel_rfl
theorem Iy:Bc Fy=some 28:=by kernel_rfl
def W9 (E:Env)(call round:Ac)(tm:T Value):M (T Value):=
 M.bind (oS (T.get tm 11) fun a=>oS (some (.int .i64 1)) fun b=>Cl.get (aBin E .add 3 (.tmp 11) (.const (.int .i64 1))) a b) fun v22=>
 mv (some v22) fun v11=>
 setF 11 v11 tm fun tm1=>
 M.pure tm1
theorem Io_:RegEq 47 36 BI OT W9:=⟨by kernel_rfl,fun _ _ _ _ _ _ _ _ _=>by kernel_rfl⟩
def M3 (E:Env)(call round:Ac)(tm:T Value):M (T Value):=
 M.bind (oS (T.get tm 25) fun a=>oS (T.get tm 27) fun b=>BN E 22 a b) fun v29=>
 M.bind (oS (some v29) fun a=>A1 E 26 a) fun v30=>
 mv (some v30) fun v8=>
 setF 8 v8 tm fun tm1=>
 M.pure tm1
theorem Y3:RegEq 47 36 BI JH M3:=⟨by kernel_rfl,fun _ _ _ _ _ _ _ _ _=>by kernel_rfl⟩
def MI (E:Env)(call round:Ac)(tm:T Value):M (T Value):=
 mv (T.get tm 6) fun v35=>
 mv (some v35) fun v2=>
 setF 2 v2 tm fun tm1=>
 M.pure tm1
theorem S3:RegEq 47 36 BI Fr MI:=⟨by kernel_rfl,fun _ _ _ _ _ _ _ _ _=>by kernel_rfl⟩
def NY (E:Env)(call round:Ac)(tm:T Value):M (T Value):=
 mv (T.get tm 6) fun v31=>
 mv (T.get tm 8) fun v32=>
 M.bind (oS (seqO [(some v31),(some v32)]) fun l=>A6 E .append [26,26] l) fun v33=>
 mv (some v33) fun v6=>
 setF 6 v6 tm fun tm1=>
 M.pure tm1
theorem TD:RegEq 47 36 BI LH NY:=⟨by kernel_rfl,fun _ _ _ _ _ _ _ _ _=>by kernel_rfl⟩
theorem XU: ∃k,Nb= .code .ret::k:=⟨Nb.tail,by kernel_rfl⟩
def Qg (E:Env)(call round:Ac)(tm:T Value):M (T Value):=
 M.bind (oS (T.get tm 27) fun a=>oS (some (.int .i64 1)) fun b=>Cl.get (aBin E .add 3 (.tmp 27) (.const (.int .i64 1))) a b) fun v34=>
 mv (some v34) fun v27=>
 setF 27 v27 tm fun tm1=>
 M.pure tm1
theorem Vv:RegEq 47 36 BI OH Qg:=⟨by kernel_rfl,fun _ _ _ _ _ _ _ _ _=>by kernel_rfl⟩
def En:Nat:=Bh Try.f75
def UP:Code:=Try.f75.body.getD .skip
theorem Ou:envS.fn.get 75=some Try.f75:=by kernel_rfl
theorem Rn {a0 a1:Value}{n:Nat}{s:St}{Q:Value→St→Prop}(h: ∀tm,T.get tm 0=some a0→T.get tm 1=some a1→W (runF envS n ⟨75,27,En,tm,[.code UP], .run, .normal,none⟩) (s.cxN cxN) fun p s1=>Q p.1 (s1.cxN s.cx)):W (Av envS (runF envS n) 75 [a0,a1]) s Q:=
 W.call (by kernel_rfl) (by kernel_rfl) Ou (by kernel_rfl) rfl rfl (by simp) (h _ (by kernel_rfl) (by kernel_rfl))
theorem RH:Try.f75.results.toList=[.tmp 4]:=by kernel_rfl
def Oh:List Item:=skim 64 [.code UP]
def IW:List Item:=skim 64 Oh.tail
theorem YZ:skim 64 Oh.tail=IW:=by kernel_rfl
def Ic:List Item:=skim 64 IW.tail
theorem QC:skim 64 IW.tail=Ic:=by kernel_rfl
def IX:List Item:=skim 64 (brF Ic)
theorem VG:skim 64 (brF Ic)=IX:=by kernel_rfl
def KM:List Item:=skim 64 IX.tail
theorem Y0:skim 64 IX.tail=KM:=by kernel_rfl
def GC:List Item:=skim 64 KM.tail
theorem YJ:skim 64 KM.tail=GC:=by kernel_rfl
def N3:List Item:=skim 64 (brT GC)
theorem IX_:skim 64 (brT GC)=N3:=by kernel_rfl
def HJ:List Item:=skim 64 (brF GC)
theorem LE_:skim 64 (brF GC)=HJ:=by kernel_rfl
theorem Bz_:skim 64 N3.tail=HJ:=by kernel_rfl
def NG:List Item:=skim 64 HJ.tail
theorem QG:skim 64 HJ.tail=NG:=by kernel_rfl
def Ow (E:Env)(call round:Ac)(tm:T Value):M (T Value):=
 mv (some (.slice none 0 0)) fun v4=>
 setF 4 v4 tm fun tm1=>
 M.pure tm1
theorem QW:RegEq 75 27 En Oh Ow:=⟨by kernel_rfl,fun _ _ _ _ _ _ _ _ _=>by kernel_rfl⟩
def Mf (E:Env)(call round:Ac)(tm:T Value):M (T Value):=
 mv (T.get tm 1) fun v5=>
 M.bind (oS (some v5) fun a=>oS (some (.int .i64 0)) fun b=>Cl.get (aBin E .lss 3 (.tmp 5) (.const (.int .i64 0))) a b) fun v6=>
 setF 6 v6 tm fun tm1=>
 M.pure tm1
theorem VB:RegEq 75 27 En IW Mf:=⟨by kernel_rfl,fun _ _ _ _ _ _ _ _ _=>by kernel_rfl⟩
theorem SW:Bc Ic=some 6:=by kernel_rfl
def N4 (E:Env)(call round:Ac)(tm:T Value):M (T Value):=
 mv (T.get tm 1) fun v8=>
 mv (T.get tm 0) fun v9=>
 M.bind (oS (seqO [(some v9)]) fun l=>A6 E .cap [26] l) fun v10=>
 mv (T.get tm 0) fun v11=>
 M.bind (oS (seqO [(some v11)]) fun l=>A6 E .len [26] l) fun v12=>
 M.bind (oS (some v10) fun a=>oS (some v12) fun b=>Cl.get (aBin E .sub 3 (.tmp 10) (.tmp 12)) a b) fun v13=>
 M.bind (oS (some v8) fun a=>oS (some v13) fun b=>Cl.get (aBin E .sub 3 (.tmp 8) (.tmp 13)) a b) fun v14=>
 mv (some v14) fun v1=>
 setF 1 v1 tm fun tm1=>
 M.pure tm1
theorem T5:RegEq 75 27 En IX N4:=⟨by kernel_rfl,fun _ _ _ _ _ _ _ _ _=>by kernel_rfl⟩
def LX (E:Env)(call round:Ac)(tm:T Value):M (T Value):=
 mv (T.get tm 1) fun v15=>
 M.bind (oS (some v15) fun a=>oS (some (.int .i64 0)) fun b=>Cl.get (aBin E .gtr 3 (.tmp 15) (.const (.int .i64 0))) a b) fun v16=>
 setF 16 v16 tm fun tm1=>
 M.pure tm1
theorem R3:RegEq 75 27 En KM LX:=⟨by kernel_rfl,fun _ _ _ _ _ _ _ _ _=>by kernel_rfl⟩
theorem W4:Bc GC=some 16:=by kernel_rfl
def XE (E:Env)(call round:Ac)(tm:T Value):M (T Value):=
 mv (T.get tm 0) fun v17=>
 mv (T.get tm 0) fun v18=>
 M.bind (oS (seqO [(some v18)]) fun l=>A6 E .cap [26] l) fun v19=>
 M.bind (M.on (some v17) fun a=>M.on (some none) fun b=>M.on (onO (some v19) fun v=>some (some v)) fun c=>BR E 26 a b c) fun v20=>
 mv (T.get tm 1) fun v21=>
 M.bind (oS (seqO [(some v20),(some v21)]) fun l=>A6 E .append [26,3] l) fun v22=>
 mv (T.get tm 0) fun v23=>
 M.bind (oS (seqO [(some v23)]) fun l=>A6 E .len [26] l) fun v24=>
 M.bind (M.on (some v22) fun a=>M.on (some none) fun b=>M.on (onO (some v24) fun v=>some (some v)) fun c=>BR E 26 a b c) fun v25=>
 mv (some v25) fun v0=>
 setF 0 v0 tm fun tm1=>
 M.pure tm1
theorem Hm_:RegEq 75 27 En N3 XE:=⟨by kernel_rfl,fun _ _ _ _ _ _ _ _ _=>by kernel_rfl⟩
def Mw (E:Env)(call round:Ac)(tm:T Value):M (T Value):=
 mv (T.get tm 0) fun v26=>
 mv (some v26) fun v4=>
 setF 4 v4 tm fun tm1=>
 M.pure tm1
theorem WF:RegEq 75 27 En HJ Mw:=⟨by kernel_rfl,fun _ _ _ _ _ _ _ _ _=>by kernel_rfl⟩
theorem VE: ∃k,NG= .code .ret::k:=⟨NG.tail,by kernel_rfl⟩
def O2:Nat:=Bh Try.f69
def T4:Code:=Try.f69.body.getD .skip
theorem X0:envS.fn.get 69=some Try.f69:=by kernel_rfl
theorem Cv_ {a0 a1:Value}{n:Nat}{s:St}{Q:Value→St→Prop}(h: ∀tm,T.get tm 0=some a0→T.get tm 1=some a1→W (runF envS n ⟨69,10,O2,tm,[.code T4], .run, .normal,none⟩) (s.cxN cxN) fun p s1=>Q p.1 (s1.cxN s.cx)):W (Av envS (runF envS n) 69 [a0,a1]) s Q:=
 W.call (by kernel_rfl) (by kernel_rfl) X0 (by kernel_rfl) rfl rfl (by simp) (h _ (by kernel_rfl) (by kernel_rfl))
theorem Ia_:Try.f69.results.toList=[.tmp 4]:=by kernel_rfl
def O8:List Item:=skim 64 [.code T4]
def Kv:List Item:=skim 64 O8.tail
theorem RD_:skim 64 O8.tail=Kv:=by kernel_rfl
def Pj:List Item:=skim 64 Kv.tail
theorem Ge_:skim 64 Kv.tail=Pj:=by kernel_rfl
def Vc (E:Env)(call round:Ac)(tm:T Value):M (T Value):=
 mv (some (.int .i64 0)) fun v4=>
 setF 4 v4 tm fun tm1=>
 M.pure tm1
theorem Iz_:RegEq 69 10 O2 O8 Vc:=⟨by kernel_rfl,fun _ _ _ _ _ _ _ _ _=>by kernel_rfl⟩
def Ym (E:Env)(call round:Ac)(tm:T Value):M (T Value):=
 mv (T.get tm 0) fun v5=>
 M.bind (oS (some v5) fun a=>kNil a) fun v6=>
 M.bind (oS (some v6) fun a=>kFld E 73 a 2) fun v7=>
 mv (T.get tm 1) fun v8=>
 M.bind (M.on (some (.func (.func 83) #[] #[])) fun f=>M.on (seqO [(some v7),(some v8)]) fun l=>A5 call round f l) fun v9=>
 mv (some v9) fun v4=>
 setF 4 v4 tm fun tm1=>
 M.pure tm1
theorem OL_:RegEq 69 10 O2 Kv Ym:=⟨by kernel_rfl,fun _ _ _ _ _ _ _ _ _=>by kernel_rfl⟩
theorem Zo: ∃k,Pj= .code .ret::k:=⟨Pj.tail,by kernel_rfl⟩
def DU:Nat:=Bh Try.f15
abbrev PH_:Nat:=16
def T6:Code:=Try.f15.body.getD .skip
theorem Wy:envS.fn.get 15=some Try.f15:=by kernel_rfl
theorem Gt_ {a0 a1:Value}{n:Nat}{s:St}{Q:Value→St→Prop}(h: ∀tm,T.get tm 0=some a0→T.get tm 1=some a1→W (runF envS n ⟨15,16,DU,tm,[.code T6], .run, .normal,none⟩) (s.cxN cxN) fun p s1=>Q p.1 (s1.cxN s.cx)):W (Av envS (runF envS n) 15 [a0,a1]) s Q:=
 W.call (by kernel_rfl) (by kernel_rfl) Wy (by kernel_rfl) rfl rfl (by simp) (h _ (by kernel_rfl) (by kernel_rfl))
theorem Rc_:Try.f15.results.toList=[.tmp 4]:=by kernel_rfl
def Ni:List Item:=skim 64 [.code T6]
def Kw:List Item:=skim 64 Ni.tail
theorem Fp_:skim 64 Ni.tail=Kw:=by kernel_rfl
def Jv:List Item:=skim 64 Kw.tail
theorem BF_:skim 64 Kw.tail=Jv:=by kernel_rfl
def Jh:List Item:=skim 64 (brF Jv)
theorem Jx_:skim 64 (brF Jv)=Jh:=by kernel_rfl
def LK:List Item:=skim 64 Jh.tail
theorem Pz_:skim 64 Jh.tail=LK:=by kernel_rfl
def Fh:List Item:=skim 64 LK.tail
theorem Tg:skim 64 LK.tail=Fh:=by kernel_rfl
def PF:List Item:=skim 64 (brT Fh)
theorem Ka_:skim 64 (brT Fh)=PF:=by kernel_rfl
def F9:List Item:=skim 64 (brF Fh)
theorem Df_:skim 64 (brF Fh)=F9:=by kernel_rfl
theorem HZ_:skim 64 PF.tail=F9:=by kernel_rfl
def LY:List Item:=skim 64 F9.tail
theorem On_:skim 64 F9.tail=LY:=by kernel_rfl
def VY (E:Env)(call round:Ac)(tm:T Value):M (T Value):=
 mv (some (.int .i64 0)) fun v4=>
 setF 4 v4 tm fun tm1=>
 M.pure tm1
theorem Iq_:RegEq 15 16 DU Ni VY:=⟨by kernel_rfl,fun _ _ _ _ _ _ _ _ _=>by kernel_rfl⟩
def Uo (E:Env)(call round:Ac)(tm:T Value):M (T Value):=
 mv (T.get tm 1) fun v5=>
 M.bind (oS (some v5) fun a=>oS (some (.int .i64 1)) fun b=>Cl.get (aBin E .lss 3 (.tmp 5) (.const (.int .i64 1))) a b) fun v6=>
 setF 6 v6 tm fun tm1=>
 M.pure tm1
theorem MN_:RegEq 15 16 DU Kw Uo:=⟨by kernel_rfl,fun _ _ _ _ _ _ _ _ _=>by kernel_rfl⟩
theorem Rw_:Bc Jv=some 6:=by kernel_rfl
def QJ (E:Env)(call round:Ac)(tm:T Value):M (T Value):=
 mv (T.get tm 0) fun v7=>
 mv (T.get tm 1) fun v8=>
 M.bind (oS (some v7) fun a=>oS (some v8) fun b=>Cl.get (aBin E .rem 3 (.tmp 7) (.tmp 8)) a b) fun v9=>
 mv (some v9) fun v0=>
 setF 0 v0 tm fun tm1=>
 M.pure tm1
theorem LY_:RegEq 15 16 DU Jh QJ:=⟨by kernel_rfl,fun _ _ _ _ _ _ _ _ _=>by kernel_rfl⟩
def UZ (E:Env)(call round:Ac)(tm:T Value):M (T Value):=
 mv (T.get tm 0) fun v10=>
 M.bind (oS (some v10) fun a=>oS (some (.int .i64 0)) fun b=>Cl.get (aBin E .lss 3 (.tmp 10) (.const (.int .i64 0))) a b) fun v11=>
 setF 11 v11 tm fun tm1=>
 M.pure tm1
theorem RU_:RegEq 15 16 DU LK UZ:=⟨by kernel_rfl,fun _ _ _ _ _ _ _ _ _=>by kernel_rfl⟩
theorem SL:Bc Fh=some 11:=by kernel_rfl
def QK (E:Env)(call round:Ac)(tm:T Value):M (T Value):=
 mv (T.get tm 0) fun v12=>
 mv (T.get tm 1) fun v13=>
 M.bind (oS (some v12) fun a=>oS (some v13) fun b=>Cl.get (aBin E .add 3 (.tmp 12) (.tmp 13)) a b) fun v14=>
 mv (some v14) fun v0=>
 setF 0 v0 tm fun tm1=>
 M.pure tm1
theorem KZ_:RegEq 15 16 DU PF QK:=⟨by kernel_rfl,fun _ _ _ _ _ _ _ _ _=>by kernel_rfl⟩
def Tx (E:Env)(call round:Ac)(tm:T Value):M (T Value):=
 mv (T.get tm 0) fun v15=>
 mv (some v15) fun v4=>
 setF 4 v4 tm fun tm1=>
 M.pure tm1
theorem Ne_:RegEq 15 16 DU F9 Tx:=⟨by kernel_rfl,fun _ _ _ _ _ _ _ _ _=>by kernel_rfl⟩
theorem Nk_: ∃k,LY= .code .ret::k:=⟨LY.tail,by kernel_rfl⟩
def Qb:Nat:=Bh Try.f16
def VS:Code:=Try.f16.body.getD .skip
theorem Rc:envS.fn.get 16=some Try.f16:=by kernel_rfl
theorem ZC {a0:Value}{n:Nat}{s:St}{Q:Value→St→Prop}(h: ∀tm,T.get tm 0=some a0→W (runF envS n ⟨16,6,Qb,tm,[.code VS], .run, .normal,none⟩) (s.cxN cxN) fun p s1=>Q p.1 (s1.cxN s.cx)):W (Av envS (runF envS n) 16 [a0]) s Q:=
 W.call (by kernel_rfl) (by kernel_rfl) Rc (by kernel_rfl) rfl rfl (by simp) (h _ (by kernel_rfl))
theorem Ly_:Try.f16.results.toList=[.tmp 2]:=by kernel_rfl
def Ps:List Item:=skim 64 [.code VS]
def J4:List Item:=skim 64 Ps.tail
theorem Jc_:skim 64 Ps.tail=J4:=by kernel_rfl
def Nt:List Item:=skim 64 J4.tail
theorem Ze:skim 64 J4.tail=Nt:=by kernel_rfl
def Xd (E:Env)(call round:Ac)(tm:T Value):M (T Value):=
 mv (some (.slice none 0 0)) fun v2=>
 setF 2 v2 tm fun tm1=>
 M.pure tm1
theorem Za:RegEq 16 6 Qb Ps Xd:=⟨by kernel_rfl,fun _ _ _ _ _ _ _ _ _=>by kernel_rfl⟩
def Tc (E:Env)(call round:Ac)(tm:T Value):M (T Value):=
 M.bind (oS (seqP []) fun ps=>CE E 26 0 ps) fun v3=>
 mv (T.get tm 0) fun v4=>
 M.bind (oS (seqO [(some v3),(some v4)]) fun l=>A6 E .append [26,26] l) fun v5=>
 mv (some v5) fun v2=>
 setF 2 v2 tm fun tm1=>
 M.pure tm1
theorem Zm:RegEq 16 6 Qb J4 Tc:=⟨by kernel_rfl,fun _ _ _ _ _ _ _ _ _=>by kernel_rfl⟩
theorem Nr_: ∃k,Nt= .code .ret::k:=⟨Nt.tail,by kernel_rfl⟩
def Pe:Nat:=Bh Try.f50
def U5:Code:=Try.f50.body.getD .skip
theorem UF:envS.fn.get 50=some Try.f50:=by kernel_rfl
theorem AX_ {a0 a1:Value}{n:Nat}{s:St}{Q:Value→St→Prop}(h: ∀tm,T.get tm 0=some a0→T.get tm 1=some a1→W (runF envS n ⟨50,10,Pe,tm,[.code U5], .run, .normal,none⟩) (s.cxN cxN) fun p s1=>Q p.1 (s1.cxN s.cx)):W (Av envS (runF envS n) 50 [a0,a1]) s Q:=
 W.call (by kernel_rfl) (by kernel_rfl) UF (by kernel_rfl) rfl rfl (by simp) (h _ (by kernel_rfl) (by kernel_rfl))
theorem Rn_:Try.f50.results.toList=[.tmp 4]:=by kernel_rfl
def MD:List Item:=skim 64 [.code U5]
def Jf:List Item:=skim 64 MD.tail
theorem Aq_:skim 64 MD.tail=Jf:=by kernel_rfl
def LS:List Item:=skim 64 Jf.tail
theorem AP_:skim 64 Jf.tail=LS:=by kernel_rfl
def Xa (E:Env)(call round:Ac)(tm:T Value):M (T Value):=
 mv (some (.bool false)) fun v4=>
 setF 4 v4 tm fun tm1=>
 M.pure tm1
theorem Zn:RegEq 50 10 Pe MD Xa:=⟨by kernel_rfl,fun _ _ _ _ _ _ _ _ _=>by kernel_rfl⟩
def UI (E:Env)(call round:Ac)(tm:T Value):M (T Value):=
 mv (T.get tm 0) fun v5=>
 M.bind (oS (some v5) fun a=>Ck E 26 9 a) fun v6=>
 mv (T.get tm 1) fun v7=>
 M.bind (oS (some v7) fun a=>Ck E 26 9 a) fun v8=>
 M.bind (oS (some v6) fun a=>oS (some v8) fun b=>Cl.get (aBin E .eql 9 (.tmp 6) (.tmp 8)) a b) fun v9=>
 mv (some v9) fun v4=>
 setF 4 v4 tm fun tm1=>
 M.pure tm1
theorem CA_:RegEq 50 10 Pe Jf UI:=⟨by kernel_rfl,fun _ _ _ _ _ _ _ _ _=>by kernel_rfl⟩
theorem Or_: ∃k,LS= .code .ret::k:=⟨LS.tail,by kernel_rfl⟩
section
variable {s:St}{E:Env}{t t2:Nat}
theorem W.appV (hbd:s.lim≤s.next){sz by' n len b:Nat}{z l old:List Value}{v x:Value}{F:Nat→Prop}{Q:Value→St→Prop}{g:Bool}(ht:appT E t t2=some (sz,by',g,z))(hm:MkS s sz len old v b)(hx:SrcG s sz by' g z x n l F)(hs0:0<sz)(hs1:sz<1024)
  (hb:(len+n)*(by'+1)≤16777216) (hl:l.length=n*sz) (h1:l.all oneCell=true)
  (q: ∀s2 v2 b2,(b2=b∧n=0∨s.next≤b2)→MkS s2 sz (len+n) (old++l) v2 b2→Ext (fun x=>F x∨MkF sz len b x) (MkF sz len b) s s2→Q v2 s2):W (Cd E t t2 v x) s Q:=by
 by_cases hn:n=0
 ·rcases hm with⟨rfl,rfl,rfl⟩|⟨hm,h0⟩
  ·subst hn
   have hl0:l=[]:=List.eq_nil_of_length_eq_zero (by rw[hl,Nat.zero_mul])
   subst hl0
   obtain⟨i,i2,e,ie,g1,g2,g3,g4,g5,g6,g7,g8⟩:=HY ht
   obtain⟨hN,s1,e1,m1,n1,x1⟩:=hx ie g5 g6 g8
   subst g5;subst g6
   refine W.bind (W.ti g1 (W.bind (W.ti g2 ?_)))
   rw[g3,g7]
   refine W.bind (W.ti g4 (W.bind (W.of (hN s) (W.bind ?_))))
   refine W.of e1 ?_
   show W (M.if (Nat.ble (Nat.add 0 0) (0%capU)) (DW ie.size none 0 0 0 []) _) s1 Q
   rw[show Nat.ble (Nat.add 0 0) (0%capU)=true from Nat.ble_eq_true_of_le (Nat.zero_le _)]
   show W (M.pure (.slice none 0 0)) s1 Q
   exact W.pure (q s1 _ b (.inl ⟨rfl,rfl⟩) (.inl ⟨rfl,rfl,rfl⟩) (x1.weak hbd (fun _ _ h=> .inl h) fun _ _ h=>h.elim))
  ·refine W.appE hbd ht (.inr ⟨hm,h0⟩) hx hs0 hs1 hb hl h1 fun s2 v2 b2 hb2 e2 x2=>q s2 v2 b2 (hb2.elim (fun h=> .inl ⟨h,hn⟩) .inr) ?_ x2
   rcases e2 with⟨_,h,_⟩|⟨h,h'⟩
   ·omega
   ·exact .inr ⟨h,h'⟩
 ·exact W.appU hbd ht hm hx (by omega) hs0 hs1 hb hl h1 fun s2 v2 b2 hb2 mk x2=>q s2 v2 b2 (.inr hb2) mk x2
end
def Gp (n0:Nat)(m a:OpLog):Prop:=(∀x∈m.rd,n0≤x→ ¬(a.lo≤x∧x<a.hi))∧(∀x∈m.wr,n0≤x→ ¬(a.lo≤x∧x<a.hi))∧(∀x∈a.wr,x∉m.rd∧x∉m.wr)∧(∀x∈m.wr,x∉a.rd)
def Dv (n0 b:Nat)(m:OpLog):List OpLog→Nat→Prop
 |[],_=>True
 |a::l,i=>(b.testBit i=true∨Gp n0 m a)∧Dv n0 b m l (i+1)
def allP (n0:Nat)(all:List OpLog):List OpLog→List Nat→Nat→Prop
 |[],_,_=>True
 |m::l,b::bef,j=>Dv n0 b m (all.take j) 0∧allP n0 all l bef (j+1)
 |_::_,[],_=>False
theorem UO {x:Nat}: ∀{l:List Nat} {m:Nat},(BX l m).testBit x=true→x∈l∨m.testBit x=true
 |[],m,h=> .inr h
 |a::l,m,h=>by
  have e:BX (a::l) m=BX l (m|||2^a):=by
   show fN (Nat.lor m (Nat.shiftLeft (nat_lit 1) a)) (BX l)=_
   rw[A4]
   show BX l (m|||(1<<<a))=_
   rw[Nat.one_shiftLeft]
  rw[e]at h
  rcases UO h with h|h
  ·exact .inl (by simp[h])
  ·rw[Nat.testBit_or,Mo,Bool.or_eq_true]at h
   rcases h with h|h
   ·exact .inr h
   ·have:x=a:=by
     have:=of_decide_eq_true h
     omega
    exact .inl (by simp[this])
theorem V6 {a b:Nat}(h: ∀x,¬(a.testBit x=true∧b.testBit x=true)):Nat.beq (Nat.land a b) (nat_lit 0)=true:=by
 have e:a&&&b=0:=by
  refine Nat.eq_of_testBit_eq fun x=> ?_
  rw[Nat.testBit_and,Nat.zero_testBit]
  cases h1:a.testBit x with
  |false=>rfl
  |true=>
   cases h2:b.testBit x with
   |false=>rfl
   |true=>exact absurd ⟨h1,h2⟩ (h x)
 show Nat.beq (a&&&b) 0=true
 rw[e]
 rfl
theorem Gc {x:Nat}{l:List Nat}(h:(BX l 0).testBit x=true):x∈l:=by
 rcases UO h with h|h
 ·exact h
 ·rw[Nat.zero_testBit]at h;cases h
theorem Cj_ {a m:OpLog}(h1: ∀x∈a.wr,x∉m.rd∧x∉m.wr)(h2: ∀x∈m.wr,x∉a.rd):DJ (BH a) (BH m)=true:=by
 unfold DJ
 rw[Bool.and_eq_true,JQ,JQ]
 refine⟨V6 fun x ⟨p,q⟩=> ?_,V6 fun x ⟨p,q⟩=>h2 x (Gc p) (Gc q)⟩
 have q':(BX m.rd 0|||BX m.wr 0).testBit x=true:=q
 rw[Nat.testBit_or,Bool.or_eq_true]at q'
 rcases q' with q|q
 ·exact(h1 x (Gc p)).1 (Gc q)
 ·exact(h1 x (Gc p)).2 (Gc q)
theorem Vd {n0 b:Nat}{m:OpLog}(news:List Nat)(hn: ∀x∈news,n0≤x∧(x∈m.rd∨x∈m.wr)): ∀(acc:List OpLog) (i:Nat),Dv n0 b m acc i→DC b news acc i=true
 |[],_,_=>rfl
 |a::acc,i,h=>by
  show((b.testBit i|| !CX a.lo a.hi news)&&DC b news acc (Nat.succ i))=true
  rw[Bool.and_eq_true]
  refine⟨?_,Vd news hn acc (i+1) h.2⟩
  rcases h.1 with h|h
  ·rw[h];rfl
  ·rw[SB _ _ _ fun x hx=> ?_]
   ·simp
   ·obtain⟨h1,h2⟩:=hn x hx
    rcases h2 with h2|h2
    ·exact h.1 x h2 h1
    ·exact h.2.1 x h2 h1
theorem SK {n0 b:Nat}{m:OpLog}: ∀(acc:List OpLog) (i:Nat),Dv n0 b m acc i→Ey b (BH m) (acc.map BH) i=true
 |[],_,_=>rfl
 |a::acc,i,h=>by
  show((b.testBit i||DJ (BH a) (BH m))&&Ey b (BH m) (acc.map BH) (Nat.succ i))=true
  rw[Bool.and_eq_true]
  refine⟨?_,SK acc (i+1) h.2⟩
  rcases h.1 with h|h
  ·rw[h];rfl
  ·rw[Cj_ h.2.2.1 h.2.2.2];simp
theorem Xk {n0:Nat}{all:List OpLog}: ∀(l:List OpLog) (bef:List Nat) (j:Nat),allP n0 all l bef j→ES n0 all l bef j=true
 |[],_,_,_=>rfl
 |_::_,[],_,h=>h.elim
 |m::l,b::bef,j,h=>by
  show(E9 b (BA n0 m.rd (BA n0 m.wr [])) (all.take j)&&ES n0 all l bef (Nat.succ j))=true
  rw[Bool.and_eq_true]
  refine⟨?_,Xk l bef (j+1) h.2⟩
  have hn: ∀x∈BA n0 m.rd (BA n0 m.wr []),n0≤x∧(x∈m.rd∨x∈m.wr):=fun x hx=>by
   rcases P7 _ _ _ x hx with h|h
   ·exact⟨h.2, .inl h.1⟩
   ·rcases P7 _ _ _ x h with h|h
    ·exact⟨h.2, .inr h.1⟩
    ·cases h
  have hj:=Vd _ hn _ _ h.1
  unfold E9
  generalize BA n0 m.rd (BA n0 m.wr [])=z at hj
  cases z with
  |nil=>rfl
  |cons x z=>exact hj
theorem Xf {n0:Nat}{all:List OpLog}: ∀(l:List OpLog) (bef:List Nat) (j:Nat),allP n0 all l bef j→GS (all.map BH) (l.map BH) bef j=true
 |[],_,_,_=>rfl
 |_::_,[],_,h=>h.elim
 |m::l,b::bef,j,h=>by
  show(Ey b (BH m) ((all.map BH).take j) 0&&GS (all.map BH) (l.map BH) bef (Nat.succ j))=true
  rw[Bool.and_eq_true,←List.map_take]
  exact⟨SK _ _ h.1,Xf l bef (j+1) h.2⟩
theorem Hh {n0:Nat}{l:List OpLog}{bef:List Nat}(h:allP n0 l l bef 0):B8 n0 l bef=true:=by
 unfold B8
 rw[Xk l bef 0 h,Nm,Xf l bef 0 h]
 simp
section
variable {α β:Type}{s:St}
theorem W.dopG {m:M α}{f:α×OpLog→M β}{mem:T Cell}{next:Nat}{Q:β→St→Prop}
  (h:W m (oSt mem next) fun v s1=> ∃F G,Ext F G (oSt mem next) s1∧ ∀rd wr,(∀x∈rd,x<next∧F x)→(∀x∈wr,x<next∧G x)→W (f (v,⟨next,s1.next,rd,wr⟩)) (dSt s1.mem s1.next) Q):W (M.bind (apartO m) f) (dSt mem next) Q:=by
 obtain⟨a,s1,e,F,G,x,q⟩:=h
 obtain⟨mem1,next1,lim1,rd1,wr1,cx1⟩:=s1
 have hcx:cx1= .no:=x.cx
 obtain⟨d1,p1,p2⟩:=x.rd
 obtain⟨d2,p3,p4⟩:=x.wr
 have e1:rd1=d1:=by simpa [oSt]using p1
 have e2:wr1=d2:=by simpa [oSt]using p3
 subst hcx
 refine W.bind (W.of (a:=(a,⟨next,next1,rd1,wr1⟩)) (s':=dSt mem1 next1) ?_ (q rd1 wr1 (fun y hy=>p2 y (by rw[←e1];exact hy)) fun y hy=>p4 y (by rw[←e2];exact hy)))
 have e':m ⟨mem,next,next,[],[], .no⟩= .some a ⟨mem1,next1,lim1,rd1,wr1, .no⟩:=e
 show Am.apartO m ⟨mem,next,0,[],[], .no⟩=_
 unfold Am.apartO
 simp only[e']
 rfl
theorem Qi_ (lim:Nat)(l:List OpLog)(base:List Nat): ∃d,wrsL lim l base=d++base∧ ∀x∈d,x<lim∧ ∃m∈l,x∈m.wr:=by
 induction l with
 |nil=>exact⟨[],rfl,fun _ h=>by cases h⟩
 |cons m l ih=>
  obtain⟨d,e,q⟩:=ih
  obtain⟨d2,e2,q2⟩:=YQ lim m.wr (wrsL lim l base)
  refine⟨d2++d, ?_,fun x hx=> ?_⟩
  ·show addL lim m.wr (wrsL lim l base)=_
   rw[e2,e,List.append_assoc]
  ·rcases List.mem_append.1 hx with hx|hx
   ·exact⟨(q2 x hx).1,m,by simp,(q2 x hx).2⟩
   ·obtain⟨h1,m',h2,h3⟩:=q x hx
    exact⟨h1,m',by simp[h2],h3⟩
theorem Ext.drawG {F G:Nat→Prop}{mem':T Cell}{next':Nat}{l:List OpLog}(h1:s.next≤next')(h2: ∀x,x<s.next→ ¬G x→T.get mem' x=T.get s.mem x)(hw: ∀m∈l,∀x∈m.wr,x<s.lim→G x)(hr: ∀m∈l,∀x∈m.rd,x<s.lim→F x):
  Ext F G s ⟨mem',next',s.lim,rdsL s.lim l s.rd,wrsL s.lim l s.wr,s.cx⟩:=by
 obtain⟨d,e,q⟩:=TK s.lim l s.rd
 obtain⟨d2,e2,q2⟩:=Qi_ s.lim l s.wr
 exact⟨h1,rfl,rfl,fun x hx hg=>h2 x hx hg,⟨d,e,fun x hx=>by obtain⟨a,m,b,c⟩:=q x hx;exact⟨a,hr m b x c a⟩⟩,⟨d2,e2,fun x hx=>by obtain⟨a,m,b,c⟩:=q2 x hx;exact⟨a,hw m b x c a⟩⟩⟩
end
theorem Ext.on {G F' G':Nat→Prop}{s s1 s2:St}(h:Ext Any G s s1)(k:Ext F' G' s1 s2)(hb:s.lim≤s.next)(hG: ∀x,x<s.next→G' x→G x):Ext Any G s s2:=h.trans k hb (fun _ _ _=>trivial) hG
theorem Ext.gw {G G':Nat→Prop}{s s1:St}(h:Ext Any G s s1)(hb:s.lim≤s.next)(hG: ∀x,x<s.next→G x→G' x):Ext Any G' s s1:=h.weak hb (fun _ _ h=>h) hG
theorem In1 {b x:Nat}:In b 0 1 x↔x=b:=⟨fun h=>by have:=h.1;have:=h.2;omega,fun h=>⟨by omega,by omega⟩⟩
theorem OC_:fldN envS 75 0=some (0,1,false):=by kernel_rfl
theorem Dk:fldN envS 75 1=some (1,1,false):=by kernel_rfl
theorem Rk:fldN envS 75 2=some (2,1,false):=by kernel_rfl
theorem Sc_:fldN envS 75 3=some (3,1,true):=by kernel_rfl
theorem HN:fldN envS 75 4=some (4,1,false):=by kernel_rfl
theorem Ki:fldN envS 75 5=some (5,1,false):=by kernel_rfl
theorem LB:fldN envS 75 6=some (6,1,false):=by kernel_rfl
theorem Hq_:fldN envS 73 2=some (0,1,false):=by kernel_rfl
theorem G1:fldN envS 79 0=some (0,1,false):=by kernel_rfl
theorem Dy:fldN envS 79 1=some (1,1,false):=by kernel_rfl
theorem Ca:tyS envS 4=some (1,false):=by kernel_rfl
theorem Ev:tyS envS 3=some (1,false):=by kernel_rfl
theorem Du:tyS envS 68=some (1,false):=by kernel_rfl
theorem E7:tyS envS 9=some (1,false):=by kernel_rfl
theorem Cq:tyS envS 67=some (1,false):=by kernel_rfl
theorem EB:tyS envS 24=some (1,false):=by kernel_rfl
theorem TU:NI envS 67=some [.pointer none]:=by kernel_rfl
theorem Na:ptrT envS 24=true:=by kernel_rfl
theorem HV:ptrT envS 67=true:=by kernel_rfl
theorem AK_:mapU envS 68=true:=by kernel_rfl
theorem OP (s:St):mapT envS 68 s= .some (9,67) s:=by kernel_rfl
theorem Ew_ (s:St):zeroOf envS 67 s= .some (.pointer none) s:=by kernel_rfl
theorem Nk:envS.P.underlying 9=some .string:=by kernel_rfl
theorem RL_ (k:Nat)(s:St):Cl.get (aBin envS .eql 67 (.tmp k) (.const (.pointer none))) (.pointer none) (.pointer none) s= .some (.bool true) s:=by kernel_rfl
theorem J7 (k:Nat)(s:St)(Q:Value→St→Prop):W (Cl.get (aBin envS .eql 67 (.tmp k) (.const (.pointer none))) (.pointer none) (.pointer none)) s Q=Q (.bool true) s:=Br (RL_ k s)
theorem WD {s:St}{call round:Ac}{f:Nat}{cap:Array Value}{l:List Value}(Q:Value→St→Prop):W (A5 call round (.func (.func f) #[] cap) l) s Q=W (call f (l++cap.toList)) s Q:=by
 show W (call f ([]++(l++cap.toList))) s Q=_
 rw[List.nil_append]
theorem W.extF {E:Env}{s:St}{ih:AF→M (Value×FrameMode)}{f:Nat}{m:List Value→M Value}{args:List Value}{Q:Value→St→Prop}(h0:E.orc.get f=none)(ho:E.ext.get f=some m)(h:W (m args) s Q):W (Av E ih f args) s Q:=by
 unfold Av
 rw[h0,ho]
 exact h
section
variable {D n:Nat}{s:St}{Q:Value→St→Prop}
theorem EW (hb:s.lim≤s.next)(h0:Own s D 0 (.bool true))(hn:20≤n)(q: ∀s1,s1.mem=s.mem→s1.next=s.next→Ext Any Non s s1→Q (.bool false) s1):W (Av envS (runF envS n) 40 [.pointer (some ⟨D,0,none⟩)]) s Q:=by
 refine Sh_ fun tm h=> ?_
 refine Y4.w rfl (by omega) ?_
 simp only[X8,Aa,W_mv,Ab]
 refine ZW.w BS_ (by omega) ?_
 simp only[Yq,Ad,W_oS,W_on,Aa,W_mv,Ab,T.get_set,reduceIte,Aq,AB,Ao,Ar,Ap,An,reduceCtorEq, ↓reduceIte,h,EZ Na,Bb OC_ (by decide)]
 refine W.load1 Ca (h0.same (s':=s.cxN cxN) rfl rfl).at' ?_
 simp only[CI,Bool.not_true]
 refine W.end' (rs:=[2]) (vs:=[.bool false]) EP_ (.inl NH_) (by omega) R8 CH_ rfl (by simp[T.get_set]) ?_
 exact q _ rfl rfl ((Ext.refl (F:=Any) (G:=Non) (s.cxN cxN)).thenRd hb _).cx'
theorem PW {o:Bool}(hb:s.lim≤s.next)(h0:Own s D 0 (.bool true))(h6:Own s D 6 (.bool o))(hn:60≤n)(q: ∀s1,s1.mem=s.mem→s1.next=s.next→Ext Any Non s s1→Q (.int .i64 (if o then 10 else 0)) s1):W (Av envS (runF envS n) 36 [.pointer (some ⟨D,0,none⟩)]) s Q:=by
 have hb0:(s.cxN cxN).lim≤(s.cxN cxN).next:=hb
 refine Gk_ fun tm h=> ?_
 refine OP_.w rfl (by omega) ?_
 simp only[Wg,Aa,W_mv,Ab]
 refine Gg_.w Dn_ (by omega) ?_
 simp only[VH,Ad,W_on,Aa,W_mv,Ab,T.get_set,Ah,Af,Ag,Al,reduceIte,reduceCtorEq, ↓reduceIte,h]
 refine EW hb0 (h0.same rfl rfl) (by omega) fun s1 m1 n1 x1=> ?_
 try simp only[Ad,W_oS,W_on,Aa,W_mv,Ab,AJ,T.get_set,Ah,Af,AH,AG,Ag,Al,reduceIte,Aq,Ay,AM,AD,AB,Ao,Ar,AC,Ap,An,Nat.reduceEqDiff,reduceCtorEq, ↓reduceIte]
 refine W.cond (v:=false) ZD FZ_ (by simp[T.get_set]) (by omega) (fun h=>by cases h) fun _=> ?_
 refine Ln_.w KU_ (by omega) ?_
 simp only[Q4,Ad,W_oS,Aa,W_mv,Ab,T.get_set,reduceIte,An,reduceCtorEq, ↓reduceIte,h,Bb LB (by decide)]
 have y1:=x1.thenRd hb0 (D+(0+6))
 refine W.load1 Ca ((h6.same (s':=s.cxN cxN) rfl rfl).same m1 n1).at' ?_
 try simp only[Ad,W_oS,W_on,Aa,W_mv,Ab,AJ,T.get_set,Ah,Af,AH,AG,Ag,Al,reduceIte,Aq,Ay,AM,AD,AB,Ao,Ar,AC,Ap,An,Nat.reduceEqDiff,reduceCtorEq, ↓reduceIte]
 cases o with
 |true=>
  refine W.cond (v:=true) YH WR (by simp[T.get_set]) (by omega) (fun _=> ?_) fun h=>by cases h
  refine Id_.w PG_ (by omega) ?_
  simp only[RR,Aa,W_mv,Ab]
  refine W.end' (rs:=[2]) (vs:=[.int .i64 10]) Ap_ (.inl Hl_) (by omega) MS Ti y1.cx (by simp[T.get_set]) ?_
  exact q _ m1 n1 y1.cx'
 |false=>
  refine W.cond (v:=false) YH WR (by simp[T.get_set]) (by omega) (fun h=>by cases h) fun _=> ?_
  refine BP_.w FK_ (by omega) ?_
  simp only[Wj,Aa,W_mv,Ab]
  refine W.end' (rs:=[2]) (vs:=[.int .i64 0]) Ey_ (.inl HJ_) (by omega) MS Ti y1.cx (by simp[T.get_set]) ?_
  exact q _ m1 n1 y1.cx'
theorem Gy_ {o:Nat}{x:Int}(hb:s.lim≤s.next)(h3:Own s D o (.int .i64 x))(hn:20≤n)(q: ∀w s1,s1.next=s.next→Ext Any (fun y=>y=D+o) s s1→Own s1 D o (.int .i64 (wrap64 (x+1)))→Q w s1):W (Av envS (runF envS n) 69 [.pointer (some ⟨D,o,none⟩), .int .i64 1]) s Q:=by
 have hb0:(s.cxN cxN).lim≤(s.cxN cxN).next:=hb
 refine Cv_ fun tm h h1=> ?_
 refine Iz_.w rfl (by omega) ?_
 simp only[Vc,Aa,W_mv,Ab]
 refine OL_.w RD_ (by omega) ?_
 simp only[Ym,Ad,W_oS,W_on,Aa,W_mv,Ab,T.get_set,Ah,Af,Ag,Al,reduceIte,An,Nat.reduceEqDiff,reduceCtorEq, ↓reduceIte,h,h1,Bb Hq_ (by decide)]
 refine W.extF (by kernel_rfl) (m:=Hs) (by kernel_rfl) ?_
 show W (M.bind (Am.rdV ⟨D,o,none⟩) fun v=>match v with
  | .int .i64 x=>fI (wrap64 (addI x 1)) fun n=>M.bind (Am.wrV ⟨D,o,none⟩ (.int .i64 n)) fun _=>M.pure (Value.int .i64 n)
  |_=>M.fail) (s.cxN cxN) _
 have h3':Own (s.cxN cxN) D o (.int .i64 x):=h3.same rfl rfl
 refine W.bind (W.rdV h3'.at' ?_)
 show W (fI (wrap64 (addI x 1)) _) _ _
 rw[B5,Kc]
 refine W.bind (W.wrV (h3'.same (s':=(s.cxN cxN).rdN (D+o)) rfl rfl) rfl (W.pure ?_))
 have z0:=(Ext.refl (F:=Any) (G:=fun y=>y=D+o) (s.cxN cxN)).on (Ext.rdN (F:=Any) (G:=fun y=>y=D+o) (s.cxN cxN) (D+o) fun _=>trivial) hb0 fun _ _ h=>h
 have z1:=z0.on (Ext.rdN (F:=Any) (G:=fun y=>y=D+o) _ (D+o) fun _=>trivial) hb0 fun _ _ h=>h
 have z2:=z1.on (Ext.wrN (F:=Any) (G:=fun y=>y=D+o) _ (D+o) (.C D (.int .i64 (wrap64 (x+1)))) rfl) hb0 fun _ _ h=>h
 have hw:Own ((((s.cxN cxN).rdN (D+o)).rdN (D+o)).wrN (D+o) (.C D (.int .i64 (wrap64 (x+1))))) D o (.int .i64 (wrap64 (x+1))):=⟨h3.1,by
  show T.get (T.set s.mem (D+o) _) (D+o)=_
  rw[T.get_set,if_pos rfl]⟩
 have nz:((((s.cxN cxN).rdN (D+o)).rdN (D+o)).wrN (D+o) (.C D (.int .i64 (wrap64 (x+1))))).next=s.next:=rfl
 generalize (((s.cxN cxN).rdN (D+o)).rdN (D+o)).wrN (D+o) (.C D (.int .i64 (wrap64 (x+1))))=s2 at *
 try simp only[Ad,W_oS,W_on,Aa,W_mv,Ab,AJ,T.get_set,Ah,Af,AH,AG,Ag,Al,reduceIte,Aq,Ay,AM,AD,AB,Ao,Ar,AC,Ap,An,Nat.reduceEqDiff,reduceCtorEq, ↓reduceIte]
 refine W.end' (rs:=[4]) (vs:=[.int .i64 (wrap64 (x+1))]) Ge_ (.inl Zo) (by omega) X0 Ia_ z2.cx (by simp[T.get_set]) ?_
 exact q _ _ nz z2.cx' (hw.same rfl rfl)
theorem S9 {f2:Nat}{cap:Array Value}{fused out:Bool}{left steps:Int}(hb:s.lim≤s.next)(h3:Own s D 3 (.int .i64 steps))(h4:Own s D 4 (.bool fused))(h5:Own s D 5 (.int .i64 left))(h6:Own s D 6 (.bool out))(hn:60≤n)
  (q1:(fused=true∧left=0)→ ∀s1,s1.next=s.next→Ext Any (fun y=>y=D+6) s s1→Own s1 D 6 (.bool true)→Q (.int .i64 10) s1)
  (q2: ¬(fused=true∧left=0)→ ∀n' s1,n≤n'+20→s1.cx=cxN→s1.next=s.next→Ext Any (fun y=>y=D+3∨y=D+5) s (s1.cxN s.cx)→Own s1 D 3 (.int .i64 (wrap64 (steps+1)))→Own s1 D 5 (.int .i64 (if fused then wrap64 (left-1)else left))→W (Av envS (runF envS n') f2 cap.toList) s1 fun _ s2=>s2.cx=cxN∧Q (.int .i64 0) (s2.cxN s.cx)):
  W (Av envS (runF envS n) 38 [.pointer (some ⟨D,0,none⟩), .func (.func f2) #[] cap]) s Q:=by
 have hb0:(s.cxN cxN).lim≤(s.cxN cxN).next:=hb
 refine Hs_ fun tm h h1=> ?_
 refine Nz_.w rfl (by omega) ?_
 simp only[SA,Aa,W_mv,Ab]
 refine No_.w NI_ (by omega) ?_
 simp only[S1,Ad,W_oS,W_on,Aa,W_mv,Ab,T.get_set,reduceIte,An,reduceCtorEq, ↓reduceIte,h,Bb HN (by decide)]
 refine W.load1 Ca (h4.same (s':=s.cxN cxN) rfl rfl).at' ?_
 have y1:=(Ext.refl (F:=Any) (G:=Non) (s.cxN cxN)).thenRd hb0 (D+(0+4))
 have work: ∀(n':Nat) (tm':T Value) (td':List Item) (s':St),n≤n'+10→skim 64 td'=FP→s'.next=s.next→Ext Any (fun y=>y=D+5) (s.cxN cxN) s'→Own s' D 5 (.int .i64 (if fused then wrap64 (left-1)else left))→T.get tm' 0=some (.pointer (some ⟨D,0,none⟩))→T.get tm' 1=some (.func (.func f2) #[] cap)→ ¬(fused=true∧left=0)→W (runF envS n' ⟨38,IP_,CZ,tm',td', .run, .normal,none⟩) s' fun p s1=>Q p.1 (s1.cxN s.cx):=by
  intro n' tm' td' s' hn' hT' hnx x' h5' g0 g1 hc
  have h3':Own s' D 3 (.int .i64 steps):=(h3.same (s':=s.cxN cxN) rfl rfl).ext x' fun hq=>by omega
  refine JY_.w hT' (by omega) ?_
  simp only[Xs,Ad,W_oS,W_on,Aa,W_mv,Ah,Af,Ag,Al,An,g0,Bb Sc_ (by decide)]
  refine Gy_ (x'.bnd hb0) h3' (by omega) fun w s2 n2 x2 o2=> ?_
  have z2:Ext Any (fun y=>y=D+3∨y=D+5) (s.cxN cxN) s2:=(x'.gw hb0 fun _ _ h=> .inr h).on x2 hb0 fun y _ hq=> .inl (by omega)
  try simp only[Ad,W_oS,W_on,Aa,W_mv,Ab,AJ,T.get_set,Ah,Af,AH,AG,Ag,Al,reduceIte,Aq,Ay,AM,AD,AB,Ao,Ar,AC,Ap,An,Nat.reduceEqDiff,reduceCtorEq, ↓reduceIte]
  refine Ek_.w Z3 (by omega) ?_
  simp only[RW,Ad,W_on,Aa,W_mv,Af,g1]
  rw[WD]
  refine W.mono (q2 hc (n'-1-1) s2 (by omega) z2.cx (by omega) z2.cx' o2 (h5'.ext x2 fun hq=>by omega)) fun w2 s3 hq=> ?_
  obtain⟨hcx,hq⟩:=hq
  try simp only[Ad,W_oS,W_on,Aa,W_mv,Ab,AJ,T.get_set,Ah,Af,AH,AG,Ag,Al,reduceIte,Aq,Ay,AM,AD,AB,Ao,Ar,AC,Ap,An,Nat.reduceEqDiff,reduceCtorEq, ↓reduceIte]
  refine PN_.w Zg (by omega) ?_
  simp only[QP,Aa,W_mv,Ab]
  exact W.end' (rs:=[4]) (vs:=[.int .i64 0]) Mk_ (.inl LN_) (by omega) M7 Ya hcx (by simp[T.get_set]) hq
 cases fused with
 |false=>
  simp only[Aa,reduceIte,Aq,AD,Ao,AC,Ap, ↓reduceIte,Bool.false_eq_true]
  refine W.cond (v:=false) Om PT (by simp[T.get_set]) (by omega) (fun h=>by cases h) fun _=> ?_
  refine UQ.w Rr (by omega) ?_
  simp only[NN,Ad,W_oS,Aa,W_mv,Ab,T.get_set,reduceIte,An,reduceCtorEq, ↓reduceIte,h,Bb HN (by decide)]
  refine W.load1 Ca (h4.same (s':=(s.cxN cxN).rdN (D+(0+4))) rfl rfl).at' ?_
  have y2:=y1.thenRd hb0 (D+(0+4))
  try simp only[Ad,W_oS,W_on,Aa,W_mv,Ab,AJ,T.get_set,Ah,Af,AH,AG,Ag,Al,reduceIte,Aq,Ay,AM,AD,AB,Ao,Ar,AC,Ap,An,Nat.reduceEqDiff,reduceCtorEq, ↓reduceIte]
  refine W.cond (v:=false) RD W8 (by simp[T.get_set]) (by omega) (fun h=>by cases h) fun _=> ?_
  exact work _ _ _ _ (by omega) Ic_ rfl (y2.gw hb0 fun _ _ h=>h.elim) (h5.same rfl rfl) (by simp[T.get_set,h]) (by simp[T.get_set,h1]) (by simp)
 |true=>
  simp only[W_oS,Aa,reduceIte,Aq,Ay,Ao,Ar,Ap,An, ↓reduceIte,Bb Ki (by decide)]
  refine W.load1 Ev (h5.same (s':=(s.cxN cxN).rdN (D+(0+4))) rfl rfl).at' ?_
  have y2:=y1.thenRd hb0 (D+(0+5))
  simp only[Cj]
  by_cases hl:left=0
  ·refine W.cond (v:=true) Om PT (by simp[T.get_set,hl]) (by omega) (fun _=> ?_) fun h=>by cases h
   refine EB_.w Ja_ (by omega) ?_
   simp only[Ye,Ad,W_oS,Aa,W_mv,T.get_set,reduceIte,An,reduceCtorEq, ↓reduceIte,h,Bb LB (by decide)]
   refine W.store1 Ca rfl (h6.same (s':=((s.cxN cxN).rdN (D+(0+4))).rdN (D+(0+5))) rfl rfl) fun s3 n3 x3 o3=> ?_
   have y3:Ext Any (fun y=>y=D+6) (s.cxN cxN) s3:=(y2.gw hb0 fun _ _ h=>h.elim).on x3 hb0 fun y _ hq=>by have:=In1.1 (show In (D+6) 0 1 y from⟨by have:=hq.1;omega,by have:=hq.2;omega⟩);omega
   try simp only[Ad,W_oS,W_on,Aa,W_mv,Ab,AJ,T.get_set,Ah,Af,AH,AG,Ag,Al,reduceIte,Aq,Ay,AM,AD,AB,Ao,Ar,AC,Ap,An,Nat.reduceEqDiff,reduceCtorEq, ↓reduceIte]
   refine NO_.w Qp_ (by omega) ?_
   simp only[Q6,Aa,W_mv,Ab]
   refine W.end' (rs:=[4]) (vs:=[.int .i64 10]) Fk_ (.inl CC_) (by omega) M7 Ya y3.cx (by simp[T.get_set]) ?_
   exact q1 ⟨rfl,hl⟩ _ n3 y3.cx' (o3.same rfl rfl)
  ·refine W.cond (v:=false) Om PT (by simp[T.get_set,hl]) (by omega) (fun h=>by cases h) fun _=> ?_
   refine UQ.w Rr (by omega) ?_
   simp only[NN,Ad,W_oS,Aa,W_mv,Ab,T.get_set,reduceIte,An,reduceCtorEq, ↓reduceIte,h,Bb HN (by decide)]
   refine W.load1 Ca (h4.same rfl rfl).at' ?_
   have y3:=y2.thenRd hb0 (D+(0+4))
   try simp only[Ad,W_oS,W_on,Aa,W_mv,Ab,AJ,T.get_set,Ah,Af,AH,AG,Ag,Al,reduceIte,Aq,Ay,AM,AD,AB,Ao,Ar,AC,Ap,An,Nat.reduceEqDiff,reduceCtorEq, ↓reduceIte]
   refine W.cond (v:=true) RD W8 (by simp[T.get_set]) (by omega) (fun _=> ?_) fun h=>by cases h
   refine ZI.w BR_ (by omega) ?_
   simp only[Xc,Ad,W_oS,Aa,W_mv,T.get_set,reduceIte,An,reduceCtorEq, ↓reduceIte,h,Bb Ki (by decide)]
   refine W.load1 Ev (h5.same rfl rfl).at' ?_
   have y4:=y3.thenRd hb0 (D+(0+5))
   simp only[E2]
   refine W.store1 Ev rfl (h5.same rfl rfl) fun s5 n5 x5 o5=> ?_
   have y5:Ext Any (fun y=>y=D+5) (s.cxN cxN) s5:=(y4.gw hb0 fun _ _ h=>h.elim).on x5 hb0 fun y _ hq=>by have h1:=hq.1;have h2:=hq.2;omega
   try simp only[Ad,W_oS,W_on,Aa,W_mv,Ab,AJ,T.get_set,Ah,Af,AH,AG,Ag,Al,reduceIte,Aq,Ay,AM,AD,AB,Ao,Ar,AC,Ap,An,Nat.reduceEqDiff,reduceCtorEq, ↓reduceIte]
   exact work _ _ _ _ (by omega) Se_ n5 y5 o5 (by simp[T.get_set,h]) (by simp[T.get_set,h1]) (by simp[hl])
end
section
variable {E:Env}{s:St}{t:Nat}
theorem Ma_ {a b:Bool}{xo yo:Operand}(h:E.P.underlying t=some .bool):Cl.get (aBin E .eql t xo yo) (.bool a) (.bool b) s= .some (.bool (a==b)) s:=by
 show Bj E .eql t xo yo (.bool a) (.bool b) s=_
 unfold Bj
 show M.on (semP E.P (do pure (.bool (←Op.equalIn (9999+1) t (.bool a) (.bool b))))) pV s=_
 have e:semP E.P (Op.equalIn (9999+1) t (.bool a) (.bool b))=some (a==b):=by
  unfold Op.equalIn
  rw[CN,Kd h]
  rfl
 rw[CN,e]
 rfl
theorem O1 {a b:Bool}{xo yo:Operand}(h:E.P.underlying t=some .bool)(Q:Value→St→Prop):W (Cl.get (aBin E .eql t xo yo) (.bool a) (.bool b)) s Q=Q (.bool (a==b)) s:=Br (Ma_ h)
theorem Rt_ {a b:Bool}{xo yo:Operand}(h:E.P.underlying t=some .bool):Cl.get (aBin E .neq t xo yo) (.bool a) (.bool b) s= .some (.bool (!(a==b))) s:=by
 show Bj E .neq t xo yo (.bool a) (.bool b) s=_
 unfold Bj
 show M.on (semP E.P (do pure (.bool (!(←Op.equalIn (9999+1) t (.bool a) (.bool b)))))) pV s=_
 have e:semP E.P (Op.equalIn (9999+1) t (.bool a) (.bool b))=some (a==b):=by
  unfold Op.equalIn
  rw[CN,Kd h]
  rfl
 rw[CN,e]
 rfl
theorem WM {a b:Bool}{xo yo:Operand}(h:E.P.underlying t=some .bool)(Q:Value→St→Prop):W (Cl.get (aBin E .neq t xo yo) (.bool a) (.bool b)) s Q=Q (.bool (!(a==b))) s:=Br (Rt_ h)
end
theorem OX (v:Value):tupV [v]=v:=rfl
theorem HL:envS.P.underlying 4=some .bool:=by kernel_rfl
theorem Ji:Gl envS 9=true:=by kernel_rfl
structure NmOk (a:ByteArray):Prop where
 size:a.size=1
 ne:(a.data.toList==([]:List UInt8))=false
 ok: ∃c:Nat,Utf8.decode a 0=(c,1)∧ ∀(m:Nat) (mem:T Cell) (next lim:Nat) (rd wr:List Nat) (cx:Ctx),Av envS (runF envS (m+30)) 68 [.int .i32 (c:Nat)] ⟨mem,next,lim,rd,wr,cx⟩= .some (.bool false) ⟨mem,next,lim,rd,wr,cx⟩
theorem nm_f:NmOk ⟨#[102]⟩:=⟨rfl,rfl,102,by kernel_rfl,fun _ _ _ _ _ _ _=>by kernel_rfl⟩
section
variable {n:Nat}{s:St}{a:ByteArray}{Q:Value→St→Prop}
theorem W.tyStr {Q:Value→St→Prop}(q: ∀s1,s1.next=s.next+1→Ext Non Non s s1→Obj s1 s.next (.sit a 0)→Q (.chan (some s.next)) s1):W (C4 envS 9 (.string a)) s Q:=by
 obtain⟨i,hi,hu⟩:=WZ Ji
 unfold C4
 refine W.bind (W.ti hi ?_)
 rw[hu]
 exact W.bind (W.newO fun s1 n1 x1 o1=>W.pure (q s1 n1 x1 o1))
theorem Y6 (hb:s.lim≤s.next)(ha:NmOk a)(hn:60≤n)(q: ∀s1,Ext Any Non s s1→Q (.int .i64 (-1)) s1):W (Av envS (runF envS n) 89 [.string a, .func (.func 68) #[] #[], .bool true]) s Q:=by
 obtain⟨c,hc,hF⟩:=ha.ok
 have hb0:(s.cxN cxN).lim≤(s.cxN cxN).next:=hb
 refine MV_ fun tm h h1 h2=> ?_
 refine Ri_.w rfl (by omega) ?_
 simp only[RK,Aa,W_mv,Ab]
 refine Z0.w AF_ (by omega) ?_
 simp only[Xm,Ad,W_oS,Aa,W_mv,Ab,T.get_set,reduceIte,reduceCtorEq, ↓reduceIte,h]
 refine W.tyStr fun s1 n1 x1 o1=> ?_
 have ea:(s.cxN cxN).next=s.next:=rfl
 rw[ea]at o1 n1 ⊢
 have y1:=(Ext.refl (F:=Any) (G:=Non) (s.cxN cxN)).on x1 hb0 fun _ _ h=>h
 try simp only[Ad,W_oS,W_on,Aa,W_mv,Ab,AJ,T.get_set,Ah,Af,AH,AG,Ag,Al,reduceIte,Aq,Ay,AM,AD,AB,Ao,Ar,AC,Ap,An,Nat.reduceEqDiff,reduceCtorEq, ↓reduceIte]
 refine WG.w BV_ (by omega) ?_
 simp only[MT,Ad,W_oS,Aa,Ab,T.get_set,reduceIte, ↓reduceIte]
 refine W.bind (W.rdC o1.2 o1.1 ?_)
 show W (fN 0 fun pos=>sitN s.next a pos) (s1.rdN s.next) _
 rw[A4]
 unfold sitN
 rw[ha.size,hc]
 have o1':Obj (s1.rdN s.next) s.next (.sit a 0):=o1.same rfl rfl
 refine W.bind (W.wrC (s:=s1.rdN s.next) o1'.1 ?_)
 show W (fN 0 fun pos=>fN (Utf8.decode a pos).1 fun c=>M.pure (Value.tuple #[.bool true, .int .i64 (.ofNat pos), .int .i32 (.ofNat c)])) ((s1.rdN s.next).wrN s.next (.O (.sit a (0+1)))) _
 rw[A4,A4,hc,Aa]
 have z2:=Ext.wrO (s:=s1) s.next (.O (.sit a (0+1)))
 have o2:Obj ((s1.rdN s.next).wrN s.next (.O (.sit a (0+1)))) s.next (.sit a (0+1)):=Obj.wrO o1
 generalize (s1.rdN s.next).wrN s.next (.O (.sit a (0+1)))=s2 at *
 have y2:=y1.on z2 hb0 fun x hx hq=>by have:x<s.next:=hx;omega
 rw[D9 (k:=0) rfl]
 try simp only[Ad]
 refine W.cond (v:=true) Rv SQ (by simp[T.get_set]) (by omega) (fun _=> ?_) fun h=>by cases h
 refine NE_.w Ac_ (by omega) ?_
 simp only[Xb,Ad,W_oS,Aa,W_mv,Ab,T.get_set,reduceIte,Nat.reduceEqDiff, ↓reduceIte]
 rw[D9 (k:=1) rfl,D9 (k:=2) rfl]
 try simp only[Ad,W_oS,W_on,Aa,W_mv,Ab,AJ,T.get_set,Ah,Af,AH,AG,Ag,Al,reduceIte,Aq,Ay,AM,AD,AB,Ao,Ar,AC,Ap,An,Nat.reduceEqDiff,reduceCtorEq, ↓reduceIte]
 refine Im_.w Lp_ (by omega) ?_
 simp only[Wu,Ad,W_oS,W_on,Aa,W_mv,Ab,T.get_set,Ah,Af,Ag,Al,reduceIte,Nat.reduceEqDiff, ↓reduceIte,h1,h2]
 obtain⟨mem2,next2,lim2,rd2,wr2,cx2⟩:=s2
 obtain⟨m,hm⟩: ∃m,n-1-1-1-1-1-1=m+30:=⟨n-6-30,by omega⟩
 rw[show n-1-1-1-1-1-1=m+30 from hm]
 refine W.of (hF m mem2 next2 lim2 rd2 wr2 cx2) ?_
 rw[O1 HL]
 generalize (⟨mem2,next2,lim2,rd2,wr2,cx2⟩:St)=s2 at *
 refine W.cond (v:=false) JU_ HV_ (by simp[T.get_set]) (by omega) (fun h=>by cases h) fun _=> ?_
 refine WG.w QU_ (by omega) ?_
 simp only[MT,Ad,W_oS,Aa,Ab,T.get_set,reduceIte,Nat.reduceEqDiff, ↓reduceIte]
 refine W.bind (W.rdC o2.2 o2.1 ?_)
 show W (fN (0+1) fun pos=>sitN s.next a pos) (s2.rdN s.next) _
 rw[A4]
 unfold sitN
 rw[ha.size]
 show W (M.pure (Value.tuple #[.bool false])) (s2.rdN s.next) _
 rw[Aa,D9 (k:=0) rfl]
 have y3:=y2.thenRd hb0 s.next
 try simp only[Ad,W_oS,W_on,Aa,W_mv,Ab,AJ,T.get_set,Ah,Af,AH,AG,Ag,Al,reduceIte,Aq,Ay,AM,AD,AB,Ao,Ar,AC,Ap,An,Nat.reduceEqDiff,reduceCtorEq, ↓reduceIte]
 refine W.cond (v:=false) Rv SQ (by simp[T.get_set]) (by omega) (fun h=>by cases h) fun _=> ?_
 refine QX_.w AB_ (by omega) ?_
 simp only[Yn,Aa,W_mv,Ab]
 refine W.end' (rs:=[6]) (vs:=[.int .i64 (-1)]) Bv_ (.inl QV_) (by omega) Xn EZ_ y3.cx (by simp[T.get_set]) ?_
 exact q _ y3.cx'
theorem Ki_ (hb:s.lim≤s.next)(ha:NmOk a)(hn:100≤n)(q: ∀s1,Ext Any Non s s1→Q (.bool true) s1):W (Av envS (runF envS n) 37 [.string a]) s Q:=by
 have hb0:(s.cxN cxN).lim≤(s.cxN cxN).next:=hb
 refine Qa_ fun tm h=> ?_
 refine Jp_.w rfl (by omega) ?_
 simp only[TV,Aa,W_mv,Ab]
 refine Pf_.w NB_ (by omega) ?_
 simp only[TS,Ad,W_on,Aa,W_mv,Ab,T.get_set,Ah,Af,Ag,Al,reduceIte,reduceCtorEq, ↓reduceIte,h]
 refine Oy_ fun tmc c0 c1=> ?_
 refine Zy.w rfl (by omega) ?_
 simp only[UA,Aa,W_mv,Ab]
 refine Ed_.w Bn_ (by omega) ?_
 simp only[R9,Ad,W_oS,W_on,Aa,W_mv,Ab,T.get_set,Ah,Af,Ag,Al,reduceIte,Nat.reduceEqDiff,reduceCtorEq, ↓reduceIte,c0,c1]
 refine ML_ fun tmi i0 i1=> ?_
 refine CD_.w rfl (by omega) ?_
 simp only[QM,Aa,W_mv,Ab]
 refine BJ_.w BB_ (by omega) ?_
 simp only[Sp,Ad,W_on,Aa,W_mv,Ab,T.get_set,Ah,Af,Ag,Al,reduceIte,Nat.reduceEqDiff,reduceCtorEq, ↓reduceIte,i0,i1]
 refine Y6 hb0 ha (by omega) fun s1 x1=> ?_
 try simp only[Ad,W_oS,W_on,Aa,W_mv,Ab,AJ,T.get_set,Ah,Af,AH,AG,Ag,Al,reduceIte,Aq,Ay,AM,AD,AB,Ao,Ar,AC,Ap,An,Nat.reduceEqDiff,reduceCtorEq, ↓reduceIte]
 refine W.end' (rs:=[4]) (vs:=[.int .i64 (-1)]) Oe_ (.inl Gr_) (by omega) TG Js_ x1.cx (by simp[T.get_set]) ?_
 show W _ (s1.cxN cxN) _
 simp only[C7,OX]
 refine W.end' (rs:=[4]) (vs:=[.bool false]) ZU (.inl IY_) (by omega) VJ Ip_ rfl (by simp[T.get_set]) ?_
 show W _ ((s1.cxN cxN).cxN cxN) _
 try simp only[OX]
 refine GU_.w Mg_ (by omega) ?_
 have e1:(!(a.data.toList==({data:= #[]}:ByteArray).data.toList))=true:=by
  show(!(a.data.toList==([]:List UInt8)))=true
  rw[ha.ne];rfl
 have e2:decide (((1:Nat):Int)≤60)=true:=rfl
 simp only[SM,Ad,W_oS,W_on,Aa,W_mv,Ab,T.get_set,Ah,Af,Ag,reduceIte,Aq,Ay,Ao,Ar,Ap,reduceCtorEq, ↓reduceIte,Ng,h,GW_,e1,SD Ji,ha.size,e2,CI,Bool.not_false]
 refine W.end' (rs:=[2]) (vs:=[.bool true]) Fz_ (.inl CG_) (by omega) RX Oi_ rfl (by simp[T.get_set]) ?_
 exact q _ (show Ext Any Non s (s1.cxN s.cx)from⟨x1.nxt,x1.lim,rfl,x1.mem,x1.rd,x1.wr⟩)
end
theorem Ea:slN envS 26=some 1:=by kernel_rfl
theorem Hq:appT envS 26 26=some (1,1,false,[.int .u8 0]):=by kernel_rfl
theorem BV:tyS envS 26=some (1,false):=by kernel_rfl
theorem Hp (E:Env)(t t2:Nat)(s x:Value)(st:St)(Q:Value→St→Prop):W (A6 E .append [t,t2] [s,x]) st Q=W (Cd E t t2 s x) st Q:=rfl
theorem Qv {l:List Nat}(h: ∀x∈l,False):l=[]:=by
 cases l with
 |nil=>rfl
 |cons y _=>exact(h y (by simp)).elim
theorem MkS.one {s:St}{sz n:Nat}{l:List Value}{v:Value}{b:Nat}(h:MkS s sz n l v b):oneCell v=true:=by
 rcases h with⟨rfl,_⟩|⟨h,_⟩
 ·rfl
 ·rw[h.val];rfl
theorem Lu (l m:List Nat):u8l (l++m)=u8l l++u8l m:=by unfold u8l;rw[List.map_append]
theorem Bh_:Yk=[]:=by kernel_rfl
section
variable {n:Nat}{s:St}
theorem RC {C K blk lbk:Nat}{lv bv:Value}{lb l:List Nat}{tm:T Value}{td:List Item}{Q:Value×FrameMode→St→Prop}(hb:s.lim≤s.next)(h6:Own s K 0 (.pointer (some ⟨blk,0,none⟩)))(h4:Own s C 0 bv)(hl:Own s blk 1 lv)(hm:MkS s 1 lb.length (u8l lb) lv lbk)(hB:Bs s bv l)(hz:lb.length+l.length≤5000000)
  (hK: ¬MkF 1 lb.length lbk K) (hbl: ¬MkF 1 lb.length lbk (blk+1)) (t0:T.get tm 0=some (.pointer (some ⟨K,0,none⟩))) (t3:T.get tm 3=some (.pointer (some ⟨C,0,none⟩))) (hT:skim 64 td=EN) (hn:20≤n) (hcx:s.cx=cxN)
  (q: ∀s1 v b,Ext Any (fun x=>x=blk+1∨MkF 1 lb.length lbk x) s s1→Own s1 blk 1 v→MkS s1 1 (lb.length+l.length) (u8l (lb++l)) v b→(b=lbk∧l.length=0∨s.next≤b)→Q (.tuple #[], .run) s1):
  W (runF envS n ⟨39,Dl_,D2,tm,td, .run, .normal,none⟩) s Q:=by
 refine EC_.w hT (by omega) ?_
 simp only[UV,t0,t3,A8]
 refine W.dload Cq ((h6.same (s':=dSt s.mem s.next) rfl rfl).at') fun rd0 hr0=> ?_
 refine W.dload Cq ((h6.same (s':=dSt s.mem s.next) rfl rfl).at') fun rd1 hr1=> ?_
 try simp only[A8]
 rw[W_dq fun s Q=>An (s:=s) _ Q]
 dsimp only
 try simp only[A8]
 rw[W_dq fun s Q=>Bb (s:=s) Dy (by decide) Q]
 dsimp only
 try simp only[A8]
 refine W.dload BV ((hl.same (s':=dSt s.mem s.next) rfl rfl).at') fun rd4 hr4=> ?_
 refine W.dload BV ((h4.same (s':=dSt s.mem s.next) rfl rfl).at') fun rd5 hr5=> ?_
 try simp only[A8,Ah,Af,Ag]
 refine W.dopG ?_
 rw[Hp]
 refine W.appV (s:=oSt s.mem s.next) (Nat.le_refl _) Hq (hm.same rfl rfl) (hB.same (s':=oSt s.mem s.next) rfl rfl).src.g (by decide) (by decide) (by omega) (by rw[Cb,Nat.mul_one]) (Er l) fun s2 v2 b2 hb2 mk2 x2=>⟨_,_,x2,fun rd6 wr6 hr6 hw6=> ?_⟩
 have n2:s.next≤s2.next:=x2.nxt
 try simp only[A8]
 rw[W_dq fun s Q=>An (s:=s) _ Q]
 dsimp only
 try simp only[A8]
 rw[W_dq fun s Q=>Bb (s:=s) Dy (by decide) Q,Aa]
 refine⟨Hh ?_, ?_⟩
 ·simp only[List.reverse_cons,List.reverse_nil,List.nil_append,List.cons_append,allP,Dv,List.take,Gp]
  have lts: ∀x,s.next≤x→ ¬x<s.next:=fun x h=>by omega
  have e0: ∀x,x∈rd0→x=K:=fun x h=>by have:=hr0 x h;omega
  have e6: ∀x,x∈rd6→x<s.next:=fun x h=>(hr6 x h).1
  have w6: ∀x,x∈wr6→x<s.next:=fun x h=>(hw6 x h).1
  have g6: ∀x,x∈wr6→ ¬x∈rd0:=fun x h1 h2=>hK (by have h3:=(hw6 x h1).2;rw[e0 x h2]at h3;exact h3)
  have a6: ∀x,x∈rd6→s.next≤x→False:=fun x h1 h2=>by have:=e6 x h1;omega
  have b6: ∀x,x∈wr6→s.next≤x→False:=fun x h1 h2=>by have:=w6 x h1;omega
  simp+contextual [lts,g6]
  exact⟨.inl rfl, .inl rfl, .inl rfl⟩
 ·refine W.cast (Ez_ _ _ _ _ _ _ _ _ _ _ _ _ _ _) ?_
  simp only[Ad,W_oS,Aa]
  generalize hs':(⟨(dSt s2.mem s2.next).mem,(dSt s2.mem s2.next).next,s.lim,_,_,s.cx⟩:St)=s7
  have m7:s7.mem=s2.mem:=by rw[←hs'];rfl
  have n7:s7.next=s2.next:=by rw[←hs'];rfl
  have x7:Ext Any (fun x=>MkF 1 lb.length lbk x) s s7:=by
   rw[←hs']
   refine Ext.drawG (by show s.next≤s2.next;omega) (fun x hx hg=>x2.mem x hx hg) ?_ fun _ _ _ _ _=>trivial
   simp only[List.mem_cons,List.not_mem_nil,or_false]
   rintro m (rfl|rfl|rfl|rfl|rfl|rfl|rfl|rfl|rfl) x hx hxl<;>first|(cases hx;done)|exact(hw6 x hx).2
  have hl7:Own s7 blk 1 lv:=hl.ext x7 hbl
  refine W.store1 BV mk2.one (hl7.same rfl rfl) fun s8 n8 x8 o8=> ?_
  try simp only[Ad,W_oS,W_on,Aa,W_mv,Ab,AJ,T.get_set,Ah,Af,AH,AG,Ag,Al,reduceIte,Aq,Ay,AM,AD,AB,Ao,Ar,AC,Ap,An,Nat.reduceEqDiff,reduceCtorEq, ↓reduceIte]
  have y8:Ext Any (fun x=>x=blk+1∨MkF 1 lb.length lbk x) s s8:=(x7.gw hb fun _ _ h=> .inr h).on x8 hb fun y _ hq=> .inl (by have h1:=hq.1;have h2:=hq.2;omega)
  refine W.end' (rs:=[]) (vs:=[]) Gq_ (.inr Bh_) (by omega) TX IA_ (y8.cx.trans hcx) rfl ?_
  have mk8:MkS s8 1 (lb.length+l.length) (u8l (lb++l)) v2 b2:=by
   rw[Lu]
   refine(mk2.same m7 n7).ext x8 fun x hx hq=> ?_
   have h1:=hq.1
   have h2:=hq.2
   have hxe:x=blk+1:=by omega
   subst hxe
   rcases hb2 with h|h
   ·rw[h.1,h.2,Nat.add_zero]at hx
    exact hbl hx
   ·have h3:=hx.2.1
    have h4:=hl.1
    have h5:(oSt s.mem s.next).next≤b2:=h
    have h6:s.next≤b2:=h5
    omega
  exact q s8 v2 b2 y8 o8 mk8 hb2
end
def BB (fs:List FileS)(a:ByteArray):Option Nat:=(fs.map FileS.name).findIdx? fun b=>a==b
def Bx (fs:List FileS)(a:ByteArray):Value:=match BB fs a with
 |none=> .pointer none
 |some j=>match fs[j]? with
  |some f=> .pointer (some ⟨f.blk,0,none⟩)
  |none=> .pointer none
theorem PO (fs:List FileS):(fs.map FileS.ent).map (·.key)=(fs.map FileS.name).map Value.string:=by rw[List.map_map,List.map_map];rfl
theorem HP {fs:List FileS}{a:ByteArray}{j:Nat}(h:BB fs a=some j):j<fs.length:=by
 have:=(List.findIdx?_eq_some_iff_getElem.1 h).1
 simpa using this
theorem Gw {s:St}{M mx:Nat}{fs:List FileS}{a:ByteArray}{Q:Value→St→Prop}(ho:Obj s M (.map (fs.map FileS.ent) mx))(q:Q (Bx fs a) (s.rdN M)):W (Cm envS 68 false (.map (some M)) (.string a)) s Q:=by
 unfold Bx at q
 cases hj:BB fs a with
 |none=>
  rw[hj]at q
  exact W.lookS0 OP Ew_ Nk (PO fs) hj ho q
 |some j=>
  rw[hj]at q
  have hlt:=HP hj
  simp only[List.getElem?_eq_getElem hlt]at q
  exact W.lookS1 (j:=j) (e:=fs[j].ent) OP Nk (PO fs) hj (by rw[List.getElem?_map,List.getElem?_eq_getElem hlt];rfl) ho q
def DkS.used (k:DkS):Nat:=(k.fs.map fun f=>f.sb.length+f.lb.length).sum
theorem DkI.lens {s:St}{col:Nat→Nat}{D M:Nat}{k:DkS}(h:DkI s col D M k): ∀(i:Nat) (e:MapEntry) (n:Nat),(k.fs.map FileS.ent)[i]?=some e→(k.fs.map fun f=>f.sb.length+f.lb.length)[i]?=some n→FL s e n:=by
 intro i e n h1 h2
 rw[List.getElem?_map]at h1 h2
 obtain⟨f,hf,rfl⟩:=Option.map_eq_some_iff.1 h1
 rw[hf]at h2
 cases h2
 obtain⟨hi,rfl⟩:=List.getElem?_eq_some_iff.1 hf
 have g:=h.fl i hi
 obtain⟨p1,c1,e1⟩:=g.ms.sl
 obtain⟨p2,c2,e2⟩:=g.ml.sl
 have o0:=g.o0
 have o1:=g.o1
 rw[e1]at o0
 rw[e2]at o1
 exact⟨_,p1,_,c1,p2,_,c2,rfl,o0.at',o1.at',rfl⟩
structure After (s s1:St)(col col':Nat→Nat)(D M:Nat)(k:DkS):Prop where
 inv:DkI s1 col' D M k
 agree: ∀x,x<s.next→col' x=col x
 ext:Ext Any (fun x=>col x<1000) s s1
def DN (k:DkS)(a:ByteArray)(blk:Nat)(v:Value)(b:Nat)(l:List Nat):List FileS:=match BB k.fs a with
 |some j=>match k.fs[j]? with
  |some f=>k.fs.set j {f with lv:=v,lbk:=b,lb:=f.lb++l}
  |none=>k.fs
 |none=>k.fs++[⟨a,k.mx,blk, .slice none 0 0,0,[],v,b,l⟩]
def Ei (k:DkS)(a:ByteArray):Nat:=match BB k.fs a with|some _=>k.mx|none=>k.mx+1
theorem Dz_ (a b:Int){E:Env}{s:St}{xo yo:Operand}{t:Nat}(Q:Value→St→Prop):W (Cl.get (aBin E .add t xo yo) (.int .i64 a) (.int .i64 b)) s Q=Q (.int .i64 (wrap64 (a+b))) s:=Br (UJ _ a b)
theorem T0 {e:MapEntry}: ∀{es:List MapEntry} {lo n:Nat},BL es lo n=true→lo≤n→e.born=n→BL (es++[e]) lo (n+1)=true
 |[],lo,n,_,hle,he=>by
  show(Nat.ble lo e.born&&Nat.blt e.born (n+1)&&BL [] (e.born+1) (n+1))=true
  rw[he,Nat.ble_eq_true_of_le hle,BS (by omega)]
  rfl
 |x::es,lo,n,h,hle,he=>by
  unfold BL at h
  rw[Bool.and_eq_true,Bool.and_eq_true]at h
  have h2:x.born<n:=Nat.le_of_ble_eq_true h.1.2
  show(Nat.ble lo x.born&&Nat.blt x.born (n+1)&&BL (es++[e]) (x.born+1) (n+1))=true
  rw[h.1.1,BS (by omega),T0 h.2 (by omega) he]
  rfl
theorem Rz {α:Type}(x y:α): ∀l:List α,(l++[x]).set l.length y=l++[y]
 |[]=>rfl
 |z::l=>by
  show z::(l++[x]).set l.length y=z::(l++[y])
  rw[Rz x y l]
theorem Z6 {l:List Nat}{i:Nat}(h:i<l.length):l[i]≤l.sum:=by
 have e:l=l.take i++l[i]::l.drop (i+1):=by rw[List.getElem_cons_drop,List.take_append_drop]
 have:l.sum=(l.take i).sum+(l[i]+(l.drop (i+1)).sum):=by
  conv=>lhs;rw[e]
  rw[List.sum_append,List.sum_cons]
 omega
theorem DkS.used_at {k:DkS}{j:Nat}(h:j<k.fs.length):k.fs[j].sb.length+k.fs[j].lb.length≤k.used:=by
 unfold DkS.used
 have:=Z6 (l:=k.fs.map fun f=>f.sb.length+f.lb.length) (i:=j) (by simpa using h)
 simpa using this
theorem DkI.file {F G:Nat→Prop}{s s':St}{col col':Nat→Nat}{D M j:Nat}{k:DkS}{f':FileS}(h:DkI s col D M k)(hj:j<k.fs.length)(x:Ext F G s s')(hG: ∀y,y<s.next→G y→2+3*j≤col y∧col y≤2+3*j+2)(ec: ∀y,y<s.next→col' y=col y)(hf:FileI s' col' (2+3*j) f')(he:f'.ent=k.fs[j].ent):DkI s' col' D M {k with fs:=k.fs.set j f'}:=by
 have c: ∀o,o<7→D+o<s.next→ ¬G (D+o):=fun o ho hn g=>by
  have h1:=hG _ hn g
  have h2:=h.kd (D+o) (by omega) (by omega)
  omega
 have em:(k.fs.set j f').map FileS.ent=k.fs.map FileS.ent:=by
  rw[List.map_set,he]
  apply List.ext_getElem
  ·simp
  ·intro i h1 h2
   rw[List.getElem_set]
   by_cases c:j=i
   ·subst c;simp
   ·simp[c]
 have b6:=h.d6.1
 refine⟨h.d0.ext x (c 0 (by decide) h.d0.1),h.d1.ext x (c 1 (by decide) h.d1.1),h.d2.ext x (c 2 (by decide) h.d2.1),h.d3.ext x (c 3 (by decide) h.d3.1),h.d4.ext x (c 4 (by decide) h.d4.1),h.d5.ext x (c 5 (by decide) h.d5.1),h.d6.ext x (c 6 (by decide) h.d6.1),fun y h1 h2=>(ec y (by omega)).trans (h.kd y h1 h2), ?_,(ec M h.om.1).trans h.km, ?_,fun i hi=> ?_⟩
 ·show Obj s' M (.map ((k.fs.set j f').map FileS.ent) k.mx)
  rw[em]
  exact h.om.ext x fun g=>by
   have h1:=hG _ h.om.1 g
   have h2:=h.km
   omega
 ·show BL ((k.fs.set j f').map FileS.ent) 0 k.mx=true
  rw[em]
  exact h.bo
 ·show FileI s' col' (2+3*i) (k.fs.set j f')[i]
  by_cases q:i=j
  ·subst q
   rw[List.getElem_set_self]
   exact hf
  ·have hi':i<k.fs.length:=by simpa using hi
   rw[List.getElem_set_ne (by omega)]
   refine((h.fl i hi').col ec).ext x fun y hy g=> ?_
   have h1:=hG y hy g
   rw[ec y hy]
   omega
theorem DkI.newF {s s':St}{F:Nat→Prop}{col col':Nat→Nat}{D M:Nat}{k:DkS}{f:FileS}(h:DkI s col D M k)(x:Ext F (fun y=>y=M) s s')(ec: ∀y,y<s.next→col' y=col y)(hM:Obj s' M (.map (k.fs.map FileS.ent++[f.ent]) (k.mx+1)))(hb:f.born=k.mx)(hf:FileI s' col' (2+3*k.fs.length) f):DkI s' col' D M {k with fs:=k.fs++[f],mx:=k.mx+1}:=by
 have c: ∀o,o<7→ ¬D+o=M:=fun o ho e=>by
  have h2:=h.kd (D+o) (by omega) (by omega)
  rw[e,h.km]at h2
  omega
 have b6:=h.d6.1
 refine⟨h.d0.ext x (c 0 (by decide)),h.d1.ext x (c 1 (by decide)),h.d2.ext x (c 2 (by decide)),h.d3.ext x (c 3 (by decide)),h.d4.ext x (c 4 (by decide)),h.d5.ext x (c 5 (by decide)),h.d6.ext x (c 6 (by decide)),fun y h1 h2=>(ec y (by omega)).trans (h.kd y h1 h2), ?_,(ec M h.om.1).trans h.km, ?_,fun i hi=> ?_⟩
 ·show Obj s' M (.map ((k.fs++[f]).map FileS.ent) (k.mx+1))
  rw[List.map_append]
  exact hM
 ·show BL ((k.fs++[f]).map FileS.ent) 0 (k.mx+1)=true
  rw[List.map_append]
  exact T0 h.bo (Nat.zero_le _) hb
 ·show FileI s' col' (2+3*i) (k.fs++[f])[i]
  have hi':i<k.fs.length+1:=by simpa using hi
  rcases Nat.lt_or_ge i k.fs.length with q|q
  ·rw[List.getElem_append_left q]
   refine((h.fl i q).col ec).ext x fun y hy g=> ?_
   rw[ec y hy,g,h.km]
   omega
  ·have:i=k.fs.length:=by omega
   subst this
   rw[List.getElem_append_right (Nat.le_refl _)]
   simp only[Nat.sub_self,List.getElem_cons_zero]
   exact hf
theorem FileI.loose {G:Nat→Prop}{s s':St}{F:Nat→Prop}{col:Nat→Nat}{c b:Nat}{v:Value}{m:List Nat}{f:FileS}(h:FileI s col c f)(x:Ext F (fun y=>y=f.blk+1∨MkF 1 f.lb.length f.lbk y) s s')(ho:Own s' f.blk 1 v)(hm:MkS s' 1 m.length (u8l m) v b)(hb:b=f.lbk∧m.length=f.lb.length∨s.next≤b):FileI s' (paint col s.next (c+2)) c {f with lv:=v,lbk:=b,lb:=m}:=by
 have b0:=h.o0.1
 have b1:=h.o1.1
 refine⟨h.o0.ext x fun g=> ?_,ho,fun y h1 h2=>(BD (by have h3:y<f.blk+2:=h2;omega)).trans (h.k y h1 h2),h.ms.ext x fun y hy g=> ?_,fun y hy=>(BD (h.ms.lt y hy)).trans (h.ks y hy),hm,fun y hy=> ?_⟩
 ·rcases g with g|g
  ·omega
  ·have h1:=h.kl _ g
   have h2:=h.k (f.blk+0) (by omega) (by omega)
   omega
 ·have h1:=h.ks y hy
  rcases g with g|g
  ·have h2:=h.k y (by omega) (by omega)
   omega
  ·have h2:=h.kl y g
   omega
 ·have hy':MkF 1 m.length b y:=hy
  rcases hb with⟨h1,h2⟩|h1
  ·rw[h1,h2]at hy'
   exact(BD (h.ml.lt y hy')).trans (h.kl y hy')
  ·exact Dc (by have:=hy'.2.1;omega)
theorem ZT:Ih envS 79 []=some [.slice none 0 0, .slice none 0 0]:=by kernel_rfl
section
variable {n D M C K:Nat}{s:St}{k:DkS}{col:Nat→Nat}{a:ByteArray}{bv:Value}{l:List Nat}
theorem Hy_ {Q:Value→St→Prop}(hb:s.lim≤s.next)(hI:DkI s col D M k)(hlen:k.fs.length≤300)(hB:Bs s bv l)(hC:Own s C 0 (.pointer (some ⟨D,0,none⟩)))(hC2:Own s (C+2) 0 (.string a))(hC4:Own s (C+4) 0 bv)(hK:Own s K 0 (Bx k.fs a))(kC: ∀x,C≤x→x<C+6→1000≤col x)(kK:1000≤col K)(hBc: ∀x,BsF bv x→x≠K∧1000≤col x)(hKC:K<C∨C+6≤K)(hz:k.used+l.length≤4000000)(hn:100≤n)
  (q: ∀s1 col' blk v b,DkI s1 col' D M {k with fs:=DN k a blk v b l,mx:=Ei k a}→(∀x,x<s.next→col' x=col x)→Ext Any (fun x=>col x<1000∨x=K) s s1→Q (.tuple #[]) s1):
  W (Av envS (runF envS n) 39 [.pointer (some ⟨K,0,none⟩), .pointer (some ⟨C,0,none⟩), .pointer (some ⟨C+2,0,none⟩), .pointer (some ⟨C+4,0,none⟩)]) s Q:=by
 have hb0:(s.cxN cxN).lim≤(s.cxN cxN).next:=hb
 refine ED_ fun tm t0 t1 t2 t3=> ?_
 refine GL_.w rfl (by omega) ?_
 simp only[Wx,Ad,W_oS,Aa,Ab,t0]
 refine W.load1 Cq (hK.same (s':=s.cxN cxN) rfl rfl).at' ?_
 have y1:=(Ext.refl (F:=Any) (G:=Non) (s.cxN cxN)).thenRd hb0 (K+0)
 have hI1:DkI ((s.cxN cxN).rdN (K+0)) col D M k:=hI.same rfl rfl
 have o1:Own ((s.cxN cxN).rdN (K+0)) K 0 (Bx k.fs a):=hK.same rfl rfl
 have c0:Own ((s.cxN cxN).rdN (K+0)) C 0 (.pointer (some ⟨D,0,none⟩)):=hC.same rfl rfl
 have c2:Own ((s.cxN cxN).rdN (K+0)) (C+2) 0 (.string a):=hC2.same rfl rfl
 have c4:Own ((s.cxN cxN).rdN (K+0)) (C+4) 0 bv:=hC4.same rfl rfl
 have hB1:Bs ((s.cxN cxN).rdN (K+0)) bv l:=hB.same rfl rfl
 have hn1:((s.cxN cxN).rdN (K+0)).next=s.next:=rfl
 generalize (s.cxN cxN).rdN (K+0)=s1 at *
 cases hj:BB k.fs a with
 |some j=>
  have hlt:=HP hj
  have hv:Bx k.fs a= .pointer (some ⟨k.fs[j].blk,0,none⟩):=by
   unfold Bx
   rw[hj]
   simp only[List.getElem?_eq_getElem hlt]
  have hadd: ∀blk v b,DN k a blk v b l=k.fs.set j {k.fs[j]with lv:=v,lbk:=b,lb:=k.fs[j].lb++l}:=fun blk v b=>by
   unfold DN
   rw[hj]
   simp only[List.getElem?_eq_getElem hlt]
  have hmx:Ei k a=k.mx:=by unfold Ei;rw[hj]
  rw[hv]at o1 ⊢
  have g:=hI1.fl j hlt
  have hused:=DkS.used_at hlt
  simp only[EZ HV]
  refine W.cond (v:=false) Vs QV (by simp[T.get_set]) (by omega) (fun h=>by cases h) fun _=> ?_
  refine RC (C:=C+4) (K:=K) (y1.bnd hb0) o1 c4 g.o1 g.ml hB1 (by omega) (fun h=>by have:=g.kl _ h;omega) (fun h=>by have h1:=g.kl _ h;have h2:=g.k _ (show k.fs[j].blk≤k.fs[j].blk+1 by omega) (by omega);omega) (by simp[T.get_set,t0]) (by simp[T.get_set,t3]) Y9 (by omega) y1.cx fun s2 v b x2 o2 mk2 hb2=> ?_
  have hf:FileI s2 (paint col s1.next (2+3*j+2)) (2+3*j) {k.fs[j]with lv:=v,lbk:=b,lb:=k.fs[j].lb++l}:=g.loose (G:=Non) x2 o2 (by rw[List.length_append];exact mk2) (hb2.imp (fun h=>⟨h.1,by rw[List.length_append,h.2,Nat.add_zero]⟩) fun h=>h)
  have hD:=hI1.file hlt x2 (fun y hy h=>by
   rcases h with rfl|h
   ·have:=g.k _ (show k.fs[j].blk≤k.fs[j].blk+1 by omega) (by omega)
    omega
   ·have:=g.kl y h
    omega) (fun y hy=>BD hy) hf rfl
  refine q (s2.cxN s.cx) (paint col s1.next (2+3*j+2)) 0 v b ?_ (fun x hx=>BD (by omega)) ((y1.gw hb0 fun _ _ h=>h.elim).on x2 hb0 fun y hy h=> .inl ?_).cx'
  ·rw[hadd,hmx]
   exact hD.same rfl rfl
  ·rcases h with rfl|h
   ·have:=g.k _ (show k.fs[j].blk≤k.fs[j].blk+1 by omega) (by omega)
    omega
   ·have:=g.kl y h
    omega
 |none=>
  have hv:Bx k.fs a= .pointer none:=by unfold Bx;rw[hj]
  have hadd: ∀blk v b,DN k a blk v b l=k.fs++[⟨a,k.mx,blk, .slice none 0 0,0,[],v,b,l⟩]:=fun blk v b=>by unfold DN;rw[hj]
  have hmx:Ei k a=k.mx+1:=by unfold Ei;rw[hj]
  rw[hv]at o1 ⊢
  simp only[J7]
  refine W.cond (v:=true) Vs QV (by simp[T.get_set]) (by omega) (fun _=> ?_) fun h=>by cases h
  refine Gs_.w Lw_ (by omega) ?_
  simp only[Yr,Ad,W_oS,Aa,T.get_set,AG,reduceIte,reduceCtorEq, ↓reduceIte,Q2 ZT,t0]
  refine W.box fun s2 n2 x2 r2=> ?_
  rw[UG]at n2 r2
  have n2':s2.next=s.next+3:=by rw[n2,hn1];rfl
  rw[hn1]at r2 ⊢
  have y2:=y1.on x2 hb0 fun _ _ h=>h
  try simp only[Ad,W_oS,W_on,Aa,W_mv,Ab,AJ,T.get_set,Ah,Af,AH,AG,Ag,Al,reduceIte,Aq,Ay,AM,AD,AB,Ao,Ar,AC,Ap,An,Nat.reduceEqDiff,reduceCtorEq, ↓reduceIte]
  refine W.store1 Cq rfl (o1.ext0 x2) fun s3 n3 x3 o3=> ?_
  have x3':Ext Any (fun y=>y=K) s2 s3:=x3.weak (y2.bnd hb0) (fun _ _ _=>trivial) fun y _ hq=>by have h1:=hq.1;have h2:=hq.2;omega
  have y3:Ext Any (fun x=>col x<1000∨x=K) (s.cxN cxN) s3:=(y2.gw hb0 fun _ _ h=>h.elim).on x3' hb0 fun y _ h=> .inr h
  have hKs:K<s.next:=by have:=o1.1;omega
  have hI3:DkI s3 col D M k:=(hI1.ext0 x2 hlen).ext x3' hlen fun y _ h=>by subst h;exact kK
  have r3:Bd s3 s.next 0 [.slice none 0 0, .slice none 0 0]:=r2.ext x3' fun i hi h=>by omega
  have c03:=(c0.ext0 x2).ext x3' fun h=>by omega
  have c23:=(c2.ext0 x2).ext x3' fun h=>by omega
  have c43:=(c4.ext0 x2).ext x3' fun h=>by omega
  have hB3:Bs s3 bv l:=(hB1.ext0 x2).ext x3' fun x hx h=>(hBc x hx).1 h
  have n3':s3.next=s.next+3:=by omega
  try simp only[Ad,W_oS,W_on,Aa,W_mv,Ab,AJ,T.get_set,Ah,Af,AH,AG,Ag,Al,reduceIte,Aq,Ay,AM,AD,AB,Ao,Ar,AC,Ap,An,Nat.reduceEqDiff,reduceCtorEq, ↓reduceIte]
  refine Kj_.w Pr_ (by omega) ?_
  simp only[Q7,T.get_set,Nat.reduceEqDiff,reduceIte,t0,t1,t2,A8]
  refine W.dload EB ((c03.same (s':=dSt s3.mem s3.next) rfl rfl).at') fun rd0 hr0=> ?_
  try simp only[A8]
  rw[W_dq fun s Q=>An (s:=s) _ Q]
  dsimp only
  try simp only[A8]
  rw[W_dq fun s Q=>Bb (s:=s) Dk (by decide) Q]
  dsimp only
  try simp only[A8]
  refine W.dload Du ((hI3.d1.same (s':=dSt s3.mem s3.next) rfl rfl).at') fun rd3 hr3=> ?_
  refine W.dload E7 ((c23.same (s':=dSt s3.mem s3.next) rfl rfl).at') fun rd4 hr4=> ?_
  refine W.dload Cq ((o3.same (s':=dSt s3.mem s3.next) rfl rfl).at') fun rd5 hr5=> ?_
  rw[Aa]
  refine⟨Sv (by simp) (by simp), ?_⟩
  refine W.cast (AM_ _ _ _ _ _ _ _ _ _ _ _) ?_
  simp only[Ad,W_on,Aa]
  generalize hs':(⟨(dSt s3.mem s3.next).mem,(dSt s3.mem s3.next).next,s3.lim,_,_,s3.cx⟩:St)=s4
  have x4:Ext Any Non s3 s4:=by
   rw[←hs']
   exact Ext.draw (F:=Any) (Nat.le_refl _) (fun _ _=>rfl) (by simp) fun _ _ _ _ _=>trivial
  have y4:=y3.on x4 hb0 fun _ _ h=>h.elim
  have hI4:=hI3.ext0 x4 hlen
  have n4:s4.next=s3.next:=by rw[←hs'];rfl
  refine W.mapUpS0 OP Nk (PO k.fs) hj hI4.om fun s5 n5 x5 o5=> ?_
  have y5:=y4.on x5 hb0 fun y _ h=> .inl (by rw[h];have:=hI4.km;omega)
  try simp only[Ad,W_oS,W_on,Aa,W_mv,Ab,AJ,T.get_set,Ah,Af,AH,AG,Ag,Al,reduceIte,Aq,Ay,AM,AD,AB,Ao,Ar,AC,Ap,An,Nat.reduceEqDiff,reduceCtorEq, ↓reduceIte]
  have hMs:M<s.next:=hI.om.1
  have r5:Bd s5 s.next 0 [.slice none 0 0, .slice none 0 0]:=(Bd.ext0 r3 x4).ext x5 fun i hi h=>by omega
  have hf5:FileI s5 (paint col s.next (2+3*k.fs.length)) (2+3*k.fs.length) ⟨a,k.mx,s.next, .slice none 0 0,0,[], .slice none 0 0,0,[]⟩:=
   ⟨r5 0 _ rfl,r5 1 _ rfl,fun y h1 _=>Dc h1, .inl ⟨rfl,rfl,rfl⟩,fun y hy=>absurd hy.1 (Nat.lt_irrefl 0), .inl ⟨rfl,rfl,rfl⟩,fun y hy=>absurd hy.1 (Nat.lt_irrefl 0)⟩
  have hI4':DkI s4 (paint col s.next (2+3*k.fs.length)) D M k:=⟨hI4.d0,hI4.d1,hI4.d2,hI4.d3,hI4.d4,hI4.d5,hI4.d6,fun x h1 h2=>(BD (by have:=hI.d6.1;omega)).trans (hI4.kd x h1 h2),hI4.om,(BD hMs).trans hI4.km,hI4.bo,fun i hi=>by
   have g1:=(hI1.fl i hi).col (col':=paint col s.next (2+3*k.fs.length)) fun x hx=>BD (by omega)
   have g2:=g1.ext x2 fun _ _ h=>h.elim
   have g3:=g2.ext x3' fun y hy h=>by
    rw[h,BD hKs]
    omega
   exact g3.ext x4 fun _ _ h=>h.elim⟩
  have hI5:=hI4'.newF (f:=⟨a,k.mx,s.next, .slice none 0 0,0,[], .slice none 0 0,0,[]⟩) x5 (fun _ _=>rfl) o5 rfl hf5
  have hlt5:k.fs.length<(k.fs++[(⟨a,k.mx,s.next, .slice none 0 0,0,[], .slice none 0 0,0,[]⟩:FileS)]).length:=by simp
  have g5:FileI s5 (paint col s.next (2+3*k.fs.length)) (2+3*k.fs.length) ⟨a,k.mx,s.next, .slice none 0 0,0,[], .slice none 0 0,0,[]⟩:=hf5
  have o5K:Own s5 K 0 (.pointer (some ⟨s.next,0,none⟩)):=(Own.ext0 o3 x4).ext x5 fun h=>by
   have h1:K=M:=by omega
   have h2:=hI.km
   rw[←h1]at h2
   omega
  have c45:Own s5 (C+4) 0 bv:=(Own.ext0 c43 x4).ext x5 fun h=>by
   have h1:C+4=M:=by omega
   have h2:=kC (C+4) (by omega) (by omega)
   rw[h1,hI.km]at h2
   omega
  have hB5:Bs s5 bv l:=(Bs.ext0 hB3 x4).ext x5 fun x hx h=>by
   have h1:=(hBc x hx).2
   rw[h,hI.km]at h1
   omega
  refine RC (C:=C+4) (K:=K) (lb:=[]) (lbk:=0) (blk:=s.next) (y5.bnd hb0) o5K c45 g5.o1 g5.ml hB5 (by simp;omega) (fun h=>absurd h.1 (Nat.lt_irrefl 0)) (fun h=>absurd h.1 (Nat.lt_irrefl 0)) (by simp[T.get_set,t0]) (by simp[T.get_set,t3]) HG_ (by omega) y5.cx fun s6 v b x6 o6 mk6 hb6=> ?_
  have hf6:=g5.loose (G:=Non) (m:=[]++l) x6 o6 (by rw[List.nil_append];simpa using mk6) (hb6.imp (fun h=>⟨h.1,by rw[List.nil_append,h.2];rfl⟩) fun h=>h)
  rw[List.nil_append]at hf6
  have hD:=hI5.file (j:=k.fs.length) hlt5 x6 (fun y hy h=>by
   rcases h with rfl|h
   ·rw[Dc (by omega)]
    omega
   ·exact absurd h.1 (Nat.lt_irrefl 0)) (fun y hy=>BD hy) hf6 (by
   show _=((k.fs++[(⟨a,k.mx,s.next, .slice none 0 0,0,[], .slice none 0 0,0,[]⟩:FileS)])[k.fs.length]'hlt5).ent
   rw[List.getElem_append_right (Nat.le_refl _)]
   simp only[Nat.sub_self,List.getElem_cons_zero]
   rfl)
  have y6:=y5.on x6 hb0 fun y hy h=>by
   rcases h with rfl|h
   ·have h1:s.next+1<s.next:=hy
    omega
   ·exact absurd h.1 (Nat.lt_irrefl 0)
  refine q (s6.cxN s.cx) (paint (paint col s.next (2+3*k.fs.length)) s5.next (2+3*k.fs.length+2)) s.next v b ?_ (fun x hx=>(BD (by have:=y5.nxt;have e:(s.cxN cxN).next=s.next:=rfl;omega)).trans (BD hx)) y6.cx'
  rw[hadd,hmx]
  have: ∀f':FileS,(k.fs++[(⟨a,k.mx,s.next, .slice none 0 0,0,[], .slice none 0 0,0,[]⟩:FileS)]).set k.fs.length f'=k.fs++[f']:=fun f'=>Rz _ _ _
  have hD':=hD.same (s':=s6.cxN s.cx) rfl rfl
  simp only[this]at hD'
  exact hD'
end
end Go.Proofs.Ytjfhmacppabehaa.Am
end
