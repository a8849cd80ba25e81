import Derived.Test.YtndednnianphoaaGreatDoorJf16
import Derived.Test.YtndednnianphoaaGreatDoorJf09
import Derived.KernelRfl
import Derived.Test.YtndednnianphoaaGreatDoorJf08
import Derived.Test.YtndednnianphoaaGreatDoorJf15
import Derived.Test.YtndednnianphoaaGreatDoorJf17
noncomputable section
namespace Go.Proofs.YtndednnianphoaaGreatDoor.Am
open Go.RowKit
def IU:Nat:=A8 Tryz.f49
def ZE:Code:=Tryz.f49.body.getD .skip
theorem DK_:envS.fn.get 49=some Tryz.f49:=by kernel_rfl
theorem JK_ {a0 a1:Value}{n:Nat}{s:St}{Q:Value→St→Prop}(h: ∀tm,T.get tm 0=some a0→T.get tm 1=some a1→W (runF envS n ⟨49,42,IU,tm,[.code ZE], .run, .normal,none⟩) (s.cxN cxN) fun p s1=>Q p.1 (s1.cxN s.cx)):W (Ay envS (runF envS n) 49 [a0,a1]) s Q:=
 W.call (by kernel_rfl) (by kernel_rfl) DK_ (by kernel_rfl) rfl rfl (by simp) (h _ (by kernel_rfl) (by kernel_rfl))
theorem VV_:Tryz.f49.results.toList=[.tmp 4]:=by kernel_rfl
def P5:List Item:=skim 64 [.code ZE]
def MA:List Item:=skim 64 P5.tail
theorem TH_:skim 64 P5.tail=MA:=by kernel_rfl
def LS:List Item:=skim 64 MA.tail
theorem Aeq_:skim 64 MA.tail=LS:=by kernel_rfl
def KG:List Item:=skim 64 LS.tail
theorem Ug_:skim 64 LS.tail=KG:=by kernel_rfl
def NK:List Item:=skim 64 (brT KG)
theorem HS_:skim 64 (brT KG)=NK:=by kernel_rfl
def SN:List Item:=skim 64 NK.tail
theorem QH_:skim 64 NK.tail=SN:=by kernel_rfl
def XD (E:Env)(call round:Ad)(tm:T Value):M (T Value):=
 mv (some (.slice none 0 0)) fun v4=>
 setF 4 v4 tm fun tm1=>
 M.pure tm1
theorem Uh_:RegEq 49 42 IU P5 XD:=⟨by kernel_rfl,fun _ _ _ _ _ _ _ _ _=>by kernel_rfl⟩
def AH_ (E:Env)(call round:Ad)(tm:T Value):M (T Value):=
 mv (T.get tm 0) fun v8=>
 mv (T.get tm 1) fun v9=>
 M.bind (M.on (some (.func (.func 70) #[] #[])) fun f=>M.on (seqO [(some v8),(some v9)]) fun l=>AL call round f l) fun v10=>
 mv (some v10) fun v5=>
 setF 5 v5 tm fun tm1=>
 M.pure tm1
theorem Xk_:RegEq 49 42 IU MA AH_:=⟨by kernel_rfl,fun _ _ _ _ _ _ _ _ _=>by kernel_rfl⟩
def Ac_ (E:Env)(call round:Ad)(tm:T Value):M (T Value):=
 mv (T.get tm 5) fun v11=>
 M.bind (oS (some v11) fun a=>oS (some (.int .i64 (-1))) fun b=>Cl.get (aBin E .eql 3 (.tmp 11) (.const (.int .i64 (-1)))) a b) fun v12=>
 setF 12 v12 tm fun tm1=>
 M.pure tm1
theorem TF_:RegEq 49 42 IU LS Ac_:=⟨by kernel_rfl,fun _ _ _ _ _ _ _ _ _=>by kernel_rfl⟩
theorem WN_:A4 KG=some 12:=by kernel_rfl
def XV (E:Env)(call round:Ad)(tm:T Value):M (T Value):=
 mv (T.get tm 0) fun v13=>
 mv (some v13) fun v4=>
 setF 4 v4 tm fun tm1=>
 M.pure tm1
theorem Qs_:RegEq 49 42 IU NK XV:=⟨by kernel_rfl,fun _ _ _ _ _ _ _ _ _=>by kernel_rfl⟩
theorem ON_: ∃k,SN= .code .ret::k:=⟨SN.tail,by kernel_rfl⟩
def D8:Nat:=A8 Tryz.f70
abbrev Ix_:Nat:=19
def DX_:Code:=Tryz.f70.body.getD .skip
theorem UY:envS.fn.get 70=some Tryz.f70:=by kernel_rfl
theorem AcA_ {a0 a1:Value}{n:Nat}{s:St}{Q:Value→St→Prop}(h: ∀tm,T.get tm 0=some a0→T.get tm 1=some a1→W (runF envS n ⟨70,19,D8,tm,[.code DX_], .run, .normal,none⟩) (s.cxN cxN) fun p s1=>Q p.1 (s1.cxN s.cx)):W (Ay envS (runF envS n) 70 [a0,a1]) s Q:=
 W.call (by kernel_rfl) (by kernel_rfl) UY (by kernel_rfl) rfl rfl (by simp) (h _ (by kernel_rfl) (by kernel_rfl))
theorem VS_:Tryz.f70.results.toList=[.tmp 4]:=by kernel_rfl
def RQ:List Item:=skim 64 [.code DX_]
def KN:List Item:=skim 64 RQ.tail
theorem Agh_:skim 64 RQ.tail=KN:=by kernel_rfl
def GZ:List Item:=skim 64 KN.tail
theorem Ko_:skim 64 KN.tail=GZ:=by kernel_rfl
def Gv:List Item:=skim 64 GZ.tail
theorem Gb_:skim 64 GZ.tail=Gv:=by kernel_rfl
def K4:List Item:=skim 64 (brT Gv)
theorem Lp_:skim 64 (brT Gv)=K4:=by kernel_rfl
def OB:List Item:=skim 64 (brF Gv)
theorem RI_:skim 64 (brF Gv)=OB:=by kernel_rfl
def JE:List Item:=skim 64 K4.tail
theorem Xm_:skim 64 K4.tail=JE:=by kernel_rfl
def Sg:List Item:=skim 64 OB.tail
theorem HW_:skim 64 OB.tail=Sg:=by kernel_rfl
def JP:List Item:=skim 64 JE.tail
theorem Afh_:skim 64 JE.tail=JP:=by kernel_rfl
def Rz:List Item:=skim 64 (brF JP)
theorem Ro_:skim 64 (brF JP)=Rz:=by kernel_rfl
theorem MW_:skim 64 Rz.tail=GZ:=by kernel_rfl
def Yv (E:Env)(call round:Ad)(tm:T Value):M (T Value):=
 mv (some (.int .i64 0)) fun v4=>
 setF 4 v4 tm fun tm1=>
 M.pure tm1
theorem Agp_:RegEq 70 19 D8 RQ Yv:=⟨by kernel_rfl,fun _ _ _ _ _ _ _ _ _=>by kernel_rfl⟩
def Fi_ (E:Env)(call round:Ad)(tm:T Value):M (T Value):=
 mv (T.get tm 0) fun v6=>
 M.bind (oS (seqO [(some v6)]) fun l=>Ba E .len [41] l) fun v7=>
 setF 7 v7 tm fun tm1=>
 mv (some (.int .i64 0)) fun v8=>
 setF 8 v8 tm1 fun tm2=>
 M.pure tm2
theorem OK_:RegEq 70 19 D8 KN Fi_:=⟨by kernel_rfl,fun _ _ _ _ _ _ _ _ _=>by kernel_rfl⟩
def Po (E:Env)(call round:Ad)(tm:T Value):M (T Value):=
 M.bind (oS (T.get tm 8) fun a=>oS (T.get tm 7) fun b=>Cl.get (aBin E .lss 3 (.tmp 8) (.tmp 7)) a b) fun v9=>
 setF 9 v9 tm fun tm1=>
 M.pure tm1
theorem Fs_:RegEq 70 19 D8 GZ Po:=⟨by kernel_rfl,fun _ _ _ _ _ _ _ _ _=>by kernel_rfl⟩
theorem Y5:A4 Gv=some 9:=by kernel_rfl
def DC_ (E:Env)(call round:Ad)(tm:T Value):M (T Value):=
 mv (T.get tm 8) fun v10=>
 mv (some v10) fun v5=>
 setF 5 v5 tm fun tm1=>
 M.pure tm1
theorem YJ_:RegEq 70 19 D8 K4 DC_:=⟨by kernel_rfl,fun _ _ _ _ _ _ _ _ _=>by kernel_rfl⟩
def Xo (E:Env)(call round:Ad)(tm:T Value):M (T Value):=
 mv (some (.int .i64 (-1))) fun v4=>
 setF 4 v4 tm fun tm1=>
 M.pure tm1
theorem Ud_:RegEq 70 19 D8 OB Xo:=⟨by kernel_rfl,fun _ _ _ _ _ _ _ _ _=>by kernel_rfl⟩
def AD_ (E:Env)(call round:Ad)(tm:T Value):M (T Value):=
 mv (T.get tm 1) fun v11=>
 mv (T.get tm 0) fun v12=>
 mv (T.get tm 5) fun v13=>
 M.bind (oS (some v12) fun a=>oS (some v13) fun b=>BD E 41 a b) fun v14=>
 M.bind (oS (some v14) fun a=>AC E 9 a) fun v15=>
 M.bind (M.on (some v11) fun f=>M.on (seqO [(some v15)]) fun l=>AL call round f l) fun v16=>
 setF 16 v16 tm fun tm1=>
 M.pure tm1
theorem NX_:RegEq 70 19 D8 JE AD_:=⟨by kernel_rfl,fun _ _ _ _ _ _ _ _ _=>by kernel_rfl⟩
theorem PF_: ∃k,Sg= .code .ret::k:=⟨Sg.tail,by kernel_rfl⟩
theorem AaG_:A4 JP=some 16:=by kernel_rfl
def Dz_ (E:Env)(call round:Ad)(tm:T Value):M (T Value):=
 M.bind (oS (T.get tm 8) fun a=>oS (some (.int .i64 1)) fun b=>Cl.get (aBin E .add 3 (.tmp 8) (.const (.int .i64 1))) a b) fun v18=>
 mv (some v18) fun v8=>
 setF 8 v8 tm fun tm1=>
 M.pure tm1
theorem Adm_:RegEq 70 19 D8 Rz Dz_:=⟨by kernel_rfl,fun _ _ _ _ _ _ _ _ _=>by kernel_rfl⟩
def Pr:Nat:=A8 Tryz.f59
def Gu_:Code:=Tryz.f59.body.getD .skip
theorem UG:envS.fn.get 59=some Tryz.f59:=by kernel_rfl
theorem IS_ {a0 a1:Value}{n:Nat}{s:St}{Q:Value→St→Prop}(h: ∀tm,T.get tm 0=some a0→T.get tm 1=some a1→W (runF envS n ⟨59,10,Pr,tm,[.code Gu_], .run, .normal,none⟩) (s.cxN cxN) fun p s1=>Q p.1 (s1.cxN s.cx)):W (Ay envS (runF envS n) 59 [a0,a1]) s Q:=
 W.call (by kernel_rfl) (by kernel_rfl) UG (by kernel_rfl) rfl rfl (by simp) (h _ (by kernel_rfl) (by kernel_rfl))
theorem Vd_:Tryz.f59.results.toList=[.tmp 4]:=by kernel_rfl
def TC:List Item:=skim 64 [.code Gu_]
def Nc:List Item:=skim 64 TC.tail
theorem UV_:skim 64 TC.tail=Nc:=by kernel_rfl
def RM:List Item:=skim 64 Nc.tail
theorem Ado_:skim 64 Nc.tail=RM:=by kernel_rfl
def WH (E:Env)(call round:Ad)(tm:T Value):M (T Value):=
 mv (some (.int .i64 0)) fun v4=>
 setF 4 v4 tm fun tm1=>
 M.pure tm1
theorem Acc_:RegEq 59 10 Pr TC WH:=⟨by kernel_rfl,fun _ _ _ _ _ _ _ _ _=>by kernel_rfl⟩
def ZH (E:Env)(call round:Ad)(tm:T Value):M (T Value):=
 mv (T.get tm 0) fun v5=>
 M.bind (oS (some v5) fun a=>kNil a) fun v6=>
 M.bind (oS (some v6) fun a=>kFld E 76 a 2) fun v7=>
 mv (T.get tm 1) fun v8=>
 M.bind (M.on (some (.func (.func 74) #[] #[])) fun f=>M.on (seqO [(some v7),(some v8)]) fun l=>AL call round f l) fun v9=>
 mv (some v9) fun v4=>
 setF 4 v4 tm fun tm1=>
 M.pure tm1
theorem JU_:RegEq 59 10 Pr Nc ZH:=⟨by kernel_rfl,fun _ _ _ _ _ _ _ _ _=>by kernel_rfl⟩
theorem Nt_: ∃k,RM= .code .ret::k:=⟨RM.tail,by kernel_rfl⟩
def Er:Nat:=A8 Tryz.f19
abbrev AaX_:Nat:=16
def AK_:Code:=Tryz.f19.body.getD .skip
theorem X3:envS.fn.get 19=some Tryz.f19:=by kernel_rfl
theorem Aau_ {a0 a1:Value}{n:Nat}{s:St}{Q:Value→St→Prop}(h: ∀tm,T.get tm 0=some a0→T.get tm 1=some a1→W (runF envS n ⟨19,16,Er,tm,[.code AK_], .run, .normal,none⟩) (s.cxN cxN) fun p s1=>Q p.1 (s1.cxN s.cx)):W (Ay envS (runF envS n) 19 [a0,a1]) s Q:=
 W.call (by kernel_rfl) (by kernel_rfl) X3 (by kernel_rfl) rfl rfl (by simp) (h _ (by kernel_rfl) (by kernel_rfl))
theorem JP_:Tryz.f19.results.toList=[.tmp 4]:=by kernel_rfl
def SR:List Item:=skim 64 [.code AK_]
def Oq:List Item:=skim 64 SR.tail
theorem Lf_:skim 64 SR.tail=Oq:=by kernel_rfl
def K2:List Item:=skim 64 Oq.tail
theorem RJ_:skim 64 Oq.tail=K2:=by kernel_rfl
def NJ:List Item:=skim 64 (brF K2)
theorem JX_:skim 64 (brF K2)=NJ:=by kernel_rfl
def Mk:List Item:=skim 64 NJ.tail
theorem ZS_:skim 64 NJ.tail=Mk:=by kernel_rfl
def FW:List Item:=skim 64 Mk.tail
theorem FU_:skim 64 Mk.tail=FW:=by kernel_rfl
def S7:List Item:=skim 64 (brT FW)
theorem YA_:skim 64 (brT FW)=S7:=by kernel_rfl
def F0:List Item:=skim 64 (brF FW)
theorem Zp_:skim 64 (brF FW)=F0:=by kernel_rfl
theorem Zk_:skim 64 S7.tail=F0:=by kernel_rfl
def Tx:List Item:=skim 64 F0.tail
theorem Qv_:skim 64 F0.tail=Tx:=by kernel_rfl
def DD_ (E:Env)(call round:Ad)(tm:T Value):M (T Value):=
 mv (some (.int .i64 0)) fun v4=>
 setF 4 v4 tm fun tm1=>
 M.pure tm1
theorem JJ_:RegEq 19 16 Er SR DD_:=⟨by kernel_rfl,fun _ _ _ _ _ _ _ _ _=>by kernel_rfl⟩
def Ew_ (E:Env)(call round:Ad)(tm:T Value):M (T Value):=
 mv (T.get tm 1) fun v5=>
 M.bind (oS (some v5) fun a=>oS (some (.int .i64 1)) fun b=>Cl.get (aBin E .lss 3 (.tmp 5) (.const (.int .i64 1))) a b) fun v6=>
 setF 6 v6 tm fun tm1=>
 M.pure tm1
theorem IA_:RegEq 19 16 Er Oq Ew_:=⟨by kernel_rfl,fun _ _ _ _ _ _ _ _ _=>by kernel_rfl⟩
theorem SV_:A4 K2=some 6:=by kernel_rfl
def UE (E:Env)(call round:Ad)(tm:T Value):M (T Value):=
 mv (T.get tm 0) fun v7=>
 mv (T.get tm 1) fun v8=>
 M.bind (oS (some v7) fun a=>oS (some v8) fun b=>Cl.get (aBin E .rem 3 (.tmp 7) (.tmp 8)) a b) fun v9=>
 mv (some v9) fun v0=>
 setF 0 v0 tm fun tm1=>
 M.pure tm1
theorem TX_:RegEq 19 16 Er NJ UE:=⟨by kernel_rfl,fun _ _ _ _ _ _ _ _ _=>by kernel_rfl⟩
def BJ_ (E:Env)(call round:Ad)(tm:T Value):M (T Value):=
 mv (T.get tm 0) fun v10=>
 M.bind (oS (some v10) fun a=>oS (some (.int .i64 0)) fun b=>Cl.get (aBin E .lss 3 (.tmp 10) (.const (.int .i64 0))) a b) fun v11=>
 setF 11 v11 tm fun tm1=>
 M.pure tm1
theorem Sw_:RegEq 19 16 Er Mk BJ_:=⟨by kernel_rfl,fun _ _ _ _ _ _ _ _ _=>by kernel_rfl⟩
theorem Fn_:A4 FW=some 11:=by kernel_rfl
def Dv_ (E:Env)(call round:Ad)(tm:T Value):M (T Value):=
 mv (T.get tm 0) fun v12=>
 mv (T.get tm 1) fun v13=>
 M.bind (oS (some v12) fun a=>oS (some v13) fun b=>Cl.get (aBin E .add 3 (.tmp 12) (.tmp 13)) a b) fun v14=>
 mv (some v14) fun v0=>
 setF 0 v0 tm fun tm1=>
 M.pure tm1
theorem AdW_:RegEq 19 16 Er S7 Dv_:=⟨by kernel_rfl,fun _ _ _ _ _ _ _ _ _=>by kernel_rfl⟩
def XF (E:Env)(call round:Ad)(tm:T Value):M (T Value):=
 mv (T.get tm 0) fun v15=>
 mv (some v15) fun v4=>
 setF 4 v4 tm fun tm1=>
 M.pure tm1
theorem Aft_:RegEq 19 16 Er F0 XF:=⟨by kernel_rfl,fun _ _ _ _ _ _ _ _ _=>by kernel_rfl⟩
theorem Aec_: ∃k,Tx= .code .ret::k:=⟨Tx.tail,by kernel_rfl⟩
def E9:Nat:=A8 Tryz.f45
def Dp_:Code:=Tryz.f45.body.getD .skip
theorem Tz:envS.fn.get 45=some Tryz.f45:=by kernel_rfl
theorem Agu_ {a0 a1:Value}{n:Nat}{s:St}{Q:Value→St→Prop}(h: ∀tm,T.get tm 0=some a0→T.get tm 1=some a1→W (runF envS n ⟨45,21,E9,tm,[.code Dp_], .run, .normal,none⟩) (s.cxN cxN) fun p s1=>Q p.1 (s1.cxN s.cx)):W (Ay envS (runF envS n) 45 [a0,a1]) s Q:=
 W.call (by kernel_rfl) (by kernel_rfl) Tz (by kernel_rfl) rfl rfl (by simp) (h _ (by kernel_rfl) (by kernel_rfl))
theorem Wq:Tryz.f45.results.toList=[.tmp 4]:=by kernel_rfl
def Qd:List Item:=skim 64 [.code Dp_]
def Kj:List Item:=skim 64 Qd.tail
theorem Md_:skim 64 Qd.tail=Kj:=by kernel_rfl
def OC:List Item:=skim 64 Kj.tail
theorem VJ_:skim 64 Kj.tail=OC:=by kernel_rfl
def NT:List Item:=skim 64 OC.tail
theorem Ys_:skim 64 OC.tail=NT:=by kernel_rfl
def Iy:List Item:=skim 64 (brF NT)
theorem TJ_:skim 64 (brF NT)=Iy:=by kernel_rfl
def Ky:List Item:=skim 64 Iy.tail
theorem QO_:skim 64 Iy.tail=Ky:=by kernel_rfl
def MD:List Item:=skim 64 (brF Ky)
theorem WU_:skim 64 (brF Ky)=MD:=by kernel_rfl
def TA:List Item:=skim 64 MD.tail
theorem AU_:skim 64 MD.tail=TA:=by kernel_rfl
def BG_ (E:Env)(call round:Ad)(tm:T Value):M (T Value):=
 M.bind (oS (T.get tm 0) fun a=>kBox a) fun v2=>
 setF 2 v2 tm fun tm1=>
 M.bind (oS (T.get tm1 1) fun a=>kBox a) fun v3=>
 setF 3 v3 tm1 fun tm2=>
 mv (some (.int .i64 0)) fun v4=>
 setF 4 v4 tm2 fun tm3=>
 M.pure tm3
theorem Sh_:RegEq 45 21 E9 Qd BG_:=⟨by kernel_rfl,fun _ _ _ _ _ _ _ _ _=>by kernel_rfl⟩
def VW (E:Env)(call round:Ad)(tm:T Value):M (T Value):=
 M.bind (oS (T.get tm 2) fun a=>AC E 25 a) fun v6=>
 M.bind (M.on (some (.func (.func 32) #[] #[])) fun f=>M.on (seqO [(some v6)]) fun l=>AL call round f l) fun v7=>
 mv (some v7) fun v5=>
 setF 5 v5 tm fun tm1=>
 M.pure tm1
theorem AaO_:RegEq 45 21 E9 Kj VW:=⟨by kernel_rfl,fun _ _ _ _ _ _ _ _ _=>by kernel_rfl⟩
def Di_ (E:Env)(call round:Ad)(tm:T Value):M (T Value):=
 mv (T.get tm 5) fun v8=>
 M.bind (oS (some v8) fun a=>oS (some (.int .i64 0)) fun b=>Cl.get (aBin E .neq 29 (.tmp 8) (.const (.int .i64 0))) a b) fun v9=>
 setF 9 v9 tm fun tm1=>
 M.pure tm1
theorem TL_:RegEq 45 21 E9 OC Di_:=⟨by kernel_rfl,fun _ _ _ _ _ _ _ _ _=>by kernel_rfl⟩
theorem Kd_:A4 NT=some 9:=by kernel_rfl
def GX_ (E:Env)(call round:Ad)(tm:T Value):M ((Rho×T Value)×List OpLog):=
 M.bind (apartO (oS (T.get tm 2) fun a=>AC E 25 a)) fun p0=>
 M.bind (apartO (oS (some p0.1) fun a=>kNil a)) fun p1=>
 M.bind (apartO (oS (some p1.1) fun a=>kFld E 78 a 1)) fun p2=>
 M.bind (apartO (oS (some p2.1) fun a=>AC E 71 a)) fun p3=>
 M.bind (apartO (oS (T.get tm 3) fun a=>AC E 9 a)) fun p4=>
 M.bind (apartO (oS (some p3.1) fun a=>oS (some p4.1) fun b=>Cy E 71 false a b)) fun p5=>
 M.pure (([p5.1,p4.1,p3.1,p2.1,p1.1,p0.1],tm),[p5.2,p4.2,p3.2,p2.2,p1.2,p0.2])
theorem JZ_:DrawEq 45 21 E9 Iy [0,1,3,7,0,31,63] GX_:=⟨by kernel_rfl,by kernel_rfl,fun _ _ _ _ _ _ _ _ _=>by kernel_rfl⟩
theorem XU_ (E:Env)(call round:Ad)(x11 x12 x13 x14 x15 x16:Value)(tm:T Value)(s:St):Br call round (BY E E9 21 (hdC Iy)) [x16,x15,x14,x13,x12,x11] tm s=(M.bind (oS (some x16) fun a=>oS (some (.pointer none)) fun b=>Cl.get (aBin E .eql 70 (.tmp 16) (.const (.pointer none))) a b) fun v17=>setT 17 v17 tm fun tm1=>M.pure tm1) s:=by kernel_rfl
theorem AfQ_:A4 Ky=some 17:=by kernel_rfl
def Cb_ (E:Env)(call round:Ad)(tm:T Value):M (T Value):=
 M.bind (oS (T.get tm 2) fun a=>AC E 25 a) fun v18=>
 M.bind (oS (seqO []) fun a=>oS (seqO [(T.get tm 2),(T.get tm 3)]) fun b=>M.pure (.func (.func 66) a.toArray b.toArray)) fun v19=>
 M.bind (M.on (some (.func (.func 35) #[] #[])) fun f=>M.on (seqO [(some v18),(some v19)]) fun l=>AL call round f l) fun v20=>
 mv (some v20) fun v4=>
 setF 4 v4 tm fun tm1=>
 M.pure tm1
theorem Ace_:RegEq 45 21 E9 MD Cb_:=⟨by kernel_rfl,fun _ _ _ _ _ _ _ _ _=>by kernel_rfl⟩
theorem CL_: ∃k,TA= .code .ret::k:=⟨TA.tail,by kernel_rfl⟩
def TO:Nat:=A8 Tryz.f66
def Vf:Code:=Tryz.f66.body.getD .skip
theorem XR:envS.fn.get 66=some Tryz.f66:=by kernel_rfl
theorem Tx_ {a0 a1:Value}{n:Nat}{s:St}{Q:Value→St→Prop}(h: ∀tm,T.get tm 0=some a0→T.get tm 1=some a1→W (runF envS n ⟨66,7,TO,tm,[.code Vf], .run, .normal,none⟩) (s.cxN cxN) fun p s1=>Q p.1 (s1.cxN s.cx)):W (Ay envS (runF envS n) 66 [a0,a1]) s Q:=
 W.call (by kernel_rfl) (by kernel_rfl) XR (by kernel_rfl) rfl rfl (by simp) (h _ (by kernel_rfl) (by kernel_rfl))
theorem Li_:Tryz.f66.results.toList=[]:=by kernel_rfl
def Mv:List Item:=skim 64 [.code Vf]
def ET_:List Item:=skim 64 Mv.tail
theorem Adr_:skim 64 Mv.tail=ET_:=by kernel_rfl
def YC (E:Env)(call round:Ad)(tm:T Value):M ((Rho×T Value)×List OpLog):=
 M.bind (apartO (oS (T.get tm 0) fun a=>AC E 25 a)) fun p0=>
 M.bind (apartO (oS (some p0.1) fun a=>kNil a)) fun p1=>
 M.bind (apartO (oS (some p1.1) fun a=>kFld E 78 a 1)) fun p2=>
 M.bind (apartO (oS (some p2.1) fun a=>AC E 71 a)) fun p3=>
 M.bind (apartO (oS (T.get tm 1) fun a=>AC E 9 a)) fun p4=>
 M.pure (([p4.1,p3.1,p2.1,p1.1,p0.1],tm),[p4.2,p3.2,p2.2,p1.2,p0.2])
theorem Of_:DrawEq 66 7 TO Mv [0,1,3,7,0,31] YC:=⟨by kernel_rfl,by kernel_rfl,fun _ _ _ _ _ _ _ _ _=>by kernel_rfl⟩
theorem QB_ (E:Env)(call round:Ad)(x2 x3 x4 x5 x6:Value)(tm:T Value)(s:St):Br call round (BY E TO 7 (hdC Mv)) [x6,x5,x4,x3,x2] tm s=(M.bind (oS (seqO [(some x5),(some x6)]) fun l=>Ba E .delete [71,9] l) fun _=>M.pure tm) s:=by kernel_rfl
section
variable {s:St}{E:Env}{t t2:Nat}
theorem W.appV (hbd:s.lim≤s.next){sz by' n len b:Nat}{z l old:List Value}{v x:Value}{F:Nat→Prop}{Q:Value→St→Prop}{g:Bool}(ht:appT E t t2=some (sz,by',g,z))(hm:MkS s sz len old v b)(hx:SrcG s sz by' g z x n l F)(hs0:0<sz)(hs1:sz<1024)
  (hb:(len+n)*(by'+1)≤16777216) (hl:l.length=n*sz) (h1:l.all oneCell=true)
  (q: ∀s2 v2 b2,(b2=b∧n=0∨s.next≤b2)→MkS s2 sz (len+n) (old++l) v2 b2→Ext (fun x=>F x∨MkF sz len b x) (MkF sz len b) s s2→Q v2 s2):W (Cj E t t2 v x) s Q:=by
 by_cases hn:n=0
 ·rcases hm with⟨rfl,rfl,rfl⟩|⟨hm,h0⟩
  ·subst hn
   have hl0:l=[]:=List.eq_nil_of_length_eq_zero (by rw[hl,Nat.zero_mul])
   subst hl0
   obtain⟨i,i2,e,ie,g1,g2,g3,g4,g5,g6,g7,g8⟩:=I9 ht
   obtain⟨hN,s1,e1,m1,n1,x1⟩:=hx ie g5 g6 g8
   subst g5;subst g6
   refine W.bind (W.ti g1 (W.bind (W.ti g2 ?_)))
   rw[g3,g7]
   refine W.bind (W.ti g4 (W.bind (W.of (hN s) (W.bind ?_))))
   refine W.of e1 ?_
   show W (M.if (Nat.ble (Nat.add 0 0) (0%capU)) (EK ie.size none 0 0 0 []) _) s1 Q
   rw[show Nat.ble (Nat.add 0 0) (0%capU)=true from Nat.ble_eq_true_of_le (Nat.zero_le _)]
   show W (M.pure (.slice none 0 0)) s1 Q
   exact W.pure (q s1 _ b (.inl ⟨rfl,rfl⟩) (.inl ⟨rfl,rfl,rfl⟩) (x1.weak hbd (fun _ _ h=> .inl h) fun _ _ h=>h.elim))
  ·refine W.appE hbd ht (.inr ⟨hm,h0⟩) hx hs0 hs1 hb hl h1 fun s2 v2 b2 hb2 e2 x2=>q s2 v2 b2 (hb2.elim (fun h=> .inl ⟨h,hn⟩) .inr) ?_ x2
   rcases e2 with⟨_,h,_⟩|⟨h,h'⟩
   ·omega
   ·exact .inr ⟨h,h'⟩
 ·exact W.appU hbd ht hm hx (by omega) hs0 hs1 hb hl h1 fun s2 v2 b2 hb2 mk x2=>q s2 v2 b2 (.inr hb2) mk x2
end
def DA (n0:Nat)(m a:OpLog):Prop:=(∀x∈m.rd,n0≤x→ ¬(a.lo≤x∧x<a.hi))∧(∀x∈m.wr,n0≤x→ ¬(a.lo≤x∧x<a.hi))∧(∀x∈a.wr,x∉m.rd∧x∉m.wr)∧(∀x∈m.wr,x∉a.rd)
def CJ (n0 b:Nat)(m:OpLog):List OpLog→Nat→Prop
 |[],_=>True
 |a::l,i=>(b.testBit i=true∨DA n0 m a)∧CJ n0 b m l (i+1)
def allP (n0:Nat)(all:List OpLog):List OpLog→List Nat→Nat→Prop
 |[],_,_=>True
 |m::l,b::bef,j=>CJ n0 b m (all.take j) 0∧allP n0 all l bef (j+1)
 |_::_,[],_=>False
theorem Y1 {x:Nat}: ∀{l:List Nat} {m:Nat},(Cd l m).testBit x=true→x∈l∨m.testBit x=true
 |[],m,h=> .inr h
 |a::l,m,h=>by
  have e:Cd (a::l) m=Cd l (m|||2^a):=by
   show fN (Nat.lor m (Nat.shiftLeft (nat_lit 1) a)) (Cd l)=_
   rw[A6]
   show Cd l (m|||(1<<<a))=_
   rw[Nat.one_shiftLeft]
  rw[e]at h
  rcases Y1 h with h|h
  ·exact .inl (by simp[h])
  ·rw[Nat.testBit_or,Sj,Bool.or_eq_true]at h
   rcases h with h|h
   ·exact .inr h
   ·have:x=a:=by
     have:=of_decide_eq_true h
     omega
    exact .inl (by simp[this])
theorem U1 {a b:Nat}(h: ∀x,¬(a.testBit x=true∧b.testBit x=true)):Nat.beq (Nat.land a b) (nat_lit 0)=true:=by
 have e:a&&&b=0:=by
  refine Nat.eq_of_testBit_eq fun x=> ?_
  rw[Nat.testBit_and,Nat.zero_testBit]
  cases h1:a.testBit x with
  |false=>rfl
  |true=>
   cases h2:b.testBit x with
   |false=>rfl
   |true=>exact absurd ⟨h1,h2⟩ (h x)
 show Nat.beq (a&&&b) 0=true
 rw[e]
 rfl
theorem Gw {x:Nat}{l:List Nat}(h:(Cd l 0).testBit x=true):x∈l:=by
 rcases Y1 h with h|h
 ·exact h
 ·rw[Nat.zero_testBit]at h;cases h
theorem SM_ {a m:OpLog}(h1: ∀x∈a.wr,x∉m.rd∧x∉m.wr)(h2: ∀x∈m.wr,x∉a.rd):D6 (BX a) (BX m)=true:=by
 unfold D6
 rw[Bool.and_eq_true,M6,M6]
 refine⟨U1 fun x ⟨p,q⟩=> ?_,U1 fun x ⟨p,q⟩=>h2 x (Gw p) (Gw q)⟩
 have q':(Cd m.rd 0|||Cd m.wr 0).testBit x=true:=q
 rw[Nat.testBit_or,Bool.or_eq_true]at q'
 rcases q' with q|q
 ·exact(h1 x (Gw p)).1 (Gw q)
 ·exact(h1 x (Gw p)).2 (Gw q)
theorem VY {n0 b:Nat}{m:OpLog}(news:List Nat)(hn: ∀x∈news,n0≤x∧(x∈m.rd∨x∈m.wr)): ∀(acc:List OpLog) (i:Nat),CJ n0 b m acc i→DZ b news acc i=true
 |[],_,_=>rfl
 |a::acc,i,h=>by
  show((b.testBit i|| !De a.lo a.hi news)&&DZ b news acc (Nat.succ i))=true
  rw[Bool.and_eq_true]
  refine⟨?_,VY news hn acc (i+1) h.2⟩
  rcases h.1 with h|h
  ·rw[h];rfl
  ·rw[Cd_ _ _ _ fun x hx=> ?_]
   ·simp
   ·obtain⟨h1,h2⟩:=hn x hx
    rcases h2 with h2|h2
    ·exact h.1 x h2 h1
    ·exact h.2.1 x h2 h1
theorem UQ {n0 b:Nat}{m:OpLog}: ∀(acc:List OpLog) (i:Nat),CJ n0 b m acc i→Fh b (BX m) (acc.map BX) i=true
 |[],_,_=>rfl
 |a::acc,i,h=>by
  show((b.testBit i||D6 (BX a) (BX m))&&Fh b (BX m) (acc.map BX) (Nat.succ i))=true
  rw[Bool.and_eq_true]
  refine⟨?_,UQ acc (i+1) h.2⟩
  rcases h.1 with h|h
  ·rw[h];rfl
  ·rw[SM_ h.2.2.1 h.2.2.2];simp
theorem ZP {n0:Nat}{all:List OpLog}: ∀(l:List OpLog) (bef:List Nat) (j:Nat),allP n0 all l bef j→FD n0 all l bef j=true
 |[],_,_,_=>rfl
 |_::_,[],_,h=>h.elim
 |m::l,b::bef,j,h=>by
  show(Gh b (BL n0 m.rd (BL n0 m.wr [])) (all.take j)&&FD n0 all l bef (Nat.succ j))=true
  rw[Bool.and_eq_true]
  refine⟨?_,ZP l bef (j+1) h.2⟩
  have hn: ∀x∈BL n0 m.rd (BL n0 m.wr []),n0≤x∧(x∈m.rd∨x∈m.wr):=fun x hx=>by
   rcases R8 _ _ _ x hx with h|h
   ·exact⟨h.2, .inl h.1⟩
   ·rcases R8 _ _ _ x h with h|h
    ·exact⟨h.2, .inr h.1⟩
    ·cases h
  have hj:=VY _ hn _ _ h.1
  unfold Gh
  generalize BL n0 m.rd (BL n0 m.wr [])=z at hj
  cases z with
  |nil=>rfl
  |cons x z=>exact hj
theorem Vj {n0:Nat}{all:List OpLog}: ∀(l:List OpLog) (bef:List Nat) (j:Nat),allP n0 all l bef j→H1 (all.map BX) (l.map BX) bef j=true
 |[],_,_,_=>rfl
 |_::_,[],_,h=>h.elim
 |m::l,b::bef,j,h=>by
  show(Fh b (BX m) ((all.map BX).take j) 0&&H1 (all.map BX) (l.map BX) bef (Nat.succ j))=true
  rw[Bool.and_eq_true,←List.map_take]
  exact⟨UQ _ _ h.1,Vj l bef (j+1) h.2⟩
theorem D9 {n0:Nat}{l:List OpLog}{bef:List Nat}(h:allP n0 l l bef 0):B2 n0 l bef=true:=by
 unfold B2
 rw[ZP l bef 0 h,OX,Vj l bef 0 h]
 simp
section
variable {α β:Type}{s:St}
theorem W.dopG {m:M α}{f:α×OpLog→M β}{mem:T Cell}{next:Nat}{Q:β→St→Prop}
  (h:W m (oSt mem next) fun v s1=> ∃F G,Ext F G (oSt mem next) s1∧ ∀rd wr,(∀x∈rd,x<next∧F x)→(∀x∈wr,x<next∧G x)→W (f (v,⟨next,s1.next,rd,wr⟩)) (dSt s1.mem s1.next) Q):W (M.bind (apartO m) f) (dSt mem next) Q:=by
 obtain⟨a,s1,e,F,G,x,q⟩:=h
 obtain⟨mem1,next1,lim1,rd1,wr1,cx1⟩:=s1
 have hcx:cx1= .no:=x.cx
 obtain⟨d1,p1,p2⟩:=x.rd
 obtain⟨d2,p3,p4⟩:=x.wr
 have e1:rd1=d1:=by simpa [oSt]using p1
 have e2:wr1=d2:=by simpa [oSt]using p3
 subst hcx
 refine W.bind (W.of (a:=(a,⟨next,next1,rd1,wr1⟩)) (s':=dSt mem1 next1) ?_ (q rd1 wr1 (fun y hy=>p2 y (by rw[←e1];exact hy)) fun y hy=>p4 y (by rw[←e2];exact hy)))
 have e':m ⟨mem,next,next,[],[], .no⟩= .some a ⟨mem1,next1,lim1,rd1,wr1, .no⟩:=e
 show Am.apartO m ⟨mem,next,0,[],[], .no⟩=_
 unfold Am.apartO
 simp only[e']
 rfl
theorem AcX_ (lim:Nat)(l:List OpLog)(base:List Nat): ∃d,wrsL lim l base=d++base∧ ∀x∈d,x<lim∧ ∃m∈l,x∈m.wr:=by
 induction l with
 |nil=>exact⟨[],rfl,fun _ h=>by cases h⟩
 |cons m l ih=>
  obtain⟨d,e,q⟩:=ih
  obtain⟨d2,e2,q2⟩:=AF_ lim m.wr (wrsL lim l base)
  refine⟨d2++d, ?_,fun x hx=> ?_⟩
  ·show addL lim m.wr (wrsL lim l base)=_
   rw[e2,e,List.append_assoc]
  ·rcases List.mem_append.1 hx with hx|hx
   ·exact⟨(q2 x hx).1,m,by simp,(q2 x hx).2⟩
   ·obtain⟨h1,m',h2,h3⟩:=q x hx
    exact⟨h1,m',by simp[h2],h3⟩
theorem Ext.drawG {F G:Nat→Prop}{mem':T Cell}{next':Nat}{l:List OpLog}(h1:s.next≤next')(h2: ∀x,x<s.next→ ¬G x→T.get mem' x=T.get s.mem x)(hw: ∀m∈l,∀x∈m.wr,x<s.lim→G x)(hr: ∀m∈l,∀x∈m.rd,x<s.lim→F x):
  Ext F G s ⟨mem',next',s.lim,rdsL s.lim l s.rd,wrsL s.lim l s.wr,s.cx⟩:=by
 obtain⟨d,e,q⟩:=Fp_ s.lim l s.rd
 obtain⟨d2,e2,q2⟩:=AcX_ s.lim l s.wr
 exact⟨h1,rfl,rfl,fun x hx hg=>h2 x hx hg,⟨d,e,fun x hx=>by obtain⟨a,m,b,c⟩:=q x hx;exact⟨a,hr m b x c a⟩⟩,⟨d2,e2,fun x hx=>by obtain⟨a,m,b,c⟩:=q2 x hx;exact⟨a,hw m b x c a⟩⟩⟩
end
theorem Ext.on {G F' G':Nat→Prop}{s s1 s2:St}(h:Ext Any G s s1)(k:Ext F' G' s1 s2)(hb:s.lim≤s.next)(hG: ∀x,x<s.next→G' x→G x):Ext Any G s s2:=h.trans k hb (fun _ _ _=>trivial) hG
theorem Ext.gw {G G':Nat→Prop}{s s1:St}(h:Ext Any G s s1)(hb:s.lim≤s.next)(hG: ∀x,x<s.next→G x→G' x):Ext Any G' s s1:=h.weak hb (fun _ _ h=>h) hG
theorem In1 {b x:Nat}:In b 0 1 x↔x=b:=⟨fun h=>by have:=h.1;have:=h.2;omega,fun h=>⟨by omega,by omega⟩⟩
theorem AcN_:fldN envS 78 0=some (0,1,false):=by kernel_rfl
theorem DE:fldN envS 78 1=some (1,1,false):=by kernel_rfl
theorem VM:fldN envS 78 2=some (2,1,false):=by kernel_rfl
theorem Agl_:fldN envS 78 3=some (3,1,true):=by kernel_rfl
theorem Tr:fldN envS 78 4=some (4,1,false):=by kernel_rfl
theorem Yh:fldN envS 78 5=some (5,1,false):=by kernel_rfl
theorem TW:fldN envS 78 6=some (6,1,false):=by kernel_rfl
theorem Od_:fldN envS 76 2=some (0,1,false):=by kernel_rfl
theorem SD:fldN envS 83 0=some (0,1,false):=by kernel_rfl
theorem FQ:fldN envS 83 1=some (1,1,false):=by kernel_rfl
theorem DH:tyS envS 4=some (1,false):=by kernel_rfl
theorem BN:tyS envS 3=some (1,false):=by kernel_rfl
theorem DI:tyS envS 71=some (1,false):=by kernel_rfl
theorem CN:tyS envS 9=some (1,false):=by kernel_rfl
theorem CQ:tyS envS 70=some (1,false):=by kernel_rfl
theorem Cs:tyS envS 25=some (1,false):=by kernel_rfl
theorem Gm_:Ie envS 70=some [.pointer none]:=by kernel_rfl
theorem FX_:ptrT envS 25=true:=by kernel_rfl
theorem FK:ptrT envS 70=true:=by kernel_rfl
theorem TQ_:mapU envS 71=true:=by kernel_rfl
theorem KC (s:St):mapT envS 71 s= .some (9,70) s:=by kernel_rfl
theorem AdK_ (s:St):zeroOf envS 70 s= .some (.pointer none) s:=by kernel_rfl
theorem JN:envS.P.underlying 9=some .string:=by kernel_rfl
theorem Xe_ (k:Nat)(s:St):Cl.get (aBin envS .eql 70 (.tmp k) (.const (.pointer none))) (.pointer none) (.pointer none) s= .some (.bool true) s:=by kernel_rfl
theorem M8 (k:Nat)(s:St)(Q:Value→St→Prop):W (Cl.get (aBin envS .eql 70 (.tmp k) (.const (.pointer none))) (.pointer none) (.pointer none)) s Q=Q (.bool true) s:=Bp (Xe_ k s)
theorem Bb_ {s:St}{call round:Ad}{f:Nat}{cap:Array Value}{l:List Value}(Q:Value→St→Prop):W (AL call round (.func (.func f) #[] cap) l) s Q=W (call f (l++cap.toList)) s Q:=by
 show W (call f ([]++(l++cap.toList))) s Q=_
 rw[List.nil_append]
theorem W.extF {E:Env}{s:St}{ih:AF→M (Value×FrameMode)}{f:Nat}{m:List Value→M Value}{args:List Value}{Q:Value→St→Prop}(h0:E.orc.get f=none)(ho:E.ext.get f=some m)(h:W (m args) s Q):W (Ay E ih f args) s Q:=by
 unfold Ay
 rw[h0,ho]
 exact h
section
variable {D n:Nat}{s:St}{Q:Value→St→Prop}
theorem I8 (hb:s.lim≤s.next)(h0:Own s D 0 (.bool true))(hn:20≤n)(q: ∀s1,s1.mem=s.mem→s1.next=s.next→Ext Any Non s s1→Q (.bool false) s1):W (Ay envS (runF envS n) 46 [.pointer (some ⟨D,0,none⟩)]) s Q:=by
 refine Aaw_ fun tm h=> ?_
 refine UR_.w rfl (by omega) ?_
 simp only[DR_,Aa,W_mv,Ab]
 refine Pb_.w AeS_ (by omega) ?_
 simp only[CO_,Ac,W_oS,W_on,Aa,W_mv,Ab,T.get_set,reduceIte,Ak,Ao,Aj,An,Al,Ai,reduceCtorEq, ↓reduceIte,h,C8 FX_,Bg AcN_ (by decide)]
 refine W.load1 DH (h0.same (s':=s.cxN cxN) rfl rfl).at' ?_
 simp only[CM,Bool.not_true]
 refine W.end' (rs:=[2]) (vs:=[.bool false]) PB_ (.inl AeB_) (by omega) Cz_ Zo_ rfl (by simp[T.get_set]) ?_
 exact q _ rfl rfl ((Ext.refl (F:=Any) (G:=Non) (s.cxN cxN)).thenRd hb _).cx'
theorem N5 {o:Bool}(hb:s.lim≤s.next)(h0:Own s D 0 (.bool true))(h6:Own s D 6 (.bool o))(hn:60≤n)(q: ∀s1,s1.mem=s.mem→s1.next=s.next→Ext Any Non s s1→Q (.int .i64 (if o then 10 else 0)) s1):W (Ay envS (runF envS n) 32 [.pointer (some ⟨D,0,none⟩)]) s Q:=by
 have hb0:(s.cxN cxN).lim≤(s.cxN cxN).next:=hb
 refine ME_ fun tm h=> ?_
 refine Aac_.w rfl (by omega) ?_
 simp only[YM,Aa,W_mv,Ab]
 refine AbE_.w Aez_ (by omega) ?_
 simp only[VA,Ac,W_on,Aa,W_mv,Ab,T.get_set,Ag,Af,Ae,Ah,reduceIte,reduceCtorEq, ↓reduceIte,h]
 refine I8 hb0 (h0.same rfl rfl) (by omega) fun s1 m1 n1 x1=> ?_
 try simp only[Ac,W_oS,W_on,Aa,W_mv,Ab,Ap,T.get_set,Ag,Af,Ar,Aq,Ae,Ah,reduceIte,Ak,As,Av,Aw,Ao,Aj,An,Au,Al,Ai,Nat.reduceEqDiff,reduceCtorEq, ↓reduceIte]
 refine W.cond (v:=false) Za_ UG_ (by simp[T.get_set]) (by omega) (fun h=>by cases h) fun _=> ?_
 refine Tr_.w RN_ (by omega) ?_
 simp only[V0,Ac,W_oS,Aa,W_mv,Ab,T.get_set,reduceIte,Ai,reduceCtorEq, ↓reduceIte,h,Bg TW (by decide)]
 have y1:=x1.thenRd hb0 (D+(0+6))
 refine W.load1 DH ((h6.same (s':=s.cxN cxN) rfl rfl).same m1 n1).at' ?_
 try simp only[Ac,W_oS,W_on,Aa,W_mv,Ab,Ap,T.get_set,Ag,Af,Ar,Aq,Ae,Ah,reduceIte,Ak,As,Av,Aw,Ao,Aj,An,Au,Al,Ai,Nat.reduceEqDiff,reduceCtorEq, ↓reduceIte]
 cases o with
 |true=>
  refine W.cond (v:=true) GD_ EX_ (by simp[T.get_set]) (by omega) (fun _=> ?_) fun h=>by cases h
  refine Uz_.w Zq_ (by omega) ?_
  simp only[BI_,Aa,W_mv,Ab]
  refine W.end' (rs:=[2]) (vs:=[.int .i64 10]) Jv_ (.inl HE_) (by omega) QH Vn y1.cx (by simp[T.get_set]) ?_
  exact q _ m1 n1 y1.cx'
 |false=>
  refine W.cond (v:=false) GD_ EX_ (by simp[T.get_set]) (by omega) (fun h=>by cases h) fun _=> ?_
  refine AgF_.w Aey_ (by omega) ?_
  simp only[DT_,Aa,W_mv,Ab]
  refine W.end' (rs:=[2]) (vs:=[.int .i64 0]) LX_ (.inl Ho_) (by omega) QH Vn y1.cx (by simp[T.get_set]) ?_
  exact q _ m1 n1 y1.cx'
theorem Ya_ {o:Nat}{x:Int}(hb:s.lim≤s.next)(h3:Own s D o (.int .i64 x))(hn:20≤n)(q: ∀w s1,s1.next=s.next→Ext Any (fun y=>y=D+o) s s1→Own s1 D o (.int .i64 (wrap64 (x+1)))→Q w s1):W (Ay envS (runF envS n) 59 [.pointer (some ⟨D,o,none⟩), .int .i64 1]) s Q:=by
 have hb0:(s.cxN cxN).lim≤(s.cxN cxN).next:=hb
 refine IS_ fun tm h h1=> ?_
 refine Acc_.w rfl (by omega) ?_
 simp only[WH,Aa,W_mv,Ab]
 refine JU_.w UV_ (by omega) ?_
 simp only[ZH,Ac,W_oS,W_on,Aa,W_mv,Ab,T.get_set,Ag,Af,Ae,Ah,reduceIte,Ai,Nat.reduceEqDiff,reduceCtorEq, ↓reduceIte,h,h1,Bg Od_ (by decide)]
 refine W.extF (by kernel_rfl) (m:=HQ) (by kernel_rfl) ?_
 show W (M.bind (Am.rdV ⟨D,o,none⟩) fun v=>match v with
  | .int .i64 x=>fI (wrap64 (addI x 1)) fun n=>M.bind (Am.wrV ⟨D,o,none⟩ (.int .i64 n)) fun _=>M.pure (Value.int .i64 n)
  |_=>M.fail) (s.cxN cxN) _
 have h3':Own (s.cxN cxN) D o (.int .i64 x):=h3.same rfl rfl
 refine W.bind (W.rdV h3'.at' ?_)
 show W (fI (wrap64 (addI x 1)) _) _ _
 rw[Ch,Oi]
 refine W.bind (W.wrV (h3'.same (s':=(s.cxN cxN).rdN (D+o)) rfl rfl) rfl (W.pure ?_))
 have z0:=(Ext.refl (F:=Any) (G:=fun y=>y=D+o) (s.cxN cxN)).on (Ext.rdN (F:=Any) (G:=fun y=>y=D+o) (s.cxN cxN) (D+o) fun _=>trivial) hb0 fun _ _ h=>h
 have z1:=z0.on (Ext.rdN (F:=Any) (G:=fun y=>y=D+o) _ (D+o) fun _=>trivial) hb0 fun _ _ h=>h
 have z2:=z1.on (Ext.wrN (F:=Any) (G:=fun y=>y=D+o) _ (D+o) (.C D (.int .i64 (wrap64 (x+1)))) rfl) hb0 fun _ _ h=>h
 have hw:Own ((((s.cxN cxN).rdN (D+o)).rdN (D+o)).wrN (D+o) (.C D (.int .i64 (wrap64 (x+1))))) D o (.int .i64 (wrap64 (x+1))):=⟨h3.1,by
  show T.get (T.set s.mem (D+o) _) (D+o)=_
  rw[T.get_set,if_pos rfl]⟩
 have nz:((((s.cxN cxN).rdN (D+o)).rdN (D+o)).wrN (D+o) (.C D (.int .i64 (wrap64 (x+1))))).next=s.next:=rfl
 generalize (((s.cxN cxN).rdN (D+o)).rdN (D+o)).wrN (D+o) (.C D (.int .i64 (wrap64 (x+1))))=s2 at *
 try simp only[Ac,W_oS,W_on,Aa,W_mv,Ab,Ap,T.get_set,Ag,Af,Ar,Aq,Ae,Ah,reduceIte,Ak,As,Av,Aw,Ao,Aj,An,Au,Al,Ai,Nat.reduceEqDiff,reduceCtorEq, ↓reduceIte]
 refine W.end' (rs:=[4]) (vs:=[.int .i64 (wrap64 (x+1))]) Ado_ (.inl Nt_) (by omega) UG Vd_ z2.cx (by simp[T.get_set]) ?_
 exact q _ _ nz z2.cx' (hw.same rfl rfl)
theorem SO {f2:Nat}{cap:Array Value}{fused out:Bool}{left steps:Int}(hb:s.lim≤s.next)(h3:Own s D 3 (.int .i64 steps))(h4:Own s D 4 (.bool fused))(h5:Own s D 5 (.int .i64 left))(h6:Own s D 6 (.bool out))(hn:60≤n)
  (q1:(fused=true∧left=0)→ ∀s1,s1.next=s.next→Ext Any (fun y=>y=D+6) s s1→Own s1 D 6 (.bool true)→Q (.int .i64 10) s1)
  (q2: ¬(fused=true∧left=0)→ ∀n' s1,n≤n'+20→s1.cx=cxN→s1.next=s.next→Ext Any (fun y=>y=D+3∨y=D+5) s (s1.cxN s.cx)→Own s1 D 3 (.int .i64 (wrap64 (steps+1)))→Own s1 D 5 (.int .i64 (if fused then wrap64 (left-1)else left))→W (Ay envS (runF envS n') f2 cap.toList) s1 fun _ s2=>s2.cx=cxN∧Q (.int .i64 0) (s2.cxN s.cx)):
  W (Ay envS (runF envS n) 35 [.pointer (some ⟨D,0,none⟩), .func (.func f2) #[] cap]) s Q:=by
 have hb0:(s.cxN cxN).lim≤(s.cxN cxN).next:=hb
 refine Mm_ fun tm h h1=> ?_
 refine Zj_.w rfl (by omega) ?_
 simp only[WU,Aa,W_mv,Ab]
 refine Sf_.w AeN_ (by omega) ?_
 simp only[GH_,Ac,W_oS,W_on,Aa,W_mv,Ab,T.get_set,reduceIte,Ai,reduceCtorEq, ↓reduceIte,h,Bg Tr (by decide)]
 refine W.load1 DH (h4.same (s':=s.cxN cxN) rfl rfl).at' ?_
 have y1:=(Ext.refl (F:=Any) (G:=Non) (s.cxN cxN)).thenRd hb0 (D+(0+4))
 have work: ∀(n':Nat) (tm':T Value) (td':List Item) (s':St),n≤n'+10→skim 64 td'=Gz→s'.next=s.next→Ext Any (fun y=>y=D+5) (s.cxN cxN) s'→Own s' D 5 (.int .i64 (if fused then wrap64 (left-1)else left))→T.get tm' 0=some (.pointer (some ⟨D,0,none⟩))→T.get tm' 1=some (.func (.func f2) #[] cap)→ ¬(fused=true∧left=0)→W (runF envS n' ⟨35,Oz_,Db,tm',td', .run, .normal,none⟩) s' fun p s1=>Q p.1 (s1.cxN s.cx):=by
  intro n' tm' td' s' hn' hT' hnx x' h5' g0 g1 hc
  have h3':Own s' D 3 (.int .i64 steps):=(h3.same (s':=s.cxN cxN) rfl rfl).ext x' fun hq=>by omega
  refine Yf_.w hT' (by omega) ?_
  simp only[Bx_,Ac,W_oS,W_on,Aa,W_mv,Ag,Af,Ae,Ah,Ai,g0,Bg Agl_ (by decide)]
  refine Ya_ (x'.bnd hb0) h3' (by omega) fun w s2 n2 x2 o2=> ?_
  have z2:Ext Any (fun y=>y=D+3∨y=D+5) (s.cxN cxN) s2:=(x'.gw hb0 fun _ _ h=> .inr h).on x2 hb0 fun y _ hq=> .inl (by omega)
  try simp only[Ac,W_oS,W_on,Aa,W_mv,Ab,Ap,T.get_set,Ag,Af,Ar,Aq,Ae,Ah,reduceIte,Ak,As,Av,Aw,Ao,Aj,An,Au,Al,Ai,Nat.reduceEqDiff,reduceCtorEq, ↓reduceIte]
  refine RC_.w Kw_ (by omega) ?_
  simp only[Dw_,Ac,W_on,Aa,W_mv,Af,g1]
  rw[Bb_]
  refine W.mono (q2 hc (n'-1-1) s2 (by omega) z2.cx (by omega) z2.cx' o2 (h5'.ext x2 fun hq=>by omega)) fun w2 s3 hq=> ?_
  obtain⟨hcx,hq⟩:=hq
  try simp only[Ac,W_oS,W_on,Aa,W_mv,Ab,Ap,T.get_set,Ag,Af,Ar,Aq,Ae,Ah,reduceIte,Ak,As,Av,Aw,Ao,Aj,An,Au,Al,Ai,Nat.reduceEqDiff,reduceCtorEq, ↓reduceIte]
  refine XF_.w Og_ (by omega) ?_
  simp only[Xk,Aa,W_mv,Ab]
  exact W.end' (rs:=[4]) (vs:=[.int .i64 0]) Uw_ (.inl Vc_) (by omega) OW Ai_ hcx (by simp[T.get_set]) hq
 cases fused with
 |false=>
  simp only[Aa,reduceIte,Ak,Aw,Aj,Au,Al, ↓reduceIte,Bool.false_eq_true]
  refine W.cond (v:=false) T6 Sl (by simp[T.get_set]) (by omega) (fun h=>by cases h) fun _=> ?_
  refine Z5.w Gq_ (by omega) ?_
  simp only[PB,Ac,W_oS,Aa,W_mv,Ab,T.get_set,reduceIte,Ai,reduceCtorEq, ↓reduceIte,h,Bg Tr (by decide)]
  refine W.load1 DH (h4.same (s':=(s.cxN cxN).rdN (D+(0+4))) rfl rfl).at' ?_
  have y2:=y1.thenRd hb0 (D+(0+4))
  try simp only[Ac,W_oS,W_on,Aa,W_mv,Ab,Ap,T.get_set,Ag,Af,Ar,Aq,Ae,Ah,reduceIte,Ak,As,Av,Aw,Ao,Aj,An,Au,Al,Ai,Nat.reduceEqDiff,reduceCtorEq, ↓reduceIte]
  refine W.cond (v:=false) YY YO (by simp[T.get_set]) (by omega) (fun h=>by cases h) fun _=> ?_
  exact work _ _ _ _ (by omega) WC_ rfl (y2.gw hb0 fun _ _ h=>h.elim) (h5.same rfl rfl) (by simp[T.get_set,h]) (by simp[T.get_set,h1]) (by simp)
 |true=>
  simp only[W_oS,Aa,reduceIte,Ak,As,Aj,An,Al,Ai, ↓reduceIte,Bg Yh (by decide)]
  refine W.load1 BN (h5.same (s':=(s.cxN cxN).rdN (D+(0+4))) rfl rfl).at' ?_
  have y2:=y1.thenRd hb0 (D+(0+5))
  simp only[BW]
  by_cases hl:left=0
  ·refine W.cond (v:=true) T6 Sl (by simp[T.get_set,hl]) (by omega) (fun _=> ?_) fun h=>by cases h
   refine Afs_.w Adj_ (by omega) ?_
   simp only[WE,Ac,W_oS,Aa,W_mv,T.get_set,reduceIte,Ai,reduceCtorEq, ↓reduceIte,h,Bg TW (by decide)]
   refine W.store1 DH rfl (h6.same (s':=((s.cxN cxN).rdN (D+(0+4))).rdN (D+(0+5))) rfl rfl) fun s3 n3 x3 o3=> ?_
   have y3:Ext Any (fun y=>y=D+6) (s.cxN cxN) s3:=(y2.gw hb0 fun _ _ h=>h.elim).on x3 hb0 fun y _ hq=>by have:=In1.1 (show In (D+6) 0 1 y from⟨by have:=hq.1;omega,by have:=hq.2;omega⟩);omega
   try simp only[Ac,W_oS,W_on,Aa,W_mv,Ab,Ap,T.get_set,Ag,Af,Ar,Aq,Ae,Ah,reduceIte,Ak,As,Av,Aw,Ao,Aj,An,Au,Al,Ai,Nat.reduceEqDiff,reduceCtorEq, ↓reduceIte]
   refine Lg_.w Jz_ (by omega) ?_
   simp only[DL_,Aa,W_mv,Ab]
   refine W.end' (rs:=[4]) (vs:=[.int .i64 10]) SU_ (.inl AdV_) (by omega) OW Ai_ y3.cx (by simp[T.get_set]) ?_
   exact q1 ⟨rfl,hl⟩ _ n3 y3.cx' (o3.same rfl rfl)
  ·refine W.cond (v:=false) T6 Sl (by simp[T.get_set,hl]) (by omega) (fun h=>by cases h) fun _=> ?_
   refine Z5.w Gq_ (by omega) ?_
   simp only[PB,Ac,W_oS,Aa,W_mv,Ab,T.get_set,reduceIte,Ai,reduceCtorEq, ↓reduceIte,h,Bg Tr (by decide)]
   refine W.load1 DH (h4.same rfl rfl).at' ?_
   have y3:=y2.thenRd hb0 (D+(0+4))
   try simp only[Ac,W_oS,W_on,Aa,W_mv,Ab,Ap,T.get_set,Ag,Af,Ar,Aq,Ae,Ah,reduceIte,Ak,As,Av,Aw,Ao,Aj,An,Au,Al,Ai,Nat.reduceEqDiff,reduceCtorEq, ↓reduceIte]
   refine W.cond (v:=true) YY YO (by simp[T.get_set]) (by omega) (fun _=> ?_) fun h=>by cases h
   refine YI_.w AfV_ (by omega) ?_
   simp only[BR_,Ac,W_oS,Aa,W_mv,T.get_set,reduceIte,Ai,reduceCtorEq, ↓reduceIte,h,Bg Yh (by decide)]
   refine W.load1 BN (h5.same rfl rfl).at' ?_
   have y4:=y3.thenRd hb0 (D+(0+5))
   simp only[Cc]
   refine W.store1 BN rfl (h5.same rfl rfl) fun s5 n5 x5 o5=> ?_
   have y5:Ext Any (fun y=>y=D+5) (s.cxN cxN) s5:=(y4.gw hb0 fun _ _ h=>h.elim).on x5 hb0 fun y _ hq=>by have h1:=hq.1;have h2:=hq.2;omega
   try simp only[Ac,W_oS,W_on,Aa,W_mv,Ab,Ap,T.get_set,Ag,Af,Ar,Aq,Ae,Ah,reduceIte,Ak,As,Av,Aw,Ao,Aj,An,Au,Al,Ai,Nat.reduceEqDiff,reduceCtorEq, ↓reduceIte]
   exact work _ _ _ _ (by omega) Vh_ n5 y5 o5 (by simp[T.get_set,h]) (by simp[T.get_set,h1]) (by simp[hl])
end
section
variable {E:Env}{s:St}{t:Nat}
end
section
variable {n:Nat}{s:St}{a:ByteArray}{Q:Value→St→Prop}
end
theorem W.pureM {E:Env}{fuel f:Nat}{args:List Value}{v:Value}{s:St}{Q:Value→St→Prop}(ha:args.all plain=true)(h:valR (callF E fuel f args st0)=some v)(hp:plain v=true)(q:Q v s):W (pureM E fuel f args) s Q:=by
 unfold Am.pureM
 rw[h]
 exact W.chk ha (W.chk hp (W.pure q))
def NmOk (a:ByteArray):Prop:=valR (callF envC 1000 33 [.string a] st0)=some (.bool true)
theorem KH_:envS.orc.get 33=some (pureM envC 1000 33):=by kernel_rfl
theorem NC_ {n:Nat}{s:St}{a:ByteArray}{Q:Value→St→Prop}(hb:s.lim≤s.next)(ha:NmOk a)(hn:100≤n)(q: ∀s1,Ext Any Non s s1→Q (.bool true) s1):W (Ay envS (runF envS n) 33 [.string a]) s Q:=W.orc KH_ (W.pureM rfl ha rfl (q s (Ext.refl s)))
theorem VJ:slN envS 23=some 1:=by kernel_rfl
theorem Gg_:appT envS 23 23=some (1,1,false,[.int .u8 0]):=by kernel_rfl
theorem Dl:tyS envS 23=some (1,false):=by kernel_rfl
theorem Cn_ (E:Env)(t t2:Nat)(s x:Value)(st:St)(Q:Value→St→Prop):W (Ba E .append [t,t2] [s,x]) st Q=W (Cj E t t2 s x) st Q:=rfl
theorem WZ {l:List Nat}(h: ∀x∈l,False):l=[]:=by
 cases l with
 |nil=>rfl
 |cons y _=>exact(h y (by simp)).elim
theorem MkS.one {s:St}{sz n:Nat}{l:List Value}{v:Value}{b:Nat}(h:MkS s sz n l v b):oneCell v=true:=by
 rcases h with⟨rfl,_⟩|⟨h,_⟩
 ·rfl
 ·rw[h.val];rfl
theorem Fk_ (l m:List Nat):u8l (l++m)=u8l l++u8l m:=by unfold u8l;rw[List.map_append]
theorem Lj_:Wk=[]:=by kernel_rfl
section
variable {n:Nat}{s:St}
theorem Y8 {C K blk lbk:Nat}{lv bv:Value}{lb l:List Nat}{tm:T Value}{td:List Item}{Q:Value×FrameMode→St→Prop}(hb:s.lim≤s.next)(h6:Own s K 0 (.pointer (some ⟨blk,0,none⟩)))(h4:Own s C 0 bv)(hl:Own s blk 1 lv)(hm:MkS s 1 lb.length (u8l lb) lv lbk)(hB:Bs s bv l)(hz:lb.length+l.length≤5000000)
  (hK: ¬MkF 1 lb.length lbk K) (hbl: ¬MkF 1 lb.length lbk (blk+1)) (t0:T.get tm 0=some (.pointer (some ⟨K,0,none⟩))) (t3:T.get tm 3=some (.pointer (some ⟨C,0,none⟩))) (hT:skim 64 td=ET) (hn:20≤n) (hcx:s.cx=cxN)
  (q: ∀s1 v b,Ext Any (fun x=>x=blk+1∨MkF 1 lb.length lbk x) s s1→Own s1 blk 1 v→MkS s1 1 (lb.length+l.length) (u8l (lb++l)) v b→(b=lbk∧l.length=0∨s.next≤b)→Q (.tuple #[], .run) s1):
  W (runF envS n ⟨36,UW_,EM,tm,td, .run, .normal,none⟩) s Q:=by
 refine JL_.w hT (by omega) ?_
 simp only[GE_,t0,t3,AY]
 refine W.dload CQ ((h6.same (s':=dSt s.mem s.next) rfl rfl).at') fun rd0 hr0=> ?_
 refine W.dload CQ ((h6.same (s':=dSt s.mem s.next) rfl rfl).at') fun rd1 hr1=> ?_
 try simp only[AY]
 rw[W_dq fun s Q=>Ai (s:=s) _ Q]
 dsimp only
 try simp only[AY]
 rw[W_dq fun s Q=>Bg (s:=s) FQ (by decide) Q]
 dsimp only
 try simp only[AY]
 refine W.dload Dl ((hl.same (s':=dSt s.mem s.next) rfl rfl).at') fun rd4 hr4=> ?_
 refine W.dload Dl ((h4.same (s':=dSt s.mem s.next) rfl rfl).at') fun rd5 hr5=> ?_
 try simp only[AY,Ag,Af,Ae]
 refine W.dopG ?_
 rw[Cn_]
 refine W.appV (s:=oSt s.mem s.next) (Nat.le_refl _) Gg_ (hm.same rfl rfl) (hB.same (s':=oSt s.mem s.next) rfl rfl).src.g (by decide) (by decide) (by omega) (by rw[Cn,Nat.mul_one]) (H2 l) fun s2 v2 b2 hb2 mk2 x2=>⟨_,_,x2,fun rd6 wr6 hr6 hw6=> ?_⟩
 have n2:s.next≤s2.next:=x2.nxt
 try simp only[AY]
 rw[W_dq fun s Q=>Ai (s:=s) _ Q]
 dsimp only
 try simp only[AY]
 rw[W_dq fun s Q=>Bg (s:=s) FQ (by decide) Q,Aa]
 refine⟨D9 ?_, ?_⟩
 ·simp only[List.reverse_cons,List.reverse_nil,List.nil_append,List.cons_append,allP,CJ,List.take,DA]
  have lts: ∀x,s.next≤x→ ¬x<s.next:=fun x h=>by omega
  have e0: ∀x,x∈rd0→x=K:=fun x h=>by have:=hr0 x h;omega
  have e6: ∀x,x∈rd6→x<s.next:=fun x h=>(hr6 x h).1
  have w6: ∀x,x∈wr6→x<s.next:=fun x h=>(hw6 x h).1
  have g6: ∀x,x∈wr6→ ¬x∈rd0:=fun x h1 h2=>hK (by have h3:=(hw6 x h1).2;rw[e0 x h2]at h3;exact h3)
  have a6: ∀x,x∈rd6→s.next≤x→False:=fun x h1 h2=>by have:=e6 x h1;omega
  have b6: ∀x,x∈wr6→s.next≤x→False:=fun x h1 h2=>by have:=w6 x h1;omega
  simp+contextual [lts,g6]
  exact⟨.inl rfl, .inl rfl, .inl rfl⟩
 ·refine W.cast (Sg_ _ _ _ _ _ _ _ _ _ _ _ _ _ _) ?_
  simp only[Ac,W_oS,Aa]
  generalize hs':(⟨(dSt s2.mem s2.next).mem,(dSt s2.mem s2.next).next,s.lim,_,_,s.cx⟩:St)=s7
  have m7:s7.mem=s2.mem:=by rw[←hs'];rfl
  have n7:s7.next=s2.next:=by rw[←hs'];rfl
  have x7:Ext Any (fun x=>MkF 1 lb.length lbk x) s s7:=by
   rw[←hs']
   refine Ext.drawG (by show s.next≤s2.next;omega) (fun x hx hg=>x2.mem x hx hg) ?_ fun _ _ _ _ _=>trivial
   simp only[List.mem_cons,List.not_mem_nil,or_false]
   rintro m (rfl|rfl|rfl|rfl|rfl|rfl|rfl|rfl|rfl) x hx hxl<;>first|(cases hx;done)|exact(hw6 x hx).2
  have hl7:Own s7 blk 1 lv:=hl.ext x7 hbl
  refine W.store1 Dl mk2.one (hl7.same rfl rfl) fun s8 n8 x8 o8=> ?_
  try simp only[Ac,W_oS,W_on,Aa,W_mv,Ab,Ap,T.get_set,Ag,Af,Ar,Aq,Ae,Ah,reduceIte,Ak,As,Av,Aw,Ao,Aj,An,Au,Al,Ai,Nat.reduceEqDiff,reduceCtorEq, ↓reduceIte]
  have y8:Ext Any (fun x=>x=blk+1∨MkF 1 lb.length lbk x) s s8:=(x7.gw hb fun _ _ h=> .inr h).on x8 hb fun y _ hq=> .inl (by have h1:=hq.1;have h2:=hq.2;omega)
  refine W.end' (rs:=[]) (vs:=[]) AcZ_ (.inr Lj_) (by omega) ZS Nw_ (y8.cx.trans hcx) rfl ?_
  have mk8:MkS s8 1 (lb.length+l.length) (u8l (lb++l)) v2 b2:=by
   rw[Fk_]
   refine(mk2.same m7 n7).ext x8 fun x hx hq=> ?_
   have h1:=hq.1
   have h2:=hq.2
   have hxe:x=blk+1:=by omega
   subst hxe
   rcases hb2 with h|h
   ·rw[h.1,h.2,Nat.add_zero]at hx
    exact hbl hx
   ·have h3:=hx.2.1
    have h4:=hl.1
    have h5:(oSt s.mem s.next).next≤b2:=h
    have h6:s.next≤b2:=h5
    omega
  exact q s8 v2 b2 y8 o8 mk8 hb2
end
def Bh (fs:List FileS)(a:ByteArray):Option Nat:=(fs.map FileS.name).findIdx? fun b=>a==b
def BG (fs:List FileS)(a:ByteArray):Value:=match Bh fs a with
 |none=> .pointer none
 |some j=>match fs[j]? with
  |some f=> .pointer (some ⟨f.blk,0,none⟩)
  |none=> .pointer none
theorem Kd (fs:List FileS):(fs.map FileS.ent).map (·.key)=(fs.map FileS.name).map Value.string:=by rw[List.map_map,List.map_map];rfl
theorem Fp {fs:List FileS}{a:ByteArray}{j:Nat}(h:Bh fs a=some j):j<fs.length:=by
 have:=(List.findIdx?_eq_some_iff_getElem.1 h).1
 simpa using this
theorem Gu {s:St}{M mx:Nat}{fs:List FileS}{a:ByteArray}{Q:Value→St→Prop}(ho:Obj s M (.map (fs.map FileS.ent) mx))(q:Q (BG fs a) (s.rdN M)):W (Cy envS 71 false (.map (some M)) (.string a)) s Q:=by
 unfold BG at q
 cases hj:Bh fs a with
 |none=>
  rw[hj]at q
  exact W.lookS0 KC AdK_ JN (Kd fs) hj ho q
 |some j=>
  rw[hj]at q
  have hlt:=Fp hj
  simp only[List.getElem?_eq_getElem hlt]at q
  exact W.lookS1 (j:=j) (e:=fs[j].ent) KC JN (Kd fs) hj (by rw[List.getElem?_map,List.getElem?_eq_getElem hlt];rfl) ho q
def DkS.used (k:DkS):Nat:=(k.fs.map fun f=>f.sb.length+f.lb.length).sum
theorem DkI.lens {s:St}{col:Nat→Nat}{D M:Nat}{k:DkS}(h:DkI s col D M k): ∀(i:Nat) (e:MapEntry) (n:Nat),(k.fs.map FileS.ent)[i]?=some e→(k.fs.map fun f=>f.sb.length+f.lb.length)[i]?=some n→FL s e n:=by
 intro i e n h1 h2
 rw[List.getElem?_map]at h1 h2
 obtain⟨f,hf,rfl⟩:=Option.map_eq_some_iff.1 h1
 rw[hf]at h2
 cases h2
 obtain⟨hi,rfl⟩:=List.getElem?_eq_some_iff.1 hf
 have g:=h.fl i hi
 obtain⟨p1,c1,e1⟩:=g.ms.sl
 obtain⟨p2,c2,e2⟩:=g.ml.sl
 have o0:=g.o0
 have o1:=g.o1
 rw[e1]at o0
 rw[e2]at o1
 exact⟨_,p1,_,c1,p2,_,c2,rfl,o0.at',o1.at',rfl⟩
structure After (s s1:St)(col col':Nat→Nat)(D M:Nat)(k:DkS):Prop where
 inv:DkI s1 col' D M k
 agree: ∀x,x<s.next→col' x=col x
 ext:Ext Any (fun x=>col x<1000) s s1
def A9 (k:DkS)(a:ByteArray)(blk:Nat)(v:Value)(b:Nat)(l:List Nat):List FileS:=match Bh k.fs a with
 |some j=>match k.fs[j]? with
  |some f=>k.fs.set j {f with lv:=v,lbk:=b,lb:=f.lb++l}
  |none=>k.fs
 |none=>k.fs++[⟨a,k.mx,blk, .slice none 0 0,0,[],v,b,l⟩]
def Ej (k:DkS)(a:ByteArray):Nat:=match Bh k.fs a with|some _=>k.mx|none=>k.mx+1
theorem AcF_ (a b:Int){E:Env}{s:St}{xo yo:Operand}{t:Nat}(Q:Value→St→Prop):W (Cl.get (aBin E .add t xo yo) (.int .i64 a) (.int .i64 b)) s Q=Q (.int .i64 (wrap64 (a+b))) s:=Bp (Vu _ a b)
theorem Z3 {e:MapEntry}: ∀{es:List MapEntry} {lo n:Nat},BT es lo n=true→lo≤n→e.born=n→BT (es++[e]) lo (n+1)=true
 |[],lo,n,_,hle,he=>by
  show(Nat.ble lo e.born&&Nat.blt e.born (n+1)&&BT [] (e.born+1) (n+1))=true
  rw[he,Nat.ble_eq_true_of_le hle,B1 (by omega)]
  rfl
 |x::es,lo,n,h,hle,he=>by
  unfold BT at h
  rw[Bool.and_eq_true,Bool.and_eq_true]at h
  have h2:x.born<n:=Nat.le_of_ble_eq_true h.1.2
  show(Nat.ble lo x.born&&Nat.blt x.born (n+1)&&BT (es++[e]) (x.born+1) (n+1))=true
  rw[h.1.1,B1 (by omega),Z3 h.2 (by omega) he]
  rfl
theorem Vp {α:Type}(x y:α): ∀l:List α,(l++[x]).set l.length y=l++[y]
 |[]=>rfl
 |z::l=>by
  show z::(l++[x]).set l.length y=z::(l++[y])
  rw[Vp x y l]
theorem QW_ {l:List Nat}{i:Nat}(h:i<l.length):l[i]≤l.sum:=by
 have e:l=l.take i++l[i]::l.drop (i+1):=by rw[List.getElem_cons_drop,List.take_append_drop]
 have:l.sum=(l.take i).sum+(l[i]+(l.drop (i+1)).sum):=by
  conv=>lhs;rw[e]
  rw[List.sum_append,List.sum_cons]
 omega
theorem DkS.used_at {k:DkS}{j:Nat}(h:j<k.fs.length):k.fs[j].sb.length+k.fs[j].lb.length≤k.used:=by
 unfold DkS.used
 have:=QW_ (l:=k.fs.map fun f=>f.sb.length+f.lb.length) (i:=j) (by simpa using h)
 simpa using this
theorem DkI.file {F G:Nat→Prop}{s s':St}{col col':Nat→Nat}{D M j:Nat}{k:DkS}{f':FileS}(h:DkI s col D M k)(hj:j<k.fs.length)(x:Ext F G s s')(hG: ∀y,y<s.next→G y→2+3*j≤col y∧col y≤2+3*j+2)(ec: ∀y,y<s.next→col' y=col y)(hf:FileI s' col' (2+3*j) f')(he:f'.ent=k.fs[j].ent):DkI s' col' D M {k with fs:=k.fs.set j f'}:=by
 have c: ∀o,o<7→D+o<s.next→ ¬G (D+o):=fun o ho hn g=>by
  have h1:=hG _ hn g
  have h2:=h.kd (D+o) (by omega) (by omega)
  omega
 have em:(k.fs.set j f').map FileS.ent=k.fs.map FileS.ent:=by
  rw[List.map_set,he]
  apply List.ext_getElem
  ·simp
  ·intro i h1 h2
   rw[List.getElem_set]
   by_cases c:j=i
   ·subst c;simp
   ·simp[c]
 have b6:=h.d6.1
 refine⟨h.d0.ext x (c 0 (by decide) h.d0.1),h.d1.ext x (c 1 (by decide) h.d1.1),h.d2.ext x (c 2 (by decide) h.d2.1),h.d3.ext x (c 3 (by decide) h.d3.1),h.d4.ext x (c 4 (by decide) h.d4.1),h.d5.ext x (c 5 (by decide) h.d5.1),h.d6.ext x (c 6 (by decide) h.d6.1),fun y h1 h2=>(ec y (by omega)).trans (h.kd y h1 h2), ?_,(ec M h.om.1).trans h.km, ?_,fun i hi=> ?_⟩
 ·show Obj s' M (.map ((k.fs.set j f').map FileS.ent) k.mx)
  rw[em]
  exact h.om.ext x fun g=>by
   have h1:=hG _ h.om.1 g
   have h2:=h.km
   omega
 ·show BT ((k.fs.set j f').map FileS.ent) 0 k.mx=true
  rw[em]
  exact h.bo
 ·show FileI s' col' (2+3*i) (k.fs.set j f')[i]
  by_cases q:i=j
  ·subst q
   rw[List.getElem_set_self]
   exact hf
  ·have hi':i<k.fs.length:=by simpa using hi
   rw[List.getElem_set_ne (by omega)]
   refine((h.fl i hi').col ec).ext x fun y hy g=> ?_
   have h1:=hG y hy g
   rw[ec y hy]
   omega
theorem DkI.newF {s s':St}{F:Nat→Prop}{col col':Nat→Nat}{D M:Nat}{k:DkS}{f:FileS}(h:DkI s col D M k)(x:Ext F (fun y=>y=M) s s')(ec: ∀y,y<s.next→col' y=col y)(hM:Obj s' M (.map (k.fs.map FileS.ent++[f.ent]) (k.mx+1)))(hb:f.born=k.mx)(hf:FileI s' col' (2+3*k.fs.length) f):DkI s' col' D M {k with fs:=k.fs++[f],mx:=k.mx+1}:=by
 have c: ∀o,o<7→ ¬D+o=M:=fun o ho e=>by
  have h2:=h.kd (D+o) (by omega) (by omega)
  rw[e,h.km]at h2
  omega
 have b6:=h.d6.1
 refine⟨h.d0.ext x (c 0 (by decide)),h.d1.ext x (c 1 (by decide)),h.d2.ext x (c 2 (by decide)),h.d3.ext x (c 3 (by decide)),h.d4.ext x (c 4 (by decide)),h.d5.ext x (c 5 (by decide)),h.d6.ext x (c 6 (by decide)),fun y h1 h2=>(ec y (by omega)).trans (h.kd y h1 h2), ?_,(ec M h.om.1).trans h.km, ?_,fun i hi=> ?_⟩
 ·show Obj s' M (.map ((k.fs++[f]).map FileS.ent) (k.mx+1))
  rw[List.map_append]
  exact hM
 ·show BT ((k.fs++[f]).map FileS.ent) 0 (k.mx+1)=true
  rw[List.map_append]
  exact Z3 h.bo (Nat.zero_le _) hb
 ·show FileI s' col' (2+3*i) (k.fs++[f])[i]
  have hi':i<k.fs.length+1:=by simpa using hi
  rcases Nat.lt_or_ge i k.fs.length with q|q
  ·rw[List.getElem_append_left q]
   refine((h.fl i q).col ec).ext x fun y hy g=> ?_
   rw[ec y hy,g,h.km]
   omega
  ·have:i=k.fs.length:=by omega
   subst this
   rw[List.getElem_append_right (Nat.le_refl _)]
   simp only[Nat.sub_self,List.getElem_cons_zero]
   exact hf
theorem FileI.loose {G:Nat→Prop}{s s':St}{F:Nat→Prop}{col:Nat→Nat}{c b:Nat}{v:Value}{m:List Nat}{f:FileS}(h:FileI s col c f)(x:Ext F (fun y=>y=f.blk+1∨MkF 1 f.lb.length f.lbk y) s s')(ho:Own s' f.blk 1 v)(hm:MkS s' 1 m.length (u8l m) v b)(hb:b=f.lbk∧m.length=f.lb.length∨s.next≤b):FileI s' (Bq col s.next (c+2)) c {f with lv:=v,lbk:=b,lb:=m}:=by
 have b0:=h.o0.1
 have b1:=h.o1.1
 refine⟨h.o0.ext x fun g=> ?_,ho,fun y h1 h2=>(BH (by have h3:y<f.blk+2:=h2;omega)).trans (h.k y h1 h2),h.ms.ext x fun y hy g=> ?_,fun y hy=>(BH (h.ms.lt y hy)).trans (h.ks y hy),hm,fun y hy=> ?_⟩
 ·rcases g with g|g
  ·omega
  ·have h1:=h.kl _ g
   have h2:=h.k (f.blk+0) (by omega) (by omega)
   omega
 ·have h1:=h.ks y hy
  rcases g with g|g
  ·have h2:=h.k y (by omega) (by omega)
   omega
  ·have h2:=h.kl y g
   omega
 ·have hy':MkF 1 m.length b y:=hy
  rcases hb with⟨h1,h2⟩|h1
  ·rw[h1,h2]at hy'
   exact(BH (h.ml.lt y hy')).trans (h.kl y hy')
  ·exact DQ (by have:=hy'.2.1;omega)
theorem AeF_:F4 envS 83 []=some [.slice none 0 0, .slice none 0 0]:=by kernel_rfl
section
variable {n D M C K:Nat}{s:St}{k:DkS}{col:Nat→Nat}{a:ByteArray}{bv:Value}{l:List Nat}
theorem VD_ {Q:Value→St→Prop}(hb:s.lim≤s.next)(hI:DkI s col D M k)(hlen:k.fs.length≤300)(hB:Bs s bv l)(hC:Own s C 0 (.pointer (some ⟨D,0,none⟩)))(hC2:Own s (C+2) 0 (.string a))(hC4:Own s (C+4) 0 bv)(hK:Own s K 0 (BG k.fs a))(kC: ∀x,C≤x→x<C+6→1000≤col x)(kK:1000≤col K)(hBc: ∀x,BsF bv x→x≠K∧1000≤col x)(hKC:K<C∨C+6≤K)(hz:k.used+l.length≤4000000)(hn:100≤n)
  (q: ∀s1 col' blk v b,DkI s1 col' D M {k with fs:=A9 k a blk v b l,mx:=Ej k a}→(∀x,x<s.next→col' x=col x)→Ext Any (fun x=>col x<1000∨x=K) s s1→Q (.tuple #[]) s1):
  W (Ay envS (runF envS n) 36 [.pointer (some ⟨K,0,none⟩), .pointer (some ⟨C,0,none⟩), .pointer (some ⟨C+2,0,none⟩), .pointer (some ⟨C+4,0,none⟩)]) s Q:=by
 have hb0:(s.cxN cxN).lim≤(s.cxN cxN).next:=hb
 refine AaS_ fun tm t0 t1 t2 t3=> ?_
 refine TO_.w rfl (by omega) ?_
 simp only[Be_,Ac,W_oS,Aa,Ab,t0]
 refine W.load1 CQ (hK.same (s':=s.cxN cxN) rfl rfl).at' ?_
 have y1:=(Ext.refl (F:=Any) (G:=Non) (s.cxN cxN)).thenRd hb0 (K+0)
 have hI1:DkI ((s.cxN cxN).rdN (K+0)) col D M k:=hI.same rfl rfl
 have o1:Own ((s.cxN cxN).rdN (K+0)) K 0 (BG k.fs a):=hK.same rfl rfl
 have c0:Own ((s.cxN cxN).rdN (K+0)) C 0 (.pointer (some ⟨D,0,none⟩)):=hC.same rfl rfl
 have c2:Own ((s.cxN cxN).rdN (K+0)) (C+2) 0 (.string a):=hC2.same rfl rfl
 have c4:Own ((s.cxN cxN).rdN (K+0)) (C+4) 0 bv:=hC4.same rfl rfl
 have hB1:Bs ((s.cxN cxN).rdN (K+0)) bv l:=hB.same rfl rfl
 have hn1:((s.cxN cxN).rdN (K+0)).next=s.next:=rfl
 generalize (s.cxN cxN).rdN (K+0)=s1 at *
 cases hj:Bh k.fs a with
 |some j=>
  have hlt:=Fp hj
  have hv:BG k.fs a= .pointer (some ⟨k.fs[j].blk,0,none⟩):=by
   unfold BG
   rw[hj]
   simp only[List.getElem?_eq_getElem hlt]
  have hadd: ∀blk v b,A9 k a blk v b l=k.fs.set j {k.fs[j]with lv:=v,lbk:=b,lb:=k.fs[j].lb++l}:=fun blk v b=>by
   unfold A9
   rw[hj]
   simp only[List.getElem?_eq_getElem hlt]
  have hmx:Ej k a=k.mx:=by unfold Ej;rw[hj]
  rw[hv]at o1 ⊢
  have g:=hI1.fl j hlt
  have hused:=DkS.used_at hlt
  simp only[C8 FK]
  refine W.cond (v:=false) GU_ BF_ (by simp[T.get_set]) (by omega) (fun h=>by cases h) fun _=> ?_
  refine Y8 (C:=C+4) (K:=K) (y1.bnd hb0) o1 c4 g.o1 g.ml hB1 (by omega) (fun h=>by have:=g.kl _ h;omega) (fun h=>by have h1:=g.kl _ h;have h2:=g.k _ (show k.fs[j].blk≤k.fs[j].blk+1 by omega) (by omega);omega) (by simp[T.get_set,t0]) (by simp[T.get_set,t3]) SQ_ (by omega) y1.cx fun s2 v b x2 o2 mk2 hb2=> ?_
  have hf:FileI s2 (Bq col s1.next (2+3*j+2)) (2+3*j) {k.fs[j]with lv:=v,lbk:=b,lb:=k.fs[j].lb++l}:=g.loose (G:=Non) x2 o2 (by rw[List.length_append];exact mk2) (hb2.imp (fun h=>⟨h.1,by rw[List.length_append,h.2,Nat.add_zero]⟩) fun h=>h)
  have hD:=hI1.file hlt x2 (fun y hy h=>by
   rcases h with rfl|h
   ·have:=g.k _ (show k.fs[j].blk≤k.fs[j].blk+1 by omega) (by omega)
    omega
   ·have:=g.kl y h
    omega) (fun y hy=>BH hy) hf rfl
  refine q (s2.cxN s.cx) (Bq col s1.next (2+3*j+2)) 0 v b ?_ (fun x hx=>BH (by omega)) ((y1.gw hb0 fun _ _ h=>h.elim).on x2 hb0 fun y hy h=> .inl ?_).cx'
  ·rw[hadd,hmx]
   exact hD.same rfl rfl
  ·rcases h with rfl|h
   ·have:=g.k _ (show k.fs[j].blk≤k.fs[j].blk+1 by omega) (by omega)
    omega
   ·have:=g.kl y h
    omega
 |none=>
  have hv:BG k.fs a= .pointer none:=by unfold BG;rw[hj]
  have hadd: ∀blk v b,A9 k a blk v b l=k.fs++[⟨a,k.mx,blk, .slice none 0 0,0,[],v,b,l⟩]:=fun blk v b=>by unfold A9;rw[hj]
  have hmx:Ej k a=k.mx+1:=by unfold Ej;rw[hj]
  rw[hv]at o1 ⊢
  simp only[M8]
  refine W.cond (v:=true) GU_ BF_ (by simp[T.get_set]) (by omega) (fun _=> ?_) fun h=>by cases h
  refine Jl_.w Afp_ (by omega) ?_
  simp only[FH_,Ac,W_oS,Aa,T.get_set,Aq,reduceIte,reduceCtorEq, ↓reduceIte,Ff AeF_,t0]
  refine W.box fun s2 n2 x2 r2=> ?_
  rw[Rb]at n2 r2
  have n2':s2.next=s.next+3:=by rw[n2,hn1];rfl
  rw[hn1]at r2 ⊢
  have y2:=y1.on x2 hb0 fun _ _ h=>h
  try simp only[Ac,W_oS,W_on,Aa,W_mv,Ab,Ap,T.get_set,Ag,Af,Ar,Aq,Ae,Ah,reduceIte,Ak,As,Av,Aw,Ao,Aj,An,Au,Al,Ai,Nat.reduceEqDiff,reduceCtorEq, ↓reduceIte]
  refine W.store1 CQ rfl (o1.ext0 x2) fun s3 n3 x3 o3=> ?_
  have x3':Ext Any (fun y=>y=K) s2 s3:=x3.weak (y2.bnd hb0) (fun _ _ _=>trivial) fun y _ hq=>by have h1:=hq.1;have h2:=hq.2;omega
  have y3:Ext Any (fun x=>col x<1000∨x=K) (s.cxN cxN) s3:=(y2.gw hb0 fun _ _ h=>h.elim).on x3' hb0 fun y _ h=> .inr h
  have hKs:K<s.next:=by have:=o1.1;omega
  have hI3:DkI s3 col D M k:=(hI1.ext0 x2 hlen).ext x3' hlen fun y _ h=>by subst h;exact kK
  have r3:Bc s3 s.next 0 [.slice none 0 0, .slice none 0 0]:=r2.ext x3' fun i hi h=>by omega
  have c03:=(c0.ext0 x2).ext x3' fun h=>by omega
  have c23:=(c2.ext0 x2).ext x3' fun h=>by omega
  have c43:=(c4.ext0 x2).ext x3' fun h=>by omega
  have hB3:Bs s3 bv l:=(hB1.ext0 x2).ext x3' fun x hx h=>(hBc x hx).1 h
  have n3':s3.next=s.next+3:=by omega
  try simp only[Ac,W_oS,W_on,Aa,W_mv,Ab,Ap,T.get_set,Ag,Af,Ar,Aq,Ae,Ah,reduceIte,Ak,As,Av,Aw,Ao,Aj,An,Au,Al,Ai,Nat.reduceEqDiff,reduceCtorEq, ↓reduceIte]
  refine UZ_.w Zs_ (by omega) ?_
  simp only[Hl_,T.get_set,Nat.reduceEqDiff,reduceIte,t0,t1,t2,AY]
  refine W.dload Cs ((c03.same (s':=dSt s3.mem s3.next) rfl rfl).at') fun rd0 hr0=> ?_
  try simp only[AY]
  rw[W_dq fun s Q=>Ai (s:=s) _ Q]
  dsimp only
  try simp only[AY]
  rw[W_dq fun s Q=>Bg (s:=s) DE (by decide) Q]
  dsimp only
  try simp only[AY]
  refine W.dload DI ((hI3.d1.same (s':=dSt s3.mem s3.next) rfl rfl).at') fun rd3 hr3=> ?_
  refine W.dload CN ((c23.same (s':=dSt s3.mem s3.next) rfl rfl).at') fun rd4 hr4=> ?_
  refine W.dload CQ ((o3.same (s':=dSt s3.mem s3.next) rfl rfl).at') fun rd5 hr5=> ?_
  rw[Aa]
  refine⟨Ed (by simp) (by simp), ?_⟩
  refine W.cast (XJ_ _ _ _ _ _ _ _ _ _ _ _) ?_
  simp only[Ac,W_on,Aa]
  generalize hs':(⟨(dSt s3.mem s3.next).mem,(dSt s3.mem s3.next).next,s3.lim,_,_,s3.cx⟩:St)=s4
  have x4:Ext Any Non s3 s4:=by
   rw[←hs']
   exact Ext.draw (F:=Any) (Nat.le_refl _) (fun _ _=>rfl) (by simp) fun _ _ _ _ _=>trivial
  have y4:=y3.on x4 hb0 fun _ _ h=>h.elim
  have hI4:=hI3.ext0 x4 hlen
  have n4:s4.next=s3.next:=by rw[←hs'];rfl
  refine W.mapUpS0 KC JN (Kd k.fs) hj hI4.om fun s5 n5 x5 o5=> ?_
  have y5:=y4.on x5 hb0 fun y _ h=> .inl (by rw[h];have:=hI4.km;omega)
  try simp only[Ac,W_oS,W_on,Aa,W_mv,Ab,Ap,T.get_set,Ag,Af,Ar,Aq,Ae,Ah,reduceIte,Ak,As,Av,Aw,Ao,Aj,An,Au,Al,Ai,Nat.reduceEqDiff,reduceCtorEq, ↓reduceIte]
  have hMs:M<s.next:=hI.om.1
  have r5:Bc s5 s.next 0 [.slice none 0 0, .slice none 0 0]:=(Bc.ext0 r3 x4).ext x5 fun i hi h=>by omega
  have hf5:FileI s5 (Bq col s.next (2+3*k.fs.length)) (2+3*k.fs.length) ⟨a,k.mx,s.next, .slice none 0 0,0,[], .slice none 0 0,0,[]⟩:=
   ⟨r5 0 _ rfl,r5 1 _ rfl,fun y h1 _=>DQ h1, .inl ⟨rfl,rfl,rfl⟩,fun y hy=>absurd hy.1 (Nat.lt_irrefl 0), .inl ⟨rfl,rfl,rfl⟩,fun y hy=>absurd hy.1 (Nat.lt_irrefl 0)⟩
  have hI4':DkI s4 (Bq col s.next (2+3*k.fs.length)) D M k:=⟨hI4.d0,hI4.d1,hI4.d2,hI4.d3,hI4.d4,hI4.d5,hI4.d6,fun x h1 h2=>(BH (by have:=hI.d6.1;omega)).trans (hI4.kd x h1 h2),hI4.om,(BH hMs).trans hI4.km,hI4.bo,fun i hi=>by
   have g1:=(hI1.fl i hi).col (col':=Bq col s.next (2+3*k.fs.length)) fun x hx=>BH (by omega)
   have g2:=g1.ext x2 fun _ _ h=>h.elim
   have g3:=g2.ext x3' fun y hy h=>by
    rw[h,BH hKs]
    omega
   exact g3.ext x4 fun _ _ h=>h.elim⟩
  have hI5:=hI4'.newF (f:=⟨a,k.mx,s.next, .slice none 0 0,0,[], .slice none 0 0,0,[]⟩) x5 (fun _ _=>rfl) o5 rfl hf5
  have hlt5:k.fs.length<(k.fs++[(⟨a,k.mx,s.next, .slice none 0 0,0,[], .slice none 0 0,0,[]⟩:FileS)]).length:=by simp
  have g5:FileI s5 (Bq col s.next (2+3*k.fs.length)) (2+3*k.fs.length) ⟨a,k.mx,s.next, .slice none 0 0,0,[], .slice none 0 0,0,[]⟩:=hf5
  have o5K:Own s5 K 0 (.pointer (some ⟨s.next,0,none⟩)):=(Own.ext0 o3 x4).ext x5 fun h=>by
   have h1:K=M:=by omega
   have h2:=hI.km
   rw[←h1]at h2
   omega
  have c45:Own s5 (C+4) 0 bv:=(Own.ext0 c43 x4).ext x5 fun h=>by
   have h1:C+4=M:=by omega
   have h2:=kC (C+4) (by omega) (by omega)
   rw[h1,hI.km]at h2
   omega
  have hB5:Bs s5 bv l:=(Bs.ext0 hB3 x4).ext x5 fun x hx h=>by
   have h1:=(hBc x hx).2
   rw[h,hI.km]at h1
   omega
  refine Y8 (C:=C+4) (K:=K) (lb:=[]) (lbk:=0) (blk:=s.next) (y5.bnd hb0) o5K c45 g5.o1 g5.ml hB5 (by simp;omega) (fun h=>absurd h.1 (Nat.lt_irrefl 0)) (fun h=>absurd h.1 (Nat.lt_irrefl 0)) (by simp[T.get_set,t0]) (by simp[T.get_set,t3]) MO_ (by omega) y5.cx fun s6 v b x6 o6 mk6 hb6=> ?_
  have hf6:=g5.loose (G:=Non) (m:=[]++l) x6 o6 (by rw[List.nil_append];simpa using mk6) (hb6.imp (fun h=>⟨h.1,by rw[List.nil_append,h.2];rfl⟩) fun h=>h)
  rw[List.nil_append]at hf6
  have hD:=hI5.file (j:=k.fs.length) hlt5 x6 (fun y hy h=>by
   rcases h with rfl|h
   ·rw[DQ (by omega)]
    omega
   ·exact absurd h.1 (Nat.lt_irrefl 0)) (fun y hy=>BH hy) hf6 (by
   show _=((k.fs++[(⟨a,k.mx,s.next, .slice none 0 0,0,[], .slice none 0 0,0,[]⟩:FileS)])[k.fs.length]'hlt5).ent
   rw[List.getElem_append_right (Nat.le_refl _)]
   simp only[Nat.sub_self,List.getElem_cons_zero]
   rfl)
  have y6:=y5.on x6 hb0 fun y hy h=>by
   rcases h with rfl|h
   ·have h1:s.next+1<s.next:=hy
    omega
   ·exact absurd h.1 (Nat.lt_irrefl 0)
  refine q (s6.cxN s.cx) (Bq (Bq col s.next (2+3*k.fs.length)) s5.next (2+3*k.fs.length+2)) s.next v b ?_ (fun x hx=>(BH (by have:=y5.nxt;have e:(s.cxN cxN).next=s.next:=rfl;omega)).trans (BH hx)) y6.cx'
  rw[hadd,hmx]
  have: ∀f':FileS,(k.fs++[(⟨a,k.mx,s.next, .slice none 0 0,0,[], .slice none 0 0,0,[]⟩:FileS)]).set k.fs.length f'=k.fs++[f']:=fun f'=>Vp _ _ _
  have hD':=hD.same (s':=s6.cxN s.cx) rfl rfl
  simp only[this]at hD'
  exact hD'
end
theorem Aew_:envS.orc.get 34=some usedM:=by kernel_rfl
theorem Fa {call round:Ad}{f:Nat}{l:List Value}:AL call round (.func (.func f) #[] #[]) l=call f l:=by
 show call f ([]++(l++[]))=_
 rw[List.append_nil,List.nil_append]
theorem Bs.lenq {E:Env}{s s':St}{t sz:Nat}{v:Value}{l:List Nat}(h:Bs s v l)(ht:slN E t=some sz)(Q:Value→St→Prop):W (Ba E .len [t] [v]) s' Q=Q (.int .i64 (l.length:Nat)) s':=by
 obtain⟨p,c,rfl⟩:=h.sl
 exact CU ht Q
theorem Bs.oneq {s:St}{v:Value}{l:List Nat}(h:Bs s v l):oneCell v=true:=by
 obtain⟨p,c,rfl⟩:=h.sl
 rfl
theorem W.usedD {D Mp:Nat}{k:DkS}{col:Nat→Nat}{s:St}{β:Type}{n:Nat}{f:Value×OpLog→M β}{Q:β→St→Prop}(hI:DkI s col D Mp k)(hz:k.used≤5000000)(q: ∀rd,(∀x∈rd,x<s.next)→W (f (.int .i64 (k.used:Nat),⟨s.next,s.next,rd,[]⟩)) (dSt s.mem s.next) Q):W (M.bind (apartO (Ay envS (runF envS n) 34 [.pointer (some ⟨D,0,none⟩)])) f) (dSt s.mem s.next) Q:=by
 refine W.dop (W.orc Aew_ (W.used (s:=oSt s.mem s.next) (Nat.le_refl _) (hI.d0.same rfl rfl).at' (hI.d1.same rfl rfl).at' (hI.om.same rfl rfl) hI.bo (ns:=k.fs.map fun f=>f.sb.length+f.lb.length) (by simp) (fun i e n h1 h2=>(hI.lens i e n h1 h2).same rfl rfl) fun s1 m1 n1 x1=>⟨Any,x1,fun rd hr=> ?_⟩))
 have e:wrap64 (((k.fs.map fun f=>f.sb.length+f.lb.length).sum:Nat):Int)=((k.used:Nat):Int):=by
  show wrap64 ((k.used:Nat):Int)=_
  exact BZ (by omega) (by omega)
 rw[e,m1,n1]
 exact q rd fun x hx=>(hr x hx).1
theorem DkI.own {F G:Nat→Prop}{s s':St}{col:Nat→Nat}{D M:Nat}{k:DkS}{st le:Int}{fu ou:Bool}(h:DkI s col D M k)(x:Ext F G s s')(hG: ∀y,y<s.next→G y→D+3≤y∧y<D+7)(h3:Own s' D 3 (.int .i64 st))(h4:Own s' D 4 (.bool fu))(h5:Own s' D 5 (.int .i64 le))(h6:Own s' D 6 (.bool ou)):DkI s' col D M {k with steps:=st,fused:=fu,left:=le,out:=ou}:=by
 have c: ∀o,o<3→D+o<s.next→ ¬G (D+o):=fun o ho hn g=>by have:=hG _ hn g;omega
 have z: ∀y,y<s.next→G y→col y=0:=fun y hy g=>h.kd y (by have:=hG y hy g;omega) (by have:=hG y hy g;omega)
 exact⟨h.d0.ext x (c 0 (by decide) h.d0.1),h.d1.ext x (c 1 (by decide) h.d1.1),h.d2.ext x (c 2 (by decide) h.d2.1),h3,h4,h5,h6,h.kd,h.om.ext x fun g=>by
  have h1:=z _ h.om.1 g
  have h2:=h.km
  omega,h.km,h.bo,fun i hi=>(h.fl i hi).ext x fun y hy g=>by
  have h1:=z y hy g
  omega⟩
section
variable {n D M:Nat}{s:St}{k:DkS}{col:Nat→Nat}{a:ByteArray}{bv:Value}{l:List Nat}{Q:Value→St→Prop}
theorem Xv_ (hb:s.lim≤s.next)(hI:DkI s col D M k)(hlen:k.fs.length≤300)(ha:NmOk a)(hB:Bs s bv l)(hBc: ∀x,BsF bv x→x<s.next∧1000≤col x)(hz:k.used+l.length≤4000000)(hn:400≤n)
  (q1:k.out=true→ ∀s1 col',After s s1 col col' D M k→Q (.int .i64 10) s1)
  (q2:k.out=false→k.room<(k.used+l.length:Nat)→ ∀s1 col',After s s1 col col' D M k→Q (.int .i64 8) s1)
  (q3:k.out=false→((k.used+l.length:Nat):Int)≤k.room→(k.fused=true∧k.left=0)→ ∀s1 col',After s s1 col col' D M {k with out:=true}→Q (.int .i64 10) s1)
  (q4:k.out=false→((k.used+l.length:Nat):Int)≤k.room→ ¬(k.fused=true∧k.left=0)→ ∀s1 col' blk v b,After s s1 col col' D M {k with fs:=A9 k a blk v b l,mx:=Ej k a,steps:=wrap64 (k.steps+1),left:=if k.fused then wrap64 (k.left-1)else k.left}→Q (.int .i64 0) s1):
  W (Ay envS (runF envS n) 11 [.pointer (some ⟨D,0,none⟩), .string a,bv]) s Q:=by
 have hb0:(s.cxN cxN).lim≤(s.cxN cxN).next:=hb
 have hI0:DkI (s.cxN cxN) (Bq col s.next 1000) D M k:=(hI.col fun x hx=>BH hx).same rfl rfl
 have hag: ∀x,x<s.next→Bq col s.next 1000 x=col x:=fun x hx=>BH hx
 have hnew: ∀x,s.next≤x→Bq col s.next 1000 x=1000:=fun x hx=>DQ hx
 have hBc': ∀x,BsF bv x→1000≤Bq col s.next 1000 x:=fun x hx=>by rw[hag x (hBc x hx).1];exact(hBc x hx).2
 have hDlt:D+6<s.next:=hI.d6.1
 generalize hcol1:Bq col s.next 1000=col1 at *
 refine Nm_ fun tm t0 t1 t2=> ?_
 refine Pu_.w rfl (by omega) ?_
 simp only[At_,Ac,W_oS,Aa,W_mv,Ab,T.get_set,reduceIte,Nat.reduceEqDiff, ↓reduceIte,t0]
 refine W.box fun sa na xa oa=> ?_
 have ea:(s.cxN cxN).next=s.next:=rfl
 rw[DK (show oneCell (.pointer (some ⟨D,0,none⟩))=true from rfl)]at na oa
 rw[ea]at oa na ⊢
 have na':sa.next=s.next+2:=na
 simp only[W_oS,t1]
 refine W.box fun sb nb xb ob=> ?_
 rw[DK (show oneCell (.string a)=true from rfl)]at nb ob
 rw[na']at ob nb ⊢
 have nb':sb.next=s.next+4:=nb
 simp only[W_oS,t2]
 refine W.box fun sc nc xc oc=> ?_
 rw[DK hB.oneq]at nc oc
 rw[nb']at oc nc ⊢
 have nc':sc.next=s.next+6:=nc
 try simp only[Ac,W_oS,W_on,Aa,W_mv,Ab,Ap,T.get_set,Ag,Af,Ar,Aq,Ae,Ah,reduceIte,Ak,As,Av,Aw,Ao,Aj,An,Au,Al,Ai,Nat.reduceEqDiff,reduceCtorEq, ↓reduceIte]
 have yc:=(((Ext.refl (F:=Any) (G:=Non) (s.cxN cxN)).on xa hb0 fun _ _ h=>h).on xb hb0 fun _ _ h=>h).on xc hb0 fun _ _ h=>h
 have c0:Own sc s.next 0 (.pointer (some ⟨D,0,none⟩)):=((oa 0 _ rfl).ext0 xb).ext0 xc
 have c2:Own sc (s.next+2) 0 (.string a):=(ob 0 _ rfl).ext0 xc
 have c4:Own sc (s.next+4) 0 bv:=oc 0 _ rfl
 have hIc:DkI sc col1 D M k:=hI0.ext0 yc hlen
 have hBsc:Bs sc bv l:=(hB.same (s':=s.cxN cxN) rfl rfl).ext0 yc
 refine LY_.w YR_ (by omega) ?_
 simp only[CQ_,Ac,W_oS,W_on,Aa,W_mv,Ab,T.get_set,Ag,Af,Ae,Ah,reduceIte,Nat.reduceEqDiff, ↓reduceIte]
 refine W.load1 Cs c0.at' ?_
 have yd:=yc.thenRd hb0 (s.next+0)
 try simp only[Ac,W_oS,W_on,Aa,W_mv,Ab,Ap,T.get_set,Ag,Af,Ar,Aq,Ae,Ah,reduceIte,Ak,As,Av,Aw,Ao,Aj,An,Au,Al,Ai,Nat.reduceEqDiff,reduceCtorEq, ↓reduceIte]
 refine N5 (o:=k.out) (yd.bnd hb0) (hIc.d0.same rfl rfl) (hIc.d6.same rfl rfl) (by omega) fun s1 m1 n1 x1=> ?_
 have y1:=yd.on x1 hb0 fun _ _ h=>h
 have m1':s1.mem=sc.mem:=m1
 have n1':s1.next=s.next+6:=by have:s1.next=sc.next:=n1;omega
 have hI1:DkI s1 col1 D M k:=hIc.same m1' (by omega)
 have d0:=c0.same m1' (show s1.next=sc.next by omega)
 have d2:=c2.same m1' (show s1.next=sc.next by omega)
 have d4:=c4.same m1' (show s1.next=sc.next by omega)
 have hB1:=hBsc.same m1' (show s1.next=sc.next by omega)
 try simp only[Ac,W_oS,W_on,Aa,W_mv,Ab,Ap,T.get_set,Ag,Af,Ar,Aq,Ae,Ah,reduceIte,Ak,As,Av,Aw,Ao,Aj,An,Au,Al,Ai,Nat.reduceEqDiff,reduceCtorEq, ↓reduceIte]
 refine AdX_.w NK_ (by omega) ?_
 cases ho:k.out with
 |true=>
  simp only[T4,Ac,W_oS,Aa,W_mv,Ab,T.get_set,reduceIte, ↓reduceIte,Bt]
  refine W.cond (v:=true) Wt Gr_ (by simp[T.get_set]) (by omega) (fun _=> ?_) fun h=>by cases h
  refine St_.w Aas_ (by omega) ?_
  simp only[UR,Aa,W_mv,Ab,T.get_set,reduceIte,Nat.reduceEqDiff, ↓reduceIte]
  refine W.end' (rs:=[6]) (vs:=[.int .i64 10]) KN_ (.inl Ic_) (by omega) ID Kn y1.cx (by simp[T.get_set]) ?_
  exact q1 ho _ col1 ⟨hI1.same rfl rfl,hag,(y1.gw hb0 fun _ _ h=>h.elim).cx'⟩
 |false=>
  simp only[T4,Ac,W_oS,Aa,W_mv,Ab,T.get_set,reduceIte,reduceCtorEq, ↓reduceIte,Bt]
  refine W.cond (v:=false) Wt Gr_ (by simp[T.get_set]) (by omega) (fun h=>by cases h) fun _=> ?_
  refine ZA_.w Zm_ (by omega) ?_
  simp only[Yu,T.get_set,Nat.reduceEqDiff,reduceIte,AY]
  refine W.dload Cs ((d0.same (s':=dSt s1.mem s1.next) rfl rfl).at') fun rd0 hr0=> ?_
  try simp only[AY]
  rw[W_dq fun s Q=>Ai (s:=s) _ Q]
  dsimp only
  try simp only[AY]
  rw[W_dq fun s Q=>Bg (s:=s) DE (by decide) Q]
  dsimp only
  try simp only[AY]
  refine W.dload DI ((hI1.d1.same (s':=dSt s1.mem s1.next) rfl rfl).at') fun rd3 hr3=> ?_
  refine W.dload CN ((d2.same (s':=dSt s1.mem s1.next) rfl rfl).at') fun rd4 hr4=> ?_
  try simp only[AY]
  refine W.dop (Gu (s:=oSt s1.mem s1.next) (fs:=k.fs) (mx:=k.mx) (hI1.om.same rfl rfl) ⟨Any,Ext.rdN (F:=Any) (G:=Non) _ M fun _=>trivial,fun rd5 hr5=> ?_⟩)
  show W _ (dSt s1.mem s1.next) _
  refine W.dop (W.alloc (s:=oSt s1.mem s1.next) Gm_ fun s2 n2 x2 o2=>⟨Non,x2,fun rd6 hr6=> ?_⟩)
  obtain rfl:=WZ (fun x hx=>(hr6 x hx).2)
  have n2':s2.next=s.next+8:=by
   have:s2.next=s1.next+2:=n2
   omega
  simp only[Ap,Aa]
  refine⟨D9 ?_, ?_⟩
  ·simp only[List.reverse_cons,List.reverse_nil,List.nil_append,List.cons_append,allP,CJ,List.take,DA]
   have lts: ∀x,s1.next≤x→ ¬x<s1.next:=fun x h=>by omega
   have e5: ∀x,x∈rd5→s1.next≤x→False:=fun x h1 h2=>by have:=(hr5 x h1).1;omega
   simp+contextual [lts]
  ·refine W.cast (Ls_ _ _ _ _ _ _ _ _ _ _ _ _) ?_
   simp only[Ac,W_oS,Aa]
   generalize hs':(⟨(dSt s2.mem s2.next).mem,(dSt s2.mem s2.next).next,s1.lim,_,_,s1.cx⟩:St)=s3
   have m3:s3.mem=s2.mem:=by rw[←hs'];rfl
   have n3:s3.next=s2.next:=by rw[←hs'];rfl
   have x3:Ext Any Non s1 s3:=by
    rw[←hs']
    exact Ext.draw (F:=Any) (by show s1.next≤s2.next;omega) (fun x hx=>x2.mem x hx fun h=>h) (by simp) fun _ _ _ _ _=>trivial
   have y3:=y1.on x3 hb0 fun _ _ h=>h.elim
   have hlv:oneCell (BG k.fs a)=true:=by
    unfold BG
    cases Bh k.fs a with
    |none=>rfl
    |some j=>simp only;cases k.fs[j]?<;>rfl
   have oK3:Own s3 s1.next 0 (.pointer none):=(o2 0 _ rfl).same m3 n3
   rw[show(oSt s1.mem s1.next).next=s.next+6 from n1'] 
   rw[n1']at oK3
   refine W.store1 CQ hlv oK3 fun s4 n4 x4 o4=> ?_
   try simp only[Ac,W_oS,W_on,Aa,W_mv,Ab,Ap,T.get_set,Ag,Af,Ar,Aq,Ae,Ah,reduceIte,Ak,As,Av,Aw,Ao,Aj,An,Au,Al,Ai,Nat.reduceEqDiff,reduceCtorEq, ↓reduceIte]
   have x4':Ext Any (fun y=>y=s.next+6) s3 s4:=x4.weak (y3.bnd hb0) (fun _ _ _=>trivial) fun y _ hq=>by have h1:=hq.1;have h2:=hq.2;omega
   have y4:Ext Any Non (s.cxN cxN) s4:=y3.on x4' hb0 fun y hy h=>by have:y<s.next:=hy;omega
   have hI4:DkI s4 col1 D M k:=(hI1.ext0 x3 hlen).ext x4' hlen fun y _ h=>by rw[hnew y (by omega)];exact Nat.le_refl _
   have keep: ∀o u,o<6→Own s1 (s.next+o) 0 u→Own s4 (s.next+o) 0 u:=fun o u ho hu=>(hu.ext0 x3).ext x4' fun h=>by omega
   have e0:=keep 0 _ (by decide) d0
   have e2:=keep 2 _ (by decide) d2
   have e4:=keep 4 _ (by decide) d4
   have hB4:Bs s4 bv l:=(Bs.ext0 hB1 x3).ext x4' fun x hx h=>by have:=(hBc x hx).1;omega
   have n4':s4.next=s.next+8:=by omega
   refine Ue_.w Aao_ (by omega) ?_
   simp only[U4,Ac,W_oS,W_on,Aa,W_mv,Ab,T.get_set,Ag,Af,Ae,Ah,reduceIte,Nat.reduceEqDiff, ↓reduceIte]
   refine W.load1 CN e2.at' ?_
   have y5:=y4.thenRd hb0 (s.next+2+0)
   try simp only[Ac,W_oS,W_on,Aa,W_mv,Ab,Ap,T.get_set,Ag,Af,Ar,Aq,Ae,Ah,reduceIte,Ak,As,Av,Aw,Ao,Aj,An,Au,Al,Ai,Nat.reduceEqDiff,reduceCtorEq, ↓reduceIte]
   refine NC_ (y5.bnd hb0) ha (by omega) fun s6 x6=> ?_
   have y6:=y5.on x6 hb0 fun _ _ h=>h
   have x46:Ext Any Non s4 s6:=((Ext.refl (F:=Any) (G:=Non) s4).thenRd (y4.bnd hb0) _).on x6 (y4.bnd hb0) fun _ _ h=>h
   have hI6:=hI4.ext0 x46 hlen
   have f0:=e0.ext0 x46
   have f2:=e2.ext0 x46
   have f4:=e4.ext0 x46
   have fK:=o4.ext0 x46
   have hB6:=Bs.ext0 hB4 x46
   simp only[CM,Bool.not_true]
   refine W.cond (v:=false) Ne_ Tm_ (by simp[T.get_set]) (by omega) (fun h=>by cases h) fun _=> ?_
   refine AdM_.w VE_ (by omega) ?_
   have full: ∀(n':Nat) (tm':T Value) (td':List Item) (s':St),n≤n'+20→skim 64 td'=H9→Ext Any Non (s.cxN cxN) s'→Ext Any Non s6 s'→T.get tm' 3=some (.pointer (some ⟨s.next,0,none⟩))→T.get tm' 4=some (.pointer (some ⟨s.next+2,0,none⟩))→T.get tm' 5=some (.pointer (some ⟨s.next+4,0,none⟩))→T.get tm' 8=some (.pointer (some ⟨s.next+6,0,none⟩))→
     W (runF envS n' ⟨11,Adb_,Cw,tm',td', .run, .normal,none⟩) s' fun p s1=>Q p.1 (s1.cxN s.cx):=by
    intro n' tm' td' s' hn' hT' y' x' g3 g4 g5 g8
    have hI':=hI6.ext0 x' hlen
    have p0:=f0.ext0 x'
    have p4:=f4.ext0 x'
    have pK:=fK.ext0 x'
    have p2:=f2.ext0 x'
    have hB':=Bs.ext0 hB6 x'
    refine Jp_.w hT' (by omega) ?_
    simp only[Bo_,g3,g5,AY,D7,Ag,Af,Ae,Fa]
    refine W.dload Cs ((p0.same (s':=dSt s'.mem s'.next) rfl rfl).at') fun rd0 hr0=> ?_
    try simp only[D7]
    refine W.usedD hI' (by omega) fun rd1 hr1=> ?_
    refine W.dload Dl ((p4.same (s':=dSt s'.mem s'.next) rfl rfl).at') fun rd2 hr2=> ?_
    try simp only[AY]
    rw[W_dq fun s Q=>Bs.lenq (s':=s) hB' VJ Q]
    dsimp only
    try simp only[AY]
    rw[W_dq fun s Q=>AcF_ (s:=s) _ _ Q]
    have es:wrap64 (((k.used:Nat):Int)+((l.length:Nat):Int))=((k.used+l.length:Nat):Int):=by
     rw[BZ (by omega) (by omega)];omega
    rw[es]
    dsimp only
    refine W.dload Cs ((p0.same (s':=dSt s'.mem s'.next) rfl rfl).at') fun rd5 hr5=> ?_
    try simp only[AY]
    rw[W_dq fun s Q=>Ai (s:=s) _ Q]
    dsimp only
    try simp only[AY]
    rw[W_dq fun s Q=>Bg (s:=s) VM (by decide) Q]
    dsimp only
    try simp only[AY]
    refine W.dload BN ((hI'.d2.same (s':=dSt s'.mem s'.next) rfl rfl).at') fun rd8 hr8=> ?_
    try simp only[AY]
    rw[W_dq fun s Q=>B4 (s:=s) (Q:=Q) _ _,Aa]
    refine⟨Ed (by simp) (by simp), ?_⟩
    refine W.cast (YT_ _ _ _ _ _ _ _ _ _ _ _ _ _ _ _) ?_
    simp only[Ac,W_oS,Aa,Ap]
    generalize hs':(⟨(dSt s'.mem s'.next).mem,(dSt s'.mem s'.next).next,s'.lim,_,_,s'.cx⟩:St)=s7
    have x7:Ext Any Non s' s7:=by
     rw[←hs']
     exact Ext.draw (F:=Any) (Nat.le_refl _) (fun _ _=>rfl) (by simp) fun _ _ _ _ _=>trivial
    have y7:=y'.on x7 hb0 fun _ _ h=>h
    have hI7:=hI'.ext0 x7 hlen
    have r0:=p0.ext0 x7
    have r2:=p2.ext0 x7
    have r4:=p4.ext0 x7
    have rK:=pK.ext0 x7
    have hB7:=Bs.ext0 hB' x7
    by_cases hfu:k.room<((k.used+l.length:Nat):Int)
    ·refine W.cond (v:=true) Au_ Eg_ (by simp[T.get_set];exact hfu) (by omega) (fun _=> ?_) fun h=>by cases h
     refine Adx_.w XH_ (by omega) ?_
     simp only[Xl,Aa,W_mv,Ab]
     refine W.end' (rs:=[6]) (vs:=[.int .i64 8]) Nh_ (.inl Pp_) (by omega) ID Kn y7.cx (by simp[T.get_set]) ?_
     exact q2 ho hfu _ col1 ⟨hI7.same rfl rfl,hag,(y7.gw hb0 fun _ _ h=>h.elim).cx'⟩
    ·refine W.cond (v:=false) Au_ Eg_ (by simp[T.get_set];omega) (by omega) (fun h=>by cases h) fun _=> ?_
     refine Afg_.w Aaq_ (by omega) ?_
     simp only[FO_,Ac,W_oS,W_on,Aa,W_mv,Ab,T.get_set,Ag,Af,Ae,Ah,reduceIte,Nat.reduceEqDiff, ↓reduceIte,g3,g4,g5,g8]
     refine W.load1 Cs r0.at' ?_
     have y8:=y7.thenRd hb0 (s.next+0)
     have hI8:DkI (s7.rdN (s.next+0)) col1 D M k:=hI7.same rfl rfl
     have u0:Own (s7.rdN (s.next+0)) s.next 0 (.pointer (some ⟨D,0,none⟩)):=r0.same rfl rfl
     have u2:Own (s7.rdN (s.next+0)) (s.next+2) 0 (.string a):=r2.same rfl rfl
     have u4:Own (s7.rdN (s.next+0)) (s.next+4) 0 bv:=r4.same rfl rfl
     have uK:Own (s7.rdN (s.next+0)) (s.next+6) 0 (BG k.fs a):=rK.same rfl rfl
     have hB8:Bs (s7.rdN (s.next+0)) bv l:=hB7.same rfl rfl
     generalize s7.rdN (s.next+0)=s8 at *
     try simp only[Ac,W_oS,W_on,Aa,W_mv,Ab,Ap,T.get_set,Ag,Af,Ar,Aq,Ae,Ah,reduceIte,Ak,As,Av,Aw,Ao,Aj,An,Au,Al,Ai,Nat.reduceEqDiff,reduceCtorEq, ↓reduceIte]
     have hD0:=hI8.kd
     refine SO (f2:=36) (y8.bnd hb0) hI8.d3 hI8.d4 hI8.d5 hI8.d6 (by omega) (fun hf s9 n9 x9 o9=> ?_) fun hf n9 s9 hn9 hcx9 hnx9 x9 o93 o95=> ?_
     ·have y9:Ext Any (fun x=>col1 x<1000) (s.cxN cxN) s9:=(y8.gw hb0 fun _ _ h=>h.elim).on x9 hb0 fun y _ h=>by rw[h,hD0 (D+6) (by omega) (by omega)];decide
      try simp only[Ac,W_oS,W_on,Aa,W_mv,Ab,Ap,T.get_set,Ag,Af,Ar,Aq,Ae,Ah,reduceIte,Ak,As,Av,Aw,Ao,Aj,An,Au,Al,Ai,Nat.reduceEqDiff,reduceCtorEq, ↓reduceIte]
      refine W.end' (rs:=[6]) (vs:=[.int .i64 10]) UD (.inl Wl) (by omega) ID Kn y9.cx (by simp[T.get_set]) ?_
      have hd:Ext Any (fun y=>y=D+6) s8 s9:=x9
      have hI9:=hI8.own (st:=k.steps) (fu:=k.fused) (le:=k.left) (ou:=true) hd (fun y _ h=>by omega) (hI8.d3.ext hd fun h=>by omega) (hI8.d4.ext hd fun h=>by omega) (hI8.d5.ext hd fun h=>by omega) o9
      exact q3 ho (by omega) hf _ col1 ⟨hI9.same rfl rfl,hag,(y9.gw hb0 fun y hy h=>by rw[←hag y hy];exact h).cx'⟩
     ·have hd:Ext Any (fun y=>y=D+3∨y=D+5) s8 (s9.cxN s8.cx):=x9
      have hI9':=hI8.own (st:=wrap64 (k.steps+1)) (fu:=k.fused) (le:=if k.fused then wrap64 (k.left-1)else k.left) (ou:=k.out) hd (fun y _ h=>by omega) (o93.same rfl rfl) (hI8.d4.ext hd fun h=>by omega) (o95.same rfl rfl) (hI8.d6.ext hd fun h=>by omega)
      have hI9:=hI9'.same (s':=s9) rfl rfl
      have v0:=(u0.ext hd fun h=>by omega).same (s':=s9) rfl rfl
      have v2:=(u2.ext hd fun h=>by omega).same (s':=s9) rfl rfl
      have v4:=(u4.ext hd fun h=>by omega).same (s':=s9) rfl rfl
      have vK:=(uK.ext hd fun h=>by omega).same (s':=s9) rfl rfl
      have hB9:Bs s9 bv l:=(hB8.ext hd fun x hx h=>by
       have h1:=hBc' x hx
       have h2:=hD0 x (by omega) (by omega)
       omega).same rfl rfl
      have y9:Ext Any (fun x=>col1 x<1000) (s.cxN cxN) (s9.cxN s8.cx):=(y8.gw hb0 fun _ _ h=>h.elim).on hd hb0 fun y _ h=>by rw[hD0 y (by omega) (by omega)];decide
      have y9':Ext Any (fun x=>col1 x<1000) (s.cxN cxN) s9:=⟨y9.nxt,y9.lim,hcx9,y9.mem,y9.rd,y9.wr⟩
      have hn9':s9.next=s8.next:=hnx9
      show W (Ay envS (runF envS n9) 36 [.pointer (some ⟨s.next+6,0,none⟩), .pointer (some ⟨s.next,0,none⟩), .pointer (some ⟨s.next+2,0,none⟩), .pointer (some ⟨s.next+4,0,none⟩)]) s9 _
      refine VD_ (C:=s.next) (K:=s.next+6) (y9'.bnd hb0) hI9 hlen hB9 v0 v2 v4 vK (fun x h1 h2=>by rw[hnew x h1];exact Nat.le_refl _) (by rw[hnew _ (by omega)];exact Nat.le_refl _) (fun x hx=>⟨fun h=>by have:=(hBc x hx).1;omega,hBc' x hx⟩) (.inr (by omega)) (by show DkS.used _+_≤_;exact hz) (by omega) fun s10 col' blk v b hI10 hag10 x10=> ?_
      refine⟨x10.cx.trans hcx9, ?_⟩
      have y10:=y9'.on x10 hb0 fun y hy h=>by
       have h0:y<s.next:=hy
       rcases h with h|h
       ·exact h
       ·omega
      have e8:s8.cx=cxN:=y8.cx
      rw[e8]
      try simp only[Ac,W_oS,W_on,Aa,W_mv,Ab,Ap,T.get_set,Ag,Af,Ar,Aq,Ae,Ah,reduceIte,Ak,As,Av,Aw,Ao,Aj,An,Au,Al,Ai,Nat.reduceEqDiff,reduceCtorEq, ↓reduceIte]
      refine W.end' (rs:=[6]) (vs:=[.int .i64 0]) UD (.inl Wl) (by omega) ID Kn rfl (by simp[T.get_set]) ?_
      have hn8:s.next≤s8.next:=y8.nxt
      exact q4 ho (by omega) hf _ col' blk v b ⟨hI10.same rfl rfl,fun x hx=>(hag10 x (by omega)).trans (hag x hx),(y10.gw hb0 fun y hy h=>by rw[←hag y hy];exact h).cx'⟩
   simp only[WS,Ac,W_oS,W_on,Aa,W_mv,Ab,T.get_set,Ag,Af,Ae,reduceIte,Nat.reduceEqDiff, ↓reduceIte]
   refine W.load1 CQ fK.at' ?_
   have y7:=y6.thenRd hb0 (s.next+6+0)
   have x7:=(Ext.refl (F:=Any) (G:=Non) s6).thenRd (y6.bnd hb0) (s.next+6+0)
   cases hj:Bh k.fs a with
   |none=>
    have hv:BG k.fs a= .pointer none:=by unfold BG;rw[hj]
    rw[hv]
    simp only[W_oS,reduceIte,Ak,As,Aj,An,Al, ↓reduceIte,M8]
    refine W.load1 Cs (f0.same (s':=s6.rdN (s.next+6+0)) rfl rfl).at' ?_
    simp only[Ai,Bg DE (by decide)]
    refine W.load1 DI (hI6.d1.same rfl rfl).at' ?_
    try simp only[Ac,W_oS,W_on,Aa,W_mv,Ab,Ap,T.get_set,Ag,Af,Ar,Aq,Ae,Ah,reduceIte,Ak,As,Av,Aw,Ao,Aj,An,Au,Al,Ai,Nat.reduceEqDiff,reduceCtorEq, ↓reduceIte]
    refine W.lenM TQ_ (hI6.om.same rfl rfl) ?_
    have e7:decide ((1000:Int)≤((k.fs.map FileS.ent).length:Nat))=false:=by
     rw[List.length_map]
     exact decide_eq_false (by omega)
    simp only[Cg,e7]
    refine W.cond (v:=false) UB Em_ (by simp[T.get_set]) (by omega) (fun h=>by cases h) fun _=> ?_
    exact full _ _ _ _ (by omega) YJ (((y7.thenRd hb0 _).thenRd hb0 _).thenRd hb0 _) (((x7.thenRd (y6.bnd hb0) _).thenRd (y6.bnd hb0) _).thenRd (y6.bnd hb0) _) (by simp[T.get_set]) (by simp[T.get_set]) (by simp[T.get_set]) (by simp[T.get_set])
   |some j=> 
    have hlt:=Fp hj
    have hv:BG k.fs a= .pointer (some ⟨k.fs[j].blk,0,none⟩):=by
     unfold BG
     rw[hj]
     simp only[List.getElem?_eq_getElem hlt]
    rw[hv]
    simp only[Aa,reduceIte,Ak,Aw,Aj,Au,Al,reduceCtorEq, ↓reduceIte,C8 FK]
    refine W.cond (v:=false) UB Em_ (by simp[T.get_set]) (by omega) (fun h=>by cases h) fun _=> ?_
    exact full _ _ _ _ (by omega) YJ y7 x7 (by simp[T.get_set]) (by simp[T.get_set]) (by simp[T.get_set]) (by simp[T.get_set])
end
section
variable {E:Env}{s s':St}{t:Nat}{xo yo:Operand}
theorem MkS.bs {l:List Nat}{v:Value}{b:Nat}(h:MkS s 1 l.length (u8l l) v b)(hn:l.length<capU):Bs s v l:=by
 rcases h with⟨rfl,h0,_⟩|⟨h,_⟩
 ·exact .inl ⟨rfl,List.eq_nil_of_length_eq_zero h0⟩
 ·refine .inr ⟨b,0,_,h.val, ?_,If hn (by decide),fun i u e=>(h.own i u e).at'⟩
  rw[Nat.mul_add_mod,Nat.mod_eq_of_lt hn]
  exact Nat.le_refl _
theorem MkS.put {l:List Nat}{k x:Nat}{v:Value}{b:Nat}{G:Nat→Prop}(h:MkS s 1 l.length (u8l l) v b)(hk:k<l.length)(hn:s'.next=s.next)(e:Ext G (In b k 1) s s')(ho:Own s' b k (.int .u8 (x:Nat))):MkS s' 1 (l.set k x).length (u8l (l.set k x)) v b:=by
 rw[List.length_set]
 rcases h with⟨_,h0,_⟩|⟨h,h0⟩
 ·omega
 ·refine .inr ⟨⟨h.val,fun i u hi=> ?_, ?_, ?_,by rw[hn];exact h.lt⟩,h0⟩
  ·by_cases hik:i=k
   ·subst hik
    unfold u8l at hi
    rw[List.getElem?_map,List.getElem?_set_self hk]at hi
    have:u= .int .u8 (x:Nat):=by injection hi with hi;exact hi.symm
    subst this
    rwa [Nat.zero_add]
   ·have hi':(u8l l)[i]?=some u:=by
     unfold u8l at hi ⊢
     rw[List.getElem?_map,List.getElem?_set_ne (fun q=>hik q.symm)]at hi
     rw[List.getElem?_map]
     exact hi
    exact(h.own i u hi').ext e fun q=>by
     have h1:=In1.1 q
     omega
  ·rw[Cn,List.length_set,Nat.mul_one]
  ·have hlt:b+l.length*1<s.next:=h.lt
   rw[e.mem _ hlt fun q=>by have h1:=In1.1 q;omega]
   exact h.tok
theorem MkS.get {l:List Nat}{k:Nat}{v:Value}{b:Nat}(h:MkS s 1 l.length (u8l l) v b)(hk:k<l.length): ∃c,v= .slice (some ⟨b,0,none⟩) l.length c∧Own s b k (.int .u8 (l.getD k 0:Nat)):=by
 rcases h with⟨_,h0,_⟩|⟨h,h0⟩
 ·omega
 ·refine⟨_,h.val, ?_⟩
  have:=h.own k (.int .u8 (l.getD k 0:Nat)) (by
   unfold u8l
   rw[List.getElem?_map,List.getElem?_eq_getElem hk,List.getD_eq_getElem?_getD,List.getElem?_eq_getElem hk]
   rfl)
  rwa [Nat.zero_add]at this
end
theorem Bs.at {s:St}{v:Value}{l:List Nat}(h:Bs s v l){i:Nat}(hi:i<l.length): ∃b o c,v= .slice (some ⟨b,o,none⟩) l.length c∧At s b (o+i*1) (u8 l[i])∧(∀x,x=b+(o+i*1)→BsF v x):=by
 rcases h with⟨rfl,rfl⟩|⟨b,o,c,rfl,_,_,h3⟩
 ·simp at hi
 ·refine⟨b,o,c,rfl, ?_,fun x hx=>⟨by omega,by omega⟩⟩
  rw[Nat.mul_one]
  exact h3.at (List.getElem?_eq_getElem hi)
end Go.Proofs.YtndednnianphoaaGreatDoor.Am
end
