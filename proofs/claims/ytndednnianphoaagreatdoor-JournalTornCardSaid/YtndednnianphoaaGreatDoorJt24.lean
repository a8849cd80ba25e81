import Derived.Test.YtndednnianphoaaGreatDoorJt16
import Derived.Test.YtndednnianphoaaGreatDoorJt09
import Derived.KernelRfl
import Derived.Test.YtndednnianphoaaGreatDoorJt23
import Derived.Test.YtndednnianphoaaGreatDoorJt08
import Derived.Test.YtndednnianphoaaGreatDoorJt07
import GoSem.ClaimWide
import Derived.Carry
import Derived.ChangeSame
noncomputable section
namespace Go.Proofs.YtndednnianphoaaGreatDoor.Am
open Go.RowKit
def F1:Nat:=A8 Tryz.f7
def WL:Code:=Tryz.f7.body.getD .skip
theorem V6:envS.fn.get 7=some Tryz.f7:=by kernel_rfl
theorem Hm_ {n:Nat}{s:St}{Q:Value→St→Prop}(h: ∀tm,W (runF envS n ⟨7,30,F1,tm,[.code WL], .run, .normal,none⟩) (s.cxN cxN) fun p s1=>Q p.1 (s1.cxN s.cx)):W (Ay envS (runF envS n) 7 []) s Q:=
 W.call (by kernel_rfl) (by kernel_rfl) V6 (by kernel_rfl) rfl rfl (by simp) (h _)
theorem WZ_:Tryz.f7.results.toList=[.tmp 0, .tmp 1, .tmp 2]:=by kernel_rfl
def Q7:List Item:=skim 64 [.code WL]
def Nq:List Item:=skim 64 Q7.tail
theorem PJ_:skim 64 Q7.tail=Nq:=by kernel_rfl
def LQ:List Item:=skim 64 Nq.tail
theorem XI_:skim 64 Nq.tail=LQ:=by kernel_rfl
def Li:List Item:=skim 64 LQ.tail
theorem XT_:skim 64 LQ.tail=Li:=by kernel_rfl
def Od:List Item:=skim 64 (brF Li)
theorem LE_:skim 64 (brF Li)=Od:=by kernel_rfl
def Mj:List Item:=skim 64 Od.tail
theorem AdY_:skim 64 Od.tail=Mj:=by kernel_rfl
def OP:List Item:=skim 64 Mj.tail
theorem Ud_:skim 64 Mj.tail=OP:=by kernel_rfl
def YL (E:Env)(call round:Ad)(tm:T Value):M (T Value):=
 mv (some (.pointer none)) fun v0=>
 setF 0 v0 tm fun tm1=>
 mv (some (.pointer none)) fun v1=>
 setF 1 v1 tm1 fun tm2=>
 mv (some (.bool false)) fun v2=>
 setF 2 v2 tm2 fun tm3=>
 M.pure tm3
theorem PG_:RegEq 7 30 F1 Q7 YL:=⟨by kernel_rfl,fun _ _ _ _ _ _ _ _ _=>by kernel_rfl⟩
def U3 (E:Env)(call round:Ad)(tm:T Value):M (T Value):=
 M.bind (M.on (some (.func (.func 23) #[] #[])) fun f=>M.on (seqO [(some (.int .i64 1048576))]) fun l=>AL call round f l) fun v8=>
 mv (some v8) fun v7=>
 M.bind (oS (some v7) fun a=>kExt 0 a) fun v9=>
 M.bind (oS (some v7) fun a=>kExt 1 a) fun v10=>
 mv (some v9) fun v3=>
 setF 3 v3 tm fun tm1=>
 mv (some v10) fun v4=>
 setF 4 v4 tm1 fun tm2=>
 M.pure tm2
theorem Ke_:RegEq 7 30 F1 Nq U3:=⟨by kernel_rfl,fun _ _ _ _ _ _ _ _ _=>by kernel_rfl⟩
def Uy (E:Env)(call round:Ad)(tm:T Value):M (T Value):=
 mv (T.get tm 4) fun v11=>
 M.bind (oS (some v11) fun a=>oS (some (.int .i64 0)) fun b=>Cl.get (aBin E .neq 29 (.tmp 11) (.const (.int .i64 0))) a b) fun v12=>
 mv (some v12) fun v13=>
 M.bind (M.chk (isK v13) (M.if (isB v13 false) (oS (T.get tm 3) fun a=>M.pure a) (M.pure undef))) fun v14=>
 M.bind (M.chk (isK v13) (M.if (isB v13 false) (oS (some v14) fun a=>oS (some (.pointer none)) fun b=>Cl.get (aBin E .eql 25 (.tmp 14) (.const (.pointer none))) a b) (M.pure undef))) fun v15=>
 M.bind (M.on (some v13) fun a=>M.on (some (.bool true)) fun b=>M.on (some v15) fun c=>Bj a b c) fun v16=>
 setF 16 v16 tm fun tm1=>
 M.pure tm1
theorem Aac_:RegEq 7 30 F1 LQ Uy:=⟨by kernel_rfl,fun _ _ _ _ _ _ _ _ _=>by kernel_rfl⟩
theorem AaD_:A6 Li=some 16:=by kernel_rfl
def ZL (E:Env)(call round:Ad)(tm:T Value):M (T Value):=
 mv (T.get tm 3) fun v18=>
 M.bind (M.on (some (.func (.func 13) #[] #[])) fun f=>M.on (seqO [(some v18)]) fun l=>AL call round f l) fun v19=>
 mv (some v19) fun v17=>
 M.bind (oS (some v17) fun a=>kExt 0 a) fun v20=>
 M.bind (oS (some v17) fun a=>kExt 1 a) fun v21=>
 mv (some v20) fun v5=>
 setF 5 v5 tm fun tm1=>
 mv (some v21) fun v6=>
 setF 6 v6 tm1 fun tm2=>
 M.pure tm2
theorem Xe_:RegEq 7 30 F1 Od ZL:=⟨by kernel_rfl,fun _ _ _ _ _ _ _ _ _=>by kernel_rfl⟩
def Ax_ (E:Env)(call round:Ad)(tm:T Value):M (T Value):=
 mv (T.get tm 3) fun v22=>
 mv (T.get tm 5) fun v23=>
 mv (T.get tm 6) fun v24=>
 M.bind (oS (some v24) fun a=>oS (some (.int .i64 0)) fun b=>Cl.get (aBin E .eql 29 (.tmp 24) (.const (.int .i64 0))) a b) fun v25=>
 mv (some v25) fun v26=>
 M.bind (M.chk (isK v26) (M.if (isB v26 true) (oS (T.get tm 5) fun a=>M.pure a) (M.pure undef))) fun v27=>
 M.bind (M.chk (isK v26) (M.if (isB v26 true) (oS (some v27) fun a=>oS (some (.pointer none)) fun b=>Cl.get (aBin E .neq 26 (.tmp 27) (.const (.pointer none))) a b) (M.pure undef))) fun v28=>
 M.bind (M.on (some v26) fun a=>M.on (some v28) fun b=>M.on (some (.bool false)) fun c=>Bj a b c) fun v29=>
 mv (some v22) fun v0=>
 setF 0 v0 tm fun tm1=>
 mv (some v23) fun v1=>
 setF 1 v1 tm1 fun tm2=>
 mv (some v29) fun v2=>
 setF 2 v2 tm2 fun tm3=>
 M.pure tm3
theorem Kw_:RegEq 7 30 F1 Mj Ax_:=⟨by kernel_rfl,fun _ _ _ _ _ _ _ _ _=>by kernel_rfl⟩
theorem OP_: ∃k,OP= .code .ret::k:=⟨OP.tail,by kernel_rfl⟩
def N5:Nat:=A8 Tryz.f15
def XF:Code:=Tryz.f15.body.getD .skip
theorem Xq:envS.fn.get 15=some Tryz.f15:=by kernel_rfl
theorem Sg_ {a0 a1:Value}{n:Nat}{s:St}{Q:Value→St→Prop}(h: ∀tm,T.get tm 0=some a0→T.get tm 1=some a1→W (runF envS n ⟨15,19,N5,tm,[.code XF], .run, .normal,none⟩) (s.cxN cxN) fun p s1=>Q p.1 (s1.cxN s.cx)):W (Ay envS (runF envS n) 15 [a0,a1]) s Q:=
 W.call (by kernel_rfl) (by kernel_rfl) Xq (by kernel_rfl) rfl rfl (by simp) (h _ (by kernel_rfl) (by kernel_rfl))
theorem Ace_:Tryz.f15.results.toList=[.tmp 4]:=by kernel_rfl
def QP:List Item:=skim 64 [.code XF]
def JX:List Item:=skim 64 QP.tail
theorem HV_:skim 64 QP.tail=JX:=by kernel_rfl
def ML:List Item:=skim 64 JX.tail
theorem Afg_:skim 64 JX.tail=ML:=by kernel_rfl
def SC:List Item:=skim 64 ML.tail
theorem QT_:skim 64 ML.tail=SC:=by kernel_rfl
def Ff_ (E:Env)(call round:Ad)(tm:T Value):M (T Value):=
 mv (some (.bool false)) fun v4=>
 setF 4 v4 tm fun tm1=>
 M.pure tm1
theorem Vm_:RegEq 15 19 N5 QP Ff_:=⟨by kernel_rfl,fun _ _ _ _ _ _ _ _ _=>by kernel_rfl⟩
def VG (E:Env)(call round:Ad)(tm:T Value):M (T Value):=
 mv (T.get tm 0) fun v8=>
 M.bind (M.on (some (.func (.func 8) #[] #[])) fun f=>M.on (seqO [(some v8)]) fun l=>AL call round f l) fun v9=>
 mv (some v9) fun v7=>
 M.bind (oS (some v7) fun a=>kExt 0 a) fun v10=>
 M.bind (oS (some v7) fun a=>kExt 1 a) fun v11=>
 mv (some v10) fun v5=>
 setF 5 v5 tm fun tm1=>
 mv (some v11) fun v6=>
 setF 6 v6 tm1 fun tm2=>
 M.pure tm2
theorem Ws_:RegEq 15 19 N5 JX VG:=⟨by kernel_rfl,fun _ _ _ _ _ _ _ _ _=>by kernel_rfl⟩
def BX_ (E:Env)(call round:Ad)(tm:T Value):M (T Value):=
 mv (T.get tm 5) fun v12=>
 mv (T.get tm 1) fun v13=>
 M.bind (oS (some v12) fun a=>oS (some v13) fun b=>Cl.get (aBin E .eql 3 (.tmp 12) (.tmp 13)) a b) fun v14=>
 mv (some v14) fun v15=>
 M.bind (M.chk (isK v15) (M.if (isB v15 true) (oS (T.get tm 6) fun a=>M.pure a) (M.pure undef))) fun v16=>
 M.bind (M.chk (isK v15) (M.if (isB v15 true) (oS (some v16) fun a=>oS (some (.int .i64 0)) fun b=>Cl.get (aBin E .eql 29 (.tmp 16) (.const (.int .i64 0))) a b) (M.pure undef))) fun v17=>
 M.bind (M.on (some v15) fun a=>M.on (some v17) fun b=>M.on (some (.bool false)) fun c=>Bj a b c) fun v18=>
 mv (some v18) fun v4=>
 setF 4 v4 tm fun tm1=>
 M.pure tm1
theorem LS_:RegEq 15 19 N5 ML BX_:=⟨by kernel_rfl,fun _ _ _ _ _ _ _ _ _=>by kernel_rfl⟩
theorem Abp_: ∃k,SC= .code .ret::k:=⟨SC.tail,by kernel_rfl⟩
def Nr:Nat:=A8 Tryz.f16
def VO:Code:=Tryz.f16.body.getD .skip
theorem Fs_:envS.fn.get 16=some Tryz.f16:=by kernel_rfl
theorem KJ_ {a0 a1:Value}{n:Nat}{s:St}{Q:Value→St→Prop}(h: ∀tm,T.get tm 0=some a0→T.get tm 1=some a1→W (runF envS n ⟨16,19,Nr,tm,[.code VO], .run, .normal,none⟩) (s.cxN cxN) fun p s1=>Q p.1 (s1.cxN s.cx)):W (Ay envS (runF envS n) 16 [a0,a1]) s Q:=
 W.call (by kernel_rfl) (by kernel_rfl) Fs_ (by kernel_rfl) rfl rfl (by simp) (h _ (by kernel_rfl) (by kernel_rfl))
theorem JK_:Tryz.f16.results.toList=[.tmp 4]:=by kernel_rfl
def PT:List Item:=skim 64 [.code VO]
def KR:List Item:=skim 64 PT.tail
theorem HY_:skim 64 PT.tail=KR:=by kernel_rfl
def MB:List Item:=skim 64 KR.tail
theorem Hy_:skim 64 KR.tail=MB:=by kernel_rfl
def PX:List Item:=skim 64 MB.tail
theorem NJ_:skim 64 MB.tail=PX:=by kernel_rfl
def Ex_ (E:Env)(call round:Ad)(tm:T Value):M (T Value):=
 mv (some (.bool false)) fun v4=>
 setF 4 v4 tm fun tm1=>
 M.pure tm1
theorem Tz_:RegEq 16 19 Nr PT Ex_:=⟨by kernel_rfl,fun _ _ _ _ _ _ _ _ _=>by kernel_rfl⟩
def BW_ (E:Env)(call round:Ad)(tm:T Value):M (T Value):=
 mv (T.get tm 0) fun v8=>
 M.bind (M.on (some (.func (.func 9) #[] #[])) fun f=>M.on (seqO [(some v8)]) fun l=>AL call round f l) fun v9=>
 mv (some v9) fun v7=>
 M.bind (oS (some v7) fun a=>kExt 0 a) fun v10=>
 M.bind (oS (some v7) fun a=>kExt 1 a) fun v11=>
 mv (some v10) fun v5=>
 setF 5 v5 tm fun tm1=>
 mv (some v11) fun v6=>
 setF 6 v6 tm1 fun tm2=>
 M.pure tm2
theorem ZZ_:RegEq 16 19 Nr KR BW_:=⟨by kernel_rfl,fun _ _ _ _ _ _ _ _ _=>by kernel_rfl⟩
def Bq_ (E:Env)(call round:Ad)(tm:T Value):M (T Value):=
 mv (T.get tm 5) fun v12=>
 mv (T.get tm 1) fun v13=>
 M.bind (oS (some v12) fun a=>oS (some v13) fun b=>Cl.get (aBin E .eql 3 (.tmp 12) (.tmp 13)) a b) fun v14=>
 mv (some v14) fun v15=>
 M.bind (M.chk (isK v15) (M.if (isB v15 true) (oS (T.get tm 6) fun a=>M.pure a) (M.pure undef))) fun v16=>
 M.bind (M.chk (isK v15) (M.if (isB v15 true) (oS (some v16) fun a=>oS (some (.int .i64 0)) fun b=>Cl.get (aBin E .eql 29 (.tmp 16) (.const (.int .i64 0))) a b) (M.pure undef))) fun v17=>
 M.bind (M.on (some v15) fun a=>M.on (some v17) fun b=>M.on (some (.bool false)) fun c=>Bj a b c) fun v18=>
 mv (some v18) fun v4=>
 setF 4 v4 tm fun tm1=>
 M.pure tm1
theorem WB_:RegEq 16 19 Nr MB Bq_:=⟨by kernel_rfl,fun _ _ _ _ _ _ _ _ _=>by kernel_rfl⟩
theorem GZ_: ∃k,PX= .code .ret::k:=⟨PX.tail,by kernel_rfl⟩
def On:Nat:=A8 Tryz.f14
def EN_:Code:=Tryz.f14.body.getD .skip
theorem Fx_:envS.fn.get 14=some Tryz.f14:=by kernel_rfl
theorem NL_ {a0 a1 a2:Value}{n:Nat}{s:St}{Q:Value→St→Prop}(h: ∀tm,T.get tm 0=some a0→T.get tm 1=some a1→T.get tm 2=some a2→W (runF envS n ⟨14,22,On,tm,[.code EN_], .run, .normal,none⟩) (s.cxN cxN) fun p s1=>Q p.1 (s1.cxN s.cx)):W (Ay envS (runF envS n) 14 [a0,a1,a2]) s Q:=
 W.call (by kernel_rfl) (by kernel_rfl) Fx_ (by kernel_rfl) rfl rfl (by simp) (h _ (by kernel_rfl) (by kernel_rfl) (by kernel_rfl))
theorem Wz_:Tryz.f14.results.toList=[.tmp 6]:=by kernel_rfl
def Px:List Item:=skim 64 [.code EN_]
def JC:List Item:=skim 64 Px.tail
theorem Aav_:skim 64 Px.tail=JC:=by kernel_rfl
def KB:List Item:=skim 64 JC.tail
theorem Abz_:skim 64 JC.tail=KB:=by kernel_rfl
def Ts:List Item:=skim 64 KB.tail
theorem XU_:skim 64 KB.tail=Ts:=by kernel_rfl
def DW_ (E:Env)(call round:Ad)(tm:T Value):M (T Value):=
 mv (some (.bool false)) fun v6=>
 setF 6 v6 tm fun tm1=>
 M.pure tm1
theorem Acg_:RegEq 14 22 On Px DW_:=⟨by kernel_rfl,fun _ _ _ _ _ _ _ _ _=>by kernel_rfl⟩
def AH_ (E:Env)(call round:Ad)(tm:T Value):M (T Value):=
 mv (T.get tm 0) fun v10=>
 M.bind (M.on (some (.func (.func 10) #[] #[])) fun f=>M.on (seqO [(some v10)]) fun l=>AL call round f l) fun v11=>
 mv (some v11) fun v9=>
 M.bind (oS (some v9) fun a=>kExt 0 a) fun v12=>
 M.bind (oS (some v9) fun a=>kExt 1 a) fun v13=>
 mv (some v12) fun v7=>
 setF 7 v7 tm fun tm1=>
 mv (some v13) fun v8=>
 setF 8 v8 tm1 fun tm2=>
 M.pure tm2
theorem KR_:RegEq 14 22 On JC AH_:=⟨by kernel_rfl,fun _ _ _ _ _ _ _ _ _=>by kernel_rfl⟩
def Xz (E:Env)(call round:Ad)(tm:T Value):M (T Value):=
 mv (T.get tm 7) fun v14=>
 mv (T.get tm 1) fun v15=>
 M.bind (oS (some v14) fun a=>oS (some v15) fun b=>Cl.get (aBin E .eql 3 (.tmp 14) (.tmp 15)) a b) fun v16=>
 mv (some v16) fun v17=>
 M.bind (M.chk (isK v17) (M.if (isB v17 true) (oS (T.get tm 8) fun a=>M.pure a) (M.pure undef))) fun v18=>
 M.bind (M.chk (isK v17) (M.if (isB v17 true) (oS (T.get tm 2) fun a=>M.pure a) (M.pure undef))) fun v19=>
 M.bind (M.chk (isK v17) (M.if (isB v17 true) (oS (some v18) fun a=>oS (some v19) fun b=>Cl.get (aBin E .eql 3 (.tmp 18) (.tmp 19)) a b) (M.pure undef))) fun v20=>
 M.bind (M.on (some v17) fun a=>M.on (some v20) fun b=>M.on (some (.bool false)) fun c=>Bj a b c) fun v21=>
 mv (some v21) fun v6=>
 setF 6 v6 tm fun tm1=>
 M.pure tm1
theorem Vq_:RegEq 14 22 On KB Xz:=⟨by kernel_rfl,fun _ _ _ _ _ _ _ _ _=>by kernel_rfl⟩
theorem HH_: ∃k,Ts= .code .ret::k:=⟨Ts.tail,by kernel_rfl⟩
def B9:Nat:=A8 Tryz.f3
abbrev QJ:Nat:=102
def CJ_:Code:=Tryz.f3.body.getD .skip
theorem PI:envS.fn.get 3=some Tryz.f3:=by kernel_rfl
theorem Aco_ {a0 a1:Value}{n:Nat}{s:St}{Q:Value→St→Prop}(h: ∀tm,T.get tm 0=some a0→T.get tm 1=some a1→W (runF envS n ⟨3,102,B9,tm,[.code CJ_], .run, .normal,none⟩) (s.cxN cxN) fun p s1=>Q p.1 (s1.cxN s.cx)):W (Ay envS (runF envS n) 3 [a0,a1]) s Q:=
 W.call (by kernel_rfl) (by kernel_rfl) PI (by kernel_rfl) rfl rfl (by simp) (h _ (by kernel_rfl) (by kernel_rfl))
theorem X1:Tryz.f3.results.toList=[.tmp 4]:=by kernel_rfl
def PO:List Item:=skim 64 [.code CJ_]
def KS:List Item:=skim 64 PO.tail
theorem Qy_:skim 64 PO.tail=KS:=by kernel_rfl
def Jt:List Item:=skim 64 KS.tail
theorem Hp_:skim 64 KS.tail=Jt:=by kernel_rfl
def Kj:List Item:=skim 64 Jt.tail
theorem Rh_:skim 64 Jt.tail=Kj:=by kernel_rfl
def Fw:List Item:=skim 64 Kj.tail
theorem SQ:skim 64 Kj.tail=Fw:=by kernel_rfl
def Ll:List Item:=skim 64 (brT Fw)
theorem Nz_:skim 64 (brT Fw)=Ll:=by kernel_rfl
def Nj:List Item:=skim 64 (brF Fw)
theorem OV_:skim 64 (brF Fw)=Nj:=by kernel_rfl
def O0:List Item:=skim 64 Ll.tail
theorem YF_:skim 64 Ll.tail=O0:=by kernel_rfl
def F4:List Item:=skim 64 Nj.tail
theorem Yy_:skim 64 Nj.tail=F4:=by kernel_rfl
def FP:List Item:=skim 64 F4.tail
theorem Ei_:skim 64 F4.tail=FP:=by kernel_rfl
def KM:List Item:=skim 64 (brT FP)
theorem RU_:skim 64 (brT FP)=KM:=by kernel_rfl
def H9:List Item:=skim 64 (brF FP)
theorem Abj_:skim 64 (brF FP)=H9:=by kernel_rfl
def GP:List Item:=skim 64 KM.tail
theorem Ep_:skim 64 KM.tail=GP:=by kernel_rfl
def Kw:List Item:=skim 64 H9.tail
theorem Zt_:skim 64 H9.tail=Kw:=by kernel_rfl
def MC:List Item:=skim 64 (brT GP)
theorem IL_:skim 64 (brT GP)=MC:=by kernel_rfl
def QA:List Item:=skim 64 (brF GP)
theorem Um_:skim 64 (brF GP)=QA:=by kernel_rfl
def Jl:List Item:=skim 64 Kw.tail
theorem Nh_:skim 64 Kw.tail=Jl:=by kernel_rfl
def Mr:List Item:=skim 64 MC.tail
theorem MA_:skim 64 MC.tail=Mr:=by kernel_rfl
theorem QG_:skim 64 QA.tail=Mr:=by kernel_rfl
def Nz:List Item:=skim 64 (brF Jl)
theorem GY_:skim 64 (brF Jl)=Nz:=by kernel_rfl
theorem ZO:skim 64 Mr.tail=F4:=by kernel_rfl
def LU:List Item:=skim 64 Nz.tail
theorem MM_:skim 64 Nz.tail=LU:=by kernel_rfl
def PG:List Item:=skim 64 LU.tail
theorem Adx_:skim 64 LU.tail=PG:=by kernel_rfl
def Eu_ (E:Env)(call round:Ad)(tm:T Value):M (T Value):=
 mv (some (.bool false)) fun v4=>
 setF 4 v4 tm fun tm1=>
 M.pure tm1
theorem UD_:RegEq 3 102 B9 PO Eu_:=⟨by kernel_rfl,fun _ _ _ _ _ _ _ _ _=>by kernel_rfl⟩
def Xe (E:Env)(call round:Ad)(tm:T Value):M (T Value):=
 M.bind (M.on (some (.func (.func 6) #[] #[])) fun f=>M.on (seqO []) fun l=>AL call round f l) fun v14=>
 mv (some v14) fun v5=>
 setF 5 v5 tm fun tm1=>
 M.pure tm1
theorem Aes_:RegEq 3 102 B9 KS Xe:=⟨by kernel_rfl,fun _ _ _ _ _ _ _ _ _=>by kernel_rfl⟩
def Dj_ (E:Env)(call round:Ad)(tm:T Value):M (T Value):=
 M.bind (M.on (some (.func (.func 7) #[] #[])) fun f=>M.on (seqO []) fun l=>AL call round f l) fun v16=>
 mv (some v16) fun v15=>
 M.bind (oS (some v15) fun a=>kExt 0 a) fun v17=>
 M.bind (oS (some v15) fun a=>kExt 1 a) fun v18=>
 M.bind (oS (some v15) fun a=>kExt 2 a) fun v19=>
 mv (some v17) fun v6=>
 setF 6 v6 tm fun tm1=>
 mv (some v18) fun v7=>
 setF 7 v7 tm1 fun tm2=>
 mv (some v19) fun v8=>
 setF 8 v8 tm2 fun tm3=>
 M.pure tm3
theorem Xz_:RegEq 3 102 B9 Jt Dj_:=⟨by kernel_rfl,fun _ _ _ _ _ _ _ _ _=>by kernel_rfl⟩
def LE (E:Env)(call round:Ad)(tm:T Value):M (T Value):=
 mv (T.get tm 0) fun v20=>
 M.bind (oS (seqO [(some v20)]) fun l=>A9 E .len [22] l) fun v21=>
 M.bind (oS (some v21) fun a=>oS (some (.int .i64 30)) fun b=>Cl.get (aBin E .gtr 3 (.tmp 21) (.const (.int .i64 30))) a b) fun v22=>
 mv (some v22) fun v23=>
 M.bind (M.chk (isK v23) (M.if (isB v23 false) (oS (T.get tm 1) fun a=>M.pure a) (M.pure undef))) fun v24=>
 M.bind (M.chk (isK v23) (M.if (isB v23 false) (oS (seqO [(some v24)]) fun l=>A9 E .len [23] l) (M.pure undef))) fun v25=>
 M.bind (M.chk (isK v23) (M.if (isB v23 false) (oS (some v25) fun a=>oS (some (.int .i64 8)) fun b=>Cl.get (aBin E .gtr 3 (.tmp 25) (.const (.int .i64 8))) a b) (M.pure undef))) fun v26=>
 M.bind (M.on (some v23) fun a=>M.on (some (.bool true)) fun b=>M.on (some v26) fun c=>Bj a b c) fun v27=>
 mv (some v27) fun v28=>
 M.bind (M.chk (isK v28) (M.if (isB v28 false) (oS (T.get tm 8) fun a=>M.pure a) (M.pure undef))) fun v29=>
 M.bind (M.chk (isK v28) (M.if (isB v28 false) (oS (some v29) fun a=>kUn E.P .not a) (M.pure undef))) fun v30=>
 M.bind (M.on (some v28) fun a=>M.on (some (.bool true)) fun b=>M.on (some v30) fun c=>Bj a b c) fun v31=>
 setF 31 v31 tm fun tm1=>
 M.pure tm1
theorem AdX_:RegEq 3 102 B9 Kj LE:=⟨by kernel_rfl,fun _ _ _ _ _ _ _ _ _=>by kernel_rfl⟩
theorem Oz:A6 Fw=some 31:=by kernel_rfl
def Cf_ (E:Env)(call round:Ad)(tm:T Value):M (T Value):=
 mv (T.get tm 5) fun v32=>
 mv (some v32) fun v33=>
 M.bind (M.chk (isK v33) (M.if (isB v33 true) (oS (T.get tm 8) fun a=>M.pure a) (M.pure undef))) fun v34=>
 M.bind (M.on (some v33) fun a=>M.on (some v34) fun b=>M.on (some (.bool false)) fun c=>Bj a b c) fun v35=>
 mv (some v35) fun v4=>
 setF 4 v4 tm fun tm1=>
 M.pure tm1
theorem Os_:RegEq 3 102 B9 Ll Cf_:=⟨by kernel_rfl,fun _ _ _ _ _ _ _ _ _=>by kernel_rfl⟩
def ZN (E:Env)(call round:Ad)(tm:T Value):M (T Value):=
 mv (some (.int .i64 0)) fun v9=>
 setF 9 v9 tm fun tm1=>
 M.pure tm1
theorem Aeq_:RegEq 3 102 B9 Nj ZN:=⟨by kernel_rfl,fun _ _ _ _ _ _ _ _ _=>by kernel_rfl⟩
theorem ZU_: ∃k,O0= .code .ret::k:=⟨O0.tail,by kernel_rfl⟩
def S6 (E:Env)(call round:Ad)(tm:T Value):M (T Value):=
 mv (T.get tm 9) fun v36=>
 mv (T.get tm 0) fun v37=>
 M.bind (oS (seqO [(some v37)]) fun l=>A9 E .len [22] l) fun v38=>
 M.bind (oS (some v36) fun a=>oS (some v38) fun b=>Cl.get (aBin E .lss 3 (.tmp 36) (.tmp 38)) a b) fun v39=>
 setF 39 v39 tm fun tm1=>
 M.pure tm1
theorem DI_:RegEq 3 102 B9 F4 S6:=⟨by kernel_rfl,fun _ _ _ _ _ _ _ _ _=>by kernel_rfl⟩
theorem Yi:A6 FP=some 39:=by kernel_rfl
def Yn (E:Env)(call round:Ad)(tm:T Value):M (T Value):=
 mv (T.get tm 0) fun v42=>
 mv (T.get tm 9) fun v43=>
 M.bind (oS (some v42) fun a=>oS (some v43) fun b=>BN E 22 a b) fun v44=>
 M.bind (oS (some v44) fun a=>AE E 4 a) fun v45=>
 setF 45 v45 tm fun tm1=>
 M.pure tm1
theorem UV_:RegEq 3 102 B9 KM Yn:=⟨by kernel_rfl,fun _ _ _ _ _ _ _ _ _=>by kernel_rfl⟩
def Gd_ (E:Env)(call round:Ad)(tm:T Value):M (T Value):=
 mv (T.get tm 7) fun v51=>
 M.bind (M.on (some (.func (.func 10) #[] #[])) fun f=>M.on (seqO [(some v51)]) fun l=>AL call round f l) fun v52=>
 mv (some v52) fun v50=>
 M.bind (oS (some v50) fun a=>kExt 0 a) fun v53=>
 M.bind (oS (some v50) fun a=>kExt 1 a) fun v54=>
 mv (some v53) fun v10=>
 setF 10 v10 tm fun tm1=>
 mv (some v54) fun v11=>
 setF 11 v11 tm1 fun tm2=>
 M.pure tm2
theorem AcY_:RegEq 3 102 B9 H9 Gd_:=⟨by kernel_rfl,fun _ _ _ _ _ _ _ _ _=>by kernel_rfl⟩
theorem YX:A6 GP=some 45:=by kernel_rfl
def ET_ (E:Env)(call round:Ad)(tm:T Value):M (T Value):=
 mv (T.get tm 6) fun v55=>
 mv (T.get tm 1) fun v56=>
 M.bind (M.on (some (.func (.func 11) #[] #[])) fun f=>M.on (seqO [(some v55),(some (.string {data:= #[106,111,117,114,110,97,108,46,49]})),(some v56)]) fun l=>AL call round f l) fun v57=>
 M.bind (oS (some v57) fun a=>oS (some (.int .i64 0)) fun b=>Cl.get (aBin E .neq 29 (.tmp 57) (.const (.int .i64 0))) a b) fun v58=>
 mv (some v58) fun v59=>
 M.bind (M.chk (isK v59) (M.if (isB v59 false) (oS (T.get tm 6) fun a=>M.pure a) (M.pure undef))) fun v60=>
 M.bind (M.chk (isK v59) (M.if (isB v59 false) (M.on (some (.func (.func 12) #[] #[])) fun f=>M.on (seqO [(some v60),(some (.string {data:= #[106,111,117,114,110,97,108,46,49]}))]) fun l=>AL call round f l) (M.pure undef))) fun v61=>
 M.bind (M.chk (isK v59) (M.if (isB v59 false) (oS (some v61) fun a=>oS (some (.int .i64 0)) fun b=>Cl.get (aBin E .neq 29 (.tmp 61) (.const (.int .i64 0))) a b) (M.pure undef))) fun v62=>
 M.bind (M.on (some v59) fun a=>M.on (some (.bool true)) fun b=>M.on (some v62) fun c=>Bj a b c) fun v63=>
 setF 63 v63 tm fun tm1=>
 M.pure tm1
theorem Pi_:RegEq 3 102 B9 Kw ET_:=⟨by kernel_rfl,fun _ _ _ _ _ _ _ _ _=>by kernel_rfl⟩
def BK_ (E:Env)(call round:Ad)(tm:T Value):M (T Value):=
 mv (T.get tm 7) fun v46=>
 M.bind (M.on (some (.func (.func 8) #[] #[])) fun f=>M.on (seqO [(some v46)]) fun l=>AL call round f l) fun v47=>
 M.pure tm
theorem Tf_:RegEq 3 102 B9 MC BK_:=⟨by kernel_rfl,fun _ _ _ _ _ _ _ _ _=>by kernel_rfl⟩
def CK_ (E:Env)(call round:Ad)(tm:T Value):M (T Value):=
 mv (T.get tm 7) fun v48=>
 M.bind (M.on (some (.func (.func 9) #[] #[])) fun f=>M.on (seqO [(some v48)]) fun l=>AL call round f l) fun v49=>
 M.pure tm
theorem Nn_:RegEq 3 102 B9 QA CK_:=⟨by kernel_rfl,fun _ _ _ _ _ _ _ _ _=>by kernel_rfl⟩
theorem HS_:A6 Jl=some 63:=by kernel_rfl
def P3 (E:Env)(call round:Ad)(tm:T Value):M (T Value):=
 mv (T.get tm 9) fun v40=>
 M.bind (oS (some v40) fun a=>oS (some (.int .i64 1)) fun b=>Cl.get (aBin E .add 3 (.tmp 40) (.const (.int .i64 1))) a b) fun v41=>
 mv (some v41) fun v9=>
 setF 9 v9 tm fun tm1=>
 M.pure tm1
theorem AS_:RegEq 3 102 B9 Mr P3:=⟨by kernel_rfl,fun _ _ _ _ _ _ _ _ _=>by kernel_rfl⟩
def BV_ (E:Env)(call round:Ad)(tm:T Value):M (T Value):=
 mv (T.get tm 6) fun v65=>
 M.bind (M.on (some (.func (.func 13) #[] #[])) fun f=>M.on (seqO [(some v65)]) fun l=>AL call round f l) fun v66=>
 mv (some v66) fun v64=>
 M.bind (oS (some v64) fun a=>kExt 0 a) fun v67=>
 M.bind (oS (some v64) fun a=>kExt 1 a) fun v68=>
 mv (some v67) fun v12=>
 setF 12 v12 tm fun tm1=>
 mv (some v68) fun v13=>
 setF 13 v13 tm1 fun tm2=>
 M.pure tm2
theorem Ur_:RegEq 3 102 B9 Nz BV_:=⟨by kernel_rfl,fun _ _ _ _ _ _ _ _ _=>by kernel_rfl⟩
def WO (E:Env)(call round:Ad)(tm:T Value):M (T Value):=
 mv (T.get tm 5) fun v69=>
 mv (some v69) fun v70=>
 M.bind (M.chk (isK v70) (M.if (isB v70 true) (oS (T.get tm 13) fun a=>M.pure a) (M.pure undef))) fun v71=>
 M.bind (M.chk (isK v70) (M.if (isB v70 true) (oS (some v71) fun a=>oS (some (.int .i64 0)) fun b=>Cl.get (aBin E .eql 29 (.tmp 71) (.const (.int .i64 0))) a b) (M.pure undef))) fun v72=>
 M.bind (M.on (some v70) fun a=>M.on (some v72) fun b=>M.on (some (.bool false)) fun c=>Bj a b c) fun v73=>
 mv (some v73) fun v74=>
 M.bind (M.chk (isK v74) (M.if (isB v74 true) (oS (T.get tm 12) fun a=>M.pure a) (M.pure undef))) fun v75=>
 M.bind (M.chk (isK v74) (M.if (isB v74 true) (oS (some v75) fun a=>oS (some (.pointer none)) fun b=>Cl.get (aBin E .neq 26 (.tmp 75) (.const (.pointer none))) a b) (M.pure undef))) fun v76=>
 M.bind (M.on (some v74) fun a=>M.on (some v76) fun b=>M.on (some (.bool false)) fun c=>Bj a b c) fun v77=>
 mv (some v77) fun v78=>
 M.bind (M.chk (isK v78) (M.if (isB v78 true) (oS (T.get tm 12) fun a=>M.pure a) (M.pure undef))) fun v79=>
 M.bind (M.chk (isK v78) (M.if (isB v78 true) (oS (T.get tm 10) fun a=>M.pure a) (M.pure undef))) fun v80=>
 M.bind (M.chk (isK v78) (M.if (isB v78 true) (oS (T.get tm 11) fun a=>M.pure a) (M.pure undef))) fun v81=>
 M.bind (M.chk (isK v78) (M.if (isB v78 true) (M.on (some (.func (.func 14) #[] #[])) fun f=>M.on (seqO [(some v79),(some v80),(some v81)]) fun l=>AL call round f l) (M.pure undef))) fun v82=>
 M.bind (M.on (some v78) fun a=>M.on (some v82) fun b=>M.on (some (.bool false)) fun c=>Bj a b c) fun v83=>
 mv (some v83) fun v84=>
 M.bind (M.chk (isK v84) (M.if (isB v84 true) (oS (T.get tm 12) fun a=>M.pure a) (M.pure undef))) fun v85=>
 M.bind (M.chk (isK v84) (M.if (isB v84 true) (oS (T.get tm 10) fun a=>M.pure a) (M.pure undef))) fun v86=>
 M.bind (M.chk (isK v84) (M.if (isB v84 true) (oS (some v86) fun a=>oS (some (.int .i64 1)) fun b=>Cl.get (aBin E .add 3 (.tmp 86) (.const (.int .i64 1))) a b) (M.pure undef))) fun v87=>
 M.bind (M.chk (isK v84) (M.if (isB v84 true) (M.on (some (.func (.func 15) #[] #[])) fun f=>M.on (seqO [(some v85),(some v87)]) fun l=>AL call round f l) (M.pure undef))) fun v88=>
 M.bind (M.on (some v84) fun a=>M.on (some v88) fun b=>M.on (some (.bool false)) fun c=>Bj a b c) fun v89=>
 mv (some v89) fun v90=>
 M.bind (M.chk (isK v90) (M.if (isB v90 true) (oS (T.get tm 12) fun a=>M.pure a) (M.pure undef))) fun v91=>
 M.bind (M.chk (isK v90) (M.if (isB v90 true) (oS (T.get tm 11) fun a=>M.pure a) (M.pure undef))) fun v92=>
 M.bind (M.chk (isK v90) (M.if (isB v90 true) (oS (some v92) fun a=>oS (some (.int .i64 1)) fun b=>Cl.get (aBin E .add 3 (.tmp 92) (.const (.int .i64 1))) a b) (M.pure undef))) fun v93=>
 M.bind (M.chk (isK v90) (M.if (isB v90 true) (M.on (some (.func (.func 16) #[] #[])) fun f=>M.on (seqO [(some v91),(some v93)]) fun l=>AL call round f l) (M.pure undef))) fun v94=>
 M.bind (M.on (some v90) fun a=>M.on (some v94) fun b=>M.on (some (.bool false)) fun c=>Bj a b c) fun v95=>
 mv (some v95) fun v96=>
 M.bind (M.chk (isK v96) (M.if (isB v96 true) (oS (T.get tm 6) fun a=>M.pure a) (M.pure undef))) fun v97=>
 M.bind (M.chk (isK v96) (M.if (isB v96 true) (M.on (some (.func (.func 18) #[] #[])) fun f=>M.on (seqO [(some v97),(some (.string {data:= #[106,111,117,114,110,97,108,46]}))]) fun l=>AL call round f l) (M.pure undef))) fun v98=>
 M.bind (M.chk (isK v96) (M.if (isB v96 true) (oS (seqP [(0,(some (.string {data:= #[106,111,117,114,110,97,108,46,50]})))]) fun ps=>Cp E 41 1 ps) (M.pure undef))) fun v99=>
 M.bind (M.chk (isK v96) (M.if (isB v96 true) (M.on (some (.func (.func 17) #[] #[])) fun f=>M.on (seqO [(some v98),(some v99)]) fun l=>AL call round f l) (M.pure undef))) fun v100=>
 M.bind (M.on (some v96) fun a=>M.on (some v100) fun b=>M.on (some (.bool false)) fun c=>Bj a b c) fun v101=>
 mv (some v101) fun v4=>
 setF 4 v4 tm fun tm1=>
 M.pure tm1
theorem HI_:RegEq 3 102 B9 LU WO:=⟨by kernel_rfl,fun _ _ _ _ _ _ _ _ _=>by kernel_rfl⟩
theorem AbS_: ∃k,PG= .code .ret::k:=⟨PG.tail,by kernel_rfl⟩
def DR:Nat:=A8 Tryz.f17
def Xb:Code:=Tryz.f17.body.getD .skip
theorem Em_:envS.fn.get 17=some Tryz.f17:=by kernel_rfl
theorem YM_ {a0 a1:Value}{n:Nat}{s:St}{Q:Value→St→Prop}(h: ∀tm,T.get tm 0=some a0→T.get tm 1=some a1→W (runF envS n ⟨17,26,DR,tm,[.code Xb], .run, .normal,none⟩) (s.cxN cxN) fun p s1=>Q p.1 (s1.cxN s.cx)):W (Ay envS (runF envS n) 17 [a0,a1]) s Q:=
 W.call (by kernel_rfl) (by kernel_rfl) Em_ (by kernel_rfl) rfl rfl (by simp) (h _ (by kernel_rfl) (by kernel_rfl))
theorem Aas_:Tryz.f17.results.toList=[.tmp 4]:=by kernel_rfl
def Pv:List Item:=skim 64 [.code Xb]
def Kc:List Item:=skim 64 Pv.tail
theorem NG_:skim 64 Pv.tail=Kc:=by kernel_rfl
def MD:List Item:=skim 64 Kc.tail
theorem AcR_:skim 64 Kc.tail=MD:=by kernel_rfl
def M1:List Item:=skim 64 (brF MD)
theorem Zv_:skim 64 (brF MD)=M1:=by kernel_rfl
def IA:List Item:=skim 64 M1.tail
theorem Ry_:skim 64 M1.tail=IA:=by kernel_rfl
def G7:List Item:=skim 64 IA.tail
theorem Zq:skim 64 IA.tail=G7:=by kernel_rfl
def HD:List Item:=skim 64 (brT G7)
theorem AdI_:skim 64 (brT G7)=HD:=by kernel_rfl
def LY:List Item:=skim 64 (brF G7)
theorem Zu_:skim 64 (brF G7)=LY:=by kernel_rfl
def Oc:List Item:=skim 64 HD.tail
theorem VJ_:skim 64 HD.tail=Oc:=by kernel_rfl
def Rm:List Item:=skim 64 LY.tail
theorem LH_:skim 64 LY.tail=Rm:=by kernel_rfl
def OU:List Item:=skim 64 (brF Oc)
theorem Xv_:skim 64 (brF Oc)=OU:=by kernel_rfl
theorem Ne_:skim 64 OU.tail=IA:=by kernel_rfl
def Vm (E:Env)(call round:Ad)(tm:T Value):M (T Value):=
 mv (some (.bool false)) fun v4=>
 setF 4 v4 tm fun tm1=>
 M.pure tm1
theorem AcD_:RegEq 17 26 DR Pv Vm:=⟨by kernel_rfl,fun _ _ _ _ _ _ _ _ _=>by kernel_rfl⟩
def Fp_ (E:Env)(call round:Ad)(tm:T Value):M (T Value):=
 mv (T.get tm 0) fun v6=>
 M.bind (oS (seqO [(some v6)]) fun l=>A9 E .len [41] l) fun v7=>
 mv (T.get tm 1) fun v8=>
 M.bind (oS (seqO [(some v8)]) fun l=>A9 E .len [41] l) fun v9=>
 M.bind (oS (some v7) fun a=>oS (some v9) fun b=>Cl.get (aBin E .neq 3 (.tmp 7) (.tmp 9)) a b) fun v10=>
 setF 10 v10 tm fun tm1=>
 M.pure tm1
theorem GR_:RegEq 17 26 DR Kc Fp_:=⟨by kernel_rfl,fun _ _ _ _ _ _ _ _ _=>by kernel_rfl⟩
theorem Adh_:A6 MD=some 10:=by kernel_rfl
def Y5 (E:Env)(call round:Ad)(tm:T Value):M (T Value):=
 mv (some (.int .i64 0)) fun v5=>
 setF 5 v5 tm fun tm1=>
 M.pure tm1
theorem AdB_:RegEq 17 26 DR M1 Y5:=⟨by kernel_rfl,fun _ _ _ _ _ _ _ _ _=>by kernel_rfl⟩
def Pr (E:Env)(call round:Ad)(tm:T Value):M (T Value):=
 mv (T.get tm 5) fun v11=>
 mv (T.get tm 0) fun v12=>
 M.bind (oS (seqO [(some v12)]) fun l=>A9 E .len [41] l) fun v13=>
 M.bind (oS (some v11) fun a=>oS (some v13) fun b=>Cl.get (aBin E .lss 3 (.tmp 11) (.tmp 13)) a b) fun v14=>
 setF 14 v14 tm fun tm1=>
 M.pure tm1
theorem WE:RegEq 17 26 DR IA Pr:=⟨by kernel_rfl,fun _ _ _ _ _ _ _ _ _=>by kernel_rfl⟩
theorem FS_:A6 G7=some 14:=by kernel_rfl
def DL_ (E:Env)(call round:Ad)(tm:T Value):M ((Rho×T Value)×List OpLog):=
 M.bind (apartO (oS (T.get tm 0) fun a=>M.pure a)) fun p0=>
 M.bind (apartO (oS (T.get tm 5) fun a=>M.pure a)) fun p1=>
 M.bind (apartO (oS (some p0.1) fun a=>oS (some p1.1) fun b=>BN E 41 a b)) fun p2=>
 M.bind (apartO (oS (some p2.1) fun a=>AE E 9 a)) fun p3=>
 M.bind (apartO (oS (T.get tm 1) fun a=>M.pure a)) fun p4=>
 M.bind (apartO (oS (T.get tm 5) fun a=>M.pure a)) fun p5=>
 M.bind (apartO (oS (some p4.1) fun a=>oS (some p5.1) fun b=>BN E 41 a b)) fun p6=>
 M.bind (apartO (oS (some p6.1) fun a=>AE E 9 a)) fun p7=>
 M.pure (([p7.1,p6.1,p5.1,p4.1,p3.1,p2.1,p1.1,p0.1],tm),[p7.2,p6.2,p5.2,p4.2,p3.2,p2.2,p1.2,p0.2])
theorem AcG_:DrawEq 17 26 DR HD [0,0,3,7,0,0,48,112,255] DL_:=⟨by kernel_rfl,by kernel_rfl,fun _ _ _ _ _ _ _ _ _=>by kernel_rfl⟩
theorem Acz_ (E:Env)(call round:Ad)(x17 x18 x19 x20 x21 x22 x23 x24:Value)(tm:T Value)(s:St):Bo call round (BV E DR 26 (hdC HD)) [x24,x23,x22,x21,x20,x19,x18,x17] tm s=(M.bind (oS (some x20) fun a=>oS (some x24) fun b=>Cl.get (aBin E .neq 9 (.tmp 20) (.tmp 24)) a b) fun v25=>setT 25 v25 tm fun tm1=>M.pure tm1) s:=by kernel_rfl
def Av_ (E:Env)(call round:Ad)(tm:T Value):M (T Value):=
 mv (some (.bool true)) fun v4=>
 setF 4 v4 tm fun tm1=>
 M.pure tm1
theorem Us_:RegEq 17 26 DR LY Av_:=⟨by kernel_rfl,fun _ _ _ _ _ _ _ _ _=>by kernel_rfl⟩
theorem Aad_:A6 Oc=some 25:=by kernel_rfl
theorem Ms_: ∃k,Rm= .code .ret::k:=⟨Rm.tail,by kernel_rfl⟩
def Gp_ (E:Env)(call round:Ad)(tm:T Value):M (T Value):=
 mv (T.get tm 5) fun v15=>
 M.bind (oS (some v15) fun a=>oS (some (.int .i64 1)) fun b=>Cl.get (aBin E .add 3 (.tmp 15) (.const (.int .i64 1))) a b) fun v16=>
 mv (some v16) fun v5=>
 setF 5 v5 tm fun tm1=>
 M.pure tm1
theorem PV_:RegEq 17 26 DR OU Gp_:=⟨by kernel_rfl,fun _ _ _ _ _ _ _ _ _=>by kernel_rfl⟩
theorem QY_:envS.orc.get 6=some (Sd (.bool true)):=by kernel_rfl
theorem Aer_:ptrT envS 25=true:=by kernel_rfl
theorem JrI.same {s s':St}{col:Nat→Nat}{D M J:Nat}{fl:ByteArray}{R:List (Nat×Nat)}{a b:Nat}{u:Bool}{k:DkS}{g:FileS}(h:JrI s col D M J fl R a b u k g)(hm:s'.mem=s.mem)(hn:s'.next=s.next):JrI s' col D M J fl R a b u k g:=
 ⟨h.dk.same hm hn,h.fs,h.room,h.fu,h.ou,h.safe,h.jn.same hm hn,h.jc⟩
theorem JrI.ext {F G:Nat→Prop}{s s':St}{col:Nat→Nat}{D M J:Nat}{fl:ByteArray}{R:List (Nat×Nat)}{a b:Nat}{u:Bool}{k:DkS}{g:FileS}(h:JrI s col D M J fl R a b u k g)(x:Ext F G s s')(hG: ∀y,y<s.next→G y→1000≤col y∧(y<J∨J+5≤y)):JrI s' col D M J fl R a b u k g:=
 ⟨h.dk.ext x (by rw[h.fs];show 1≤300;decide) fun y hy g=>(hG y hy g).1,h.fs,h.room,h.fu,h.ou,h.safe,h.jn.ext x fun y hy g=>(hG y hy g).2,h.jc⟩
theorem JrA.same {s s':St}{col:Nat→Nat}{D M J:Nat}{fl:ByteArray}{R:List (Nat×Nat)}{a b:Nat}{u:Bool}(h:JrA s col D M J fl R a b u)(hm:s'.mem=s.mem)(hn:s'.next=s.next):JrA s' col D M J fl R a b u:=by
 obtain⟨k,g,h⟩:=h
 exact⟨k,g,h.same hm hn⟩
theorem JrA.ext0 {F:Nat→Prop}{s s':St}{col:Nat→Nat}{D M J:Nat}{fl:ByteArray}{R:List (Nat×Nat)}{a b:Nat}{u:Bool}(h:JrA s col D M J fl R a b u)(x:Ext F Non s s'):JrA s' col D M J fl R a b u:=by
 obtain⟨k,g,h⟩:=h
 exact⟨k,g,h.ext x fun _ _ q=>q.elim⟩
theorem Hn_ {D M:Nat}{K:DkS}(h:K.fs=[]):SE D M K 1 0:=fun n s0 col0 Q0 hb hI hn q=>
 NT_ hb hI h (by omega) fun s1 x1=>q s1 _ s0.next (Nat.le_refl _) (.inl ⟨rfl,rfl,rfl⟩) x1
theorem WA_ {D M i:Nat}{K:DkS}{g:FileS}(h:K.fs=[g])(hg:g.name=nmJ i)(hi1:1≤i)(hi:i<40):SE D M K i 1:=fun n s0 col0 Q0 hb hI hn q=>
 Adk_ hb hI h hg hi hi1 (by omega) fun s1 v b h1 h2 x1=>q s1 v b h1 h2 x1
section
variable {n D M J:Nat}{s:St}{col:Nat→Nat}{fl:ByteArray}{R:List (Nat×Nat)}{a b:Nat}{Q:Value→St→Prop}
theorem ZF_ (hb:s.lim≤s.next)(hn:600000≤n)(q: ∀s1 col D M J,s.next≤D→s.next≤J→(∀x,x<s.next→1000≤col x)→Ext Any Non s s1→JrA s1 col D M J (nmJ 1) [(1,0),(2,0)] 0 0 false→Q (.tuple #[.pointer (some ⟨D,0,none⟩), .pointer (some ⟨J,0,none⟩), .bool true]) s1):
  W (Ay envS (runF envS n) 7 []) s Q:=by
 have hb0:(s.cxN cxN).lim≤(s.cxN cxN).next:=hb
 refine Hm_ fun tm=> ?_
 refine PG_.w rfl (by omega) ?_
 simp only[YL,Aa,W_mv,Ab]
 refine Ke_.w PJ_ (by omega) ?_
 simp only[U3,Ac,W_oS,W_on,Aa,W_mv,Ab,Ag,Af,Ae,Ah]
 refine AeB_ (room:=1048576) hb0 (by decide) (by omega) fun s1 x1 hI1=> ?_
 have ea:(s.cxN cxN).next=s.next:=rfl
 rw[ea]at hI1 ⊢
 try simp only[Ac,W_oS,W_on,Aa,W_mv,Ab,Ap,T.get_set,Ag,Af,As,Aq,Ae,Ah,reduceIte,Ak,Ao,Av,Aw,Ar,Aj,An,Au,Al,Ai,Nat.reduceEqDiff,reduceCtorEq, ↓reduceIte]
 rw[Bz (k:=0) rfl]
 try simp only[Ac,W_oS,W_on,Aa,W_mv,Ab,Ap,T.get_set,Ag,Af,As,Aq,Ae,Ah,reduceIte,Ak,Ao,Av,Aw,Ar,Aj,An,Au,Al,Ai,Nat.reduceEqDiff,reduceCtorEq, ↓reduceIte]
 rw[Bz (k:=1) rfl]
 try simp only[Ac,W_oS,W_on,Aa,W_mv,Ab,Ap,T.get_set,Ag,Af,As,Aq,Ae,Ah,reduceIte,Ak,Ao,Av,Aw,Ar,Aj,An,Au,Al,Ai,Nat.reduceEqDiff,reduceCtorEq, ↓reduceIte]
 refine Aac_.w XI_ (by omega) ?_
 simp only[Uy,Ac,W_oS,W_on,Aa,W_mv,Ab,T.get_set,reduceIte,Ak,Ar,Aj,An,Al,Nat.reduceEqDiff,reduceCtorEq, ↓reduceIte,By,decide_true,Bool.not_true,DS Aer_]
 refine W.cond (v:=false) XT_ AaD_ (by simp[T.get_set]) (by omega) (fun h=>by cases h) fun _=> ?_
 refine Xe_.w LE_ (by omega) ?_
 simp only[ZL,Ac,W_oS,W_on,Aa,W_mv,Ab,T.get_set,Ag,Af,Ae,Ah,reduceIte,Nat.reduceEqDiff, ↓reduceIte]
 have hc: ∀x,x<s.next→newC s.next x=1000:=fun x hx=>by unfold newC;rw[if_pos hx]
 refine UP (m:=1) (L:=[]) (u:=false) (x1.bnd hb0) hI1 trivial (fun p hp=>by cases hp) (fun _=>rfl) (Nat.le_refl _) (by decide) (by decide) rfl rfl rfl (by omega) (Hn_ rfl) (fun h=>by cases h) fun s2 col2 J k g hag x2 hJ hJr=> ?_
 have n1:s.next≤s1.next:=x1.nxt
 have y2:Ext Any Non (s.cxN cxN) s2:=x1.on x2 hb0 fun x hx h=>by
  have hx:x<s.next:=hx
  have h:newC s.next x<1000:=h
  rw[hc x hx]at h
  omega
 try simp only[Ac,W_oS,W_on,Aa,W_mv,Ab,Ap,T.get_set,Ag,Af,As,Aq,Ae,Ah,reduceIte,Ak,Ao,Av,Aw,Ar,Aj,An,Au,Al,Ai,Nat.reduceEqDiff,reduceCtorEq, ↓reduceIte]
 rw[Bz (k:=0) rfl]
 try simp only[Ac,W_oS,W_on,Aa,W_mv,Ab,Ap,T.get_set,Ag,Af,As,Aq,Ae,Ah,reduceIte,Ak,Ao,Av,Aw,Ar,Aj,An,Au,Al,Ai,Nat.reduceEqDiff,reduceCtorEq, ↓reduceIte]
 rw[Bz (k:=1) rfl]
 try simp only[Ac,W_oS,W_on,Aa,W_mv,Ab,Ap,T.get_set,Ag,Af,As,Aq,Ae,Ah,reduceIte,Ak,Ao,Av,Aw,Ar,Aj,An,Au,Al,Ai,Nat.reduceEqDiff,reduceCtorEq, ↓reduceIte]
 refine Kw_.w AdY_ (by omega) ?_
 simp only[Ax_,Ac,W_oS,W_on,Aa,W_mv,Ab,T.get_set,reduceIte,Ak,Ao,Aj,An,Al,Nat.reduceEqDiff, ↓reduceIte,BS,decide_true,BI_ PL]
 refine W.end' (rs:=[0,1,2]) (vs:=[.pointer (some ⟨s.next+1,0,none⟩), .pointer (some ⟨J,0,none⟩), .bool true]) Ud_ (.inl OP_) (by omega) V6 WZ_ y2.cx (by simp[T.get_set]) ?_
 refine q _ col2 (s.next+1) s.next J (by omega) (by omega) (fun x hx=> ?_) y2.cx' ⟨k,g,hJr.same rfl rfl⟩
 rw[hag x (by omega) (by rw[hc x hx];exact Nat.le_refl _),hc x hx]
 exact Nat.le_refl _
theorem MR_ {w:Nat}(hb:s.lim≤s.next)(h:JrA s col D M J fl R a b false)(hnm:NmOk fl)(hm2:a+1<256)(hR:R.length≤300)(hw:w=a+1)(hn:3000≤n)
  (q: ∀s1 col',(∀x,x<s.next→col' x=col x)→Ext Any (fun x=>col x<1000∨x=J+2) s s1→JrA s1 col' D M J fl (R++[(1,a+1)]) (a+1) b false→Q (.bool true) s1):
  W (Ay envS (runF envS n) 15 [.pointer (some ⟨J,0,none⟩), .int .i64 (w:Nat)]) s Q:=by
 subst hw
 have hb0:(s.cxN cxN).lim≤(s.cxN cxN).next:=hb
 refine Sg_ fun tm t0 t1=> ?_
 refine Vm_.w rfl (by omega) ?_
 simp only[Ff_,Aa,W_mv,Ab]
 refine Ws_.w HV_ (by omega) ?_
 simp only[VG,Ac,W_oS,W_on,Aa,W_mv,Ab,T.get_set,Ag,Af,Ae,Ah,reduceIte,reduceCtorEq, ↓reduceIte,t0]
 refine DM_ hb0 (h.same (s':=s.cxN cxN) rfl rfl) hnm hm2 hR (by omega) (fun hu=>by cases hu) fun s1 col1 hag x1 h1=> ?_
 try simp only[Ac,W_oS,W_on,Aa,W_mv,Ab,Ap,T.get_set,Ag,Af,As,Aq,Ae,Ah,reduceIte,Ak,Ao,Av,Aw,Ar,Aj,An,Au,Al,Ai,Nat.reduceEqDiff,reduceCtorEq, ↓reduceIte]
 rw[Bz (k:=0) rfl]
 try simp only[Ac,W_oS,W_on,Aa,W_mv,Ab,Ap,T.get_set,Ag,Af,As,Aq,Ae,Ah,reduceIte,Ak,Ao,Av,Aw,Ar,Aj,An,Au,Al,Ai,Nat.reduceEqDiff,reduceCtorEq, ↓reduceIte]
 rw[Bz (k:=1) rfl]
 try simp only[Ac,W_oS,W_on,Aa,W_mv,Ab,Ap,T.get_set,Ag,Af,As,Aq,Ae,Ah,reduceIte,Ak,Ao,Av,Aw,Ar,Aj,An,Au,Al,Ai,Nat.reduceEqDiff,reduceCtorEq, ↓reduceIte]
 refine LS_.w Afg_ (by omega) ?_
 simp only[BX_,Ac,W_oS,W_on,Aa,W_mv,Ab,T.get_set,reduceIte,Ak,Ao,Aj,An,Al,Nat.reduceEqDiff, ↓reduceIte,BS,t1,decide_true]
 refine W.end' (rs:=[4]) (vs:=[.bool true]) QT_ (.inl Abp_) (by omega) Xq Ace_ x1.cx (by simp[T.get_set]) ?_
 exact q _ col1 hag x1.cx' (h1.same rfl rfl)
theorem AaS_ {w:Nat}(hb:s.lim≤s.next)(h:JrA s col D M J fl R a b false)(hnm:NmOk fl)(hm2:b+1<256)(hR:R.length≤300)(hw:w=b+1)(hn:3000≤n)
  (q: ∀s1 col',(∀x,x<s.next→col' x=col x)→Ext Any (fun x=>col x<1000∨x=J+3) s s1→JrA s1 col' D M J fl (R++[(2,b+1)]) a (b+1) false→Q (.bool true) s1):
  W (Ay envS (runF envS n) 16 [.pointer (some ⟨J,0,none⟩), .int .i64 (w:Nat)]) s Q:=by
 subst hw
 have hb0:(s.cxN cxN).lim≤(s.cxN cxN).next:=hb
 refine KJ_ fun tm t0 t1=> ?_
 refine Tz_.w rfl (by omega) ?_
 simp only[Ex_,Aa,W_mv,Ab]
 refine ZZ_.w HY_ (by omega) ?_
 simp only[BW_,Ac,W_oS,W_on,Aa,W_mv,Ab,T.get_set,Ag,Af,Ae,Ah,reduceIte,reduceCtorEq, ↓reduceIte,t0]
 refine Gy_ hb0 (h.same (s':=s.cxN cxN) rfl rfl) hnm hm2 hR (by omega) (fun hu=>by cases hu) fun s1 col1 hag x1 h1=> ?_
 try simp only[Ac,W_oS,W_on,Aa,W_mv,Ab,Ap,T.get_set,Ag,Af,As,Aq,Ae,Ah,reduceIte,Ak,Ao,Av,Aw,Ar,Aj,An,Au,Al,Ai,Nat.reduceEqDiff,reduceCtorEq, ↓reduceIte]
 rw[Bz (k:=0) rfl]
 try simp only[Ac,W_oS,W_on,Aa,W_mv,Ab,Ap,T.get_set,Ag,Af,As,Aq,Ae,Ah,reduceIte,Ak,Ao,Av,Aw,Ar,Aj,An,Au,Al,Ai,Nat.reduceEqDiff,reduceCtorEq, ↓reduceIte]
 rw[Bz (k:=1) rfl]
 try simp only[Ac,W_oS,W_on,Aa,W_mv,Ab,Ap,T.get_set,Ag,Af,As,Aq,Ae,Ah,reduceIte,Ak,Ao,Av,Aw,Ar,Aj,An,Au,Al,Ai,Nat.reduceEqDiff,reduceCtorEq, ↓reduceIte]
 refine WB_.w Hy_ (by omega) ?_
 simp only[Bq_,Ac,W_oS,W_on,Aa,W_mv,Ab,T.get_set,reduceIte,Ak,Ao,Aj,An,Al,Nat.reduceEqDiff, ↓reduceIte,BS,t1,decide_true]
 refine W.end' (rs:=[4]) (vs:=[.bool true]) NJ_ (.inl GZ_) (by omega) Fs_ JK_ x1.cx (by simp[T.get_set]) ?_
 exact q _ col1 hag x1.cx' (h1.same rfl rfl)
theorem Acx_ {u:Bool}(hb:s.lim≤s.next)(h:JrA s col D M J fl R a b u)(hn:1000≤n)(q: ∀s1,Ext Any Non s s1→Q (.bool true) s1):
  W (Ay envS (runF envS n) 14 [.pointer (some ⟨J,0,none⟩), .int .i64 (a:Nat), .int .i64 (b:Nat)]) s Q:=by
 have hb0:(s.cxN cxN).lim≤(s.cxN cxN).next:=hb
 refine NL_ fun tm t0 t1 t2=> ?_
 refine Acg_.w rfl (by omega) ?_
 simp only[DW_,Aa,W_mv,Ab]
 refine KR_.w Aav_ (by omega) ?_
 simp only[AH_,Ac,W_oS,W_on,Aa,W_mv,Ab,T.get_set,Ag,Af,Ae,Ah,reduceIte,reduceCtorEq, ↓reduceIte,t0]
 refine Ad_ hb0 (h.same (s':=s.cxN cxN) rfl rfl) (by omega) fun s1 x1=> ?_
 try simp only[Ac,W_oS,W_on,Aa,W_mv,Ab,Ap,T.get_set,Ag,Af,As,Aq,Ae,Ah,reduceIte,Ak,Ao,Av,Aw,Ar,Aj,An,Au,Al,Ai,Nat.reduceEqDiff,reduceCtorEq, ↓reduceIte]
 rw[Bz (k:=0) rfl]
 try simp only[Ac,W_oS,W_on,Aa,W_mv,Ab,Ap,T.get_set,Ag,Af,As,Aq,Ae,Ah,reduceIte,Ak,Ao,Av,Aw,Ar,Aj,An,Au,Al,Ai,Nat.reduceEqDiff,reduceCtorEq, ↓reduceIte]
 rw[Bz (k:=1) rfl]
 try simp only[Ac,W_oS,W_on,Aa,W_mv,Ab,Ap,T.get_set,Ag,Af,As,Aq,Ae,Ah,reduceIte,Ak,Ao,Av,Aw,Ar,Aj,An,Au,Al,Ai,Nat.reduceEqDiff,reduceCtorEq, ↓reduceIte]
 refine Vq_.w Abz_ (by omega) ?_
 simp only[Xz,Ac,W_oS,W_on,Aa,W_mv,Ab,T.get_set,reduceIte,Ak,Ao,Aj,An,Al,Nat.reduceEqDiff, ↓reduceIte,BS,t1,t2,decide_true]
 refine W.end' (rs:=[6]) (vs:=[.bool true]) XU_ (.inl HH_) (by omega) Fx_ Wz_ x1.cx (by simp[T.get_set]) ?_
 exact q _ x1.cx'
theorem XS_ {v1 v2:Value}{b1 b2 c2:Nat}{x:ByteArray}(hb:s.lim≤s.next)(h1:NmR s v1 [x] b1)(h2:v2= .slice (some ⟨b2,0,none⟩) 1 c2)(o2:Own s b2 0 (.string x))(hn:200≤n)(q: ∀s1,Ext Any Non s s1→Q (.bool true) s1):
  W (Ay envS (runF envS n) 17 [v1,v2]) s Q:=by
 subst h2
 have hb0:(s.cxN cxN).lim≤(s.cxN cxN).next:=hb
 obtain⟨c1,rfl,o1⟩:=h1.at (i:=0) (by simp)
 have o1:Own (s.cxN cxN) b1 (0+0*1) (.string x):=o1.same rfl rfl
 have o2:Own (s.cxN cxN) b2 (0+0*1) (.string x):=o2.same rfl rfl
 refine YM_ fun tm t0 t1=> ?_
 refine AcD_.w rfl (by omega) ?_
 simp only[Vm,Aa,W_mv,Ab]
 refine GR_.w NG_ (by omega) ?_
 simp only[Fp_,Ac,W_oS,Aa,W_mv,Ab,T.get_set,Ag,Af,Ae,reduceIte,Nat.reduceEqDiff,reduceCtorEq, ↓reduceIte,By,t0,t1,Cw EP,List.length_singleton,decide_true,Bool.not_true]
 refine W.cond (v:=false) AcR_ Adh_ (by simp[T.get_set]) (by omega) (fun h=>by cases h) fun _=> ?_
 refine AdB_.w Zv_ (by omega) ?_
 simp only[Y5,Aa,W_mv,Ab]
 refine WE.w Ry_ (by omega) ?_
 simp only[Pr,Ac,W_oS,Aa,W_mv,Ab,T.get_set,Ag,Af,Ae,reduceIte,reduceCtorEq, ↓reduceIte,Bp,t0,Cw EP,List.length_singleton]
 refine W.cond (v:=true) Zq FS_ (by simp[T.get_set]) (by omega) (fun _=> ?_) fun h=>by cases h
 refine AcG_.w AdI_ (by omega) ?_
 generalize hs1:s.cxN cxN=s1 at *
 simp only[DL_,T.get_set,Nat.reduceEqDiff, ↓reduceIte,t0,t1,AP,B0]
 rw[W_dq fun s Q=>T3 (s:=s) EP (by simp) Q]
 simp only[AP]
 refine W.dload CK (o1.same (s':=dSt s1.mem s1.next) rfl rfl).at' fun rd1 hr1=> ?_
 simp only[B0]
 rw[W_dq fun s Q=>T3 (s:=s) EP (by simp) Q]
 simp only[AP]
 refine W.dload CK (o2.same (s':=dSt s1.mem s1.next) rfl rfl).at' fun rd2 hr2=> ?_
 rw[Aa]
 refine⟨DM (by simp) (by simp), ?_⟩
 refine W.cast (Acz_ ..) ?_
 simp only[Ac,W_oS,Aa,Ap,TM_,beq_self_eq_true,Bool.not_true]
 generalize hsF:(⟨(dSt s1.mem s1.next).mem,(dSt s1.mem s1.next).next,s1.lim,_,_,s1.cx⟩:St)=sF
 have xF:Ext Any Non s1 sF:=by
  rw[←hsF]
  exact Ext.draw (F:=Any) (Nat.le_refl _) (fun _ _=>rfl) (by simp) fun _ _ _ _ _=>trivial
 refine W.cond (v:=false) VJ_ Aad_ (by simp[T.get_set]) (by omega) (fun h=>by cases h) fun _=> ?_
 refine PV_.w Xv_ (by omega) ?_
 have e1:wrap64 ((0:Int)+1)=1:=by decide
 simp only[Gp_,Ac,W_oS,Aa,W_mv,Ab,T.get_set,reduceIte,Nat.reduceEqDiff, ↓reduceIte,BC,e1]
 refine WE.w Ne_ (by omega) ?_
 simp only[Pr,Ac,W_oS,Aa,W_mv,Ab,T.get_set,Ag,Af,Ae,reduceIte,reduceCtorEq, ↓reduceIte,Bp,t0,Cw EP,List.length_singleton]
 refine W.cond (v:=false) Zq FS_ (by simp[T.get_set]) (by omega) (fun h=>by cases h) fun _=> ?_
 refine Us_.w Zu_ (by omega) ?_
 simp only[Av_,Aa,W_mv,Ab]
 refine W.end' (rs:=[4]) (vs:=[.bool true]) LH_ (.inl Ms_) (by omega) Em_ Aas_ (xF.cx.trans (by rw[←hs1];rfl)) (by simp[T.get_set]) ?_
 rw[←hs1]at xF
 exact q _ xF.cx'
end
theorem Sf:slN envS 22=some 1:=by kernel_rfl
theorem Kj_:elT envS 41=some (1,16,[.string ⟨#[]⟩]):=by kernel_rfl
theorem WY_ (a:ByteArray):C1 (fun k=>some (k*1,1)) [(0, .string a)] (rep 1 [.string ⟨#[]⟩])=some [.string a]:=rfl
theorem nm_1:(⟨#[106,111,117,114,110,97,108,46,49]⟩:ByteArray)=nmJ 1:=by kernel_rfl
theorem nm_2:(⟨#[106,111,117,114,110,97,108,46,50]⟩:ByteArray)=nmJ 2:=by kernel_rfl
theorem nm_p:(⟨#[106,111,117,114,110,97,108,46]⟩:ByteArray)=preJ:=by kernel_rfl
def BoR (s:St)(v:Value)(l:List Bool):Prop:=(v= .slice none 0 0∧l=[])∨ ∃b o c,v= .slice (some ⟨b,o,none⟩) l.length c∧Row s b o (l.map Value.bool)
theorem BoR.ext0 {F:Nat→Prop}{s s':St}{v:Value}{l:List Bool}(h:BoR s v l)(x:Ext F Non s s'):BoR s' v l:=by
 rcases h with h|⟨b,o,c,h1,h2⟩
 ·exact .inl h
 ·exact .inr ⟨b,o,c,h1,h2.ext0 x⟩
theorem BoR.same {s s':St}{v:Value}{l:List Bool}(h:BoR s v l)(hm:s'.mem=s.mem)(hn:s'.next=s.next):BoR s' v l:=by
 rcases h with h|⟨b,o,c,h1,h2⟩
 ·exact .inl h
 ·exact .inr ⟨b,o,c,h1,fun i v e=>(h2 i v e).same hm hn⟩
theorem BoR.len {s s':St}{v:Value}{l:List Bool}(h:BoR s v l)(Q:Value→St→Prop):W (A9 envS .len [22] [v]) s' Q=Q (.int .i64 (l.length:Nat)) s':=by
 rcases h with⟨rfl,rfl⟩|⟨b,o,c,rfl,_⟩
 ·exact Cw (n:=0) Sf Q
 ·exact Cw Sf Q
theorem BoR.at {s:St}{v:Value}{l:List Bool}{i:Nat}(h:BoR s v l)(hi:i<l.length): ∃b o c,v= .slice (some ⟨b,o,none⟩) l.length c∧At s b (o+i*1) (.bool l[i]):=by
 rcases h with⟨_,rfl⟩|⟨b,o,c,h1,h2⟩
 ·cases hi
 ·refine⟨b,o,c,h1, ?_⟩
  rw[Nat.mul_one]
  exact h2 i _ (by simp[hi])
theorem R0: ∀(l:List Bool) (x:Bool) (s c:Nat),BM (l++[x]) s c=BM l s c++[if x then(1,s+nSes l+1)else(2,c+nCom l+1)]
 |[],true,s,c=>rfl
 |[],false,s,c=>rfl
 |true::l,x,s,c=>by
  show(1,s+1)::BM (l++[x]) (s+1) c=(1,s+1)::(BM l (s+1) c++_)
  rw[R0 l x (s+1) c]
  have e1:nSes (true::l)=nSes l+1:=by simp[nSes]
  have e2:nCom (true::l)=nCom l:=by simp[nCom]
  rw[e1,e2,show s+1+nSes l+1=s+(nSes l+1)+1 by omega]
 |false::l,x,s,c=>by
  show(2,c+1)::BM (l++[x]) s (c+1)=(2,c+1)::(BM l s (c+1)++_)
  rw[R0 l x s (c+1)]
  have e1:nSes (false::l)=nSes l:=by simp[nSes]
  have e2:nCom (false::l)=nCom l+1:=by simp[nCom]
  rw[e1,e2,show c+1+nCom l+1=c+(nCom l+1)+1 by omega]
theorem FO_ (l:List Bool)(x:Bool):nSes (l++[x])=nSes l+if x then 1 else 0:=by cases x<;>simp[nSes]
theorem WR (l:List Bool)(x:Bool):nCom (l++[x])=nCom l+if x then 0 else 1:=by cases x<;>simp[nCom]
theorem AU_ (l:List Bool)(x:Bool):B1 0 0 (l++[x])=B1 0 0 l++[if x then(1,nSes l+1)else(2,nCom l+1)]:=by
 show(1,0)::(2,0)::BM (l++[x]) 0 0=(1,0)::(2,0)::(BM l 0 0++_)
 rw[R0]
 simp
section
variable {n D M J:Nat}{s:St}{col:Nat→Nat}{va vb:Value}{l:List Bool}{bs:List Nat}
theorem VL_ {s0:St}(hb0:s0.lim≤s0.next)(hJ:s0.next≤J)(hl:BoR s0 va l)(h30:l.length≤30)
  (q: ∀n tm td s col,1000000≤n→skim 64 td=H9→Ext Any Non s0 s→(∀x,x<s0.next→1000≤col x)→JrA s col D M J (nmJ 1) (B1 0 0 l) (nSes l) (nCom l) false→T.get tm 1=some vb→T.get tm 5=some (.bool true)→T.get tm 6=some (.pointer (some ⟨D,0,none⟩))→T.get tm 7=some (.pointer (some ⟨J,0,none⟩))→W (runF envS n ⟨3,QJ,B9,tm,td, .run, .normal,none⟩) s fun p _=>p.1= .bool true):
  ∀(k i n:Nat) (tm:T Value) (td:List Item) (s:St) (col:Nat→Nat),i+k=l.length→1000010+10*k≤n→skim 64 td=F4→Ext Any Non s0 s→(∀x,x<s0.next→1000≤col x)→JrA s col D M J (nmJ 1) (B1 0 0 (l.take i)) (nSes (l.take i)) (nCom (l.take i)) false→
   T.get tm 0=some va→T.get tm 1=some vb→T.get tm 5=some (.bool true)→T.get tm 6=some (.pointer (some ⟨D,0,none⟩))→T.get tm 7=some (.pointer (some ⟨J,0,none⟩))→T.get tm 9=some (.int .i64 (i:Nat))→
   W (runF envS n ⟨3,QJ,B9,tm,td, .run, .normal,none⟩) s fun p _=>p.1= .bool true:=by
 intro k
 induction k with
 |zero=>
  intro i n tm td s col hi hn hT hx hc hA t0 t1 t5 t6 t7 t9
  have e:i=l.length:=by omega
  subst e
  rw[List.take_length]at hA
  refine DI_.w hT (by omega) ?_
  have d1:decide (((l.length:Nat):Int)<((l.length:Nat):Int))=false:=decide_eq_false (by omega)
  simp only[S6,Ac,W_oS,Aa,W_mv,Ab,Ag,Af,Ae,Bp,t0,t9,BoR.len hl,d1]
  refine W.cond (v:=false) Ei_ Yi (by simp[T.get_set]) (by omega) (fun h=>by cases h) fun _=> ?_
  exact q _ _ _ s col (by omega) Abj_ hx hc hA (by simp[T.get_set,t1]) (by simp[T.get_set,t5]) (by simp[T.get_set,t6]) (by simp[T.get_set,t7])
 |succ k ih=>
  intro i n tm td s col hi hn hT hx hc hA t0 t1 t5 t6 t7 t9
  have hil:i<l.length:=by omega
  have hls:=hl.ext0 hx
  have hbs:=hx.bnd hb0
  obtain⟨b,o,c,ev,hat⟩:=hls.at hil
  have d1:decide (((i:Nat):Int)<((l.length:Nat):Int))=true:=decide_eq_true (by omega)
  refine DI_.w hT (by omega) ?_
  simp only[S6,Ac,W_oS,Aa,W_mv,Ab,Ag,Af,Ae,Bp,t0,t9,BoR.len hl,d1]
  refine W.cond (v:=true) Ei_ Yi (by simp[T.get_set]) (by omega) (fun _=> ?_) fun h=>by cases h
  refine UV_.w RU_ (by omega) ?_
  simp only[Yn,Ac,W_oS,Aa,W_mv,Ab,T.get_set,reduceIte,Nat.reduceEqDiff,reduceCtorEq, ↓reduceIte,t0,t9]
  rw[ev]
  simp only[C4 Sf hil]
  refine W.load1 DC hat ?_
  have y1:=hx.thenRd hb0 (b+(o+i*1))
  have hA1:JrA (s.rdN (b+(o+i*1))) col D M J (nmJ 1) _ _ _ false:=hA.same rfl rfl
  have hs1:s0.next≤(s.rdN (b+(o+i*1))).next:=hx.nxt
  generalize s.rdN (b+(o+i*1))=s1 at *
  rw[←ev]at *
  have hb1:=y1.bnd hb0
  have ht:l.take (i+1)=l.take i++[l[i]]:=by rw[List.take_succ_eq_append_getElem hil]
  have hsum:=nSum (l.take i)
  have hti:(l.take i).length=i:=by rw[List.length_take];omega
  have hfl:(B1 0 0 (l.take i)).length≤300:=by rw[UB];omega
  have e2:wrap64 (((i:Nat):Int)+1)=((i+1:Nat):Int):=by
   rw[B6 (by omega) (by omega)];simp
  try simp only[Ac,W_oS,W_on,Aa,W_mv,Ab,Ap,T.get_set,Ag,Af,As,Aq,Ae,Ah,reduceIte,Ak,Ao,Av,Aw,Ar,Aj,An,Au,Al,Ai,Nat.reduceEqDiff,reduceCtorEq, ↓reduceIte]
  cases hv:l[i]with
  |true=>
   rw[hv]at ht
   refine W.cond (v:=true) Ep_ YX (by simp[T.get_set]) (by omega) (fun _=> ?_) fun h=>by cases h
   refine Tf_.w IL_ (by omega) ?_
   simp only[BK_,Ac,W_on,Aa,W_mv,T.get_set,Ag,Af,Ae,Ah,reduceIte,Nat.reduceEqDiff, ↓reduceIte,t7]
   refine DM_ hb1 hA1 (Gr (by decide)) (by omega) hfl (by omega) (fun hu=>by cases hu) fun s2 col2 hag x2 hA2=> ?_
   have y2:Ext Any Non s0 s2:=y1.on x2 hb0 fun x hx h=>by
    have:=hc x hx
    rcases h with h|h<;>omega
   try simp only[Ac,W_oS,W_on,Aa,W_mv,Ab,Ap,T.get_set,Ag,Af,As,Aq,Ae,Ah,reduceIte,Ak,Ao,Av,Aw,Ar,Aj,An,Au,Al,Ai,Nat.reduceEqDiff,reduceCtorEq, ↓reduceIte]
   refine AS_.w MA_ (by omega) ?_
   simp only[P3,Ac,W_oS,Aa,W_mv,Ab,T.get_set,reduceIte,Nat.reduceEqDiff, ↓reduceIte,BC,t9,e2]
   have hA2':JrA s2 col2 D M J (nmJ 1) (B1 0 0 (l.take (i+1))) (nSes (l.take (i+1))) (nCom (l.take (i+1))) false:=by
    rw[ht,AU_,FO_,WR]
    exact hA2
   exact ih (i+1) _ _ _ s2 col2 (by omega) (by omega) ZO y2 (fun x hx=>by rw[hag x (by omega)];exact hc x hx) hA2' (by simp[T.get_set,t0]) (by simp[T.get_set,t1]) (by simp[T.get_set,t5]) (by simp[T.get_set,t6]) (by simp[T.get_set,t7]) (by simp[T.get_set])
  |false=>
   rw[hv]at ht
   refine W.cond (v:=false) Ep_ YX (by simp[T.get_set]) (by omega) (fun h=>by cases h) fun _=> ?_
   refine Nn_.w Um_ (by omega) ?_
   simp only[CK_,Ac,W_on,Aa,W_mv,T.get_set,Ag,Af,Ae,Ah,reduceIte,Nat.reduceEqDiff, ↓reduceIte,t7]
   refine Gy_ hb1 hA1 (Gr (by decide)) (by omega) hfl (by omega) (fun hu=>by cases hu) fun s2 col2 hag x2 hA2=> ?_
   have y2:Ext Any Non s0 s2:=y1.on x2 hb0 fun x hx h=>by
    have:=hc x hx
    rcases h with h|h<;>omega
   try simp only[Ac,W_oS,W_on,Aa,W_mv,Ab,Ap,T.get_set,Ag,Af,As,Aq,Ae,Ah,reduceIte,Ak,Ao,Av,Aw,Ar,Aj,An,Au,Al,Ai,Nat.reduceEqDiff,reduceCtorEq, ↓reduceIte]
   refine AS_.w QG_ (by omega) ?_
   simp only[P3,Ac,W_oS,Aa,W_mv,Ab,T.get_set,reduceIte,Nat.reduceEqDiff, ↓reduceIte,BC,t9,e2]
   have hA2':JrA s2 col2 D M J (nmJ 1) (B1 0 0 (l.take (i+1))) (nSes (l.take (i+1))) (nCom (l.take (i+1))) false:=by
    rw[ht,AU_,FO_,WR]
    exact hA2
   exact ih (i+1) _ _ _ s2 col2 (by omega) (by omega) ZO y2 (fun x hx=>by rw[hag x (by omega)];exact hc x hx) hA2' (by simp[T.get_set,t0]) (by simp[T.get_set,t1]) (by simp[T.get_set,t5]) (by simp[T.get_set,t6]) (by simp[T.get_set,t7]) (by simp[T.get_set])
end
theorem VM_ {n:Nat}{s:St}{va vb:Value}{l:List Bool}{bs:List Nat}(hb:s.lim≤s.next)(hl:BoR s va l)(hB:Bs s vb bs)(hll:l.length≤9223372036854775807)(hbl:bs.length≤9223372036854775807)(hn:2000000≤n):
  W (Ay envS (runF envS n) 3 [va,vb]) s fun v _=>v= .bool true:=by
 have hb0:(s.cxN cxN).lim≤(s.cxN cxN).next:=hb
 have hl0:BoR (s.cxN cxN) va l:=hl.same rfl rfl
 have hB0:Bs (s.cxN cxN) vb bs:=hB.same rfl rfl
 refine Aco_ fun tm t0 t1=> ?_
 refine UD_.w rfl (by omega) ?_
 simp only[Eu_,Aa,W_mv,Ab]
 refine Aes_.w Qy_ (by omega) ?_
 simp only[Xe,Ac,W_on,Aa,W_mv,Ab,Af,Ah]
 refine W.orc QY_ (W.pure ?_)
 try simp only[Ac,W_oS,W_on,Aa,W_mv,Ab,Ap,T.get_set,Ag,Af,As,Aq,Ae,Ah,reduceIte,Ak,Ao,Av,Aw,Ar,Aj,An,Au,Al,Ai,Nat.reduceEqDiff,reduceCtorEq, ↓reduceIte]
 refine Xz_.w Hp_ (by omega) ?_
 simp only[Dj_,Ac,W_oS,W_on,Aa,W_mv,Ab,Af,Ah]
 refine ZF_ hb0 (by omega) fun s1 col1 D M J hD hJ hc1 x1 hA1=> ?_
 have hs1:s.next≤s1.next:=x1.nxt
 try simp only[Ac,W_oS,W_on,Aa,W_mv,Ab,Ap,T.get_set,Ag,Af,As,Aq,Ae,Ah,reduceIte,Ak,Ao,Av,Aw,Ar,Aj,An,Au,Al,Ai,Nat.reduceEqDiff,reduceCtorEq, ↓reduceIte]
 rw[Bz (k:=0) rfl]
 try simp only[Ac,W_oS,W_on,Aa,W_mv,Ab,Ap,T.get_set,Ag,Af,As,Aq,Ae,Ah,reduceIte,Ak,Ao,Av,Aw,Ar,Aj,An,Au,Al,Ai,Nat.reduceEqDiff,reduceCtorEq, ↓reduceIte]
 rw[Bz (k:=1) rfl]
 try simp only[Ac,W_oS,W_on,Aa,W_mv,Ab,Ap,T.get_set,Ag,Af,As,Aq,Ae,Ah,reduceIte,Ak,Ao,Av,Aw,Ar,Aj,An,Au,Al,Ai,Nat.reduceEqDiff,reduceCtorEq, ↓reduceIte]
 rw[Bz (k:=2) rfl]
 try simp only[Ac,W_oS,W_on,Aa,W_mv,Ab,Ap,T.get_set,Ag,Af,As,Aq,Ae,Ah,reduceIte,Ak,Ao,Av,Aw,Ar,Aj,An,Au,Al,Ai,Nat.reduceEqDiff,reduceCtorEq, ↓reduceIte]
 refine AdX_.w Rh_ (by omega) ?_
 have out: ∀(tm':T Value),T.get tm' 5=some (.bool true)→T.get tm' 8=some (.bool true)→W (runF envS (n-1-1-1-1-1) ⟨3,QJ,B9,tm',brT Fw, .run, .normal,none⟩) s1 fun p s1=>p.1= .bool true:=fun tm' g5 g8=>by
  refine Os_.w Nz_ (by omega) ?_
  simp only[Cf_,Ac,W_oS,W_on,Aa,W_mv,Ab,reduceIte,Ak,Ao,Aj,An,Al, ↓reduceIte,g5,g8]
  exact W.end' (rs:=[4]) (vs:=[.bool true]) YF_ (.inl ZU_) (by omega) PI X1 x1.cx (by simp[T.get_set]) rfl
 by_cases h30:30<l.length
 ·have d1:decide (((l.length:Nat):Int)>30)=true:=decide_eq_true (by omega)
  simp only[LE,Ac,W_oS,W_on,Aa,W_mv,Ab,T.get_set,Ag,Af,Ae,reduceIte,Ak,Av,Aj,Au,Al,Nat.reduceEqDiff,reduceCtorEq, ↓reduceIte,BZ,t0,t1,BoR.len hl0,d1]
  refine W.cond (v:=true) SQ Oz (by simp[T.get_set]) (by omega) (fun _=> ?_) fun h=>by cases h
  exact out _ (by simp[T.get_set]) (by simp[T.get_set])
 have d1:decide (((l.length:Nat):Int)>30)=false:=decide_eq_false (by omega)
 by_cases h8:8<bs.length
 ·have d2:decide (((bs.length:Nat):Int)>8)=true:=decide_eq_true (by omega)
  simp only[LE,Ac,W_oS,W_on,Aa,W_mv,Ab,T.get_set,Ag,Af,Ae,reduceIte,Ak,Av,Ar,Aj,An,Au,Al,Nat.reduceEqDiff,reduceCtorEq, ↓reduceIte,BZ,t0,t1,BoR.len hl0,d1,(hB0.ext0 x1).len BU,d2]
  refine W.cond (v:=true) SQ Oz (by simp[T.get_set]) (by omega) (fun _=> ?_) fun h=>by cases h
  exact out _ (by simp[T.get_set]) (by simp[T.get_set])
 have d2:decide (((bs.length:Nat):Int)>8)=false:=decide_eq_false (by omega)
 simp only[LE,Ac,W_oS,W_on,Aa,W_mv,Ab,T.get_set,Ag,Af,Ae,reduceIte,Ak,Ar,Aj,An,Al,Nat.reduceEqDiff,reduceCtorEq, ↓reduceIte,BZ,t0,t1,BoR.len hl0,d1,(hB0.ext0 x1).len BU,d2,DB,Bool.not_true]
 refine W.cond (v:=false) SQ Oz (by simp[T.get_set]) (by omega) (fun h=>by cases h) fun _=> ?_
 refine Aeq_.w OV_ (by omega) ?_
 simp only[ZN,Aa,W_mv,Ab]
 refine VL_ (s0:=s.cxN cxN) (vb:=vb) (l:=l) (D:=D) (M:=M) (J:=J) hb0 hJ hl0 (by omega) (fun n2 tm2 td2 s2 col2 hn2 hT2 y2 hc2 hA2 g1 g5 g6 g7=> ?_) l.length 0 _ _ _ s1 col1 (by omega) (by omega) Yy_ x1 hc1 hA1 (by simp[T.get_set,t0]) (by simp[T.get_set,t1]) (by simp[T.get_set]) (by simp[T.get_set]) (by simp[T.get_set]) (by simp[T.get_set])
 clear out
 have hb2:=y2.bnd hb0
 have hs2:s.next≤s2.next:=y2.nxt
 have hsum:=nSum l
 have hfl:(B1 0 0 l).length≤32:=by rw[UB];omega
 have hro: ∀r∈B1 0 0 l,DF r:=AaJ_ (by omega) (by omega)
 have m1:maxA 1 0 [(B1 0 0 l,bs)]=nSes l:=by
  show maxJ 1 0 (B1 0 0 l)=_
  rw[AcE_,Nat.zero_add]
 have m2:maxA 2 0 [(B1 0 0 l,bs)]=nCom l:=by
  show maxJ 2 0 (B1 0 0 l)=_
  rw[Sp_,Nat.zero_add]
 refine AcY_.w hT2 (by omega) ?_
 simp only[Gd_,Ac,W_oS,W_on,Aa,W_mv,Ab,Ag,Af,Ae,Ah,g7]
 refine Ad_ hb2 hA2 (by omega) fun s3 x3=> ?_
 have hA3:=hA2.ext0 x3
 have y3:=y2.then0 x3 hb0
 have hb3:=y3.bnd hb0
 have hs3:s.next≤s3.next:=y3.nxt
 try simp only[Ac,W_oS,W_on,Aa,W_mv,Ab,Ap,T.get_set,Ag,Af,As,Aq,Ae,Ah,reduceIte,Ak,Ao,Av,Aw,Ar,Aj,An,Au,Al,Ai,Nat.reduceEqDiff,reduceCtorEq, ↓reduceIte]
 rw[Bz (k:=0) rfl]
 try simp only[Ac,W_oS,W_on,Aa,W_mv,Ab,Ap,T.get_set,Ag,Af,As,Aq,Ae,Ah,reduceIte,Ak,Ao,Av,Aw,Ar,Aj,An,Au,Al,Ai,Nat.reduceEqDiff,reduceCtorEq, ↓reduceIte]
 rw[Bz (k:=1) rfl]
 try simp only[Ac,W_oS,W_on,Aa,W_mv,Ab,Ap,T.get_set,Ag,Af,As,Aq,Ae,Ah,reduceIte,Ak,Ao,Av,Aw,Ar,Aj,An,Au,Al,Ai,Nat.reduceEqDiff,reduceCtorEq, ↓reduceIte]
 refine Pi_.w Zt_ (by omega) ?_
 simp only[ET_,Ac,W_oS,W_on,Aa,W_mv,Ab,T.get_set,Ag,Af,Ae,Ah,reduceIte,Nat.reduceEqDiff, ↓reduceIte,g1,g6,nm_1]
 obtain⟨k3,f3,hK3⟩:=hA3
 have hus:=Pb hK3.fs hK3.safe
 have hrl:(Bd (B1 0 0 l)).length=9*(B1 0 0 l).length:=L9 _
 have hB3:Bs s3 vb bs:=hB0.ext0 y3
 have hk0:0<k3.fs.length:=by rw[hK3.fs];show 0<1;decide
 have hg0:k3.fs[0]=f3:=by
  have e:k3.fs[0]?=some f3:=by rw[hK3.fs];rfl
  rw[List.getElem?_eq_getElem hk0]at e
  exact Option.some.inj e
 have hlk:=QB hK3.fs hK3.safe
 refine Bf_ (a:=nmJ 1) hb3 hK3.dk (by rw[hK3.fs];show 1≤300;decide) (Gr (by decide)) hB3 (fun x hx=>⟨by have:=hB0.lt x hx;have e:(s.cxN cxN).next=s.next:=rfl;omega,hc2 x (hB0.lt x hx)⟩) (by rw[hus];omega) (by omega) (fun h=>by rw[hK3.ou]at h;cases h) (fun _ h=>by exfalso;rw[hK3.room,hus]at h;omega) (fun _ _ h=>by rw[hK3.fu]at h;exact absurd h.1 (by decide)) fun _ _ _ s4 col4 blk v4 b4 hA4=> ?_
 have y4:Ext Any Non (s.cxN cxN) s4:=y3.on hA4.ext hb0 fun x hx h=>by
  have h:col2 x<1000:=h
  have:=hc2 x hx
  omega
 have hc4: ∀x,x<s.next→1000≤col4 x:=fun x hx=>by rw[hA4.agree x (by omega)];exact hc2 x hx
 obtain⟨l1,hj',l2⟩:=De_ (k:=k3) (blk:=blk) (b:=b4) (v:=v4) (l:=bs) hlk hk0 (by rw[hg0];exact hK3.safe)
 have hz4:=Yu k3 (nmJ 1) blk b4 v4 bs
 have hn4:=Ao_ k3 (nmJ 1) blk b4 v4 bs
 have hn3:k3.fs.length=1:=by rw[hK3.fs];rfl
 simp only[W_oS,W_on,Aa,Ah,reduceIte,Ak,Ar,Aj,An,Al,reduceCtorEq, ↓reduceIte,By,decide_true,Bool.not_true]
 refine AL_ (a:=nmJ 1) (y4.bnd hb0) hA4.inv (by show(A4 k3 (nmJ 1) blk v4 b4 bs).length≤300;omega) (by show((A4 k3 (nmJ 1) blk v4 b4 bs).map fun f=>f.sb.length+f.lb.length).sum≤4000000;omega) (by omega) (fun h=>by have h:k3.out=true:=h;rw[hK3.ou]at h;cases h) (fun _ h=>by have h:Bg (A4 k3 (nmJ 1) blk v4 b4 bs) (nmJ 1)=none:=h;rw[l1]at h;cases h) (fun _ _ _ h=>by have h:k3.fused=true:=h.1;rw[hK3.fu]at h;cases h) fun _ i hi hil _ s5 col5 v5 b5 hA5=> ?_
 have hi:Bg (A4 k3 (nmJ 1) blk v4 b4 bs) (nmJ 1)=some i:=hi
 rw[l1]at hi
 cases hi
 obtain⟨hs5,hf5⟩:=l2 v5 b5
 have y5:Ext Any Non (s.cxN cxN) s5:=y4.on hA5.ext hb0 fun x hx h=>by
  have h:col4 x<1000:=h
  have:=hc4 x hx
  omega
 have hc5: ∀x,x<s.next→1000≤col5 x:=fun x hx=>by rw[hA5.agree x (by have:=y4.nxt;have e:(s.cxN cxN).next=s.next:=rfl;omega)];exact hc4 x hx
 have hI5:=hA5.inv
 have hfsr:k3.fs.set 0 ((A4 k3 (nmJ 1) blk v4 b4 bs)[0].kept v5 b5 ((A4 k3 (nmJ 1) blk v4 b4 bs)[0].sb++(A4 k3 (nmJ 1) blk v4 b4 bs)[0].lb))=[(A4 k3 (nmJ 1) blk v4 b4 bs)[0].kept v5 b5 ((A4 k3 (nmJ 1) blk v4 b4 bs)[0].sb++(A4 k3 (nmJ 1) blk v4 b4 bs)[0].lb)]:=by rw[hK3.fs];rfl
 generalize hg5:(A4 k3 (nmJ 1) blk v4 b4 bs)[0].kept v5 b5 ((A4 k3 (nmJ 1) blk v4 b4 bs)[0].sb++(A4 k3 (nmJ 1) blk v4 b4 bs)[0].lb)=f5 at *
 have hI5: ∃K5:DkS,DkI s5 col5 D M K5∧K5.fs=[f5]∧K5.room=1048576∧K5.out=false∧K5.fused=false:=⟨_,hI5,hf5.trans hfsr,hK3.room,hK3.ou,hK3.fu⟩
 obtain⟨K5,hI5,hF5,hr5,ho5,hu5⟩:=hI5
 clear hA5 hA4 l2 hf5 hfsr hg5
 simp only[By,decide_true,Bool.not_true]
 refine W.cond (v:=false) Nh_ HS_ (by simp[T.get_set]) (by omega) (fun h=>by cases h) fun _=> ?_
 refine Ur_.w GY_ (by omega) ?_
 simp only[BV_,Ac,W_oS,W_on,Aa,W_mv,Ab,T.get_set,Ag,Af,Ae,Ah,reduceIte,Nat.reduceEqDiff, ↓reduceIte,g6]
 have hus5:=Pb hF5 hs5
 rw[List.length_append,hrl]at hus5
 refine UP (m:=1) (L:=[(B1 0 0 l,bs)]) (u:=false) (y5.bnd hb0) hI5 (by rw[hF5];exact⟨hs5,trivial⟩) (fun p hp=>by rw[List.mem_singleton.1 hp];exact⟨hro,by show(B1 0 0 l).length≤100;omega,by show bs.length<9;omega⟩) (fun h=>by cases h) (Nat.le_refl _) (show 1+1≤39 by decide) (by omega) hr5 ho5 hu5 (by omega) (WA_ hF5 hs5.name (Nat.le_refl _) (by decide)) (fun h=>by cases h) fun s6 col6 J6 k6 f6 hag6 x6 hJ6 hK6=> ?_
 rw[m1,m2]at hK6
 have hK6:JrI s6 col6 D M J6 (nmJ 2) [(1,nSes l),(2,nCom l)] (nSes l) (nCom l) false k6 f6:=hK6
 have hA6:JrA s6 col6 D M J6 (nmJ 2) [(1,nSes l),(2,nCom l)] (nSes l) (nCom l) false:=⟨k6,f6,hK6⟩
 have y6:Ext Any Non (s.cxN cxN) s6:=y5.on x6 hb0 fun x hx h=>by
  have h:col5 x<1000:=h
  have:=hc5 x hx
  omega
 try simp only[Ac,W_oS,W_on,Aa,W_mv,Ab,Ap,T.get_set,Ag,Af,As,Aq,Ae,Ah,reduceIte,Ak,Ao,Av,Aw,Ar,Aj,An,Au,Al,Ai,Nat.reduceEqDiff,reduceCtorEq, ↓reduceIte]
 rw[Bz (k:=0) rfl]
 try simp only[Ac,W_oS,W_on,Aa,W_mv,Ab,Ap,T.get_set,Ag,Af,As,Aq,Ae,Ah,reduceIte,Ak,Ao,Av,Aw,Ar,Aj,An,Au,Al,Ai,Nat.reduceEqDiff,reduceCtorEq, ↓reduceIte]
 rw[Bz (k:=1) rfl]
 try simp only[Ac,W_oS,W_on,Aa,W_mv,Ab,Ap,T.get_set,Ag,Af,As,Aq,Ae,Ah,reduceIte,Ak,Ao,Av,Aw,Ar,Aj,An,Au,Al,Ai,Nat.reduceEqDiff,reduceCtorEq, ↓reduceIte]
 refine HI_.w MM_ (by omega) ?_
 have e1:wrap64 (((nSes l:Nat):Int)+1)=((nSes l+1:Nat):Int):=by
  rw[B6 (by omega) (by omega)];simp
 have e2:wrap64 (((nCom l:Nat):Int)+1)=((nCom l+1:Nat):Int):=by
  rw[B6 (by omega) (by omega)];simp
 simp only[WO,Ac,W_oS,W_on,Aa,W_mv,Ab,T.get_set,Ag,Af,As,Aq,Ae,Ah,reduceIte,Ak,Ao,Aj,An,Al,Nat.reduceEqDiff, ↓reduceIte,BS,g5,g6,decide_true,BI_ PL,nm_p,nm_2]
 refine Acx_ (y6.bnd hb0) hA6 (by omega) fun s7 x7=> ?_
 have hA7:=hA6.ext0 x7
 have y7:=y6.then0 x7 hb0
 try simp only[W_oS,W_on,Aa,Ah,reduceIte,Ak,Ao,Aj,An,Al, ↓reduceIte,BC,e1]
 refine MR_ (y7.bnd hb0) hA7 (Gr (by decide)) (by omega) (by simp) rfl (by omega) fun s8 col8 hag8 x8 hA8=> ?_
 have b8:=x8.bnd (y7.bnd hb0)
 try simp only[W_oS,W_on,Aa,Ah,reduceIte,Ak,Ao,Aj,An,Al, ↓reduceIte,BC,e2]
 refine AaS_ b8 hA8 (Gr (by decide)) (by omega) (by simp) rfl (by omega) fun s9 col9 hag9 x9 hA9=> ?_
 have b9:=x9.bnd b8
 try simp only[W_oS,W_on,Aa,Ah,reduceIte,Ak,Ao,Aj,An,Al, ↓reduceIte]
 obtain⟨k9,f9,hK9⟩:=hA9
 have hnm:k9.fs.map FileS.name=[nmJ 2]:=by rw[hK9.fs];show [f9.name]=_;rw[hK9.safe.name]
 refine T4 (p:=preJ) b9 hK9.dk (by rw[hnm];exact Dp_ (by decide)) (by rw[hnm];intro a ha;rw[List.mem_singleton.1 ha];exact Cl_ (by decide)) (by rw[hK9.fs];show 10*1+500≤_;omega) fun s10 v10 b10 hb10 hr10 x10=> ?_
 rw[hnm]at hr10
 have bd10:=x10.bnd b9
 try simp only[Ac,W_oS,W_on,Aa,W_mv,Ab,Ap,T.get_set,Ag,Af,As,Aq,Ae,Ah,reduceIte,Ak,Ao,Av,Aw,Ar,Aj,An,Au,Al,Ai,Nat.reduceEqDiff,reduceCtorEq, ↓reduceIte,BC,Cd,Bp,BZ,Cr,Ch,BS,By,e1,e2,nm_p,nm_2]
 refine W.buildS bd10 (r:=[.string (nmJ 2)]) Kj_ (by decide) (WY_ _) (Cn (by decide)) fun s11 n11 x11 r11=> ?_
 try simp only[Ac,W_oS,W_on,Aa,W_mv,Ab,Ap,T.get_set,Ag,Af,As,Aq,Ae,Ah,reduceIte,Ak,Ao,Av,Aw,Ar,Aj,An,Au,Al,Ai,Nat.reduceEqDiff,reduceCtorEq, ↓reduceIte,BC,Cd,Bp,BZ,Cr,Ch,BS,By,e1,e2,nm_p,nm_2]
 refine XS_ (x:=nmJ 2) (x11.bnd bd10) (MkS.ext0 hr10 x11) rfl (r11 0 _ rfl) (by omega) fun s12 x12=> ?_
 try simp only[Ac,W_oS,W_on,Aa,W_mv,Ab,Ap,T.get_set,Ag,Af,As,Aq,Ae,Ah,reduceIte,Ak,Ao,Av,Aw,Ar,Aj,An,Au,Al,Ai,Nat.reduceEqDiff,reduceCtorEq, ↓reduceIte]
 have hcx:s12.cx=(s.cxN cxN).cx:=x12.cx.trans (x11.cx.trans (x10.cx.trans (x9.cx.trans (x8.cx.trans y7.cx))))
 exact W.end' (rs:=[4]) (vs:=[.bool true]) Adx_ (.inl AbS_) (by omega) PI X1 hcx (by simp[T.get_set]) rfl
open Go.RowKit Go.ChangeShapes Go.WideShapes
theorem OD_:envS.P=Tryz.prog:=by kernel_rfl
theorem Hr_:Tryz.prog.underlying 23=some (.slice 5):=by kernel_rfl
theorem YQ_:Tryz.prog.underlying 5=some (.int .u8):=by kernel_rfl
theorem MG_:Tryz.prog.cellsOf 5=1:=by kernel_rfl
theorem Lh_ {P:Program}{N F:Nat}{s:St}{t e:TypeId}{us:List Value}(ht:P.underlying t=some (.slice e))(he:P.underlying e=some (.int .u8))(hc:P.cellsOf e=1)(h:Bc P N s (F+2) t us): ∃v l,us=[v]∧Bs s v l∧Byt l∧l.length≤N:=by
 obtain⟨v,es,rfl,hE,_,hN,ha⟩:=Bc.slice ht (by rw[hc];decide) h
 have h1: ∀i,i<es.length→ ∃n:Nat,n<256∧es[i]?=some [.int .u8 (n:Nat)]:=fun i hi=>by
  obtain⟨_,hx⟩:=ha _ (List.getElem_mem hi)
  obtain⟨n,e1,e2⟩:=hx.int' he
  have h2:(0:Int)≤n∧n≤255:=by
   have e3:(decide ((0:Int)≤n)&&decide (n≤(255:Int)))=true:=e2
   rw[Bool.and_eq_true]at e3
   exact⟨of_decide_eq_true e3.1,of_decide_eq_true e3.2⟩
  exact⟨n.toNat,by omega,by rw[List.getElem?_eq_getElem hi,e1,Int.toNat_of_nonneg h2.1]⟩
 obtain⟨l,hl,hp⟩:=SI h1
 refine⟨v,l,rfl, ?_,fun x hx=> ?_,by omega⟩
 ·rcases hE with⟨rfl,rfl⟩|⟨b,c,rfl,hc1,hc2,hr⟩
  ·exact .inl ⟨rfl,List.eq_nil_of_length_eq_zero hl⟩
  ·rw[hc]at hc2 hr
   refine .inr ⟨b,0,c,by rw[hl],by rw[hl];exact hc1,hc2,fun i x e=> ?_⟩
   obtain⟨n,e1,rfl⟩: ∃n,l[i]?=some n∧Value.int .u8 (n:Nat)=x:=by
    rw[List.getElem?_map]at e
    exact Option.map_eq_some_iff.1 e
   have:=hr i _ (hp i n e1).2 0 _ rfl
   rw[Nat.mul_one]at this
   rw[Nat.zero_add]
   exact this
 ·obtain⟨i,hi⟩:=List.getElem?_of_mem hx
  exact(hp i x hi).1
theorem Mz_:Tryz.prog.underlying 22=some (.slice 4):=by kernel_rfl
theorem KN_:Tryz.prog.underlying 4=some .bool:=by kernel_rfl
theorem AaK_:Tryz.prog.cellsOf 4=1:=by kernel_rfl
theorem Bc.bool' {P:Program}{N F:Nat}{s:St}{t:TypeId}{us:List Value}(hu:P.underlying t=some .bool)(h:Bc P N s (F+1) t us): ∃b,us=[.bool b]:=by
 unfold Bc at h
 rw[hu]at h
 exact h
theorem QR_ {P:Program}{N F:Nat}{s:St}{t e:TypeId}{us:List Value}(ht:P.underlying t=some (.slice e))(he:P.underlying e=some .bool)(hc:P.cellsOf e=1)(h:Bc P N s (F+2) t us): ∃v l,us=[v]∧BoR s v l∧l.length≤9223372036854775807∧l.length≤N:=by
 obtain⟨v,es,rfl,hE,hM,hN,ha⟩:=Bc.slice ht (by rw[hc];decide) h
 have h1: ∀i,i<es.length→ ∃b:Bool,es[i]?=some [.bool b]:=fun i hi=>by
  obtain⟨_,hx⟩:=ha _ (List.getElem_mem hi)
  obtain⟨b,e1⟩:=hx.bool' he
  exact⟨b,by rw[List.getElem?_eq_getElem hi,e1]⟩
 obtain⟨l,hl,hp⟩:=SI h1
 refine⟨v,l,rfl, ?_,by omega,by omega⟩
 rcases hE with⟨rfl,rfl⟩|⟨b,c,rfl,_,_,hr⟩
 ·exact .inl ⟨rfl,List.eq_nil_of_length_eq_zero hl⟩
 ·rw[hc]at hr
  refine .inr ⟨b,0,c,by rw[hl],fun i x e=> ?_⟩
  obtain⟨z,e1,rfl⟩: ∃z,l[i]?=some z∧Value.bool z=x:=by
   rw[List.getElem?_map]at e
   exact Option.map_eq_some_iff.1 e
  have:=hr i _ (hp i z e1) 0 _ rfl
  rw[Nat.mul_one]at this
  rw[Nat.zero_add]
  exact this
section
attribute [local irreducible] Bc
theorem VI:Tryz.f3.params.toList=[22,23]:=by kernel_rfl
theorem HN_:envS.orc.get 3=none:=by kernel_rfl
theorem AdP_:envS.ext.get 3=none:=by kernel_rfl
theorem XJ_:[22,23].all (Dm Tryz.prog 6)=true:=by kernel_rfl
theorem Abw_:aggT Tryz.prog 23=false:=by kernel_rfl
theorem ZI_:aggT Tryz.prog 22=false:=by kernel_rfl
set_option maxRecDepth 1000000 in
theorem walkTorn {H:Type}{enc:TypeId×Value→H}{w:World}{base:Nat}{args:Array Value}{ds:List (DataW H)}{ps:List MemPlace}(hA:DataW.TrodAll enc Tryz.prog w 0 (fun _=>true) true Tryz.f3.params.toList args.toList ds ps)
  (hv: ∀(j:Nat) t v,Tryz.f3.params[j]?=some t→args[j]?=some v→Value.okWide Tryz.prog w .any base t v):Calls Tryz.prog 3 args w fun e w'=>e= .returned (.bool true)∧Below w.heap.size w w':=by
 have hv': ∀(j:Nat) t v,[22,23][j]?=some t→args.toList[j]?=some v→Value.okWide Tryz.prog w .any base t v:=fun j t v e1 e2=>by
  rw[←VI]at e1
  rw[Array.getElem?_toList]at e1 e2
  exact hv j t v e1 e2
 rw[VI]at hA
 have hE:envS.P=Tryz.prog:=OD_
 have h:=VP_ (E:=envS) (fuel:=3000000) (f:=3) (F:=6) (N:=maxLen) (v:= .bool true) (ts:=[22,23]) RV_ HN_ AdP_ rfl (by rw[hE];exact hA) (by rw[hE];exact hv') (by rw[hE];exact XJ_) (.inl (Nat.le_refl _)) (fun m nx us hus hu=>by
  rw[hE]at hu
  match us,hus,hu with
  |[u0,u1],_,hu=>
   have k0:=(hu 0 _ u0 rfl rfl).one ZI_
   have k1:=(hu 1 _ u1 rfl rfl).one Abw_
   obtain⟨v,l,e0,hB,hM,_⟩:=QR_ (F:=4) Mz_ KN_ AaK_ k0
   obtain⟨w1,l1,e1,hB1,_,hN1⟩:=Lh_ (F:=4) Hr_ YQ_ MG_ k1
   cases e0
   cases e1
   exact VM_ (Nat.zero_le _) hB hB1 hM (Nat.le_trans hN1 (by decide)) (by omega))
 rw[hE]at h
 exact h
end
open Go.RowKit Go.ChangeShapes
def zeroT (P:Program)(t:Nat):Value:=((P.info? t).bind (·.zero)).getD .nilFunc
section
variable {H:Type}{enc:TypeId×Value→H}{P:Program}{W W':World}
theorem below_all (hl:laidOutB P=true)(hb:Below W.heap.size W W'){sp:Nat→Bool}: ∀{ts:List TypeId} {vs:List Value} {ds:List (DataW H)} {ps:List MemPlace},(ts.all fun t=>P.readableRec t&&decide (t<P.types.size))=true→DataW.TrodAll enc P W 0 (fun _=>true) true ts vs ds ps→(∀x∈ps,x.block<W.heap.size)→(∀x∈ps,sp x.block=true)→
  DataW.TrodAll enc P W' 0 sp true ts vs ds ps
 |[],_,_,_,_,h,_,_=>by
  obtain⟨rfl,rfl,rfl⟩:=trodAll_nil h
  exact trodAll_mk0
 |t::ts,_,_,_,hr,h,hlt,hsp=>by
  obtain⟨v,vs,d,ds,p,q,rfl,rfl,rfl,h1,h2⟩:=trodAll_cons h
  rw[List.all_cons,Bool.and_eq_true,Bool.and_eq_true]at hr
  refine⟨p,q,WideElems.Trod_stays hl hr.1.1 (of_decide_eq_true hr.1.2) h1 (fun x hx=>hb.same (hlt x (List.mem_append_left _ hx))) (fun x hx=>hsp x (List.mem_append_left _ hx)), ?_,rfl⟩
  exact below_all hl hb hr.2 h2 (fun x hx=>hlt x (List.mem_append_right _ hx)) (fun x hx=>hsp x (List.mem_append_right _ hx))
end
end Go.Proofs.YtndednnianphoaaGreatDoor.Am
end
