import Derived.Test.YtjfhmacppabehaaIDf15
import Derived.Test.YtjfhmacppabehaaIDf08
import Derived.KernelRfl
noncomputable section
namespace Go.Proofs.Ytjfhmacppabehaa.Am
open Go.RowKit
def F7:Nat:=Bh Try.f21
def Xu:Code:=Try.f21.body.getD .skip
theorem XA:envS.fn.get 21=some Try.f21:=by kernel_rfl
theorem Ev_ {a0:Value}{n:Nat}{s:St}{Q:Value→St→Prop}(h: ∀tm,T.get tm 0=some a0→W (runF envS n ⟨21,16,F7,tm,[.code Xu], .run, .normal,none⟩) (s.cxN cxN) fun p s1=>Q p.1 (s1.cxN s.cx)):W (Ap envS (runF envS n) 21 [a0]) s Q:=
 W.call (by kernel_rfl) (by kernel_rfl) XA (by kernel_rfl) rfl rfl (by simp) (h _ (by kernel_rfl))
theorem EX_:Try.f21.results.toList=[.tmp 2, .tmp 3]:=by kernel_rfl
def Ov:List Item:=skim 64 [.code Xu]
def I6:List Item:=skim 64 Ov.tail
theorem An_:skim 64 Ov.tail=I6:=by kernel_rfl
def JG:List Item:=skim 64 I6.tail
theorem Pm_:skim 64 I6.tail=JG:=by kernel_rfl
def J6:List Item:=skim 64 JG.tail
theorem JU_:skim 64 JG.tail=J6:=by kernel_rfl
def J7:List Item:=skim 64 J6.tail
theorem Zy:skim 64 J6.tail=J7:=by kernel_rfl
def K0:List Item:=skim 64 (brF J7)
theorem Cm_:skim 64 (brF J7)=K0:=by kernel_rfl
def NW:List Item:=skim 64 K0.tail
theorem BR_:skim 64 K0.tail=NW:=by kernel_rfl
def TU (E:Env)(call round:Ac)(tm:T Value):M (T Value):=
 mv (some (.pointer none)) fun v2=>
 setF 2 v2 tm fun tm1=>
 mv (some (.int .i64 0)) fun v3=>
 setF 3 v3 tm1 fun tm2=>
 M.pure tm2
theorem MT_:RegEq 21 16 F7 Ov TU:=⟨by kernel_rfl,fun _ _ _ _ _ _ _ _ _=>by kernel_rfl⟩
def Uj (E:Env)(call round:Ac)(tm:T Value):M (T Value):=
 M.bind (CT) fun v6=>
 M.bind (oS (seqP [(0,(some (.bool true))),(1,(some v6))]) fun ps=>CB E 75 ps) fun v7=>
 M.bind (oS (some v7) fun a=>kBox a) fun v8=>
 mv (some v8) fun v4=>
 setF 4 v4 tm fun tm1=>
 M.pure tm1
theorem Ku_:RegEq 21 16 F7 I6 Uj:=⟨by kernel_rfl,fun _ _ _ _ _ _ _ _ _=>by kernel_rfl⟩
def R5 (E:Env)(call round:Ac)(tm:T Value):M (T Value):=
 mv (T.get tm 4) fun v9=>
 mv (T.get tm 0) fun v10=>
 M.bind (M.on (some (.func (.func 51) #[] #[])) fun f=>M.on (seqO [(some v9),(some v10)]) fun l=>A5 call round f l) fun v11=>
 mv (some v11) fun v5=>
 setF 5 v5 tm fun tm1=>
 M.pure tm1
theorem Bm_:RegEq 21 16 F7 JG R5:=⟨by kernel_rfl,fun _ _ _ _ _ _ _ _ _=>by kernel_rfl⟩
def Rn (E:Env)(call round:Ac)(tm:T Value):M (T Value):=
 mv (T.get tm 5) fun v12=>
 M.bind (oS (some v12) fun a=>oS (some (.int .i64 0)) fun b=>Cl.get (aBin E .neq 27 (.tmp 12) (.const (.int .i64 0))) a b) fun v13=>
 setF 13 v13 tm fun tm1=>
 M.pure tm1
theorem Zt:RegEq 21 16 F7 J6 Rn:=⟨by kernel_rfl,fun _ _ _ _ _ _ _ _ _=>by kernel_rfl⟩
theorem IO_:Bc J7=some 13:=by kernel_rfl
def Xy (E:Env)(call round:Ac)(tm:T Value):M (T Value):=
 mv (T.get tm 4) fun v15=>
 mv (some v15) fun v2=>
 setF 2 v2 tm fun tm1=>
 mv (some (.int .i64 0)) fun v3=>
 setF 3 v3 tm1 fun tm2=>
 M.pure tm2
theorem ER_:RegEq 21 16 F7 K0 Xy:=⟨by kernel_rfl,fun _ _ _ _ _ _ _ _ _=>by kernel_rfl⟩
theorem ZK: ∃k,NW= .code .ret::k:=⟨NW.tail,by kernel_rfl⟩
def E6:Nat:=Bh Try.f51
def Sk:Code:=Try.f51.body.getD .skip
theorem Xi:envS.fn.get 51=some Try.f51:=by kernel_rfl
theorem Nl_ {a0 a1:Value}{n:Nat}{s:St}{Q:Value→St→Prop}(h: ∀tm,T.get tm 0=some a0→T.get tm 1=some a1→W (runF envS n ⟨51,19,E6,tm,[.code Sk], .run, .normal,none⟩) (s.cxN cxN) fun p s1=>Q p.1 (s1.cxN s.cx)):W (Ap envS (runF envS n) 51 [a0,a1]) s Q:=
 W.call (by kernel_rfl) (by kernel_rfl) Xi (by kernel_rfl) rfl rfl (by simp) (h _ (by kernel_rfl) (by kernel_rfl))
theorem Ys:Try.f51.results.toList=[.tmp 4]:=by kernel_rfl
def Nc:List Item:=skim 64 [.code Sk]
def It:List Item:=skim 64 Nc.tail
theorem Ye:skim 64 Nc.tail=It:=by kernel_rfl
def Jh:List Item:=skim 64 It.tail
theorem Lr_:skim 64 It.tail=Jh:=by kernel_rfl
def IA:List Item:=skim 64 (brF Jh)
theorem Gs_:skim 64 (brF Jh)=IA:=by kernel_rfl
def IW:List Item:=skim 64 IA.tail
theorem Do_:skim 64 IA.tail=IW:=by kernel_rfl
def HV:List Item:=skim 64 (brF IW)
theorem EU_:skim 64 (brF IW)=HV:=by kernel_rfl
def Iv:List Item:=skim 64 HV.tail
theorem Yd:skim 64 HV.tail=Iv:=by kernel_rfl
def N8:List Item:=skim 64 Iv.tail
theorem YQ:skim 64 Iv.tail=N8:=by kernel_rfl
def Vm (E:Env)(call round:Ac)(tm:T Value):M (T Value):=
 mv (some (.int .i64 0)) fun v4=>
 setF 4 v4 tm fun tm1=>
 M.pure tm1
theorem CF_:RegEq 51 19 E6 Nc Vm:=⟨by kernel_rfl,fun _ _ _ _ _ _ _ _ _=>by kernel_rfl⟩
def RK (E:Env)(call round:Ac)(tm:T Value):M (T Value):=
 mv (T.get tm 0) fun v6=>
 M.bind (M.on (some (.func (.func 40) #[] #[])) fun f=>M.on (seqO [(some v6)]) fun l=>A5 call round f l) fun v7=>
 mv (some v7) fun v5=>
 setF 5 v5 tm fun tm1=>
 M.pure tm1
theorem Ld_:RegEq 51 19 E6 It RK:=⟨by kernel_rfl,fun _ _ _ _ _ _ _ _ _=>by kernel_rfl⟩
theorem FQ_:Bc Jh=some 5:=by kernel_rfl
def TZ (E:Env)(call round:Ac)(tm:T Value):M (T Value):=
 mv (T.get tm 1) fun v9=>
 M.bind (oS (some v9) fun a=>oS (some (.int .i64 0)) fun b=>Cl.get (aBin E .lss 3 (.tmp 9) (.const (.int .i64 0))) a b) fun v10=>
 mv (some v10) fun v11=>
 M.bind (M.chk (isK v11) (M.if (isB v11 false) (oS (T.get tm 1) fun a=>M.pure a) (M.pure undef))) fun v12=>
 M.bind (M.chk (isK v11) (M.if (isB v11 false) (oS (some v12) fun a=>oS (some (.int .i64 16777216)) fun b=>Cl.get (aBin E .gtr 3 (.tmp 12) (.const (.int .i64 16777216))) a b) (M.pure undef))) fun v13=>
 M.bind (M.on (some v11) fun a=>M.on (some (.bool true)) fun b=>M.on (some v13) fun c=>Bt a b c) fun v14=>
 mv (some v14) fun v8=>
 setF 8 v8 tm fun tm1=>
 M.pure tm1
theorem BP_:RegEq 51 19 E6 IA TZ:=⟨by kernel_rfl,fun _ _ _ _ _ _ _ _ _=>by kernel_rfl⟩
theorem Gc_:Bc IW=some 8:=by kernel_rfl
def T5 (E:Env)(call round:Ac)(tm:T Value):M (T Value):=
 mv (T.get tm 0) fun v15=>
 mv (T.get tm 1) fun v16=>
 M.bind (oS (some v15) fun a=>kNil a) fun v17=>
 M.bind (oS (some v17) fun a=>kFld E 75 a 2) fun v18=>
 M.bind (oS (some v18) fun a=>oS (some v16) fun b=>BA E 3 a b) fun _=>
 M.pure tm
theorem YN:RegEq 51 19 E6 HV T5:=⟨by kernel_rfl,fun _ _ _ _ _ _ _ _ _=>by kernel_rfl⟩
def Wt (E:Env)(call round:Ac)(tm:T Value):M (T Value):=
 mv (some (.int .i64 0)) fun v4=>
 setF 4 v4 tm fun tm1=>
 M.pure tm1
theorem Ik_:RegEq 51 19 E6 Iv Wt:=⟨by kernel_rfl,fun _ _ _ _ _ _ _ _ _=>by kernel_rfl⟩
theorem OH_: ∃k,N8= .code .ret::k:=⟨N8.tail,by kernel_rfl⟩
def MT:Nat:=Bh Try.f40
def W3:Code:=Try.f40.body.getD .skip
theorem Vy:envS.fn.get 40=some Try.f40:=by kernel_rfl
theorem Js_ {a0:Value}{n:Nat}{s:St}{Q:Value→St→Prop}(h: ∀tm,T.get tm 0=some a0→W (runF envS n ⟨40,12,MT,tm,[.code W3], .run, .normal,none⟩) (s.cxN cxN) fun p s1=>Q p.1 (s1.cxN s.cx)):W (Ap envS (runF envS n) 40 [a0]) s Q:=
 W.call (by kernel_rfl) (by kernel_rfl) Vy (by kernel_rfl) rfl rfl (by simp) (h _ (by kernel_rfl))
theorem CV_:Try.f40.results.toList=[.tmp 2]:=by kernel_rfl
def Ls:List Item:=skim 64 [.code W3]
def Iq:List Item:=skim 64 Ls.tail
theorem EM_:skim 64 Ls.tail=Iq:=by kernel_rfl
def OX:List Item:=skim 64 Iq.tail
theorem FV_:skim 64 Iq.tail=OX:=by kernel_rfl
def Ux (E:Env)(call round:Ac)(tm:T Value):M (T Value):=
 mv (some (.bool false)) fun v2=>
 setF 2 v2 tm fun tm1=>
 M.pure tm1
theorem OJ_:RegEq 40 12 MT Ls Ux:=⟨by kernel_rfl,fun _ _ _ _ _ _ _ _ _=>by kernel_rfl⟩
def VZ (E:Env)(call round:Ac)(tm:T Value):M (T Value):=
 mv (T.get tm 0) fun v3=>
 M.bind (oS (some v3) fun a=>oS (some (.pointer none)) fun b=>Cl.get (aBin E .eql 24 (.tmp 3) (.const (.pointer none))) a b) fun v4=>
 mv (some v4) fun v5=>
 M.bind (M.chk (isK v5) (M.if (isB v5 false) (oS (T.get tm 0) fun a=>M.pure a) (M.pure undef))) fun v6=>
 M.bind (M.chk (isK v5) (M.if (isB v5 false) (oS (some v6) fun a=>kNil a) (M.pure undef))) fun v7=>
 M.bind (M.chk (isK v5) (M.if (isB v5 false) (oS (some v7) fun a=>kFld E 75 a 0) (M.pure undef))) fun v8=>
 M.bind (M.chk (isK v5) (M.if (isB v5 false) (oS (some v8) fun a=>A3 E 4 a) (M.pure undef))) fun v9=>
 M.bind (M.chk (isK v5) (M.if (isB v5 false) (oS (some v9) fun a=>kUn E.P .not a) (M.pure undef))) fun v10=>
 M.bind (M.on (some v5) fun a=>M.on (some (.bool true)) fun b=>M.on (some v10) fun c=>Bt a b c) fun v11=>
 mv (some v11) fun v2=>
 setF 2 v2 tm fun tm1=>
 M.pure tm1
theorem NX_:RegEq 40 12 MT Iq VZ:=⟨by kernel_rfl,fun _ _ _ _ _ _ _ _ _=>by kernel_rfl⟩
theorem NI_: ∃k,OX= .code .ret::k:=⟨OX.tail,by kernel_rfl⟩
def FG:Nat:=Bh Try.f36
def Te:Code:=Try.f36.body.getD .skip
theorem Pr:envS.fn.get 36=some Try.f36:=by kernel_rfl
theorem Au_ {a0:Value}{n:Nat}{s:St}{Q:Value→St→Prop}(h: ∀tm,T.get tm 0=some a0→W (runF envS n ⟨36,11,FG,tm,[.code Te], .run, .normal,none⟩) (s.cxN cxN) fun p s1=>Q p.1 (s1.cxN s.cx)):W (Ap envS (runF envS n) 36 [a0]) s Q:=
 W.call (by kernel_rfl) (by kernel_rfl) Pr (by kernel_rfl) rfl rfl (by simp) (h _ (by kernel_rfl))
theorem Ur:Try.f36.results.toList=[.tmp 2]:=by kernel_rfl
def Py:List Item:=skim 64 [.code Te]
def JJ:List Item:=skim 64 Py.tail
theorem Qh_:skim 64 Py.tail=JJ:=by kernel_rfl
def GI:List Item:=skim 64 JJ.tail
theorem Im_:skim 64 JJ.tail=GI:=by kernel_rfl
def ZY:List Item:=skim 64 (brT GI)
def Ln:List Item:=skim 64 (brF GI)
theorem FY_:skim 64 (brF GI)=Ln:=by kernel_rfl
def NP:List Item:=skim 64 ZY.tail
def Gg:List Item:=skim 64 Ln.tail
theorem SP:skim 64 Ln.tail=Gg:=by kernel_rfl
def Oy:List Item:=skim 64 (brT Gg)
theorem Li_:skim 64 (brT Gg)=Oy:=by kernel_rfl
def Le:List Item:=skim 64 (brF Gg)
theorem PA_:skim 64 (brF Gg)=Le:=by kernel_rfl
theorem Db_:skim 64 Oy.tail=NP:=by kernel_rfl
def LY:List Item:=skim 64 Le.tail
theorem FD_:skim 64 Le.tail=LY:=by kernel_rfl
def Xo (E:Env)(call round:Ac)(tm:T Value):M (T Value):=
 mv (some (.int .i64 0)) fun v2=>
 setF 2 v2 tm fun tm1=>
 M.pure tm1
theorem Lv_:RegEq 36 11 FG Py Xo:=⟨by kernel_rfl,fun _ _ _ _ _ _ _ _ _=>by kernel_rfl⟩
def X0 (E:Env)(call round:Ac)(tm:T Value):M (T Value):=
 mv (T.get tm 0) fun v4=>
 M.bind (M.on (some (.func (.func 40) #[] #[])) fun f=>M.on (seqO [(some v4)]) fun l=>A5 call round f l) fun v5=>
 mv (some v5) fun v3=>
 setF 3 v3 tm fun tm1=>
 M.pure tm1
theorem Mw_:RegEq 36 11 FG JJ X0:=⟨by kernel_rfl,fun _ _ _ _ _ _ _ _ _=>by kernel_rfl⟩
theorem Jr_:Bc GI=some 3:=by kernel_rfl
def Xx (E:Env)(call round:Ac)(tm:T Value):M (T Value):=
 mv (T.get tm 0) fun v7=>
 M.bind (oS (some v7) fun a=>kNil a) fun v8=>
 M.bind (oS (some v8) fun a=>kFld E 75 a 6) fun v9=>
 M.bind (oS (some v9) fun a=>A3 E 4 a) fun v10=>
 mv (some v10) fun v6=>
 setF 6 v6 tm fun tm1=>
 M.pure tm1
theorem EO_:RegEq 36 11 FG Ln Xx:=⟨by kernel_rfl,fun _ _ _ _ _ _ _ _ _=>by kernel_rfl⟩
theorem KD_: ∃k,NP= .code .ret::k:=⟨NP.tail,by kernel_rfl⟩
theorem Qj:Bc Gg=some 6:=by kernel_rfl
def Xk (E:Env)(call round:Ac)(tm:T Value):M (T Value):=
 mv (some (.int .i64 10)) fun v2=>
 setF 2 v2 tm fun tm1=>
 M.pure tm1
theorem AN_:RegEq 36 11 FG Oy Xk:=⟨by kernel_rfl,fun _ _ _ _ _ _ _ _ _=>by kernel_rfl⟩
def Ts (E:Env)(call round:Ac)(tm:T Value):M (T Value):=
 mv (some (.int .i64 0)) fun v2=>
 setF 2 v2 tm fun tm1=>
 M.pure tm1
theorem Ge_:RegEq 36 11 FG Le Ts:=⟨by kernel_rfl,fun _ _ _ _ _ _ _ _ _=>by kernel_rfl⟩
theorem Eg_: ∃k,LY= .code .ret::k:=⟨LY.tail,by kernel_rfl⟩
def CQ:Nat:=Bh Try.f38
abbrev Mi_:Nat:=36
def WG:Code:=Try.f38.body.getD .skip
theorem LV:envS.fn.get 38=some Try.f38:=by kernel_rfl
theorem IY_ {a0 a1:Value}{n:Nat}{s:St}{Q:Value→St→Prop}(h: ∀tm,T.get tm 0=some a0→T.get tm 1=some a1→W (runF envS n ⟨38,36,CQ,tm,[.code WG], .run, .normal,none⟩) (s.cxN cxN) fun p s1=>Q p.1 (s1.cxN s.cx)):W (Ap envS (runF envS n) 38 [a0,a1]) s Q:=
 W.call (by kernel_rfl) (by kernel_rfl) LV (by kernel_rfl) rfl rfl (by simp) (h _ (by kernel_rfl) (by kernel_rfl))
theorem TE:Try.f38.results.toList=[.tmp 4]:=by kernel_rfl
def Nz:List Item:=skim 64 [.code WG]
def H1:List Item:=skim 64 Nz.tail
theorem He_:skim 64 Nz.tail=H1:=by kernel_rfl
def EY:List Item:=skim 64 H1.tail
theorem OH:skim 64 H1.tail=EY:=by kernel_rfl
def Il:List Item:=skim 64 (brT EY)
theorem Hc_:skim 64 (brT EY)=Il:=by kernel_rfl
def Jm:List Item:=skim 64 (brF EY)
theorem Rl:skim 64 (brF EY)=Jm:=by kernel_rfl
def Jd:List Item:=skim 64 Il.tail
theorem Of_:skim 64 Il.tail=Jd:=by kernel_rfl
def FT:List Item:=skim 64 Jm.tail
theorem Xt:skim 64 Jm.tail=FT:=by kernel_rfl
def OE:List Item:=skim 64 Jd.tail
theorem BA_:skim 64 Jd.tail=OE:=by kernel_rfl
def M2:List Item:=skim 64 (brT FT)
theorem Bo_:skim 64 (brT FT)=M2:=by kernel_rfl
def Fz:List Item:=skim 64 (brF FT)
theorem ZH:skim 64 (brF FT)=Fz:=by kernel_rfl
theorem EL_:skim 64 M2.tail=Fz:=by kernel_rfl
def Ki:List Item:=skim 64 Fz.tail
theorem Fq_:skim 64 Fz.tail=Ki:=by kernel_rfl
def JW:List Item:=skim 64 Ki.tail
theorem ZL:skim 64 Ki.tail=JW:=by kernel_rfl
def O8:List Item:=skim 64 JW.tail
theorem MW_:skim 64 JW.tail=O8:=by kernel_rfl
def V1 (E:Env)(call round:Ac)(tm:T Value):M (T Value):=
 mv (some (.int .i64 0)) fun v4=>
 setF 4 v4 tm fun tm1=>
 M.pure tm1
theorem KP_:RegEq 38 36 CQ Nz V1:=⟨by kernel_rfl,fun _ _ _ _ _ _ _ _ _=>by kernel_rfl⟩
def T2 (E:Env)(call round:Ac)(tm:T Value):M (T Value):=
 mv (T.get tm 0) fun v5=>
 M.bind (oS (some v5) fun a=>kNil a) fun v6=>
 M.bind (oS (some v6) fun a=>kFld E 75 a 4) fun v7=>
 M.bind (oS (some v7) fun a=>A3 E 4 a) fun v8=>
 mv (some v8) fun v9=>
 M.bind (M.chk (isK v9) (M.if (isB v9 true) (oS (T.get tm 0) fun a=>M.pure a) (M.pure undef))) fun v10=>
 M.bind (M.chk (isK v9) (M.if (isB v9 true) (oS (some v10) fun a=>kNil a) (M.pure undef))) fun v11=>
 M.bind (M.chk (isK v9) (M.if (isB v9 true) (oS (some v11) fun a=>kFld E 75 a 5) (M.pure undef))) fun v12=>
 M.bind (M.chk (isK v9) (M.if (isB v9 true) (oS (some v12) fun a=>A3 E 3 a) (M.pure undef))) fun v13=>
 M.bind (M.chk (isK v9) (M.if (isB v9 true) (oS (some v13) fun a=>oS (some (.int .i64 0)) fun b=>Cl.get (aBin E .eql 3 (.tmp 13) (.const (.int .i64 0))) a b) (M.pure undef))) fun v14=>
 M.bind (M.on (some v9) fun a=>M.on (some v14) fun b=>M.on (some (.bool false)) fun c=>Bt a b c) fun v15=>
 setF 15 v15 tm fun tm1=>
 M.pure tm1
theorem GR_:RegEq 38 36 CQ H1 T2:=⟨by kernel_rfl,fun _ _ _ _ _ _ _ _ _=>by kernel_rfl⟩
theorem NK:Bc EY=some 15:=by kernel_rfl
def Xm (E:Env)(call round:Ac)(tm:T Value):M (T Value):=
 mv (T.get tm 0) fun v16=>
 M.bind (oS (some v16) fun a=>kNil a) fun v17=>
 M.bind (oS (some v17) fun a=>kFld E 75 a 6) fun v18=>
 M.bind (oS (some v18) fun a=>oS (some (.bool true)) fun b=>BA E 4 a b) fun _=>
 M.pure tm
theorem PR_:RegEq 38 36 CQ Il Xm:=⟨by kernel_rfl,fun _ _ _ _ _ _ _ _ _=>by kernel_rfl⟩
def My (E:Env)(call round:Ac)(tm:T Value):M (T Value):=
 mv (T.get tm 0) fun v19=>
 M.bind (oS (some v19) fun a=>kNil a) fun v20=>
 M.bind (oS (some v20) fun a=>kFld E 75 a 4) fun v21=>
 M.bind (oS (some v21) fun a=>A3 E 4 a) fun v22=>
 setF 22 v22 tm fun tm1=>
 M.pure tm1
theorem Vz:RegEq 38 36 CQ Jm My:=⟨by kernel_rfl,fun _ _ _ _ _ _ _ _ _=>by kernel_rfl⟩
def Xl (E:Env)(call round:Ac)(tm:T Value):M (T Value):=
 mv (some (.int .i64 10)) fun v4=>
 setF 4 v4 tm fun tm1=>
 M.pure tm1
theorem OY_:RegEq 38 36 CQ Jd Xl:=⟨by kernel_rfl,fun _ _ _ _ _ _ _ _ _=>by kernel_rfl⟩
theorem Rx:Bc FT=some 22:=by kernel_rfl
theorem Hf_: ∃k,OE= .code .ret::k:=⟨OE.tail,by kernel_rfl⟩
def Tk (E:Env)(call round:Ac)(tm:T Value):M (T Value):=
 mv (T.get tm 0) fun v23=>
 M.bind (oS (some v23) fun a=>kNil a) fun v24=>
 M.bind (oS (some v24) fun a=>kFld E 75 a 5) fun v25=>
 M.bind (oS (some v25) fun a=>A3 E 3 a) fun v26=>
 M.bind (oS (some v26) fun a=>oS (some (.int .i64 1)) fun b=>Cl.get (aBin E .sub 3 (.tmp 26) (.const (.int .i64 1))) a b) fun v27=>
 M.bind (oS (some v23) fun a=>kNil a) fun v28=>
 M.bind (oS (some v28) fun a=>kFld E 75 a 5) fun v29=>
 M.bind (oS (some v29) fun a=>oS (some v27) fun b=>BA E 3 a b) fun _=>
 M.pure tm
theorem EN_:RegEq 38 36 CQ M2 Tk:=⟨by kernel_rfl,fun _ _ _ _ _ _ _ _ _=>by kernel_rfl⟩
def UB (E:Env)(call round:Ac)(tm:T Value):M (T Value):=
 mv (T.get tm 0) fun v30=>
 M.bind (oS (some v30) fun a=>kNil a) fun v31=>
 M.bind (oS (some v31) fun a=>kFld E 75 a 3) fun v32=>
 M.bind (M.on (some (.func (.func 69) #[] #[])) fun f=>M.on (seqO [(some v32),(some (.int .i64 1))]) fun l=>A5 call round f l) fun v33=>
 M.pure tm
theorem Qn_:RegEq 38 36 CQ Fz UB:=⟨by kernel_rfl,fun _ _ _ _ _ _ _ _ _=>by kernel_rfl⟩
def P9 (E:Env)(call round:Ac)(tm:T Value):M (T Value):=
 mv (T.get tm 1) fun v34=>
 M.bind (M.on (some v34) fun f=>M.on (seqO []) fun l=>A5 call round f l) fun v35=>
 M.pure tm
theorem Pn_:RegEq 38 36 CQ Ki P9:=⟨by kernel_rfl,fun _ _ _ _ _ _ _ _ _=>by kernel_rfl⟩
def WJ (E:Env)(call round:Ac)(tm:T Value):M (T Value):=
 mv (some (.int .i64 0)) fun v4=>
 setF 4 v4 tm fun tm1=>
 M.pure tm1
theorem JK_:RegEq 38 36 CQ JW WJ:=⟨by kernel_rfl,fun _ _ _ _ _ _ _ _ _=>by kernel_rfl⟩
theorem IT_: ∃k,O8= .code .ret::k:=⟨O8.tail,by kernel_rfl⟩
def IK:Nat:=Bh Try.f37
def WN:Code:=Try.f37.body.getD .skip
theorem V6:envS.fn.get 37=some Try.f37:=by kernel_rfl
theorem HD_ {a0:Value}{n:Nat}{s:St}{Q:Value→St→Prop}(h: ∀tm,T.get tm 0=some a0→W (runF envS n ⟨37,17,IK,tm,[.code WN], .run, .normal,none⟩) (s.cxN cxN) fun p s1=>Q p.1 (s1.cxN s.cx)):W (Ap envS (runF envS n) 37 [a0]) s Q:=
 W.call (by kernel_rfl) (by kernel_rfl) V6 (by kernel_rfl) rfl rfl (by simp) (h _ (by kernel_rfl))
theorem IE_:Try.f37.results.toList=[.tmp 2]:=by kernel_rfl
def MB:List Item:=skim 64 [.code WN]
def Kb:List Item:=skim 64 MB.tail
theorem JS_:skim 64 MB.tail=Kb:=by kernel_rfl
def Io:List Item:=skim 64 Kb.tail
theorem JY_:skim 64 Kb.tail=Io:=by kernel_rfl
def Lo:List Item:=skim 64 Io.tail
theorem Bl_:skim 64 Io.tail=Lo:=by kernel_rfl
def Tw (E:Env)(call round:Ac)(tm:T Value):M (T Value):=
 mv (some (.bool false)) fun v2=>
 setF 2 v2 tm fun tm1=>
 M.pure tm1
theorem AZ_:RegEq 37 17 IK MB Tw:=⟨by kernel_rfl,fun _ _ _ _ _ _ _ _ _=>by kernel_rfl⟩
def Ud (E:Env)(call round:Ac)(tm:T Value):M (T Value):=
 mv (T.get tm 0) fun v4=>
 M.bind (M.on (some (.func (.func 67) #[] #[])) fun f=>M.on (seqO [(some v4),(some (.func (.func 68) #[] #[]))]) fun l=>A5 call round f l) fun v5=>
 mv (some v5) fun v3=>
 setF 3 v3 tm fun tm1=>
 M.pure tm1
theorem Eu_:RegEq 37 17 IK Kb Ud:=⟨by kernel_rfl,fun _ _ _ _ _ _ _ _ _=>by kernel_rfl⟩
def Qa (E:Env)(call round:Ac)(tm:T Value):M (T Value):=
 mv (T.get tm 0) fun v6=>
 M.bind (oS (some v6) fun a=>oS (some (.string {data:= #[]})) fun b=>Cl.get (aBin E .neq 9 (.tmp 6) (.const (.string {data:= #[]}))) a b) fun v7=>
 mv (some v7) fun v8=>
 M.bind (M.chk (isK v8) (M.if (isB v8 true) (oS (T.get tm 0) fun a=>M.pure a) (M.pure undef))) fun v9=>
 M.bind (M.chk (isK v8) (M.if (isB v8 true) (oS (seqO [(some v9)]) fun l=>A7 E .len [9] l) (M.pure undef))) fun v10=>
 M.bind (M.chk (isK v8) (M.if (isB v8 true) (oS (some v10) fun a=>oS (some (.int .i64 60)) fun b=>Cl.get (aBin E .leq 3 (.tmp 10) (.const (.int .i64 60))) a b) (M.pure undef))) fun v11=>
 M.bind (M.on (some v8) fun a=>M.on (some v11) fun b=>M.on (some (.bool false)) fun c=>Bt a b c) fun v12=>
 mv (some v12) fun v13=>
 M.bind (M.chk (isK v13) (M.if (isB v13 true) (oS (T.get tm 3) fun a=>M.pure a) (M.pure undef))) fun v14=>
 M.bind (M.chk (isK v13) (M.if (isB v13 true) (oS (some v14) fun a=>kUn E.P .not a) (M.pure undef))) fun v15=>
 M.bind (M.on (some v13) fun a=>M.on (some v15) fun b=>M.on (some (.bool false)) fun c=>Bt a b c) fun v16=>
 mv (some v16) fun v2=>
 setF 2 v2 tm fun tm1=>
 M.pure tm1
theorem AH_:RegEq 37 17 IK Io Qa:=⟨by kernel_rfl,fun _ _ _ _ _ _ _ _ _=>by kernel_rfl⟩
theorem Bw_: ∃k,Lo= .code .ret::k:=⟨Lo.tail,by kernel_rfl⟩
def Cb:Nat:=Bh Try.f9
abbrev KX_:Nat:=48
def Sq:Code:=Try.f9.body.getD .skip
theorem G8:envS.fn.get 9=some Try.f9:=by kernel_rfl
theorem FB_ {a0 a1 a2:Value}{n:Nat}{s:St}{Q:Value→St→Prop}(h: ∀tm,T.get tm 0=some a0→T.get tm 1=some a1→T.get tm 2=some a2→W (runF envS n ⟨9,48,Cb,tm,[.code Sq], .run, .normal,none⟩) (s.cxN cxN) fun p s1=>Q p.1 (s1.cxN s.cx)):W (Ap envS (runF envS n) 9 [a0,a1,a2]) s Q:=
 W.call (by kernel_rfl) (by kernel_rfl) G8 (by kernel_rfl) rfl rfl (by simp) (h _ (by kernel_rfl) (by kernel_rfl) (by kernel_rfl))
theorem HZ:Try.f9.results.toList=[.tmp 6]:=by kernel_rfl
def OW:List Item:=skim 64 [.code Sq]
def IS:List Item:=skim 64 OW.tail
theorem Ec_:skim 64 OW.tail=IS:=by kernel_rfl
def K7:List Item:=skim 64 IS.tail
theorem Ds_:skim 64 IS.tail=K7:=by kernel_rfl
def FK:List Item:=skim 64 K7.tail
theorem SV:skim 64 K7.tail=FK:=by kernel_rfl
def Jq:List Item:=skim 64 (brT FK)
theorem Ze:skim 64 (brT FK)=Jq:=by kernel_rfl
def GV:List Item:=skim 64 (brF FK)
theorem YW:skim 64 (brF FK)=GV:=by kernel_rfl
def Ns:List Item:=skim 64 Jq.tail
theorem PL_:skim 64 Jq.tail=Ns:=by kernel_rfl
def JL:List Item:=skim 64 GV.tail
theorem Qq_:skim 64 GV.tail=JL:=by kernel_rfl
def HH:List Item:=skim 64 JL.tail
theorem Oq_:skim 64 JL.tail=HH:=by kernel_rfl
def Qp_:List Item:=skim 64 (brT HH)
def IU:List Item:=skim 64 (brF HH)
theorem Iv_:skim 64 (brF HH)=IU:=by kernel_rfl
def Nr:List Item:=skim 64 Qp_.tail
def GP:List Item:=skim 64 IU.tail
theorem PS:skim 64 IU.tail=GP:=by kernel_rfl
def Fx:List Item:=skim 64 (brT GP)
def GA:List Item:=skim 64 (brF GP)
theorem WM:skim 64 (brF GP)=GA:=by kernel_rfl
def LR:List Item:=skim 64 (brT Fx)
theorem Yg:skim 64 (brT Fx)=LR:=by kernel_rfl
def IN:List Item:=skim 64 (brF Fx)
theorem KH_:skim 64 (brF Fx)=IN:=by kernel_rfl
theorem Sl:skim 64 GA.tail=Fx:=by kernel_rfl
theorem IB_:skim 64 LR.tail=Nr:=by kernel_rfl
def LG:List Item:=skim 64 IN.tail
theorem Sn:skim 64 IN.tail=LG:=by kernel_rfl
def WE (E:Env)(call round:Ac)(tm:T Value):M (T Value):=
 M.bind (oS (T.get tm 0) fun a=>kBox a) fun v3=>
 setF 3 v3 tm fun tm1=>
 M.bind (oS (T.get tm1 1) fun a=>kBox a) fun v4=>
 setF 4 v4 tm1 fun tm2=>
 M.bind (oS (T.get tm2 2) fun a=>kBox a) fun v5=>
 setF 5 v5 tm2 fun tm3=>
 mv (some (.int .i64 0)) fun v6=>
 setF 6 v6 tm3 fun tm4=>
 M.pure tm4
theorem Nn_:RegEq 9 48 Cb OW WE:=⟨by kernel_rfl,fun _ _ _ _ _ _ _ _ _=>by kernel_rfl⟩
def Un (E:Env)(call round:Ac)(tm:T Value):M (T Value):=
 M.bind (oS (T.get tm 3) fun a=>A3 E 24 a) fun v9=>
 M.bind (M.on (some (.func (.func 36) #[] #[])) fun f=>M.on (seqO [(some v9)]) fun l=>A5 call round f l) fun v10=>
 mv (some v10) fun v7=>
 setF 7 v7 tm fun tm1=>
 M.pure tm1
theorem NW_:RegEq 9 48 Cb IS Un:=⟨by kernel_rfl,fun _ _ _ _ _ _ _ _ _=>by kernel_rfl⟩
def OA (E:Env)(call round:Ac)(tm:T Value):M (T Value):=
 mv (T.get tm 7) fun v11=>
 M.bind (oS (some v11) fun a=>oS (some (.int .i64 0)) fun b=>Cl.get (aBin E .neq 27 (.tmp 11) (.const (.int .i64 0))) a b) fun v12=>
 setF 12 v12 tm fun tm1=>
 M.pure tm1
theorem GP_:RegEq 9 48 Cb K7 OA:=⟨by kernel_rfl,fun _ _ _ _ _ _ _ _ _=>by kernel_rfl⟩
theorem Uw:Bc FK=some 12:=by kernel_rfl
def Tj (E:Env)(call round:Ac)(tm:T Value):M (T Value):=
 mv (T.get tm 7) fun v13=>
 mv (some v13) fun v6=>
 setF 6 v6 tm fun tm1=>
 M.pure tm1
theorem PJ_:RegEq 9 48 Cb Jq Tj:=⟨by kernel_rfl,fun _ _ _ _ _ _ _ _ _=>by kernel_rfl⟩
def XL (E:Env)(call round:Ac)(tm:T Value):M ((Rho×T Value)×List OpLog):=
 M.bind (apartO (oS (T.get tm 3) fun a=>A3 E 24 a)) fun p0=>
 M.bind (apartO (oS (some p0.1) fun a=>kNil a)) fun p1=>
 M.bind (apartO (oS (some p1.1) fun a=>kFld E 75 a 1)) fun p2=>
 M.bind (apartO (oS (some p2.1) fun a=>A3 E 68 a)) fun p3=>
 M.bind (apartO (oS (T.get tm 4) fun a=>A3 E 9 a)) fun p4=>
 M.bind (apartO (oS (some p3.1) fun a=>oS (some p4.1) fun b=>Cn E 68 false a b)) fun p5=>
 M.bind (apartO (C5 E 67)) fun p6=>
 setT 8 p6.1 tm fun tm1=>
 M.pure (([p6.1,p5.1,p4.1,p3.1,p2.1,p1.1,p0.1],tm1),[p6.2,p5.2,p4.2,p3.2,p2.2,p1.2,p0.2])
theorem Lz_:DrawEq 9 48 Cb GV [0,1,3,7,0,31,0,127] XL:=⟨by kernel_rfl,by kernel_rfl,fun _ _ _ _ _ _ _ _ _=>by kernel_rfl⟩
theorem Yc (E:Env)(call round:Ac)(x14 x15 x16 x17 x18 x19 x8:Value)(tm:T Value)(s:St):By call round (B6 E Cb 48 (hdC GV)) [x8,x19,x18,x17,x16,x15,x14] tm s=(M.bind (oS (some x8) fun a=>oS (some x19) fun b=>BA E 67 a b) fun _=>M.pure tm) s:=by kernel_rfl
theorem GQ_: ∃k,Ns= .code .ret::k:=⟨Ns.tail,by kernel_rfl⟩
def V4 (E:Env)(call round:Ac)(tm:T Value):M (T Value):=
 M.bind (oS (T.get tm 4) fun a=>A3 E 9 a) fun v21=>
 M.bind (M.on (some (.func (.func 37) #[] #[])) fun f=>M.on (seqO [(some v21)]) fun l=>A5 call round f l) fun v22=>
 M.bind (oS (some v22) fun a=>kUn E.P .not a) fun v23=>
 mv (some v23) fun v20=>
 setF 20 v20 tm fun tm1=>
 M.pure tm1
theorem NC_:RegEq 9 48 Cb JL V4:=⟨by kernel_rfl,fun _ _ _ _ _ _ _ _ _=>by kernel_rfl⟩
theorem KT_:Bc HH=some 20:=by kernel_rfl
def WQ (E:Env)(call round:Ac)(tm:T Value):M (T Value):=
 M.bind (oS (T.get tm 8) fun a=>A3 E 67 a) fun v25=>
 M.bind (oS (some v25) fun a=>oS (some (.pointer none)) fun b=>Cl.get (aBin E .eql 67 (.tmp 25) (.const (.pointer none))) a b) fun v26=>
 mv (some v26) fun v27=>
 M.bind (M.chk (isK v27) (M.if (isB v27 true) (oS (T.get tm 3) fun a=>A3 E 24 a) (M.pure undef))) fun v28=>
 M.bind (M.chk (isK v27) (M.if (isB v27 true) (oS (some v28) fun a=>kNil a) (M.pure undef))) fun v29=>
 M.bind (M.chk (isK v27) (M.if (isB v27 true) (oS (some v29) fun a=>kFld E 75 a 1) (M.pure undef))) fun v30=>
 M.bind (M.chk (isK v27) (M.if (isB v27 true) (oS (some v30) fun a=>A3 E 68 a) (M.pure undef))) fun v31=>
 M.bind (M.chk (isK v27) (M.if (isB v27 true) (oS (seqO [(some v31)]) fun l=>A7 E .len [68] l) (M.pure undef))) fun v32=>
 M.bind (M.chk (isK v27) (M.if (isB v27 true) (oS (some v32) fun a=>oS (some (.int .i64 1000)) fun b=>Cl.get (aBin E .geq 3 (.tmp 32) (.const (.int .i64 1000))) a b) (M.pure undef))) fun v33=>
 M.bind (M.on (some v27) fun a=>M.on (some v33) fun b=>M.on (some (.bool false)) fun c=>Bt a b c) fun v34=>
 mv (some v34) fun v24=>
 setF 24 v24 tm fun tm1=>
 M.pure tm1
theorem Ij_:RegEq 9 48 Cb IU WQ:=⟨by kernel_rfl,fun _ _ _ _ _ _ _ _ _=>by kernel_rfl⟩
theorem LX_: ∃k,Nr= .code .ret::k:=⟨Nr.tail,by kernel_rfl⟩
theorem R6:Bc GP=some 24:=by kernel_rfl
theorem W5:Bc Fx=some 24:=by kernel_rfl
def Ty (E:Env)(call round:Ac)(tm:T Value):M ((Rho×T Value)×List OpLog):=
 M.bind (apartO (oS (T.get tm 3) fun a=>A3 E 24 a)) fun p0=>
 M.bind (apartO (M.on (some (.func (.func 10) #[] #[])) fun f=>M.on (seqO [(some p0.1)]) fun l=>A5 call round f l)) fun p1=>
 M.bind (apartO (oS (T.get tm 5) fun a=>A3 E 26 a)) fun p2=>
 M.bind (apartO (oS (seqO [(some p2.1)]) fun l=>A7 E .len [26] l)) fun p3=>
 M.bind (apartO (oS (some p1.1) fun a=>oS (some p3.1) fun b=>Cl.get (aBin E .add 3 (.tmp 36) (.tmp 38)) a b)) fun p4=>
 M.bind (apartO (oS (T.get tm 3) fun a=>A3 E 24 a)) fun p5=>
 M.bind (apartO (oS (some p5.1) fun a=>kNil a)) fun p6=>
 M.bind (apartO (oS (some p6.1) fun a=>kFld E 75 a 2)) fun p7=>
 M.bind (apartO (oS (some p7.1) fun a=>A3 E 3 a)) fun p8=>
 M.bind (apartO (oS (some p4.1) fun a=>oS (some p8.1) fun b=>Cl.get (aBin E .gtr 3 (.tmp 39) (.tmp 43)) a b)) fun p9=>
 M.pure (([p9.1,p8.1,p7.1,p6.1,p5.1,p4.1,p3.1,p2.1,p1.1,p0.1],tm),[p9.2,p8.2,p7.2,p6.2,p5.2,p4.2,p3.2,p2.2,p1.2,p0.2])
theorem LG_:DrawEq 9 48 Cb GA [0,1,0,4,15,0,32,96,224,511,1023] Ty:=⟨by kernel_rfl,by kernel_rfl,fun _ _ _ _ _ _ _ _ _=>by kernel_rfl⟩
theorem On_ (E:Env)(call round:Ac)(x35 x36 x37 x38 x39 x40 x41 x42 x43 x44:Value)(tm:T Value)(s:St):By call round (B6 E Cb 48 (hdC GA)) [x44,x43,x42,x41,x40,x39,x38,x37,x36,x35] tm s=(M.bind (oS (some x44) fun a=>M.pure a) fun v24=>setT 24 v24 tm fun tm1=>M.pure tm1) s:=by kernel_rfl
def UV (E:Env)(call round:Ac)(tm:T Value):M (T Value):=
 mv (some (.int .i64 8)) fun v6=>
 setF 6 v6 tm fun tm1=>
 M.pure tm1
theorem JD_:RegEq 9 48 Cb LR UV:=⟨by kernel_rfl,fun _ _ _ _ _ _ _ _ _=>by kernel_rfl⟩
def Vv (E:Env)(call round:Ac)(tm:T Value):M (T Value):=
 M.bind (oS (T.get tm 3) fun a=>A3 E 24 a) fun v45=>
 M.bind (oS (seqO []) fun a=>oS (seqO [(T.get tm 8),(T.get tm 3),(T.get tm 4),(T.get tm 5)]) fun b=>M.pure (.func (.func 39) a.toArray b.toArray)) fun v46=>
 M.bind (M.on (some (.func (.func 38) #[] #[])) fun f=>M.on (seqO [(some v45),(some v46)]) fun l=>A5 call round f l) fun v47=>
 mv (some v47) fun v6=>
 setF 6 v6 tm fun tm1=>
 M.pure tm1
theorem KK_:RegEq 9 48 Cb IN Vv:=⟨by kernel_rfl,fun _ _ _ _ _ _ _ _ _=>by kernel_rfl⟩
theorem RC: ∃k,LG= .code .ret::k:=⟨LG.tail,by kernel_rfl⟩
def DX:Nat:=Bh Try.f39
abbrev EH_:Nat:=23
def PM:Code:=Try.f39.body.getD .skip
theorem SO:envS.fn.get 39=some Try.f39:=by kernel_rfl
theorem PM_ {a0 a1 a2 a3:Value}{n:Nat}{s:St}{Q:Value→St→Prop}(h: ∀tm,T.get tm 0=some a0→T.get tm 1=some a1→T.get tm 2=some a2→T.get tm 3=some a3→W (runF envS n ⟨39,23,DX,tm,[.code PM], .run, .normal,none⟩) (s.cxN cxN) fun p s1=>Q p.1 (s1.cxN s.cx)):W (Ap envS (runF envS n) 39 [a0,a1,a2,a3]) s Q:=
 W.call (by kernel_rfl) (by kernel_rfl) SO (by kernel_rfl) rfl rfl (by simp) (h _ (by kernel_rfl) (by kernel_rfl) (by kernel_rfl) (by kernel_rfl))
theorem MP_:Try.f39.results.toList=[]:=by kernel_rfl
def LH:List Item:=skim 64 [.code PM]
def Gq:List Item:=skim 64 LH.tail
theorem UJ:skim 64 LH.tail=Gq:=by kernel_rfl
def KA:List Item:=skim 64 (brT Gq)
theorem Kz_:skim 64 (brT Gq)=KA:=by kernel_rfl
def EE:List Item:=skim 64 (brF Gq)
theorem NG_:skim 64 (brF Gq)=EE:=by kernel_rfl
def I3:List Item:=skim 64 KA.tail
theorem HF_:skim 64 KA.tail=I3:=by kernel_rfl
def Uu:List Item:=skim 64 EE.tail
theorem Bv_:skim 64 EE.tail=Uu:=by kernel_rfl
theorem NA_:skim 64 I3.tail=EE:=by kernel_rfl
def S8 (E:Env)(call round:Ac)(tm:T Value):M (T Value):=
 M.bind (oS (T.get tm 0) fun a=>A3 E 67 a) fun v4=>
 M.bind (oS (some v4) fun a=>oS (some (.pointer none)) fun b=>Cl.get (aBin E .eql 67 (.tmp 4) (.const (.pointer none))) a b) fun v5=>
 setF 5 v5 tm fun tm1=>
 M.pure tm1
theorem Pi_:RegEq 39 23 DX LH S8:=⟨by kernel_rfl,fun _ _ _ _ _ _ _ _ _=>by kernel_rfl⟩
theorem Rv:Bc Gq=some 5:=by kernel_rfl
def RP (E:Env)(call round:Ac)(tm:T Value):M (T Value):=
 M.bind (oS (seqP []) fun ps=>CB E 79 ps) fun v6=>
 M.bind (oS (some v6) fun a=>kBox a) fun v7=>
 M.bind (oS (T.get tm 0) fun a=>oS (some v7) fun b=>BA E 67 a b) fun _=>
 M.pure tm
theorem Qr_:RegEq 39 23 DX KA RP:=⟨by kernel_rfl,fun _ _ _ _ _ _ _ _ _=>by kernel_rfl⟩
def T9 (E:Env)(call round:Ac)(tm:T Value):M ((Rho×T Value)×List OpLog):=
 M.bind (apartO (oS (T.get tm 0) fun a=>A3 E 67 a)) fun p0=>
 M.bind (apartO (oS (T.get tm 0) fun a=>A3 E 67 a)) fun p1=>
 M.bind (apartO (oS (some p1.1) fun a=>kNil a)) fun p2=>
 M.bind (apartO (oS (some p2.1) fun a=>kFld E 79 a 1)) fun p3=>
 M.bind (apartO (oS (some p3.1) fun a=>A3 E 26 a)) fun p4=>
 M.bind (apartO (oS (T.get tm 3) fun a=>A3 E 26 a)) fun p5=>
 M.bind (apartO (oS (seqO [(some p4.1),(some p5.1)]) fun l=>A7 E .append [26,26] l)) fun p6=>
 M.bind (apartO (oS (some p0.1) fun a=>kNil a)) fun p7=>
 M.bind (apartO (oS (some p7.1) fun a=>kFld E 79 a 1)) fun p8=>
 M.pure (([p8.1,p7.1,p6.1,p5.1,p4.1,p3.1,p2.1,p1.1,p0.1],tm),[p8.2,p7.2,p6.2,p5.2,p4.2,p3.2,p2.2,p1.2,p0.2])
theorem OW_:DrawEq 39 23 DX EE [0,0,2,6,14,0,62,127,255,511] T9:=⟨by kernel_rfl,by kernel_rfl,fun _ _ _ _ _ _ _ _ _=>by kernel_rfl⟩
theorem BW_ (E:Env)(call round:Ac)(x14 x15 x16 x17 x18 x19 x20 x21 x22:Value)(tm:T Value)(s:St):By call round (B6 E DX 23 (hdC EE)) [x22,x21,x20,x19,x18,x17,x16,x15,x14] tm s=(M.bind (oS (some x22) fun a=>oS (some x20) fun b=>BA E 26 a b) fun _=>M.pure tm) s:=by kernel_rfl
def SR (E:Env)(call round:Ac)(tm:T Value):M ((Rho×T Value)×List OpLog):=
 M.bind (apartO (oS (T.get tm 1) fun a=>A3 E 24 a)) fun p0=>
 M.bind (apartO (oS (some p0.1) fun a=>kNil a)) fun p1=>
 M.bind (apartO (oS (some p1.1) fun a=>kFld E 75 a 1)) fun p2=>
 M.bind (apartO (oS (some p2.1) fun a=>A3 E 68 a)) fun p3=>
 M.bind (apartO (oS (T.get tm 2) fun a=>A3 E 9 a)) fun p4=>
 M.bind (apartO (oS (T.get tm 0) fun a=>A3 E 67 a)) fun p5=>
 M.pure (([p5.1,p4.1,p3.1,p2.1,p1.1,p0.1],tm),[p5.2,p4.2,p3.2,p2.2,p1.2,p0.2])
theorem AJ_:DrawEq 39 23 DX I3 [0,1,3,7,0,0,63] SR:=⟨by kernel_rfl,by kernel_rfl,fun _ _ _ _ _ _ _ _ _=>by kernel_rfl⟩
theorem Ga_ (E:Env)(call round:Ac)(x8 x9 x10 x11 x12 x13:Value)(tm:T Value)(s:St):By call round (B6 E DX 23 (hdC I3)) [x13,x12,x11,x10,x9,x8] tm s=(M.bind (M.on (some x11) fun a=>M.on (some x12) fun b=>M.on (some x13) fun c=>Dw E 68 a b c) fun _=>M.pure tm) s:=by kernel_rfl
def Dl:Nat:=Bh Try.f14
def RQ:Code:=Try.f14.body.getD .skip
theorem Hf:envS.fn.get 14=some Try.f14:=by kernel_rfl
theorem Jv_ {a0 a1:Value}{n:Nat}{s:St}{Q:Value→St→Prop}(h: ∀tm,T.get tm 0=some a0→T.get tm 1=some a1→W (runF envS n ⟨14,23,Dl,tm,[.code RQ], .run, .normal,none⟩) (s.cxN cxN) fun p s1=>Q p.1 (s1.cxN s.cx)):W (Ap envS (runF envS n) 14 [a0,a1]) s Q:=
 W.call (by kernel_rfl) (by kernel_rfl) Hf (by kernel_rfl) rfl rfl (by simp) (h _ (by kernel_rfl) (by kernel_rfl))
theorem H6:Try.f14.results.toList=[.tmp 4]:=by kernel_rfl
def NM:List Item:=skim 64 [.code RQ]
def Kk:List Item:=skim 64 NM.tail
theorem AQ_:skim 64 NM.tail=Kk:=by kernel_rfl
def KX:List Item:=skim 64 Kk.tail
theorem CX_:skim 64 Kk.tail=KX:=by kernel_rfl
def FH:List Item:=skim 64 KX.tail
theorem Xj:skim 64 KX.tail=FH:=by kernel_rfl
def KB:List Item:=skim 64 (brT FH)
theorem Hw_:skim 64 (brT FH)=KB:=by kernel_rfl
def Kh:List Item:=skim 64 (brF FH)
theorem Ac_:skim 64 (brF FH)=Kh:=by kernel_rfl
def Pc:List Item:=skim 64 KB.tail
theorem Kd_:skim 64 KB.tail=Pc:=by kernel_rfl
def KR:List Item:=skim 64 Kh.tail
theorem Oi_:skim 64 Kh.tail=KR:=by kernel_rfl
def Fw:List Item:=skim 64 KR.tail
theorem UC:skim 64 KR.tail=Fw:=by kernel_rfl
def ID:List Item:=skim 64 (brT Fw)
theorem GJ_:skim 64 (brT Fw)=ID:=by kernel_rfl
def Lh:List Item:=skim 64 (brF Fw)
theorem Ae_:skim 64 (brF Fw)=Lh:=by kernel_rfl
def PD:List Item:=skim 64 ID.tail
theorem OB_:skim 64 ID.tail=PD:=by kernel_rfl
def Nw:List Item:=skim 64 Lh.tail
theorem Tc:skim 64 Lh.tail=Nw:=by kernel_rfl
def UE (E:Env)(call round:Ac)(tm:T Value):M (T Value):=
 mv (some (.int .i64 0)) fun v4=>
 setF 4 v4 tm fun tm1=>
 M.pure tm1
theorem IP_:RegEq 14 23 Dl NM UE:=⟨by kernel_rfl,fun _ _ _ _ _ _ _ _ _=>by kernel_rfl⟩
def U8 (E:Env)(call round:Ac)(tm:T Value):M (T Value):=
 mv (T.get tm 0) fun v7=>
 M.bind (M.on (some (.func (.func 36) #[] #[])) fun f=>M.on (seqO [(some v7)]) fun l=>A5 call round f l) fun v8=>
 mv (some v8) fun v5=>
 setF 5 v5 tm fun tm1=>
 M.pure tm1
theorem MZ_:RegEq 14 23 Dl Kk U8:=⟨by kernel_rfl,fun _ _ _ _ _ _ _ _ _=>by kernel_rfl⟩
def M3 (E:Env)(call round:Ac)(tm:T Value):M (T Value):=
 mv (T.get tm 5) fun v9=>
 M.bind (oS (some v9) fun a=>oS (some (.int .i64 0)) fun b=>Cl.get (aBin E .neq 27 (.tmp 9) (.const (.int .i64 0))) a b) fun v10=>
 setF 10 v10 tm fun tm1=>
 M.pure tm1
theorem Y1:RegEq 14 23 Dl KX M3:=⟨by kernel_rfl,fun _ _ _ _ _ _ _ _ _=>by kernel_rfl⟩
theorem Ut:Bc FH=some 10:=by kernel_rfl
def Ve (E:Env)(call round:Ac)(tm:T Value):M (T Value):=
 mv (T.get tm 5) fun v11=>
 mv (some v11) fun v4=>
 setF 4 v4 tm fun tm1=>
 M.pure tm1
theorem Hi_:RegEq 14 23 Dl KB Ve:=⟨by kernel_rfl,fun _ _ _ _ _ _ _ _ _=>by kernel_rfl⟩
def TK (E:Env)(call round:Ac)(tm:T Value):M (T Value):=
 mv (T.get tm 0) fun v12=>
 M.bind (oS (some v12) fun a=>kNil a) fun v13=>
 M.bind (oS (some v13) fun a=>kFld E 75 a 1) fun v14=>
 M.bind (oS (some v14) fun a=>A3 E 68 a) fun v15=>
 mv (T.get tm 1) fun v16=>
 M.bind (oS (some v15) fun a=>oS (some v16) fun b=>Cn E 68 false a b) fun v17=>
 M.bind (C5 E 67) fun v6=>
 setF 6 v6 tm fun tm1=>
 M.bind (oS (some v6) fun a=>oS (some v17) fun b=>BA E 67 a b) fun _=>
 M.pure tm1
theorem Pv_:RegEq 14 23 Dl Kh TK:=⟨by kernel_rfl,fun _ _ _ _ _ _ _ _ _=>by kernel_rfl⟩
theorem Ex_: ∃k,Pc= .code .ret::k:=⟨Pc.tail,by kernel_rfl⟩
def Wz (E:Env)(call round:Ac)(tm:T Value):M (T Value):=
 M.bind (oS (T.get tm 6) fun a=>A3 E 67 a) fun v18=>
 M.bind (oS (some v18) fun a=>oS (some (.pointer none)) fun b=>Cl.get (aBin E .eql 67 (.tmp 18) (.const (.pointer none))) a b) fun v19=>
 setF 19 v19 tm fun tm1=>
 M.pure tm1
theorem Gh_:RegEq 14 23 Dl KR Wz:=⟨by kernel_rfl,fun _ _ _ _ _ _ _ _ _=>by kernel_rfl⟩
theorem TA:Bc Fw=some 19:=by kernel_rfl
def Ue (E:Env)(call round:Ac)(tm:T Value):M (T Value):=
 mv (some (.int .i64 6)) fun v4=>
 setF 4 v4 tm fun tm1=>
 M.pure tm1
theorem DN_:RegEq 14 23 Dl ID Ue:=⟨by kernel_rfl,fun _ _ _ _ _ _ _ _ _=>by kernel_rfl⟩
def WZ (E:Env)(call round:Ac)(tm:T Value):M (T Value):=
 mv (T.get tm 0) fun v20=>
 M.bind (oS (seqO []) fun a=>oS (seqO [(T.get tm 6)]) fun b=>M.pure (.func (.func 49) a.toArray b.toArray)) fun v21=>
 M.bind (M.on (some (.func (.func 38) #[] #[])) fun f=>M.on (seqO [(some v20),(some v21)]) fun l=>A5 call round f l) fun v22=>
 mv (some v22) fun v4=>
 setF 4 v4 tm fun tm1=>
 M.pure tm1
theorem Gz_:RegEq 14 23 Dl Lh WZ:=⟨by kernel_rfl,fun _ _ _ _ _ _ _ _ _=>by kernel_rfl⟩
theorem CT_: ∃k,PD= .code .ret::k:=⟨PD.tail,by kernel_rfl⟩
theorem Xr: ∃k,Nw= .code .ret::k:=⟨Nw.tail,by kernel_rfl⟩
def Pk:Nat:=Bh Try.f49
def QJ:Code:=Try.f49.body.getD .skip
theorem Qz:envS.fn.get 49=some Try.f49:=by kernel_rfl
theorem Pr_ {a0:Value}{n:Nat}{s:St}{Q:Value→St→Prop}(h: ∀tm,T.get tm 0=some a0→W (runF envS n ⟨49,16,Pk,tm,[.code QJ], .run, .normal,none⟩) (s.cxN cxN) fun p s1=>Q p.1 (s1.cxN s.cx)):W (Ap envS (runF envS n) 49 [a0]) s Q:=
 W.call (by kernel_rfl) (by kernel_rfl) Qz (by kernel_rfl) rfl rfl (by simp) (h _ (by kernel_rfl))
theorem Pp_:Try.f49.results.toList=[]:=by kernel_rfl
def KY:List Item:=skim 64 [.code QJ]
def RU:List Item:=skim 64 KY.tail
theorem Zg:skim 64 KY.tail=RU:=by kernel_rfl
def Sx (E:Env)(call round:Ac)(tm:T Value):M ((Rho×T Value)×List OpLog):=
 M.bind (apartO (oS (T.get tm 0) fun a=>A3 E 67 a)) fun p0=>
 M.bind (apartO (oS (T.get tm 0) fun a=>A3 E 67 a)) fun p1=>
 M.bind (apartO (oS (T.get tm 0) fun a=>A3 E 67 a)) fun p2=>
 M.bind (apartO (oS (some p2.1) fun a=>kNil a)) fun p3=>
 M.bind (apartO (oS (some p3.1) fun a=>kFld E 79 a 0)) fun p4=>
 M.bind (apartO (oS (some p4.1) fun a=>A3 E 26 a)) fun p5=>
 M.bind (apartO (oS (T.get tm 0) fun a=>A3 E 67 a)) fun p6=>
 M.bind (apartO (oS (some p6.1) fun a=>kNil a)) fun p7=>
 M.bind (apartO (oS (some p7.1) fun a=>kFld E 79 a 1)) fun p8=>
 M.bind (apartO (oS (some p8.1) fun a=>A3 E 26 a)) fun p9=>
 M.bind (apartO (oS (seqO [(some p5.1),(some p9.1)]) fun l=>A7 E .append [26,26] l)) fun p10=>
 M.bind (apartO (oS (some p0.1) fun a=>kNil a)) fun p11=>
 M.bind (apartO (oS (some p11.1) fun a=>kFld E 79 a 0)) fun p12=>
 M.bind (apartO (oS (some p12.1) fun a=>oS (some p10.1) fun b=>BA E 26 a b)) fun p13=>
 M.bind (apartO (oS (some p1.1) fun a=>kNil a)) fun p14=>
 M.bind (apartO (oS (some p14.1) fun a=>kFld E 79 a 1)) fun p15=>
 M.pure (([p15.1,p14.1,p12.1,p11.1,p10.1,p9.1,p8.1,p7.1,p6.1,p5.1,p4.1,p3.1,p2.1,p1.1,p0.1],tm),[p15.2,p14.2,p13.2,p12.2,p11.2,p10.2,p9.2,p8.2,p7.2,p6.2,p5.2,p4.2,p3.2,p2.2,p1.2,p0.2])
theorem FS_:DrawEq 49 16 Pk KY [0,0,0,4,12,28,0,64,192,448,1020,2045,4093,8189,16383,32767,65535] Sx:=⟨by kernel_rfl,by kernel_rfl,fun _ _ _ _ _ _ _ _ _=>by kernel_rfl⟩
theorem EI_ (E:Env)(call round:Ac)(x1 x2 x3 x4 x5 x6 x7 x8 x9 x10 x11 x12 x13 x14 x15:Value)(tm:T Value)(s:St):By call round (B6 E Pk 16 (hdC KY)) [x15,x14,x13,x12,x11,x10,x9,x8,x7,x6,x5,x4,x3,x2,x1] tm s=(M.bind (oS (some x15) fun a=>oS (some (.slice none 0 0)) fun b=>BA E 26 a b) fun _=>M.pure tm) s:=by kernel_rfl
def CW:Nat:=Bh Try.f12
def TM:Code:=Try.f12.body.getD .skip
theorem Jp:envS.fn.get 12=some Try.f12:=by kernel_rfl
theorem YS {a0 a1:Value}{n:Nat}{s:St}{Q:Value→St→Prop}(h: ∀tm,T.get tm 0=some a0→T.get tm 1=some a1→W (runF envS n ⟨12,31,CW,tm,[.code TM], .run, .normal,none⟩) (s.cxN cxN) fun p s1=>Q p.1 (s1.cxN s.cx)):W (Ap envS (runF envS n) 12 [a0,a1]) s Q:=
 W.call (by kernel_rfl) (by kernel_rfl) Jp (by kernel_rfl) rfl rfl (by simp) (h _ (by kernel_rfl) (by kernel_rfl))
theorem N5:Try.f12.results.toList=[.tmp 4, .tmp 5]:=by kernel_rfl
def L8:List Item:=skim 64 [.code TM]
def Kj:List Item:=skim 64 L8.tail
theorem Zv:skim 64 L8.tail=Kj:=by kernel_rfl
def IX:List Item:=skim 64 Kj.tail
theorem YJ:skim 64 Kj.tail=IX:=by kernel_rfl
def Gn:List Item:=skim 64 IX.tail
theorem Xf:skim 64 IX.tail=Gn:=by kernel_rfl
def JI:List Item:=skim 64 (brT Gn)
theorem Ci_:skim 64 (brT Gn)=JI:=by kernel_rfl
def Kq:List Item:=skim 64 (brF Gn)
theorem Pg_:skim 64 (brF Gn)=Kq:=by kernel_rfl
def Np:List Item:=skim 64 JI.tail
theorem OD_:skim 64 JI.tail=Np:=by kernel_rfl
def HW:List Item:=skim 64 Kq.tail
theorem Z8:skim 64 Kq.tail=HW:=by kernel_rfl
def Ff:List Item:=skim 64 HW.tail
theorem SS:skim 64 HW.tail=Ff:=by kernel_rfl
def Kx:List Item:=skim 64 (brT Ff)
theorem BG_:skim 64 (brT Ff)=Kx:=by kernel_rfl
def Hk:List Item:=skim 64 (brF Ff)
theorem Dw_:skim 64 (brF Ff)=Hk:=by kernel_rfl
def Px:List Item:=skim 64 Kx.tail
theorem Aq_:skim 64 Kx.tail=Px:=by kernel_rfl
def Nd:List Item:=skim 64 Hk.tail
theorem MN_:skim 64 Hk.tail=Nd:=by kernel_rfl
def Vh (E:Env)(call round:Ac)(tm:T Value):M (T Value):=
 mv (some (.slice none 0 0)) fun v4=>
 setF 4 v4 tm fun tm1=>
 mv (some (.int .i64 0)) fun v5=>
 setF 5 v5 tm1 fun tm2=>
 M.pure tm2
theorem Nr_:RegEq 12 31 CW L8 Vh:=⟨by kernel_rfl,fun _ _ _ _ _ _ _ _ _=>by kernel_rfl⟩
def PX (E:Env)(call round:Ac)(tm:T Value):M (T Value):=
 mv (T.get tm 0) fun v8=>
 M.bind (M.on (some (.func (.func 36) #[] #[])) fun f=>M.on (seqO [(some v8)]) fun l=>A5 call round f l) fun v9=>
 mv (some v9) fun v6=>
 setF 6 v6 tm fun tm1=>
 M.pure tm1
theorem Pk_:RegEq 12 31 CW Kj PX:=⟨by kernel_rfl,fun _ _ _ _ _ _ _ _ _=>by kernel_rfl⟩
def LQ (E:Env)(call round:Ac)(tm:T Value):M (T Value):=
 mv (T.get tm 6) fun v10=>
 M.bind (oS (some v10) fun a=>oS (some (.int .i64 0)) fun b=>Cl.get (aBin E .neq 27 (.tmp 10) (.const (.int .i64 0))) a b) fun v11=>
 setF 11 v11 tm fun tm1=>
 M.pure tm1
theorem Jj_:RegEq 12 31 CW IX LQ:=⟨by kernel_rfl,fun _ _ _ _ _ _ _ _ _=>by kernel_rfl⟩
theorem UT:Bc Gn=some 11:=by kernel_rfl
def VI (E:Env)(call round:Ac)(tm:T Value):M (T Value):=
 mv (T.get tm 6) fun v12=>
 mv (some (.slice none 0 0)) fun v4=>
 setF 4 v4 tm fun tm1=>
 mv (some v12) fun v5=>
 setF 5 v5 tm1 fun tm2=>
 M.pure tm2
theorem Gf_:RegEq 12 31 CW JI VI:=⟨by kernel_rfl,fun _ _ _ _ _ _ _ _ _=>by kernel_rfl⟩
def Ww (E:Env)(call round:Ac)(tm:T Value):M (T Value):=
 mv (T.get tm 0) fun v13=>
 M.bind (oS (some v13) fun a=>kNil a) fun v14=>
 M.bind (oS (some v14) fun a=>kFld E 75 a 1) fun v15=>
 M.bind (oS (some v15) fun a=>A3 E 68 a) fun v16=>
 mv (T.get tm 1) fun v17=>
 M.bind (oS (some v16) fun a=>oS (some v17) fun b=>Cn E 68 false a b) fun v18=>
 mv (some v18) fun v7=>
 setF 7 v7 tm fun tm1=>
 M.pure tm1
theorem Cv_:RegEq 12 31 CW Kq Ww:=⟨by kernel_rfl,fun _ _ _ _ _ _ _ _ _=>by kernel_rfl⟩
theorem Ql_: ∃k,Np= .code .ret::k:=⟨Np.tail,by kernel_rfl⟩
def MK (E:Env)(call round:Ac)(tm:T Value):M (T Value):=
 mv (T.get tm 7) fun v19=>
 M.bind (oS (some v19) fun a=>oS (some (.pointer none)) fun b=>Cl.get (aBin E .eql 67 (.tmp 19) (.const (.pointer none))) a b) fun v20=>
 setF 20 v20 tm fun tm1=>
 M.pure tm1
theorem NJ_:RegEq 12 31 CW HW MK:=⟨by kernel_rfl,fun _ _ _ _ _ _ _ _ _=>by kernel_rfl⟩
theorem UN:Bc Ff=some 20:=by kernel_rfl
def Wp (E:Env)(call round:Ac)(tm:T Value):M (T Value):=
 mv (some (.slice none 0 0)) fun v4=>
 setF 4 v4 tm fun tm1=>
 mv (some (.int .i64 6)) fun v5=>
 setF 5 v5 tm1 fun tm2=>
 M.pure tm2
theorem MI_:RegEq 12 31 CW Kx Wp:=⟨by kernel_rfl,fun _ _ _ _ _ _ _ _ _=>by kernel_rfl⟩
def W6 (E:Env)(call round:Ac)(tm:T Value):M ((Rho×T Value)×List OpLog):=
 M.bind (apartO (oS (T.get tm 7) fun a=>M.pure a)) fun p0=>
 M.bind (apartO (oS (some p0.1) fun a=>kNil a)) fun p1=>
 M.bind (apartO (oS (some p1.1) fun a=>kFld E 79 a 0)) fun p2=>
 M.bind (apartO (oS (some p2.1) fun a=>A3 E 26 a)) fun p3=>
 M.bind (apartO (oS (T.get tm 7) fun a=>M.pure a)) fun p4=>
 M.bind (apartO (oS (some p4.1) fun a=>kNil a)) fun p5=>
 M.bind (apartO (oS (some p5.1) fun a=>kFld E 79 a 1)) fun p6=>
 M.bind (apartO (oS (some p6.1) fun a=>A3 E 26 a)) fun p7=>
 M.bind (apartO (oS (seqP [(0,(some p3.1)),(1,(some p7.1))]) fun ps=>CV E 22 2 ps)) fun p8=>
 M.bind (apartO (M.on (some (.func (.func 47) #[] #[])) fun f=>M.on (seqO [(some p8.1)]) fun l=>A5 call round f l)) fun p9=>
 M.bind (apartO (oS (some p9.1) fun a=>M.pure a)) fun p10=>
 setT 4 p10.1 tm fun tm1=>
 M.pure (([p10.1,p9.1,p8.1,p7.1,p6.1,p5.1,p4.1,p3.1,p2.1,p1.1,p0.1],tm1),[p10.2,p9.2,p8.2,p7.2,p6.2,p5.2,p4.2,p3.2,p2.2,p1.2,p0.2])
theorem YC:DrawEq 12 31 CW Hk [0,1,3,7,0,16,48,112,255,511,1023,2047] W6:=⟨by kernel_rfl,by kernel_rfl,fun _ _ _ _ _ _ _ _ _=>by kernel_rfl⟩
theorem LI_ (E:Env)(call round:Ac)(x21 x22 x23 x24 x25 x26 x27 x28 x29 x30 x4:Value)(tm:T Value)(s:St):By call round (B6 E CW 31 (hdC Hk)) [x4,x30,x29,x28,x27,x26,x25,x24,x23,x22,x21] tm s=(M.bind (oS (some (.int .i64 0)) fun a=>M.pure a) fun v5=>setT 5 v5 tm fun tm1=>M.pure tm1) s:=by kernel_rfl
theorem PF_: ∃k,Px= .code .ret::k:=⟨Px.tail,by kernel_rfl⟩
theorem Ih_: ∃k,Nd= .code .ret::k:=⟨Nd.tail,by kernel_rfl⟩
def HA:Nat:=Bh Try.f11
def Wn:Code:=Try.f11.body.getD .skip
theorem Vq:envS.fn.get 11=some Try.f11:=by kernel_rfl
theorem FM_ {a0 a1:Value}{n:Nat}{s:St}{Q:Value→St→Prop}(h: ∀tm,T.get tm 0=some a0→T.get tm 1=some a1→W (runF envS n ⟨11,17,HA,tm,[.code Wn], .run, .normal,none⟩) (s.cxN cxN) fun p s1=>Q p.1 (s1.cxN s.cx)):W (Ap envS (runF envS n) 11 [a0,a1]) s Q:=
 W.call (by kernel_rfl) (by kernel_rfl) Vq (by kernel_rfl) rfl rfl (by simp) (h _ (by kernel_rfl) (by kernel_rfl))
theorem Cb_:Try.f11.results.toList=[.tmp 4]:=by kernel_rfl
def O9:List Item:=skim 64 [.code Wn]
def Ij:List Item:=skim 64 O9.tail
theorem KR_:skim 64 O9.tail=Ij:=by kernel_rfl
def HS:List Item:=skim 64 Ij.tail
theorem CU_:skim 64 Ij.tail=HS:=by kernel_rfl
def Jo:List Item:=skim 64 (brF HS)
theorem OM_:skim 64 (brF HS)=Jo:=by kernel_rfl
def Jk:List Item:=skim 64 Jo.tail
theorem Mh_:skim 64 Jo.tail=Jk:=by kernel_rfl
def M4:List Item:=skim 64 Jk.tail
theorem PQ_:skim 64 Jk.tail=M4:=by kernel_rfl
def X4 (E:Env)(call round:Ac)(tm:T Value):M (T Value):=
 M.bind (oS (T.get tm 1) fun a=>kBox a) fun v3=>
 setF 3 v3 tm fun tm1=>
 mv (some (.slice none 0 0)) fun v4=>
 setF 4 v4 tm1 fun tm2=>
 M.pure tm2
theorem GB_:RegEq 11 17 HA O9 X4:=⟨by kernel_rfl,fun _ _ _ _ _ _ _ _ _=>by kernel_rfl⟩
def VC (E:Env)(call round:Ac)(tm:T Value):M (T Value):=
 mv (T.get tm 0) fun v6=>
 M.bind (M.on (some (.func (.func 40) #[] #[])) fun f=>M.on (seqO [(some v6)]) fun l=>A5 call round f l) fun v7=>
 setF 7 v7 tm fun tm1=>
 M.pure tm1
theorem Ah_:RegEq 11 17 HA Ij VC:=⟨by kernel_rfl,fun _ _ _ _ _ _ _ _ _=>by kernel_rfl⟩
theorem PC_:Bc HS=some 7:=by kernel_rfl
def W9 (E:Env)(call round:Ac)(tm:T Value):M (T Value):=
 mv (T.get tm 0) fun v8=>
 M.bind (oS (some v8) fun a=>kNil a) fun v9=>
 M.bind (oS (some v9) fun a=>kFld E 75 a 1) fun v10=>
 M.bind (oS (some v10) fun a=>A3 E 68 a) fun v11=>
 M.bind (M.on (some (.func (.func 43) #[] #[])) fun f=>M.on (seqO [(some v11)]) fun l=>A5 call round f l) fun v12=>
 M.bind (M.on (some (.func (.func 42) #[] #[])) fun f=>M.on (seqO [(some v12)]) fun l=>A5 call round f l) fun v13=>
 mv (some v13) fun v5=>
 setF 5 v5 tm fun tm1=>
 M.pure tm1
theorem Bi_:RegEq 11 17 HA Jo W9:=⟨by kernel_rfl,fun _ _ _ _ _ _ _ _ _=>by kernel_rfl⟩
def XM (E:Env)(call round:Ac)(tm:T Value):M (T Value):=
 mv (T.get tm 5) fun v14=>
 M.bind (oS (seqO []) fun a=>oS (seqO [(T.get tm 3)]) fun b=>M.pure (.func (.func 45) a.toArray b.toArray)) fun v15=>
 M.bind (M.on (some (.func (.func 44) #[] #[])) fun f=>M.on (seqO [(some v14),(some v15)]) fun l=>A5 call round f l) fun v16=>
 mv (some v16) fun v4=>
 setF 4 v4 tm fun tm1=>
 M.pure tm1
theorem X8:RegEq 11 17 HA Jk XM:=⟨by kernel_rfl,fun _ _ _ _ _ _ _ _ _=>by kernel_rfl⟩
theorem DA_: ∃k,M4= .code .ret::k:=⟨M4.tail,by kernel_rfl⟩
def OQ:Nat:=Bh Try.f45
def Up:Code:=Try.f45.body.getD .skip
theorem T1:envS.fn.get 45=some Try.f45:=by kernel_rfl
theorem HZ_ {a0 a1:Value}{n:Nat}{s:St}{Q:Value→St→Prop}(h: ∀tm,T.get tm 0=some a0→T.get tm 1=some a1→W (runF envS n ⟨45,8,OQ,tm,[.code Up], .run, .normal,none⟩) (s.cxN cxN) fun p s1=>Q p.1 (s1.cxN s.cx)):W (Ap envS (runF envS n) 45 [a0,a1]) s Q:=
 W.call (by kernel_rfl) (by kernel_rfl) T1 (by kernel_rfl) rfl rfl (by simp) (h _ (by kernel_rfl) (by kernel_rfl))
theorem JG_:Try.f45.results.toList=[.tmp 3]:=by kernel_rfl
def MH:List Item:=skim 64 [.code Up]
def Ig:List Item:=skim 64 MH.tail
theorem Zi:skim 64 MH.tail=Ig:=by kernel_rfl
def NV:List Item:=skim 64 Ig.tail
theorem DZ_:skim 64 Ig.tail=NV:=by kernel_rfl
def VY (E:Env)(call round:Ac)(tm:T Value):M (T Value):=
 mv (some (.bool false)) fun v3=>
 setF 3 v3 tm fun tm1=>
 M.pure tm1
theorem Dg_:RegEq 45 8 OQ MH VY:=⟨by kernel_rfl,fun _ _ _ _ _ _ _ _ _=>by kernel_rfl⟩
def Vp (E:Env)(call round:Ac)(tm:T Value):M (T Value):=
 mv (T.get tm 0) fun v4=>
 M.bind (oS (T.get tm 1) fun a=>A3 E 9 a) fun v5=>
 M.bind (M.on (some (.func (.func 46) #[] #[])) fun f=>M.on (seqO [(some v4),(some v5)]) fun l=>A5 call round f l) fun v6=>
 M.bind (oS (some v6) fun a=>kUn E.P .not a) fun v7=>
 mv (some v7) fun v3=>
 setF 3 v3 tm fun tm1=>
 M.pure tm1
theorem BJ_:RegEq 45 8 OQ Ig Vp:=⟨by kernel_rfl,fun _ _ _ _ _ _ _ _ _=>by kernel_rfl⟩
theorem Bq_: ∃k,NV= .code .ret::k:=⟨NV.tail,by kernel_rfl⟩
def BJ:Nat:=Bh Try.f18
abbrev GD:Nat:=73
def WL:Code:=Try.f18.body.getD .skip
theorem Vk:envS.fn.get 18=some Try.f18:=by kernel_rfl
theorem Ie_ {a0 a1:Value}{n:Nat}{s:St}{Q:Value→St→Prop}(h: ∀tm,T.get tm 0=some a0→T.get tm 1=some a1→W (runF envS n ⟨18,73,BJ,tm,[.code WL], .run, .normal,none⟩) (s.cxN cxN) fun p s1=>Q p.1 (s1.cxN s.cx)):W (Ap envS (runF envS n) 18 [a0,a1]) s Q:=
 W.call (by kernel_rfl) (by kernel_rfl) Vk (by kernel_rfl) rfl rfl (by simp) (h _ (by kernel_rfl) (by kernel_rfl))
theorem Jp_:Try.f18.results.toList=[.tmp 4]:=by kernel_rfl
def OY:List Item:=skim 64 [.code WL]
def KE:List Item:=skim 64 OY.tail
theorem Gx_:skim 64 OY.tail=KE:=by kernel_rfl
def Km:List Item:=skim 64 KE.tail
theorem Nm_:skim 64 KE.tail=Km:=by kernel_rfl
def IQ:List Item:=skim 64 (brF Km)
theorem Ni_:skim 64 (brF Km)=IQ:=by kernel_rfl
def FY:List Item:=skim 64 IQ.tail
theorem ZP:skim 64 IQ.tail=FY:=by kernel_rfl
def Fr:List Item:=skim 64 FY.tail
theorem PY:skim 64 FY.tail=Fr:=by kernel_rfl
def Ia:List Item:=skim 64 (brT Fr)
theorem Ei_:skim 64 (brT Fr)=Ia:=by kernel_rfl
def HO:List Item:=skim 64 (brF Fr)
theorem Da_:skim 64 (brF Fr)=HO:=by kernel_rfl
def JY:List Item:=skim 64 Ia.tail
theorem YG:skim 64 Ia.tail=JY:=by kernel_rfl
def KV:List Item:=skim 64 HO.tail
theorem Dr_:skim 64 HO.tail=KV:=by kernel_rfl
def Jr:List Item:=skim 64 JY.tail
theorem GT_:skim 64 JY.tail=Jr:=by kernel_rfl
def NI:List Item:=skim 64 KV.tail
theorem EK_:skim 64 KV.tail=NI:=by kernel_rfl
def FO:List Item:=skim 64 Jr.tail
theorem PI:skim 64 Jr.tail=FO:=by kernel_rfl
def K3:List Item:=skim 64 (brT FO)
theorem Kw_:skim 64 (brT FO)=K3:=by kernel_rfl
def Ed:List Item:=skim 64 (brF FO)
theorem Lp_:skim 64 (brF FO)=Ed:=by kernel_rfl
def Mw:List Item:=skim 64 K3.tail
theorem Na_:skim 64 K3.tail=Mw:=by kernel_rfl
def IY:List Item:=skim 64 Ed.tail
theorem Yu:skim 64 Ed.tail=IY:=by kernel_rfl
theorem IX_:skim 64 Mw.tail=Ed:=by kernel_rfl
theorem LT_:skim 64 IY.tail=FY:=by kernel_rfl
def Ug (E:Env)(call round:Ac)(tm:T Value):M (T Value):=
 mv (some (.int .i64 0)) fun v4=>
 setF 4 v4 tm fun tm1=>
 M.pure tm1
theorem IH_:RegEq 18 73 BJ OY Ug:=⟨by kernel_rfl,fun _ _ _ _ _ _ _ _ _=>by kernel_rfl⟩
def UM (E:Env)(call round:Ac)(tm:T Value):M (T Value):=
 mv (T.get tm 0) fun v10=>
 M.bind (M.on (some (.func (.func 40) #[] #[])) fun f=>M.on (seqO [(some v10)]) fun l=>A5 call round f l) fun v11=>
 setF 11 v11 tm fun tm1=>
 M.pure tm1
theorem Dl_:RegEq 18 73 BJ KE UM:=⟨by kernel_rfl,fun _ _ _ _ _ _ _ _ _=>by kernel_rfl⟩
theorem Bj_:Bc Km=some 11:=by kernel_rfl
def VF (E:Env)(call round:Ac)(tm:T Value):M (T Value):=
 mv (T.get tm 0) fun v12=>
 M.bind (M.on (some (.func (.func 11) #[] #[])) fun f=>M.on (seqO [(some v12),(some (.string {data:= #[]}))]) fun l=>A5 call round f l) fun v13=>
 setF 13 v13 tm fun tm1=>
 M.bind (oS (seqO [(some v13)]) fun l=>A7 E .len [30] l) fun v14=>
 setF 14 v14 tm1 fun tm2=>
 mv (some (.int .i64 0)) fun v15=>
 setF 15 v15 tm2 fun tm3=>
 M.pure tm3
theorem FC_:RegEq 18 73 BJ IQ VF:=⟨by kernel_rfl,fun _ _ _ _ _ _ _ _ _=>by kernel_rfl⟩
def Nt (E:Env)(call round:Ac)(tm:T Value):M (T Value):=
 M.bind (oS (T.get tm 15) fun a=>oS (T.get tm 14) fun b=>Cl.get (aBin E .lss 3 (.tmp 15) (.tmp 14)) a b) fun v16=>
 setF 16 v16 tm fun tm1=>
 M.pure tm1
theorem SZ:RegEq 18 73 BJ FY Nt:=⟨by kernel_rfl,fun _ _ _ _ _ _ _ _ _=>by kernel_rfl⟩
theorem V9:Bc Fr=some 16:=by kernel_rfl
def VK (E:Env)(call round:Ac)(tm:T Value):M (T Value):=
 mv (T.get tm 15) fun v17=>
 M.bind (oS (T.get tm 13) fun a=>oS (T.get tm 15) fun b=>BS E 30 a b) fun v18=>
 M.bind (oS (some v18) fun a=>A3 E 9 a) fun v19=>
 mv (some v17) fun v5=>
 setF 5 v5 tm fun tm1=>
 mv (some v19) fun v6=>
 setF 6 v6 tm1 fun tm2=>
 M.pure tm2
theorem DE_:RegEq 18 73 BJ Ia VK:=⟨by kernel_rfl,fun _ _ _ _ _ _ _ _ _=>by kernel_rfl⟩
def Qd (E:Env)(call round:Ac)(tm:T Value):M (T Value):=
 mv (T.get tm 0) fun v64=>
 mv (T.get tm 0) fun v65=>
 mv (T.get tm 0) fun v66=>
 M.bind (oS (some v64) fun a=>kNil a) fun v67=>
 M.bind (oS (some v67) fun a=>kFld E 75 a 6) fun v68=>
 M.bind (oS (some v68) fun a=>oS (some (.bool false)) fun b=>BA E 4 a b) fun _=>
 M.bind (oS (some v65) fun a=>kNil a) fun v69=>
 M.bind (oS (some v69) fun a=>kFld E 75 a 4) fun v70=>
 M.bind (oS (some v70) fun a=>oS (some (.bool false)) fun b=>BA E 4 a b) fun _=>
 M.bind (oS (some v66) fun a=>kNil a) fun v71=>
 M.bind (oS (some v71) fun a=>kFld E 75 a 5) fun v72=>
 M.bind (oS (some v72) fun a=>oS (some (.int .i64 0)) fun b=>BA E 3 a b) fun _=>
 M.pure tm
theorem Nb_:RegEq 18 73 BJ HO Qd:=⟨by kernel_rfl,fun _ _ _ _ _ _ _ _ _=>by kernel_rfl⟩
def Xb (E:Env)(call round:Ac)(tm:T Value):M (T Value):=
 mv (T.get tm 0) fun v20=>
 M.bind (oS (some v20) fun a=>kNil a) fun v21=>
 M.bind (oS (some v21) fun a=>kFld E 75 a 1) fun v22=>
 M.bind (oS (some v22) fun a=>A3 E 68 a) fun v23=>
 mv (T.get tm 6) fun v24=>
 M.bind (oS (some v23) fun a=>oS (some v24) fun b=>Cn E 68 false a b) fun v25=>
 mv (some v25) fun v7=>
 setF 7 v7 tm fun tm1=>
 mv (some (.int .i64 0)) fun v8=>
 setF 8 v8 tm1 fun tm2=>
 M.pure tm2
theorem Jn_:RegEq 18 73 BJ JY Xb:=⟨by kernel_rfl,fun _ _ _ _ _ _ _ _ _=>by kernel_rfl⟩
def XF (E:Env)(call round:Ac)(tm:T Value):M (T Value):=
 mv (some (.int .i64 0)) fun v4=>
 setF 4 v4 tm fun tm1=>
 M.pure tm1
theorem AM_:RegEq 18 73 BJ KV XF:=⟨by kernel_rfl,fun _ _ _ _ _ _ _ _ _=>by kernel_rfl⟩
def UU (E:Env)(call round:Ac)(tm:T Value):M (T Value):=
 mv (T.get tm 5) fun v26=>
 mv (T.get tm 1) fun v27=>
 M.bind (oS (seqO [(some v27)]) fun l=>A7 E .len [49] l) fun v28=>
 M.bind (oS (some v26) fun a=>oS (some v28) fun b=>Cl.get (aBin E .lss 3 (.tmp 26) (.tmp 28)) a b) fun v29=>
 setF 29 v29 tm fun tm1=>
 M.pure tm1
theorem ID_:RegEq 18 73 BJ Jr UU:=⟨by kernel_rfl,fun _ _ _ _ _ _ _ _ _=>by kernel_rfl⟩
theorem YI: ∃k,NI= .code .ret::k:=⟨NI.tail,by kernel_rfl⟩
theorem WY:Bc FO=some 29:=by kernel_rfl
def RZ (E:Env)(call round:Ac)(tm:T Value):M (T Value):=
 mv (T.get tm 7) fun v30=>
 M.bind (oS (some v30) fun a=>kNil a) fun v31=>
 M.bind (oS (some v31) fun a=>kFld E 79 a 1) fun v32=>
 M.bind (oS (some v32) fun a=>A3 E 26 a) fun v33=>
 M.bind (oS (seqO [(some v33)]) fun l=>A7 E .len [26] l) fun v34=>
 M.bind (oS (some v34) fun a=>oS (some (.int .i64 1)) fun b=>Cl.get (aBin E .add 3 (.tmp 34) (.const (.int .i64 1))) a b) fun v35=>
 mv (some v35) fun v9=>
 setF 9 v9 tm fun tm1=>
 M.pure tm1
theorem Pa_:RegEq 18 73 BJ K3 RZ:=⟨by kernel_rfl,fun _ _ _ _ _ _ _ _ _=>by kernel_rfl⟩
def Sv (E:Env)(call round:Ac)(tm:T Value):M ((Rho×T Value)×List OpLog):=
 M.bind (apartO (oS (T.get tm 7) fun a=>M.pure a)) fun p0=>
 M.bind (apartO (oS (T.get tm 7) fun a=>M.pure a)) fun p1=>
 M.bind (apartO (oS (T.get tm 7) fun a=>M.pure a)) fun p2=>
 M.bind (apartO (oS (some p2.1) fun a=>kNil a)) fun p3=>
 M.bind (apartO (oS (some p3.1) fun a=>kFld E 79 a 0)) fun p4=>
 M.bind (apartO (oS (some p4.1) fun a=>A3 E 26 a)) fun p5=>
 M.bind (apartO (oS (T.get tm 7) fun a=>M.pure a)) fun p6=>
 M.bind (apartO (oS (some p6.1) fun a=>kNil a)) fun p7=>
 M.bind (apartO (oS (some p7.1) fun a=>kFld E 79 a 1)) fun p8=>
 M.bind (apartO (oS (some p8.1) fun a=>A3 E 26 a)) fun p9=>
 M.bind (apartO (oS (T.get tm 8) fun a=>M.pure a)) fun p10=>
 M.bind (apartO (M.on (some p9.1) fun a=>M.on (some none) fun b=>M.on (onO (some p10.1) fun v=>some (some v)) fun c=>BQ E 26 a b c)) fun p11=>
 M.bind (apartO (oS (seqO [(some p5.1),(some p11.1)]) fun l=>A7 E .append [26,26] l)) fun p12=>
 M.bind (apartO (oS (some p0.1) fun a=>kNil a)) fun p13=>
 M.bind (apartO (oS (some p13.1) fun a=>kFld E 79 a 0)) fun p14=>
 M.bind (apartO (oS (some p14.1) fun a=>oS (some p12.1) fun b=>BA E 26 a b)) fun p15=>
 M.bind (apartO (oS (some p1.1) fun a=>kNil a)) fun p16=>
 M.bind (apartO (oS (some p16.1) fun a=>kFld E 79 a 1)) fun p17=>
 M.pure (([p17.1,p16.1,p14.1,p13.1,p12.1,p11.1,p10.1,p9.1,p8.1,p7.1,p6.1,p5.1,p4.1,p3.1,p2.1,p1.1,p0.1],tm),[p17.2,p16.2,p15.2,p14.2,p13.2,p12.2,p11.2,p10.2,p9.2,p8.2,p7.2,p6.2,p5.2,p4.2,p3.2,p2.2,p1.2,p0.2])
theorem Ja_:DrawEq 18 73 BJ Ed [0,0,0,4,12,28,0,64,192,448,0,1984,4092,8189,16381,32765,65535,131071,262143] Sv:=⟨by kernel_rfl,by kernel_rfl,fun _ _ _ _ _ _ _ _ _=>by kernel_rfl⟩
theorem Z1 (E:Env)(call round:Ac)(x46 x47 x48 x49 x50 x51 x52 x53 x54 x55 x56 x57 x58 x59 x60 x61 x62:Value)(tm:T Value)(s:St):By call round (B6 E BJ 73 (hdC Ed)) [x62,x61,x60,x59,x58,x57,x56,x55,x54,x53,x52,x51,x50,x49,x48,x47,x46] tm s=(M.bind (oS (some x62) fun a=>oS (some (.slice none 0 0)) fun b=>BA E 26 a b) fun _=>M.pure tm) s:=by kernel_rfl
def PK (E:Env)(call round:Ac)(tm:T Value):M (T Value):=
 mv (T.get tm 1) fun v36=>
 mv (T.get tm 5) fun v37=>
 M.bind (oS (some v36) fun a=>oS (some v37) fun b=>BS E 49 a b) fun v38=>
 M.bind (oS (some v38) fun a=>A3 E 3 a) fun v39=>
 mv (T.get tm 9) fun v40=>
 M.bind (oS (some v39) fun a=>oS (some v40) fun b=>Cl.get (aBin E .rem 3 (.tmp 39) (.tmp 40)) a b) fun v41=>
 mv (T.get tm 9) fun v42=>
 M.bind (oS (some v41) fun a=>oS (some v42) fun b=>Cl.get (aBin E .add 3 (.tmp 41) (.tmp 42)) a b) fun v43=>
 mv (T.get tm 9) fun v44=>
 M.bind (oS (some v43) fun a=>oS (some v44) fun b=>Cl.get (aBin E .rem 3 (.tmp 43) (.tmp 44)) a b) fun v45=>
 mv (some v45) fun v8=>
 setF 8 v8 tm fun tm1=>
 M.pure tm1
theorem Zo:RegEq 18 73 BJ Mw PK:=⟨by kernel_rfl,fun _ _ _ _ _ _ _ _ _=>by kernel_rfl⟩
def Ub (E:Env)(call round:Ac)(tm:T Value):M (T Value):=
 M.bind (oS (T.get tm 15) fun a=>oS (some (.int .i64 1)) fun b=>Cl.get (aBin E .add 3 (.tmp 15) (.const (.int .i64 1))) a b) fun v63=>
 mv (some v63) fun v15=>
 setF 15 v15 tm fun tm1=>
 M.pure tm1
theorem Yt:RegEq 18 73 BJ IY Ub:=⟨by kernel_rfl,fun _ _ _ _ _ _ _ _ _=>by kernel_rfl⟩
def Ci:Nat:=Bh Try.f17
def R3:Code:=Try.f17.body.getD .skip
theorem Hg:envS.fn.get 17=some Try.f17:=by kernel_rfl
theorem Z3 {a0 a1 a2:Value}{n:Nat}{s:St}{Q:Value→St→Prop}(h: ∀tm,T.get tm 0=some a0→T.get tm 1=some a1→T.get tm 2=some a2→W (runF envS n ⟨17,58,Ci,tm,[.code R3], .run, .normal,none⟩) (s.cxN cxN) fun p s1=>Q p.1 (s1.cxN s.cx)):W (Ap envS (runF envS n) 17 [a0,a1,a2]) s Q:=
 W.call (by kernel_rfl) (by kernel_rfl) Hg (by kernel_rfl) rfl rfl (by simp) (h _ (by kernel_rfl) (by kernel_rfl) (by kernel_rfl))
theorem H2:Try.f17.results.toList=[.tmp 6]:=by kernel_rfl
def O7:List Item:=skim 64 [.code R3]
def KU:List Item:=skim 64 O7.tail
theorem Kj_:skim 64 O7.tail=KU:=by kernel_rfl
def KJ:List Item:=skim 64 KU.tail
theorem MK_:skim 64 KU.tail=KJ:=by kernel_rfl
def K5:List Item:=skim 64 (brF KJ)
theorem Lq_:skim 64 (brF KJ)=K5:=by kernel_rfl
def Li:List Item:=skim 64 K5.tail
theorem JM_:skim 64 K5.tail=Li:=by kernel_rfl
def E2:List Item:=skim 64 Li.tail
theorem TH:skim 64 Li.tail=E2:=by kernel_rfl
def KT:List Item:=skim 64 (brT E2)
theorem IC_:skim 64 (brT E2)=KT:=by kernel_rfl
def IM:List Item:=skim 64 (brF E2)
theorem Ma_:skim 64 (brF E2)=IM:=by kernel_rfl
def KF:List Item:=skim 64 KT.tail
theorem FP_:skim 64 KT.tail=KF:=by kernel_rfl
def Fv:List Item:=skim 64 IM.tail
theorem M9:skim 64 IM.tail=Fv:=by kernel_rfl
def OZ:List Item:=skim 64 (brT Fv)
theorem Vl:skim 64 (brT Fv)=OZ:=by kernel_rfl
def Hd:List Item:=skim 64 (brF Fv)
theorem Bg_:skim 64 (brF Fv)=Hd:=by kernel_rfl
theorem Q6:skim 64 OZ.tail=KF:=by kernel_rfl
def Ie:List Item:=skim 64 Hd.tail
theorem Ar_:skim 64 Hd.tail=Ie:=by kernel_rfl
def IR:List Item:=skim 64 Ie.tail
theorem PG_:skim 64 Ie.tail=IR:=by kernel_rfl
def GQ:List Item:=skim 64 (brF IR)
theorem Yp:skim 64 (brF IR)=GQ:=by kernel_rfl
def Kw:List Item:=skim 64 GQ.tail
theorem YP:skim 64 GQ.tail=Kw:=by kernel_rfl
def Mh:List Item:=skim 64 Kw.tail
theorem MY_:skim 64 Kw.tail=Mh:=by kernel_rfl
def VX (E:Env)(call round:Ac)(tm:T Value):M (T Value):=
 mv (some (.int .i64 0)) fun v6=>
 setF 6 v6 tm fun tm1=>
 M.pure tm1
theorem Ne_:RegEq 17 58 Ci O7 VX:=⟨by kernel_rfl,fun _ _ _ _ _ _ _ _ _=>by kernel_rfl⟩
def QC (E:Env)(call round:Ac)(tm:T Value):M (T Value):=
 mv (T.get tm 0) fun v10=>
 M.bind (M.on (some (.func (.func 40) #[] #[])) fun f=>M.on (seqO [(some v10)]) fun l=>A5 call round f l) fun v11=>
 setF 11 v11 tm fun tm1=>
 M.pure tm1
theorem PN_:RegEq 17 58 Ci KU QC:=⟨by kernel_rfl,fun _ _ _ _ _ _ _ _ _=>by kernel_rfl⟩
theorem ZU:Bc KJ=some 11:=by kernel_rfl
def Rs (E:Env)(call round:Ac)(tm:T Value):M (T Value):=
 mv (T.get tm 0) fun v12=>
 M.bind (oS (some v12) fun a=>kNil a) fun v13=>
 M.bind (oS (some v13) fun a=>kFld E 75 a 1) fun v14=>
 M.bind (oS (some v14) fun a=>A3 E 68 a) fun v15=>
 mv (T.get tm 1) fun v16=>
 M.bind (oS (some v15) fun a=>oS (some v16) fun b=>Cn E 68 false a b) fun v17=>
 mv (some v17) fun v7=>
 setF 7 v7 tm fun tm1=>
 M.pure tm1
theorem YA:RegEq 17 58 Ci K5 Rs:=⟨by kernel_rfl,fun _ _ _ _ _ _ _ _ _=>by kernel_rfl⟩
def MU (E:Env)(call round:Ac)(tm:T Value):M (T Value):=
 mv (T.get tm 7) fun v19=>
 M.bind (oS (some v19) fun a=>oS (some (.pointer none)) fun b=>Cl.get (aBin E .eql 67 (.tmp 19) (.const (.pointer none))) a b) fun v20=>
 mv (some v20) fun v18=>
 setF 18 v18 tm fun tm1=>
 M.pure tm1
theorem Fh_:RegEq 17 58 Ci Li MU:=⟨by kernel_rfl,fun _ _ _ _ _ _ _ _ _=>by kernel_rfl⟩
theorem Xc:Bc E2=some 18:=by kernel_rfl
def WH (E:Env)(call round:Ac)(tm:T Value):M (T Value):=
 mv (some (.int .i64 6)) fun v6=>
 setF 6 v6 tm fun tm1=>
 M.pure tm1
theorem Ly_:RegEq 17 58 Ci KT WH:=⟨by kernel_rfl,fun _ _ _ _ _ _ _ _ _=>by kernel_rfl⟩
def LP (E:Env)(call round:Ac)(tm:T Value):M (T Value):=
 mv (T.get tm 2) fun v22=>
 M.bind (oS (some v22) fun a=>oS (some (.int .i64 0)) fun b=>Cl.get (aBin E .lss 3 (.tmp 22) (.const (.int .i64 0))) a b) fun v23=>
 mv (some v23) fun v24=>
 M.bind (M.chk (isK v24) (M.if (isB v24 false) (oS (T.get tm 2) fun a=>M.pure a) (M.pure undef))) fun v25=>
 M.bind (M.chk (isK v24) (M.if (isB v24 false) (oS (some v25) fun a=>oS (some (.int .i64 8)) fun b=>Cl.get (aBin E .quo 3 (.tmp 25) (.const (.int .i64 8))) a b) (M.pure undef))) fun v26=>
 M.bind (M.chk (isK v24) (M.if (isB v24 false) (oS (T.get tm 7) fun a=>M.pure a) (M.pure undef))) fun v27=>
 M.bind (M.chk (isK v24) (M.if (isB v24 false) (M.on (some (.func (.func 41) #[] #[])) fun f=>M.on (seqO [(some v27)]) fun l=>A5 call round f l) (M.pure undef))) fun v28=>
 M.bind (M.chk (isK v24) (M.if (isB v24 false) (oS (some v26) fun a=>oS (some v28) fun b=>Cl.get (aBin E .geq 3 (.tmp 26) (.tmp 28)) a b) (M.pure undef))) fun v29=>
 M.bind (M.on (some v24) fun a=>M.on (some (.bool true)) fun b=>M.on (some v29) fun c=>Bt a b c) fun v30=>
 mv (some v30) fun v21=>
 setF 21 v21 tm fun tm1=>
 M.pure tm1
theorem Hb_:RegEq 17 58 Ci IM LP:=⟨by kernel_rfl,fun _ _ _ _ _ _ _ _ _=>by kernel_rfl⟩
theorem Oi: ∃k,KF= .code .ret::k:=⟨KF.tail,by kernel_rfl⟩
theorem LK:Bc Fv=some 21:=by kernel_rfl
def Mt (E:Env)(call round:Ac)(tm:T Value):M (T Value):=
 mv (some (.int .i64 5)) fun v6=>
 setF 6 v6 tm fun tm1=>
 M.pure tm1
theorem Ul:RegEq 17 58 Ci OZ Mt:=⟨by kernel_rfl,fun _ _ _ _ _ _ _ _ _=>by kernel_rfl⟩
def Xd (E:Env)(call round:Ac)(tm:T Value):M ((Rho×T Value)×List OpLog):=
 M.bind (apartO (oS (T.get tm 2) fun a=>M.pure a)) fun p0=>
 M.bind (apartO (oS (some p0.1) fun a=>oS (some (.int .i64 8)) fun b=>Cl.get (aBin E .quo 3 (.tmp 31) (.const (.int .i64 8))) a b)) fun p1=>
 M.bind (apartO (oS (T.get tm 7) fun a=>M.pure a)) fun p2=>
 M.bind (apartO (oS (some p2.1) fun a=>kNil a)) fun p3=>
 M.bind (apartO (oS (some p3.1) fun a=>kFld E 79 a 0)) fun p4=>
 M.bind (apartO (oS (some p4.1) fun a=>A3 E 26 a)) fun p5=>
 M.bind (apartO (oS (some p1.1) fun a=>M.pure a)) fun p6=>
 setT 8 p6.1 tm fun tm1=>
 M.pure (([p6.1,p5.1,p4.1,p3.1,p2.1,p1.1,p0.1],tm1),[p6.2,p5.2,p4.2,p3.2,p2.2,p1.2,p0.2])
theorem LP_:DrawEq 17 58 Ci Hd [0,1,0,4,12,28,3,127] Xd:=⟨by kernel_rfl,by kernel_rfl,fun _ _ _ _ _ _ _ _ _=>by kernel_rfl⟩
theorem Nq_ (E:Env)(call round:Ac)(x31 x32 x33 x34 x35 x36 x8:Value)(tm:T Value)(s:St):By call round (B6 E Ci 58 (hdC Hd)) [x8,x36,x35,x34,x33,x32,x31] tm s=(M.bind (oS (some x36) fun a=>M.pure a) fun v9=>setT 9 v9 tm fun tm1=>M.pure tm1) s:=by kernel_rfl
def Vn (E:Env)(call round:Ac)(tm:T Value):M (T Value):=
 mv (T.get tm 8) fun v37=>
 mv (T.get tm 9) fun v38=>
 M.bind (oS (seqO [(some v38)]) fun l=>A7 E .len [26] l) fun v39=>
 M.bind (oS (some v37) fun a=>oS (some v39) fun b=>Cl.get (aBin E .geq 3 (.tmp 37) (.tmp 39)) a b) fun v40=>
 setF 40 v40 tm fun tm1=>
 M.pure tm1
theorem IL_:RegEq 17 58 Ci Ie Vn:=⟨by kernel_rfl,fun _ _ _ _ _ _ _ _ _=>by kernel_rfl⟩
theorem BN_:Bc IR=some 40:=by kernel_rfl
def Uk (E:Env)(call round:Ac)(tm:T Value):M ((Rho×T Value)×List OpLog):=
 M.bind (apartO (oS (T.get tm 9) fun a=>M.pure a)) fun p0=>
 M.bind (apartO (oS (T.get tm 8) fun a=>M.pure a)) fun p1=>
 M.bind (apartO (oS (some p0.1) fun a=>oS (some p1.1) fun b=>BS E 26 a b)) fun p2=>
 M.bind (apartO (oS (some p2.1) fun a=>A3 E 5 a)) fun p3=>
 M.bind (apartO (oS (T.get tm 2) fun a=>M.pure a)) fun p4=>
 M.bind (apartO (oS (some p4.1) fun a=>oS (some (.int .i64 8)) fun b=>Cl.get (aBin E .rem 3 (.tmp 53) (.const (.int .i64 8))) a b)) fun p5=>
 M.bind (apartO (oS (some (.int .u8 1)) fun a=>oS (some p5.1) fun b=>Cl.get (aBin E .shl 5 (.const (.int .u8 1)) (.tmp 54)) a b)) fun p6=>
 M.bind (apartO (oS (some p3.1) fun a=>oS (some p6.1) fun b=>Cl.get (aBin E .xor 5 (.tmp 52) (.tmp 55)) a b)) fun p7=>
 M.bind (apartO (oS (some p0.1) fun a=>oS (some p1.1) fun b=>BS E 26 a b)) fun p8=>
 M.pure (([p8.1,p7.1,p6.1,p5.1,p4.1,p3.1,p2.1,p1.1,p0.1],tm),[p8.2,p7.2,p6.2,p5.2,p4.2,p3.2,p2.2,p1.2,p0.2])
theorem AG_:DrawEq 17 58 Ci GQ [0,0,3,7,0,16,48,127,255,511] Uk:=⟨by kernel_rfl,by kernel_rfl,fun _ _ _ _ _ _ _ _ _=>by kernel_rfl⟩
theorem Iq_ (E:Env)(call round:Ac)(x49 x50 x51 x52 x53 x54 x55 x56 x57:Value)(tm:T Value)(s:St):By call round (B6 E Ci 58 (hdC GQ)) [x57,x56,x55,x54,x53,x52,x51,x50,x49] tm s=(M.bind (oS (some x57) fun a=>oS (some x56) fun b=>BA E 5 a b) fun _=>M.pure tm) s:=by kernel_rfl
def Uy (E:Env)(call round:Ac)(tm:T Value):M (T Value):=
 mv (some (.int .i64 0)) fun v6=>
 setF 6 v6 tm fun tm1=>
 M.pure tm1
theorem Bb_:RegEq 17 58 Ci Kw Uy:=⟨by kernel_rfl,fun _ _ _ _ _ _ _ _ _=>by kernel_rfl⟩
theorem Ag_: ∃k,Mh= .code .ret::k:=⟨Mh.tail,by kernel_rfl⟩
def KH:Nat:=Bh Try.f41
def WP:Code:=Try.f41.body.getD .skip
theorem Wl:envS.fn.get 41=some Try.f41:=by kernel_rfl
theorem Hx_ {a0:Value}{n:Nat}{s:St}{Q:Value→St→Prop}(h: ∀tm,T.get tm 0=some a0→W (runF envS n ⟨41,14,KH,tm,[.code WP], .run, .normal,none⟩) (s.cxN cxN) fun p s1=>Q p.1 (s1.cxN s.cx)):W (Ap envS (runF envS n) 41 [a0]) s Q:=
 W.call (by kernel_rfl) (by kernel_rfl) Wl (by kernel_rfl) rfl rfl (by simp) (h _ (by kernel_rfl))
theorem Y4:Try.f41.results.toList=[.tmp 2]:=by kernel_rfl
def OK:List Item:=skim 64 [.code WP]
def HF:List Item:=skim 64 OK.tail
theorem ZS:skim 64 OK.tail=HF:=by kernel_rfl
def Ml:List Item:=skim 64 HF.tail
theorem KS_:skim 64 HF.tail=Ml:=by kernel_rfl
def Qt (E:Env)(call round:Ac)(tm:T Value):M (T Value):=
 mv (some (.int .i64 0)) fun v2=>
 setF 2 v2 tm fun tm1=>
 M.pure tm1
theorem KC_:RegEq 41 14 KH OK Qt:=⟨by kernel_rfl,fun _ _ _ _ _ _ _ _ _=>by kernel_rfl⟩
def V0 (E:Env)(call round:Ac)(tm:T Value):M ((Rho×T Value)×List OpLog):=
 M.bind (apartO (oS (T.get tm 0) fun a=>M.pure a)) fun p0=>
 M.bind (apartO (oS (some p0.1) fun a=>kNil a)) fun p1=>
 M.bind (apartO (oS (some p1.1) fun a=>kFld E 79 a 0)) fun p2=>
 M.bind (apartO (oS (some p2.1) fun a=>A3 E 26 a)) fun p3=>
 M.bind (apartO (oS (seqO [(some p3.1)]) fun l=>A7 E .len [26] l)) fun p4=>
 M.bind (apartO (oS (T.get tm 0) fun a=>M.pure a)) fun p5=>
 M.bind (apartO (oS (some p5.1) fun a=>kNil a)) fun p6=>
 M.bind (apartO (oS (some p6.1) fun a=>kFld E 79 a 1)) fun p7=>
 M.bind (apartO (oS (some p7.1) fun a=>A3 E 26 a)) fun p8=>
 M.bind (apartO (oS (seqO [(some p8.1)]) fun l=>A7 E .len [26] l)) fun p9=>
 M.bind (apartO (oS (some p4.1) fun a=>oS (some p9.1) fun b=>Cl.get (aBin E .add 3 (.tmp 7) (.tmp 12)) a b)) fun p10=>
 M.pure (([p10.1,p9.1,p8.1,p7.1,p6.1,p5.1,p4.1,p3.1,p2.1,p1.1,p0.1],tm),[p10.2,p9.2,p8.2,p7.2,p6.2,p5.2,p4.2,p3.2,p2.2,p1.2,p0.2])
theorem OT_:DrawEq 41 14 KH HF [0,1,3,7,15,0,32,96,224,480,1023,2047] V0:=⟨by kernel_rfl,by kernel_rfl,fun _ _ _ _ _ _ _ _ _=>by kernel_rfl⟩
theorem JN_ (E:Env)(call round:Ac)(x3 x4 x5 x6 x7 x8 x9 x10 x11 x12 x13:Value)(tm:T Value)(s:St):By call round (B6 E KH 14 (hdC HF)) [x13,x12,x11,x10,x9,x8,x7,x6,x5,x4,x3] tm s=(M.bind (oS (some x13) fun a=>M.pure a) fun v2=>setT 2 v2 tm fun tm1=>M.pure tm1) s:=by kernel_rfl
theorem Cq_: ∃k,Ml= .code .ret::k:=⟨Ml.tail,by kernel_rfl⟩
end Go.Proofs.Ytjfhmacppabehaa.Am
end
