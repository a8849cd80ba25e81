import Derived.Test.YtjfhmacppabehaaIDk15
import Derived.Test.YtjfhmacppabehaaIDk08
import Derived.KernelRfl
noncomputable section
namespace Go.Proofs.Ytjfhmacppabehaa.Am
open Go.RowKit
def Fj:Nat:=Bh Try.f21
def Yx:Code:=Try.f21.body.getD .skip
theorem XQ:envS.fn.get 21=some Try.f21:=by kernel_rfl
theorem QO_ {a0:Value}{n:Nat}{s:St}{Q:Value→St→Prop}(h: ∀tm,T.get tm 0=some a0→W (runF envS n ⟨21,16,Fj,tm,[.code Yx], .run, .normal,none⟩) (s.cxN cxN) fun p s1=>Q p.1 (s1.cxN s.cx)):W (Av envS (runF envS n) 21 [a0]) s Q:=
 W.call (by kernel_rfl) (by kernel_rfl) XQ (by kernel_rfl) rfl rfl (by simp) (h _ (by kernel_rfl))
theorem HB_:Try.f21.results.toList=[.tmp 2, .tmp 3]:=by kernel_rfl
def Mh:List Item:=skim 64 [.code Yx]
def KJ:List Item:=skim 64 Mh.tail
theorem Dv_:skim 64 Mh.tail=KJ:=by kernel_rfl
def KC:List Item:=skim 64 KJ.tail
theorem BQ_:skim 64 KJ.tail=KC:=by kernel_rfl
def IQ:List Item:=skim 64 KC.tail
theorem QZ_:skim 64 KC.tail=IQ:=by kernel_rfl
def KB:List Item:=skim 64 IQ.tail
theorem Ms_:skim 64 IQ.tail=KB:=by kernel_rfl
def J0:List Item:=skim 64 (brF KB)
theorem OK_:skim 64 (brF KB)=J0:=by kernel_rfl
def L9:List Item:=skim 64 J0.tail
theorem HN_:skim 64 J0.tail=L9:=by kernel_rfl
def R7 (E:Env)(call round:Ac)(tm:T Value):M (T Value):=
 mv (some (.pointer none)) fun v2=>
 setF 2 v2 tm fun tm1=>
 mv (some (.int .i64 0)) fun v3=>
 setF 3 v3 tm1 fun tm2=>
 M.pure tm2
theorem Jf_:RegEq 21 16 Fj Mh R7:=⟨by kernel_rfl,fun _ _ _ _ _ _ _ _ _=>by kernel_rfl⟩
def US (E:Env)(call round:Ac)(tm:T Value):M (T Value):=
 M.bind (C0) fun v6=>
 M.bind (oS (seqP [(0,(some (.bool true))),(1,(some v6))]) fun ps=>CA E 75 ps) fun v7=>
 M.bind (oS (some v7) fun a=>kBox a) fun v8=>
 mv (some v8) fun v4=>
 setF 4 v4 tm fun tm1=>
 M.pure tm1
theorem QJ_:RegEq 21 16 Fj KJ US:=⟨by kernel_rfl,fun _ _ _ _ _ _ _ _ _=>by kernel_rfl⟩
def Wl (E:Env)(call round:Ac)(tm:T Value):M (T Value):=
 mv (T.get tm 4) fun v9=>
 mv (T.get tm 0) fun v10=>
 M.bind (M.on (some (.func (.func 51) #[] #[])) fun f=>M.on (seqO [(some v9),(some v10)]) fun l=>A5 call round f l) fun v11=>
 mv (some v11) fun v5=>
 setF 5 v5 tm fun tm1=>
 M.pure tm1
theorem Ij_:RegEq 21 16 Fj KC Wl:=⟨by kernel_rfl,fun _ _ _ _ _ _ _ _ _=>by kernel_rfl⟩
def SG (E:Env)(call round:Ac)(tm:T Value):M (T Value):=
 mv (T.get tm 5) fun v12=>
 M.bind (oS (some v12) fun a=>oS (some (.int .i64 0)) fun b=>Cl.get (aBin E .neq 27 (.tmp 12) (.const (.int .i64 0))) a b) fun v13=>
 setF 13 v13 tm fun tm1=>
 M.pure tm1
theorem GZ_:RegEq 21 16 Fj IQ SG:=⟨by kernel_rfl,fun _ _ _ _ _ _ _ _ _=>by kernel_rfl⟩
theorem KL_:Bc KB=some 13:=by kernel_rfl
def V4 (E:Env)(call round:Ac)(tm:T Value):M (T Value):=
 mv (T.get tm 4) fun v15=>
 mv (some v15) fun v2=>
 setF 2 v2 tm fun tm1=>
 mv (some (.int .i64 0)) fun v3=>
 setF 3 v3 tm1 fun tm2=>
 M.pure tm2
theorem NT_:RegEq 21 16 Fj J0 V4:=⟨by kernel_rfl,fun _ _ _ _ _ _ _ _ _=>by kernel_rfl⟩
theorem FU_: ∃k,L9= .code .ret::k:=⟨L9.tail,by kernel_rfl⟩
def Gv:Nat:=Bh Try.f51
def TF:Code:=Try.f51.body.getD .skip
theorem SV:envS.fn.get 51=some Try.f51:=by kernel_rfl
theorem Nv_ {a0 a1:Value}{n:Nat}{s:St}{Q:Value→St→Prop}(h: ∀tm,T.get tm 0=some a0→T.get tm 1=some a1→W (runF envS n ⟨51,19,Gv,tm,[.code TF], .run, .normal,none⟩) (s.cxN cxN) fun p s1=>Q p.1 (s1.cxN s.cx)):W (Av envS (runF envS n) 51 [a0,a1]) s Q:=
 W.call (by kernel_rfl) (by kernel_rfl) SV (by kernel_rfl) rfl rfl (by simp) (h _ (by kernel_rfl) (by kernel_rfl))
theorem Mx_:Try.f51.results.toList=[.tmp 4]:=by kernel_rfl
def Pr:List Item:=skim 64 [.code TF]
def LF:List Item:=skim 64 Pr.tail
theorem Zz:skim 64 Pr.tail=LF:=by kernel_rfl
def K8:List Item:=skim 64 LF.tail
theorem MP_:skim 64 LF.tail=K8:=by kernel_rfl
def Jc:List Item:=skim 64 (brF K8)
theorem Gv_:skim 64 (brF K8)=Jc:=by kernel_rfl
def Jk:List Item:=skim 64 Jc.tail
theorem FM_:skim 64 Jc.tail=Jk:=by kernel_rfl
def Jz:List Item:=skim 64 (brF Jk)
theorem IH_:skim 64 (brF Jk)=Jz:=by kernel_rfl
def Jd:List Item:=skim 64 Jz.tail
theorem Sa_:skim 64 Jz.tail=Jd:=by kernel_rfl
def Nn:List Item:=skim 64 Jd.tail
theorem Sb_:skim 64 Jd.tail=Nn:=by kernel_rfl
def Uy (E:Env)(call round:Ac)(tm:T Value):M (T Value):=
 mv (some (.int .i64 0)) fun v4=>
 setF 4 v4 tm fun tm1=>
 M.pure tm1
theorem Zh:RegEq 51 19 Gv Pr Uy:=⟨by kernel_rfl,fun _ _ _ _ _ _ _ _ _=>by kernel_rfl⟩
def S6 (E:Env)(call round:Ac)(tm:T Value):M (T Value):=
 mv (T.get tm 0) fun v6=>
 M.bind (M.on (some (.func (.func 40) #[] #[])) fun f=>M.on (seqO [(some v6)]) fun l=>A5 call round f l) fun v7=>
 mv (some v7) fun v5=>
 setF 5 v5 tm fun tm1=>
 M.pure tm1
theorem LM_:RegEq 51 19 Gv LF S6:=⟨by kernel_rfl,fun _ _ _ _ _ _ _ _ _=>by kernel_rfl⟩
theorem ZY:Bc K8=some 5:=by kernel_rfl
def WC (E:Env)(call round:Ac)(tm:T Value):M (T Value):=
 mv (T.get tm 1) fun v9=>
 M.bind (oS (some v9) fun a=>oS (some (.int .i64 0)) fun b=>Cl.get (aBin E .lss 3 (.tmp 9) (.const (.int .i64 0))) a b) fun v10=>
 mv (some v10) fun v11=>
 M.bind (M.chk (isK v11) (M.if (isB v11 false) (oS (T.get tm 1) fun a=>M.pure a) (M.pure undef))) fun v12=>
 M.bind (M.chk (isK v11) (M.if (isB v11 false) (oS (some v12) fun a=>oS (some (.int .i64 16777216)) fun b=>Cl.get (aBin E .gtr 3 (.tmp 12) (.const (.int .i64 16777216))) a b) (M.pure undef))) fun v13=>
 M.bind (M.on (some v11) fun a=>M.on (some (.bool true)) fun b=>M.on (some v13) fun c=>Bl a b c) fun v14=>
 mv (some v14) fun v8=>
 setF 8 v8 tm fun tm1=>
 M.pure tm1
theorem FJ_:RegEq 51 19 Gv Jc WC:=⟨by kernel_rfl,fun _ _ _ _ _ _ _ _ _=>by kernel_rfl⟩
theorem Ci_:Bc Jk=some 8:=by kernel_rfl
def Vg (E:Env)(call round:Ac)(tm:T Value):M (T Value):=
 mv (T.get tm 0) fun v15=>
 mv (T.get tm 1) fun v16=>
 M.bind (oS (some v15) fun a=>kNil a) fun v17=>
 M.bind (oS (some v17) fun a=>kFld E 75 a 2) fun v18=>
 M.bind (oS (some v18) fun a=>oS (some v16) fun b=>BC E 3 a b) fun _=>
 M.pure tm
theorem Qc_:RegEq 51 19 Gv Jz Vg:=⟨by kernel_rfl,fun _ _ _ _ _ _ _ _ _=>by kernel_rfl⟩
def TE (E:Env)(call round:Ac)(tm:T Value):M (T Value):=
 mv (some (.int .i64 0)) fun v4=>
 setF 4 v4 tm fun tm1=>
 M.pure tm1
theorem Ou_:RegEq 51 19 Gv Jd TE:=⟨by kernel_rfl,fun _ _ _ _ _ _ _ _ _=>by kernel_rfl⟩
theorem GE_: ∃k,Nn= .code .ret::k:=⟨Nn.tail,by kernel_rfl⟩
def Mx:Nat:=Bh Try.f40
def YN:Code:=Try.f40.body.getD .skip
theorem R8:envS.fn.get 40=some Try.f40:=by kernel_rfl
theorem Sh_ {a0:Value}{n:Nat}{s:St}{Q:Value→St→Prop}(h: ∀tm,T.get tm 0=some a0→W (runF envS n ⟨40,12,Mx,tm,[.code YN], .run, .normal,none⟩) (s.cxN cxN) fun p s1=>Q p.1 (s1.cxN s.cx)):W (Av envS (runF envS n) 40 [a0]) s Q:=
 W.call (by kernel_rfl) (by kernel_rfl) R8 (by kernel_rfl) rfl rfl (by simp) (h _ (by kernel_rfl))
theorem CH_:Try.f40.results.toList=[.tmp 2]:=by kernel_rfl
def N2:List Item:=skim 64 [.code YN]
def Kt:List Item:=skim 64 N2.tail
theorem BS_:skim 64 N2.tail=Kt:=by kernel_rfl
def MC:List Item:=skim 64 Kt.tail
theorem EP_:skim 64 Kt.tail=MC:=by kernel_rfl
def X8 (E:Env)(call round:Ac)(tm:T Value):M (T Value):=
 mv (some (.bool false)) fun v2=>
 setF 2 v2 tm fun tm1=>
 M.pure tm1
theorem Y4:RegEq 40 12 Mx N2 X8:=⟨by kernel_rfl,fun _ _ _ _ _ _ _ _ _=>by kernel_rfl⟩
def Yq (E:Env)(call round:Ac)(tm:T Value):M (T Value):=
 mv (T.get tm 0) fun v3=>
 M.bind (oS (some v3) fun a=>oS (some (.pointer none)) fun b=>Cl.get (aBin E .eql 24 (.tmp 3) (.const (.pointer none))) a b) fun v4=>
 mv (some v4) fun v5=>
 M.bind (M.chk (isK v5) (M.if (isB v5 false) (oS (T.get tm 0) fun a=>M.pure a) (M.pure undef))) fun v6=>
 M.bind (M.chk (isK v5) (M.if (isB v5 false) (oS (some v6) fun a=>kNil a) (M.pure undef))) fun v7=>
 M.bind (M.chk (isK v5) (M.if (isB v5 false) (oS (some v7) fun a=>kFld E 75 a 0) (M.pure undef))) fun v8=>
 M.bind (M.chk (isK v5) (M.if (isB v5 false) (oS (some v8) fun a=>A1 E 4 a) (M.pure undef))) fun v9=>
 M.bind (M.chk (isK v5) (M.if (isB v5 false) (oS (some v9) fun a=>kUn E.P .not a) (M.pure undef))) fun v10=>
 M.bind (M.on (some v5) fun a=>M.on (some (.bool true)) fun b=>M.on (some v10) fun c=>Bl a b c) fun v11=>
 mv (some v11) fun v2=>
 setF 2 v2 tm fun tm1=>
 M.pure tm1
theorem ZW:RegEq 40 12 Mx Kt Yq:=⟨by kernel_rfl,fun _ _ _ _ _ _ _ _ _=>by kernel_rfl⟩
theorem NH_: ∃k,MC= .code .ret::k:=⟨MC.tail,by kernel_rfl⟩
def Gm:Nat:=Bh Try.f36
def UK:Code:=Try.f36.body.getD .skip
theorem MS:envS.fn.get 36=some Try.f36:=by kernel_rfl
theorem Gk_ {a0:Value}{n:Nat}{s:St}{Q:Value→St→Prop}(h: ∀tm,T.get tm 0=some a0→W (runF envS n ⟨36,11,Gm,tm,[.code UK], .run, .normal,none⟩) (s.cxN cxN) fun p s1=>Q p.1 (s1.cxN s.cx)):W (Av envS (runF envS n) 36 [a0]) s Q:=
 W.call (by kernel_rfl) (by kernel_rfl) MS (by kernel_rfl) rfl rfl (by simp) (h _ (by kernel_rfl))
theorem Ti:Try.f36.results.toList=[.tmp 2]:=by kernel_rfl
def Pp:List Item:=skim 64 [.code UK]
def Ij:List Item:=skim 64 Pp.tail
theorem Dn_:skim 64 Pp.tail=Ij:=by kernel_rfl
def HR:List Item:=skim 64 Ij.tail
theorem ZD:skim 64 Ij.tail=HR:=by kernel_rfl
def PR_:List Item:=skim 64 (brT HR)
def K7:List Item:=skim 64 (brF HR)
theorem KU_:skim 64 (brF HR)=K7:=by kernel_rfl
def OU:List Item:=skim 64 PR_.tail
def E8:List Item:=skim 64 K7.tail
theorem YH:skim 64 K7.tail=E8:=by kernel_rfl
def Pa:List Item:=skim 64 (brT E8)
theorem PG_:skim 64 (brT E8)=Pa:=by kernel_rfl
def J1:List Item:=skim 64 (brF E8)
theorem FK_:skim 64 (brF E8)=J1:=by kernel_rfl
theorem Ap_:skim 64 Pa.tail=OU:=by kernel_rfl
def Pu:List Item:=skim 64 J1.tail
theorem Ey_:skim 64 J1.tail=Pu:=by kernel_rfl
def Wg (E:Env)(call round:Ac)(tm:T Value):M (T Value):=
 mv (some (.int .i64 0)) fun v2=>
 setF 2 v2 tm fun tm1=>
 M.pure tm1
theorem OP_:RegEq 36 11 Gm Pp Wg:=⟨by kernel_rfl,fun _ _ _ _ _ _ _ _ _=>by kernel_rfl⟩
def VH (E:Env)(call round:Ac)(tm:T Value):M (T Value):=
 mv (T.get tm 0) fun v4=>
 M.bind (M.on (some (.func (.func 40) #[] #[])) fun f=>M.on (seqO [(some v4)]) fun l=>A5 call round f l) fun v5=>
 mv (some v5) fun v3=>
 setF 3 v3 tm fun tm1=>
 M.pure tm1
theorem Gg_:RegEq 36 11 Gm Ij VH:=⟨by kernel_rfl,fun _ _ _ _ _ _ _ _ _=>by kernel_rfl⟩
theorem FZ_:Bc HR=some 3:=by kernel_rfl
def Q4 (E:Env)(call round:Ac)(tm:T Value):M (T Value):=
 mv (T.get tm 0) fun v7=>
 M.bind (oS (some v7) fun a=>kNil a) fun v8=>
 M.bind (oS (some v8) fun a=>kFld E 75 a 6) fun v9=>
 M.bind (oS (some v9) fun a=>A1 E 4 a) fun v10=>
 mv (some v10) fun v6=>
 setF 6 v6 tm fun tm1=>
 M.pure tm1
theorem Ln_:RegEq 36 11 Gm K7 Q4:=⟨by kernel_rfl,fun _ _ _ _ _ _ _ _ _=>by kernel_rfl⟩
theorem Hl_: ∃k,OU= .code .ret::k:=⟨OU.tail,by kernel_rfl⟩
theorem WR:Bc E8=some 6:=by kernel_rfl
def RR (E:Env)(call round:Ac)(tm:T Value):M (T Value):=
 mv (some (.int .i64 10)) fun v2=>
 setF 2 v2 tm fun tm1=>
 M.pure tm1
theorem Id_:RegEq 36 11 Gm Pa RR:=⟨by kernel_rfl,fun _ _ _ _ _ _ _ _ _=>by kernel_rfl⟩
def Wj (E:Env)(call round:Ac)(tm:T Value):M (T Value):=
 mv (some (.int .i64 0)) fun v2=>
 setF 2 v2 tm fun tm1=>
 M.pure tm1
theorem BP_:RegEq 36 11 Gm J1 Wj:=⟨by kernel_rfl,fun _ _ _ _ _ _ _ _ _=>by kernel_rfl⟩
theorem HJ_: ∃k,Pu= .code .ret::k:=⟨Pu.tail,by kernel_rfl⟩
def CZ:Nat:=Bh Try.f38
abbrev IP_:Nat:=36
def T3:Code:=Try.f38.body.getD .skip
theorem M7:envS.fn.get 38=some Try.f38:=by kernel_rfl
theorem Hs_ {a0 a1:Value}{n:Nat}{s:St}{Q:Value→St→Prop}(h: ∀tm,T.get tm 0=some a0→T.get tm 1=some a1→W (runF envS n ⟨38,36,CZ,tm,[.code T3], .run, .normal,none⟩) (s.cxN cxN) fun p s1=>Q p.1 (s1.cxN s.cx)):W (Av envS (runF envS n) 38 [a0,a1]) s Q:=
 W.call (by kernel_rfl) (by kernel_rfl) M7 (by kernel_rfl) rfl rfl (by simp) (h _ (by kernel_rfl) (by kernel_rfl))
theorem Ya:Try.f38.results.toList=[.tmp 4]:=by kernel_rfl
def NB:List Item:=skim 64 [.code T3]
def LO:List Item:=skim 64 NB.tail
theorem NI_:skim 64 NB.tail=LO:=by kernel_rfl
def Fv:List Item:=skim 64 LO.tail
theorem Om:skim 64 LO.tail=Fv:=by kernel_rfl
def H7:List Item:=skim 64 (brT Fv)
theorem Ja_:skim 64 (brT Fv)=H7:=by kernel_rfl
def KI:List Item:=skim 64 (brF Fv)
theorem Rr:skim 64 (brF Fv)=KI:=by kernel_rfl
def JV:List Item:=skim 64 H7.tail
theorem Qp_:skim 64 H7.tail=JV:=by kernel_rfl
def Fs:List Item:=skim 64 KI.tail
theorem RD:skim 64 KI.tail=Fs:=by kernel_rfl
def NH:List Item:=skim 64 JV.tail
theorem Fk_:skim 64 JV.tail=NH:=by kernel_rfl
def Ox:List Item:=skim 64 (brT Fs)
theorem BR_:skim 64 (brT Fs)=Ox:=by kernel_rfl
def FP:List Item:=skim 64 (brF Fs)
theorem Ic_:skim 64 (brF Fs)=FP:=by kernel_rfl
theorem Se_:skim 64 Ox.tail=FP:=by kernel_rfl
def I7:List Item:=skim 64 FP.tail
theorem Z3:skim 64 FP.tail=I7:=by kernel_rfl
def Jn:List Item:=skim 64 I7.tail
theorem Zg:skim 64 I7.tail=Jn:=by kernel_rfl
def Og:List Item:=skim 64 Jn.tail
theorem Mk_:skim 64 Jn.tail=Og:=by kernel_rfl
def SA (E:Env)(call round:Ac)(tm:T Value):M (T Value):=
 mv (some (.int .i64 0)) fun v4=>
 setF 4 v4 tm fun tm1=>
 M.pure tm1
theorem Nz_:RegEq 38 36 CZ NB SA:=⟨by kernel_rfl,fun _ _ _ _ _ _ _ _ _=>by kernel_rfl⟩
def S1 (E:Env)(call round:Ac)(tm:T Value):M (T Value):=
 mv (T.get tm 0) fun v5=>
 M.bind (oS (some v5) fun a=>kNil a) fun v6=>
 M.bind (oS (some v6) fun a=>kFld E 75 a 4) fun v7=>
 M.bind (oS (some v7) fun a=>A1 E 4 a) fun v8=>
 mv (some v8) fun v9=>
 M.bind (M.chk (isK v9) (M.if (isB v9 true) (oS (T.get tm 0) fun a=>M.pure a) (M.pure undef))) fun v10=>
 M.bind (M.chk (isK v9) (M.if (isB v9 true) (oS (some v10) fun a=>kNil a) (M.pure undef))) fun v11=>
 M.bind (M.chk (isK v9) (M.if (isB v9 true) (oS (some v11) fun a=>kFld E 75 a 5) (M.pure undef))) fun v12=>
 M.bind (M.chk (isK v9) (M.if (isB v9 true) (oS (some v12) fun a=>A1 E 3 a) (M.pure undef))) fun v13=>
 M.bind (M.chk (isK v9) (M.if (isB v9 true) (oS (some v13) fun a=>oS (some (.int .i64 0)) fun b=>Cl.get (aBin E .eql 3 (.tmp 13) (.const (.int .i64 0))) a b) (M.pure undef))) fun v14=>
 M.bind (M.on (some v9) fun a=>M.on (some v14) fun b=>M.on (some (.bool false)) fun c=>Bl a b c) fun v15=>
 setF 15 v15 tm fun tm1=>
 M.pure tm1
theorem No_:RegEq 38 36 CZ LO S1:=⟨by kernel_rfl,fun _ _ _ _ _ _ _ _ _=>by kernel_rfl⟩
theorem PT:Bc Fv=some 15:=by kernel_rfl
def Ye (E:Env)(call round:Ac)(tm:T Value):M (T Value):=
 mv (T.get tm 0) fun v16=>
 M.bind (oS (some v16) fun a=>kNil a) fun v17=>
 M.bind (oS (some v17) fun a=>kFld E 75 a 6) fun v18=>
 M.bind (oS (some v18) fun a=>oS (some (.bool true)) fun b=>BC E 4 a b) fun _=>
 M.pure tm
theorem EB_:RegEq 38 36 CZ H7 Ye:=⟨by kernel_rfl,fun _ _ _ _ _ _ _ _ _=>by kernel_rfl⟩
def NN (E:Env)(call round:Ac)(tm:T Value):M (T Value):=
 mv (T.get tm 0) fun v19=>
 M.bind (oS (some v19) fun a=>kNil a) fun v20=>
 M.bind (oS (some v20) fun a=>kFld E 75 a 4) fun v21=>
 M.bind (oS (some v21) fun a=>A1 E 4 a) fun v22=>
 setF 22 v22 tm fun tm1=>
 M.pure tm1
theorem UQ:RegEq 38 36 CZ KI NN:=⟨by kernel_rfl,fun _ _ _ _ _ _ _ _ _=>by kernel_rfl⟩
def Q6 (E:Env)(call round:Ac)(tm:T Value):M (T Value):=
 mv (some (.int .i64 10)) fun v4=>
 setF 4 v4 tm fun tm1=>
 M.pure tm1
theorem NO_:RegEq 38 36 CZ JV Q6:=⟨by kernel_rfl,fun _ _ _ _ _ _ _ _ _=>by kernel_rfl⟩
theorem W8:Bc Fs=some 22:=by kernel_rfl
theorem CC_: ∃k,NH= .code .ret::k:=⟨NH.tail,by kernel_rfl⟩
def Xc (E:Env)(call round:Ac)(tm:T Value):M (T Value):=
 mv (T.get tm 0) fun v23=>
 M.bind (oS (some v23) fun a=>kNil a) fun v24=>
 M.bind (oS (some v24) fun a=>kFld E 75 a 5) fun v25=>
 M.bind (oS (some v25) fun a=>A1 E 3 a) fun v26=>
 M.bind (oS (some v26) fun a=>oS (some (.int .i64 1)) fun b=>Cl.get (aBin E .sub 3 (.tmp 26) (.const (.int .i64 1))) a b) fun v27=>
 M.bind (oS (some v23) fun a=>kNil a) fun v28=>
 M.bind (oS (some v28) fun a=>kFld E 75 a 5) fun v29=>
 M.bind (oS (some v29) fun a=>oS (some v27) fun b=>BC E 3 a b) fun _=>
 M.pure tm
theorem ZI:RegEq 38 36 CZ Ox Xc:=⟨by kernel_rfl,fun _ _ _ _ _ _ _ _ _=>by kernel_rfl⟩
def Xs (E:Env)(call round:Ac)(tm:T Value):M (T Value):=
 mv (T.get tm 0) fun v30=>
 M.bind (oS (some v30) fun a=>kNil a) fun v31=>
 M.bind (oS (some v31) fun a=>kFld E 75 a 3) fun v32=>
 M.bind (M.on (some (.func (.func 69) #[] #[])) fun f=>M.on (seqO [(some v32),(some (.int .i64 1))]) fun l=>A5 call round f l) fun v33=>
 M.pure tm
theorem JY_:RegEq 38 36 CZ FP Xs:=⟨by kernel_rfl,fun _ _ _ _ _ _ _ _ _=>by kernel_rfl⟩
def RW (E:Env)(call round:Ac)(tm:T Value):M (T Value):=
 mv (T.get tm 1) fun v34=>
 M.bind (M.on (some v34) fun f=>M.on (seqO []) fun l=>A5 call round f l) fun v35=>
 M.pure tm
theorem Ek_:RegEq 38 36 CZ I7 RW:=⟨by kernel_rfl,fun _ _ _ _ _ _ _ _ _=>by kernel_rfl⟩
def QP (E:Env)(call round:Ac)(tm:T Value):M (T Value):=
 mv (some (.int .i64 0)) fun v4=>
 setF 4 v4 tm fun tm1=>
 M.pure tm1
theorem PN_:RegEq 38 36 CZ Jn QP:=⟨by kernel_rfl,fun _ _ _ _ _ _ _ _ _=>by kernel_rfl⟩
theorem LN_: ∃k,Og= .code .ret::k:=⟨Og.tail,by kernel_rfl⟩
def JW:Nat:=Bh Try.f37
def T2:Code:=Try.f37.body.getD .skip
theorem RX:envS.fn.get 37=some Try.f37:=by kernel_rfl
theorem Qa_ {a0:Value}{n:Nat}{s:St}{Q:Value→St→Prop}(h: ∀tm,T.get tm 0=some a0→W (runF envS n ⟨37,17,JW,tm,[.code T2], .run, .normal,none⟩) (s.cxN cxN) fun p s1=>Q p.1 (s1.cxN s.cx)):W (Av envS (runF envS n) 37 [a0]) s Q:=
 W.call (by kernel_rfl) (by kernel_rfl) RX (by kernel_rfl) rfl rfl (by simp) (h _ (by kernel_rfl))
theorem Oi_:Try.f37.results.toList=[.tmp 2]:=by kernel_rfl
def PS:List Item:=skim 64 [.code T2]
def Il:List Item:=skim 64 PS.tail
theorem NB_:skim 64 PS.tail=Il:=by kernel_rfl
def K3:List Item:=skim 64 Il.tail
theorem Mg_:skim 64 Il.tail=K3:=by kernel_rfl
def Qj:List Item:=skim 64 K3.tail
theorem Fz_:skim 64 K3.tail=Qj:=by kernel_rfl
def TV (E:Env)(call round:Ac)(tm:T Value):M (T Value):=
 mv (some (.bool false)) fun v2=>
 setF 2 v2 tm fun tm1=>
 M.pure tm1
theorem Jp_:RegEq 37 17 JW PS TV:=⟨by kernel_rfl,fun _ _ _ _ _ _ _ _ _=>by kernel_rfl⟩
def TS (E:Env)(call round:Ac)(tm:T Value):M (T Value):=
 mv (T.get tm 0) fun v4=>
 M.bind (M.on (some (.func (.func 67) #[] #[])) fun f=>M.on (seqO [(some v4),(some (.func (.func 68) #[] #[]))]) fun l=>A5 call round f l) fun v5=>
 mv (some v5) fun v3=>
 setF 3 v3 tm fun tm1=>
 M.pure tm1
theorem Pf_:RegEq 37 17 JW Il TS:=⟨by kernel_rfl,fun _ _ _ _ _ _ _ _ _=>by kernel_rfl⟩
def SM (E:Env)(call round:Ac)(tm:T Value):M (T Value):=
 mv (T.get tm 0) fun v6=>
 M.bind (oS (some v6) fun a=>oS (some (.string {data:= #[]})) fun b=>Cl.get (aBin E .neq 9 (.tmp 6) (.const (.string {data:= #[]}))) a b) fun v7=>
 mv (some v7) fun v8=>
 M.bind (M.chk (isK v8) (M.if (isB v8 true) (oS (T.get tm 0) fun a=>M.pure a) (M.pure undef))) fun v9=>
 M.bind (M.chk (isK v8) (M.if (isB v8 true) (oS (seqO [(some v9)]) fun l=>A6 E .len [9] l) (M.pure undef))) fun v10=>
 M.bind (M.chk (isK v8) (M.if (isB v8 true) (oS (some v10) fun a=>oS (some (.int .i64 60)) fun b=>Cl.get (aBin E .leq 3 (.tmp 10) (.const (.int .i64 60))) a b) (M.pure undef))) fun v11=>
 M.bind (M.on (some v8) fun a=>M.on (some v11) fun b=>M.on (some (.bool false)) fun c=>Bl a b c) fun v12=>
 mv (some v12) fun v13=>
 M.bind (M.chk (isK v13) (M.if (isB v13 true) (oS (T.get tm 3) fun a=>M.pure a) (M.pure undef))) fun v14=>
 M.bind (M.chk (isK v13) (M.if (isB v13 true) (oS (some v14) fun a=>kUn E.P .not a) (M.pure undef))) fun v15=>
 M.bind (M.on (some v13) fun a=>M.on (some v15) fun b=>M.on (some (.bool false)) fun c=>Bl a b c) fun v16=>
 mv (some v16) fun v2=>
 setF 2 v2 tm fun tm1=>
 M.pure tm1
theorem GU_:RegEq 37 17 JW K3 SM:=⟨by kernel_rfl,fun _ _ _ _ _ _ _ _ _=>by kernel_rfl⟩
theorem CG_: ∃k,Qj= .code .ret::k:=⟨Qj.tail,by kernel_rfl⟩
def Ch:Nat:=Bh Try.f9
abbrev QT_:Nat:=48
def Xh:Code:=Try.f9.body.getD .skip
theorem HX:envS.fn.get 9=some Try.f9:=by kernel_rfl
theorem CJ_ {a0 a1 a2:Value}{n:Nat}{s:St}{Q:Value→St→Prop}(h: ∀tm,T.get tm 0=some a0→T.get tm 1=some a1→T.get tm 2=some a2→W (runF envS n ⟨9,48,Ch,tm,[.code Xh], .run, .normal,none⟩) (s.cxN cxN) fun p s1=>Q p.1 (s1.cxN s.cx)):W (Av envS (runF envS n) 9 [a0,a1,a2]) s Q:=
 W.call (by kernel_rfl) (by kernel_rfl) HX (by kernel_rfl) rfl rfl (by simp) (h _ (by kernel_rfl) (by kernel_rfl) (by kernel_rfl))
theorem JC:Try.f9.results.toList=[.tmp 6]:=by kernel_rfl
def N6:List Item:=skim 64 [.code Xh]
def Ko:List Item:=skim 64 N6.tail
theorem Pp_:skim 64 N6.tail=Ko:=by kernel_rfl
def Lj:List Item:=skim 64 Ko.tail
theorem Ro_:skim 64 Ko.tail=Lj:=by kernel_rfl
def E5:List Item:=skim 64 Lj.tail
theorem Vi:skim 64 Lj.tail=E5:=by kernel_rfl
def Ku:List Item:=skim 64 (brT E5)
theorem Mq_:skim 64 (brT E5)=Ku:=by kernel_rfl
def HK:List Item:=skim 64 (brF E5)
theorem Cu_:skim 64 (brF E5)=HK:=by kernel_rfl
def Mr:List Item:=skim 64 Ku.tail
theorem Ps_:skim 64 Ku.tail=Mr:=by kernel_rfl
def K9:List Item:=skim 64 HK.tail
theorem Cr_:skim 64 HK.tail=K9:=by kernel_rfl
def GM:List Item:=skim 64 K9.tail
theorem Cd_:skim 64 K9.tail=GM:=by kernel_rfl
def Ct_:List Item:=skim 64 (brT GM)
def IP:List Item:=skim 64 (brF GM)
theorem RP_:skim 64 (brF GM)=IP:=by kernel_rfl
def NM:List Item:=skim 64 Ct_.tail
def Ht:List Item:=skim 64 IP.tail
theorem Vq:skim 64 IP.tail=Ht:=by kernel_rfl
def FK:List Item:=skim 64 (brT Ht)
def HW:List Item:=skim 64 (brF Ht)
theorem RJ:skim 64 (brF Ht)=HW:=by kernel_rfl
def PY:List Item:=skim 64 (brT FK)
theorem AQ_:skim 64 (brT FK)=PY:=by kernel_rfl
def KF:List Item:=skim 64 (brF FK)
theorem ME_:skim 64 (brF FK)=KF:=by kernel_rfl
theorem VU:skim 64 HW.tail=FK:=by kernel_rfl
theorem Px_:skim 64 PY.tail=NM:=by kernel_rfl
def L8:List Item:=skim 64 KF.tail
theorem Ub:skim 64 KF.tail=L8:=by kernel_rfl
def Sg (E:Env)(call round:Ac)(tm:T Value):M (T Value):=
 M.bind (oS (T.get tm 0) fun a=>kBox a) fun v3=>
 setF 3 v3 tm fun tm1=>
 M.bind (oS (T.get tm1 1) fun a=>kBox a) fun v4=>
 setF 4 v4 tm1 fun tm2=>
 M.bind (oS (T.get tm2 2) fun a=>kBox a) fun v5=>
 setF 5 v5 tm2 fun tm3=>
 mv (some (.int .i64 0)) fun v6=>
 setF 6 v6 tm3 fun tm4=>
 M.pure tm4
theorem Nq_:RegEq 9 48 Ch N6 Sg:=⟨by kernel_rfl,fun _ _ _ _ _ _ _ _ _=>by kernel_rfl⟩
def Xv (E:Env)(call round:Ac)(tm:T Value):M (T Value):=
 M.bind (oS (T.get tm 3) fun a=>A1 E 24 a) fun v9=>
 M.bind (M.on (some (.func (.func 36) #[] #[])) fun f=>M.on (seqO [(some v9)]) fun l=>A5 call round f l) fun v10=>
 mv (some v10) fun v7=>
 setF 7 v7 tm fun tm1=>
 M.pure tm1
theorem BI_:RegEq 9 48 Ch Ko Xv:=⟨by kernel_rfl,fun _ _ _ _ _ _ _ _ _=>by kernel_rfl⟩
def LP (E:Env)(call round:Ac)(tm:T Value):M (T Value):=
 mv (T.get tm 7) fun v11=>
 M.bind (oS (some v11) fun a=>oS (some (.int .i64 0)) fun b=>Cl.get (aBin E .neq 27 (.tmp 11) (.const (.int .i64 0))) a b) fun v12=>
 setF 12 v12 tm fun tm1=>
 M.pure tm1
theorem Iv_:RegEq 9 48 Ch Lj LP:=⟨by kernel_rfl,fun _ _ _ _ _ _ _ _ _=>by kernel_rfl⟩
theorem Vl:Bc E5=some 12:=by kernel_rfl
def Uk (E:Env)(call round:Ac)(tm:T Value):M (T Value):=
 mv (T.get tm 7) fun v13=>
 mv (some v13) fun v6=>
 setF 6 v6 tm fun tm1=>
 M.pure tm1
theorem CV_:RegEq 9 48 Ch Ku Uk:=⟨by kernel_rfl,fun _ _ _ _ _ _ _ _ _=>by kernel_rfl⟩
def RM (E:Env)(call round:Ac)(tm:T Value):M ((Rho×T Value)×List OpLog):=
 M.bind (apartO (oS (T.get tm 3) fun a=>A1 E 24 a)) fun p0=>
 M.bind (apartO (oS (some p0.1) fun a=>kNil a)) fun p1=>
 M.bind (apartO (oS (some p1.1) fun a=>kFld E 75 a 1)) fun p2=>
 M.bind (apartO (oS (some p2.1) fun a=>A1 E 68 a)) fun p3=>
 M.bind (apartO (oS (T.get tm 4) fun a=>A1 E 9 a)) fun p4=>
 M.bind (apartO (oS (some p3.1) fun a=>oS (some p4.1) fun b=>Cm E 68 false a b)) fun p5=>
 M.bind (apartO (C9 E 67)) fun p6=>
 setT 8 p6.1 tm fun tm1=>
 M.pure (([p6.1,p5.1,p4.1,p3.1,p2.1,p1.1,p0.1],tm1),[p6.2,p5.2,p4.2,p3.2,p2.2,p1.2,p0.2])
theorem JP_:DrawEq 9 48 Ch HK [0,1,3,7,0,31,0,127] RM:=⟨by kernel_rfl,by kernel_rfl,fun _ _ _ _ _ _ _ _ _=>by kernel_rfl⟩
theorem IB_ (E:Env)(call round:Ac)(x14 x15 x16 x17 x18 x19 x8:Value)(tm:T Value)(s:St):BF call round (CH E Ch 48 (hdC HK)) [x8,x19,x18,x17,x16,x15,x14] tm s=(M.bind (oS (some x8) fun a=>oS (some x19) fun b=>BC E 67 a b) fun _=>M.pure tm) s:=by kernel_rfl
theorem LT_: ∃k,Mr= .code .ret::k:=⟨Mr.tail,by kernel_rfl⟩
def WV (E:Env)(call round:Ac)(tm:T Value):M (T Value):=
 M.bind (oS (T.get tm 4) fun a=>A1 E 9 a) fun v21=>
 M.bind (M.on (some (.func (.func 37) #[] #[])) fun f=>M.on (seqO [(some v21)]) fun l=>A5 call round f l) fun v22=>
 M.bind (oS (some v22) fun a=>kUn E.P .not a) fun v23=>
 mv (some v23) fun v20=>
 setF 20 v20 tm fun tm1=>
 M.pure tm1
theorem He_:RegEq 9 48 Ch K9 WV:=⟨by kernel_rfl,fun _ _ _ _ _ _ _ _ _=>by kernel_rfl⟩
theorem Cm_:Bc GM=some 20:=by kernel_rfl
def X5 (E:Env)(call round:Ac)(tm:T Value):M (T Value):=
 M.bind (oS (T.get tm 8) fun a=>A1 E 67 a) fun v25=>
 M.bind (oS (some v25) fun a=>oS (some (.pointer none)) fun b=>Cl.get (aBin E .eql 67 (.tmp 25) (.const (.pointer none))) a b) fun v26=>
 mv (some v26) fun v27=>
 M.bind (M.chk (isK v27) (M.if (isB v27 true) (oS (T.get tm 3) fun a=>A1 E 24 a) (M.pure undef))) fun v28=>
 M.bind (M.chk (isK v27) (M.if (isB v27 true) (oS (some v28) fun a=>kNil a) (M.pure undef))) fun v29=>
 M.bind (M.chk (isK v27) (M.if (isB v27 true) (oS (some v29) fun a=>kFld E 75 a 1) (M.pure undef))) fun v30=>
 M.bind (M.chk (isK v27) (M.if (isB v27 true) (oS (some v30) fun a=>A1 E 68 a) (M.pure undef))) fun v31=>
 M.bind (M.chk (isK v27) (M.if (isB v27 true) (oS (seqO [(some v31)]) fun l=>A6 E .len [68] l) (M.pure undef))) fun v32=>
 M.bind (M.chk (isK v27) (M.if (isB v27 true) (oS (some v32) fun a=>oS (some (.int .i64 1000)) fun b=>Cl.get (aBin E .geq 3 (.tmp 32) (.const (.int .i64 1000))) a b) (M.pure undef))) fun v33=>
 M.bind (M.on (some v27) fun a=>M.on (some v33) fun b=>M.on (some (.bool false)) fun c=>Bl a b c) fun v34=>
 mv (some v34) fun v24=>
 setF 24 v24 tm fun tm1=>
 M.pure tm1
theorem JZ_:RegEq 9 48 Ch IP X5:=⟨by kernel_rfl,fun _ _ _ _ _ _ _ _ _=>by kernel_rfl⟩
theorem Mz_: ∃k,NM= .code .ret::k:=⟨NM.tail,by kernel_rfl⟩
theorem RB:Bc Ht=some 24:=by kernel_rfl
theorem XX:Bc FK=some 24:=by kernel_rfl
def Yi (E:Env)(call round:Ac)(tm:T Value):M ((Rho×T Value)×List OpLog):=
 M.bind (apartO (oS (T.get tm 3) fun a=>A1 E 24 a)) fun p0=>
 M.bind (apartO (M.on (some (.func (.func 10) #[] #[])) fun f=>M.on (seqO [(some p0.1)]) fun l=>A5 call round f l)) fun p1=>
 M.bind (apartO (oS (T.get tm 5) fun a=>A1 E 26 a)) fun p2=>
 M.bind (apartO (oS (seqO [(some p2.1)]) fun l=>A6 E .len [26] l)) fun p3=>
 M.bind (apartO (oS (some p1.1) fun a=>oS (some p3.1) fun b=>Cl.get (aBin E .add 3 (.tmp 36) (.tmp 38)) a b)) fun p4=>
 M.bind (apartO (oS (T.get tm 3) fun a=>A1 E 24 a)) fun p5=>
 M.bind (apartO (oS (some p5.1) fun a=>kNil a)) fun p6=>
 M.bind (apartO (oS (some p6.1) fun a=>kFld E 75 a 2)) fun p7=>
 M.bind (apartO (oS (some p7.1) fun a=>A1 E 3 a)) fun p8=>
 M.bind (apartO (oS (some p4.1) fun a=>oS (some p8.1) fun b=>Cl.get (aBin E .gtr 3 (.tmp 39) (.tmp 43)) a b)) fun p9=>
 M.pure (([p9.1,p8.1,p7.1,p6.1,p5.1,p4.1,p3.1,p2.1,p1.1,p0.1],tm),[p9.2,p8.2,p7.2,p6.2,p5.2,p4.2,p3.2,p2.2,p1.2,p0.2])
theorem Bj_:DrawEq 9 48 Ch HW [0,1,0,4,15,0,32,96,224,511,1023] Yi:=⟨by kernel_rfl,by kernel_rfl,fun _ _ _ _ _ _ _ _ _=>by kernel_rfl⟩
theorem Qt_ (E:Env)(call round:Ac)(x35 x36 x37 x38 x39 x40 x41 x42 x43 x44:Value)(tm:T Value)(s:St):BF call round (CH E Ch 48 (hdC HW)) [x44,x43,x42,x41,x40,x39,x38,x37,x36,x35] tm s=(M.bind (oS (some x44) fun a=>M.pure a) fun v24=>setT 24 v24 tm fun tm1=>M.pure tm1) s:=by kernel_rfl
def WB (E:Env)(call round:Ac)(tm:T Value):M (T Value):=
 mv (some (.int .i64 8)) fun v6=>
 setF 6 v6 tm fun tm1=>
 M.pure tm1
theorem JH_:RegEq 9 48 Ch PY WB:=⟨by kernel_rfl,fun _ _ _ _ _ _ _ _ _=>by kernel_rfl⟩
def Yp (E:Env)(call round:Ac)(tm:T Value):M (T Value):=
 M.bind (oS (T.get tm 3) fun a=>A1 E 24 a) fun v45=>
 M.bind (oS (seqO []) fun a=>oS (seqO [(T.get tm 8),(T.get tm 3),(T.get tm 4),(T.get tm 5)]) fun b=>M.pure (.func (.func 39) a.toArray b.toArray)) fun v46=>
 M.bind (M.on (some (.func (.func 38) #[] #[])) fun f=>M.on (seqO [(some v45),(some v46)]) fun l=>A5 call round f l) fun v47=>
 mv (some v47) fun v6=>
 setF 6 v6 tm fun tm1=>
 M.pure tm1
theorem Pu_:RegEq 9 48 Ch KF Yp:=⟨by kernel_rfl,fun _ _ _ _ _ _ _ _ _=>by kernel_rfl⟩
theorem RO: ∃k,L8= .code .ret::k:=⟨L8.tail,by kernel_rfl⟩
def D2:Nat:=Bh Try.f39
abbrev Dl_:Nat:=23
def Vw:Code:=Try.f39.body.getD .skip
theorem TX:envS.fn.get 39=some Try.f39:=by kernel_rfl
theorem ED_ {a0 a1 a2 a3:Value}{n:Nat}{s:St}{Q:Value→St→Prop}(h: ∀tm,T.get tm 0=some a0→T.get tm 1=some a1→T.get tm 2=some a2→T.get tm 3=some a3→W (runF envS n ⟨39,23,D2,tm,[.code Vw], .run, .normal,none⟩) (s.cxN cxN) fun p s1=>Q p.1 (s1.cxN s.cx)):W (Av envS (runF envS n) 39 [a0,a1,a2,a3]) s Q:=
 W.call (by kernel_rfl) (by kernel_rfl) TX (by kernel_rfl) rfl rfl (by simp) (h _ (by kernel_rfl) (by kernel_rfl) (by kernel_rfl) (by kernel_rfl))
theorem IA_:Try.f39.results.toList=[]:=by kernel_rfl
def OY:List Item:=skim 64 [.code Vw]
def Gh:List Item:=skim 64 OY.tail
theorem Vs:skim 64 OY.tail=Gh:=by kernel_rfl
def LA:List Item:=skim 64 (brT Gh)
theorem Lw_:skim 64 (brT Gh)=LA:=by kernel_rfl
def EN:List Item:=skim 64 (brF Gh)
theorem Y9:skim 64 (brF Gh)=EN:=by kernel_rfl
def IE:List Item:=skim 64 LA.tail
theorem Pr_:skim 64 LA.tail=IE:=by kernel_rfl
def Yk:List Item:=skim 64 EN.tail
theorem Gq_:skim 64 EN.tail=Yk:=by kernel_rfl
theorem HG_:skim 64 IE.tail=EN:=by kernel_rfl
def Wx (E:Env)(call round:Ac)(tm:T Value):M (T Value):=
 M.bind (oS (T.get tm 0) fun a=>A1 E 67 a) fun v4=>
 M.bind (oS (some v4) fun a=>oS (some (.pointer none)) fun b=>Cl.get (aBin E .eql 67 (.tmp 4) (.const (.pointer none))) a b) fun v5=>
 setF 5 v5 tm fun tm1=>
 M.pure tm1
theorem GL_:RegEq 39 23 D2 OY Wx:=⟨by kernel_rfl,fun _ _ _ _ _ _ _ _ _=>by kernel_rfl⟩
theorem QV:Bc Gh=some 5:=by kernel_rfl
def Yr (E:Env)(call round:Ac)(tm:T Value):M (T Value):=
 M.bind (oS (seqP []) fun ps=>CA E 79 ps) fun v6=>
 M.bind (oS (some v6) fun a=>kBox a) fun v7=>
 M.bind (oS (T.get tm 0) fun a=>oS (some v7) fun b=>BC E 67 a b) fun _=>
 M.pure tm
theorem Gs_:RegEq 39 23 D2 LA Yr:=⟨by kernel_rfl,fun _ _ _ _ _ _ _ _ _=>by kernel_rfl⟩
def UV (E:Env)(call round:Ac)(tm:T Value):M ((Rho×T Value)×List OpLog):=
 M.bind (apartO (oS (T.get tm 0) fun a=>A1 E 67 a)) fun p0=>
 M.bind (apartO (oS (T.get tm 0) fun a=>A1 E 67 a)) fun p1=>
 M.bind (apartO (oS (some p1.1) fun a=>kNil a)) fun p2=>
 M.bind (apartO (oS (some p2.1) fun a=>kFld E 79 a 1)) fun p3=>
 M.bind (apartO (oS (some p3.1) fun a=>A1 E 26 a)) fun p4=>
 M.bind (apartO (oS (T.get tm 3) fun a=>A1 E 26 a)) fun p5=>
 M.bind (apartO (oS (seqO [(some p4.1),(some p5.1)]) fun l=>A6 E .append [26,26] l)) fun p6=>
 M.bind (apartO (oS (some p0.1) fun a=>kNil a)) fun p7=>
 M.bind (apartO (oS (some p7.1) fun a=>kFld E 79 a 1)) fun p8=>
 M.pure (([p8.1,p7.1,p6.1,p5.1,p4.1,p3.1,p2.1,p1.1,p0.1],tm),[p8.2,p7.2,p6.2,p5.2,p4.2,p3.2,p2.2,p1.2,p0.2])
theorem EC_:DrawEq 39 23 D2 EN [0,0,2,6,14,0,62,127,255,511] UV:=⟨by kernel_rfl,by kernel_rfl,fun _ _ _ _ _ _ _ _ _=>by kernel_rfl⟩
theorem Ez_ (E:Env)(call round:Ac)(x14 x15 x16 x17 x18 x19 x20 x21 x22:Value)(tm:T Value)(s:St):BF call round (CH E D2 23 (hdC EN)) [x22,x21,x20,x19,x18,x17,x16,x15,x14] tm s=(M.bind (oS (some x22) fun a=>oS (some x20) fun b=>BC E 26 a b) fun _=>M.pure tm) s:=by kernel_rfl
def Q7 (E:Env)(call round:Ac)(tm:T Value):M ((Rho×T Value)×List OpLog):=
 M.bind (apartO (oS (T.get tm 1) fun a=>A1 E 24 a)) fun p0=>
 M.bind (apartO (oS (some p0.1) fun a=>kNil a)) fun p1=>
 M.bind (apartO (oS (some p1.1) fun a=>kFld E 75 a 1)) fun p2=>
 M.bind (apartO (oS (some p2.1) fun a=>A1 E 68 a)) fun p3=>
 M.bind (apartO (oS (T.get tm 2) fun a=>A1 E 9 a)) fun p4=>
 M.bind (apartO (oS (T.get tm 0) fun a=>A1 E 67 a)) fun p5=>
 M.pure (([p5.1,p4.1,p3.1,p2.1,p1.1,p0.1],tm),[p5.2,p4.2,p3.2,p2.2,p1.2,p0.2])
theorem Kj_:DrawEq 39 23 D2 IE [0,1,3,7,0,0,63] Q7:=⟨by kernel_rfl,by kernel_rfl,fun _ _ _ _ _ _ _ _ _=>by kernel_rfl⟩
theorem AM_ (E:Env)(call round:Ac)(x8 x9 x10 x11 x12 x13:Value)(tm:T Value)(s:St):BF call round (CH E D2 23 (hdC IE)) [x13,x12,x11,x10,x9,x8] tm s=(M.bind (M.on (some x11) fun a=>M.on (some x12) fun b=>M.on (some x13) fun c=>Dw E 68 a b c) fun _=>M.pure tm) s:=by kernel_rfl
def Di:Nat:=Bh Try.f14
def U7:Code:=Try.f14.body.getD .skip
theorem Hf:envS.fn.get 14=some Try.f14:=by kernel_rfl
theorem ZF {a0 a1:Value}{n:Nat}{s:St}{Q:Value→St→Prop}(h: ∀tm,T.get tm 0=some a0→T.get tm 1=some a1→W (runF envS n ⟨14,23,Di,tm,[.code U7], .run, .normal,none⟩) (s.cxN cxN) fun p s1=>Q p.1 (s1.cxN s.cx)):W (Av envS (runF envS n) 14 [a0,a1]) s Q:=
 W.call (by kernel_rfl) (by kernel_rfl) Hf (by kernel_rfl) rfl rfl (by simp) (h _ (by kernel_rfl) (by kernel_rfl))
theorem I4:Try.f14.results.toList=[.tmp 4]:=by kernel_rfl
def NJ:List Item:=skim 64 [.code U7]
def Ln:List Item:=skim 64 NJ.tail
theorem Cl_:skim 64 NJ.tail=Ln:=by kernel_rfl
def J2:List Item:=skim 64 Ln.tail
theorem BC_:skim 64 Ln.tail=J2:=by kernel_rfl
def Gn:List Item:=skim 64 J2.tail
theorem UH:skim 64 J2.tail=Gn:=by kernel_rfl
def J6:List Item:=skim 64 (brT Gn)
theorem OF_:skim 64 (brT Gn)=J6:=by kernel_rfl
def KQ:List Item:=skim 64 (brF Gn)
theorem KH_:skim 64 (brF Gn)=KQ:=by kernel_rfl
def PE:List Item:=skim 64 J6.tail
theorem JA_:skim 64 J6.tail=PE:=by kernel_rfl
def Iq:List Item:=skim 64 KQ.tail
theorem Kg_:skim 64 KQ.tail=Iq:=by kernel_rfl
def Gj:List Item:=skim 64 Iq.tail
theorem XM:skim 64 Iq.tail=Gj:=by kernel_rfl
def Ia:List Item:=skim 64 (brT Gj)
theorem KM_:skim 64 (brT Gj)=Ia:=by kernel_rfl
def JZ:List Item:=skim 64 (brF Gj)
theorem Bf_:skim 64 (brF Gj)=JZ:=by kernel_rfl
def MU:List Item:=skim 64 Ia.tail
theorem Ru_:skim 64 Ia.tail=MU:=by kernel_rfl
def NC:List Item:=skim 64 JZ.tail
theorem VN:skim 64 JZ.tail=NC:=by kernel_rfl
def Ww (E:Env)(call round:Ac)(tm:T Value):M (T Value):=
 mv (some (.int .i64 0)) fun v4=>
 setF 4 v4 tm fun tm1=>
 M.pure tm1
theorem Gf_:RegEq 14 23 Di NJ Ww:=⟨by kernel_rfl,fun _ _ _ _ _ _ _ _ _=>by kernel_rfl⟩
def RY (E:Env)(call round:Ac)(tm:T Value):M (T Value):=
 mv (T.get tm 0) fun v7=>
 M.bind (M.on (some (.func (.func 36) #[] #[])) fun f=>M.on (seqO [(some v7)]) fun l=>A5 call round f l) fun v8=>
 mv (some v8) fun v5=>
 setF 5 v5 tm fun tm1=>
 M.pure tm1
theorem Na_:RegEq 14 23 Di Ln RY:=⟨by kernel_rfl,fun _ _ _ _ _ _ _ _ _=>by kernel_rfl⟩
def MH (E:Env)(call round:Ac)(tm:T Value):M (T Value):=
 mv (T.get tm 5) fun v9=>
 M.bind (oS (some v9) fun a=>oS (some (.int .i64 0)) fun b=>Cl.get (aBin E .neq 27 (.tmp 9) (.const (.int .i64 0))) a b) fun v10=>
 setF 10 v10 tm fun tm1=>
 M.pure tm1
theorem NX_:RegEq 14 23 Di J2 MH:=⟨by kernel_rfl,fun _ _ _ _ _ _ _ _ _=>by kernel_rfl⟩
theorem XV:Bc Gn=some 10:=by kernel_rfl
def WQ (E:Env)(call round:Ac)(tm:T Value):M (T Value):=
 mv (T.get tm 5) fun v11=>
 mv (some v11) fun v4=>
 setF 4 v4 tm fun tm1=>
 M.pure tm1
theorem OE_:RegEq 14 23 Di J6 WQ:=⟨by kernel_rfl,fun _ _ _ _ _ _ _ _ _=>by kernel_rfl⟩
def Tt (E:Env)(call round:Ac)(tm:T Value):M (T Value):=
 mv (T.get tm 0) fun v12=>
 M.bind (oS (some v12) fun a=>kNil a) fun v13=>
 M.bind (oS (some v13) fun a=>kFld E 75 a 1) fun v14=>
 M.bind (oS (some v14) fun a=>A1 E 68 a) fun v15=>
 mv (T.get tm 1) fun v16=>
 M.bind (oS (some v15) fun a=>oS (some v16) fun b=>Cm E 68 false a b) fun v17=>
 M.bind (C9 E 67) fun v6=>
 setF 6 v6 tm fun tm1=>
 M.bind (oS (some v6) fun a=>oS (some v17) fun b=>BC E 67 a b) fun _=>
 M.pure tm1
theorem GS_:RegEq 14 23 Di KQ Tt:=⟨by kernel_rfl,fun _ _ _ _ _ _ _ _ _=>by kernel_rfl⟩
theorem Rg_: ∃k,PE= .code .ret::k:=⟨PE.tail,by kernel_rfl⟩
def Uj (E:Env)(call round:Ac)(tm:T Value):M (T Value):=
 M.bind (oS (T.get tm 6) fun a=>A1 E 67 a) fun v18=>
 M.bind (oS (some v18) fun a=>oS (some (.pointer none)) fun b=>Cl.get (aBin E .eql 67 (.tmp 18) (.const (.pointer none))) a b) fun v19=>
 setF 19 v19 tm fun tm1=>
 M.pure tm1
theorem DI_:RegEq 14 23 Di Iq Uj:=⟨by kernel_rfl,fun _ _ _ _ _ _ _ _ _=>by kernel_rfl⟩
theorem V0:Bc Gj=some 19:=by kernel_rfl
def YG (E:Env)(call round:Ac)(tm:T Value):M (T Value):=
 mv (some (.int .i64 6)) fun v4=>
 setF 4 v4 tm fun tm1=>
 M.pure tm1
theorem Rd_:RegEq 14 23 Di Ia YG:=⟨by kernel_rfl,fun _ _ _ _ _ _ _ _ _=>by kernel_rfl⟩
def Yw (E:Env)(call round:Ac)(tm:T Value):M (T Value):=
 mv (T.get tm 0) fun v20=>
 M.bind (oS (seqO []) fun a=>oS (seqO [(T.get tm 6)]) fun b=>M.pure (.func (.func 49) a.toArray b.toArray)) fun v21=>
 M.bind (M.on (some (.func (.func 38) #[] #[])) fun f=>M.on (seqO [(some v20),(some v21)]) fun l=>A5 call round f l) fun v22=>
 mv (some v22) fun v4=>
 setF 4 v4 tm fun tm1=>
 M.pure tm1
theorem Mh_:RegEq 14 23 Di JZ Yw:=⟨by kernel_rfl,fun _ _ _ _ _ _ _ _ _=>by kernel_rfl⟩
theorem IW_: ∃k,MU= .code .ret::k:=⟨MU.tail,by kernel_rfl⟩
theorem QS: ∃k,NC= .code .ret::k:=⟨NC.tail,by kernel_rfl⟩
def My:Nat:=Bh Try.f49
def Qt:Code:=Try.f49.body.getD .skip
theorem U0:envS.fn.get 49=some Try.f49:=by kernel_rfl
theorem ZX {a0:Value}{n:Nat}{s:St}{Q:Value→St→Prop}(h: ∀tm,T.get tm 0=some a0→W (runF envS n ⟨49,16,My,tm,[.code Qt], .run, .normal,none⟩) (s.cxN cxN) fun p s1=>Q p.1 (s1.cxN s.cx)):W (Av envS (runF envS n) 49 [a0]) s Q:=
 W.call (by kernel_rfl) (by kernel_rfl) U0 (by kernel_rfl) rfl rfl (by simp) (h _ (by kernel_rfl))
theorem Ph_:Try.f49.results.toList=[]:=by kernel_rfl
def Kg:List Item:=skim 64 [.code Qt]
def Yv:List Item:=skim 64 Kg.tail
theorem Pw_:skim 64 Kg.tail=Yv:=by kernel_rfl
def YE (E:Env)(call round:Ac)(tm:T Value):M ((Rho×T Value)×List OpLog):=
 M.bind (apartO (oS (T.get tm 0) fun a=>A1 E 67 a)) fun p0=>
 M.bind (apartO (oS (T.get tm 0) fun a=>A1 E 67 a)) fun p1=>
 M.bind (apartO (oS (T.get tm 0) fun a=>A1 E 67 a)) fun p2=>
 M.bind (apartO (oS (some p2.1) fun a=>kNil a)) fun p3=>
 M.bind (apartO (oS (some p3.1) fun a=>kFld E 79 a 0)) fun p4=>
 M.bind (apartO (oS (some p4.1) fun a=>A1 E 26 a)) fun p5=>
 M.bind (apartO (oS (T.get tm 0) fun a=>A1 E 67 a)) fun p6=>
 M.bind (apartO (oS (some p6.1) fun a=>kNil a)) fun p7=>
 M.bind (apartO (oS (some p7.1) fun a=>kFld E 79 a 1)) fun p8=>
 M.bind (apartO (oS (some p8.1) fun a=>A1 E 26 a)) fun p9=>
 M.bind (apartO (oS (seqO [(some p5.1),(some p9.1)]) fun l=>A6 E .append [26,26] l)) fun p10=>
 M.bind (apartO (oS (some p0.1) fun a=>kNil a)) fun p11=>
 M.bind (apartO (oS (some p11.1) fun a=>kFld E 79 a 0)) fun p12=>
 M.bind (apartO (oS (some p12.1) fun a=>oS (some p10.1) fun b=>BC E 26 a b)) fun p13=>
 M.bind (apartO (oS (some p1.1) fun a=>kNil a)) fun p14=>
 M.bind (apartO (oS (some p14.1) fun a=>kFld E 79 a 1)) fun p15=>
 M.pure (([p15.1,p14.1,p12.1,p11.1,p10.1,p9.1,p8.1,p7.1,p6.1,p5.1,p4.1,p3.1,p2.1,p1.1,p0.1],tm),[p15.2,p14.2,p13.2,p12.2,p11.2,p10.2,p9.2,p8.2,p7.2,p6.2,p5.2,p4.2,p3.2,p2.2,p1.2,p0.2])
theorem MZ_:DrawEq 49 16 My Kg [0,0,0,4,12,28,0,64,192,448,1020,2045,4093,8189,16383,32767,65535] YE:=⟨by kernel_rfl,by kernel_rfl,fun _ _ _ _ _ _ _ _ _=>by kernel_rfl⟩
theorem Am_ (E:Env)(call round:Ac)(x1 x2 x3 x4 x5 x6 x7 x8 x9 x10 x11 x12 x13 x14 x15:Value)(tm:T Value)(s:St):BF call round (CH E My 16 (hdC Kg)) [x15,x14,x13,x12,x11,x10,x9,x8,x7,x6,x5,x4,x3,x2,x1] tm s=(M.bind (oS (some x15) fun a=>oS (some (.slice none 0 0)) fun b=>BC E 26 a b) fun _=>M.pure tm) s:=by kernel_rfl
def C1:Nat:=Bh Try.f12
def TJ:Code:=Try.f12.body.getD .skip
theorem Ky:envS.fn.get 12=some Try.f12:=by kernel_rfl
theorem Ce_ {a0 a1:Value}{n:Nat}{s:St}{Q:Value→St→Prop}(h: ∀tm,T.get tm 0=some a0→T.get tm 1=some a1→W (runF envS n ⟨12,31,C1,tm,[.code TJ], .run, .normal,none⟩) (s.cxN cxN) fun p s1=>Q p.1 (s1.cxN s.cx)):W (Av envS (runF envS n) 12 [a0,a1]) s Q:=
 W.call (by kernel_rfl) (by kernel_rfl) Ky (by kernel_rfl) rfl rfl (by simp) (h _ (by kernel_rfl) (by kernel_rfl))
theorem Pm:Try.f12.results.toList=[.tmp 4, .tmp 5]:=by kernel_rfl
def Ms:List Item:=skim 64 [.code TJ]
def I5:List Item:=skim 64 Ms.tail
theorem KO_:skim 64 Ms.tail=I5:=by kernel_rfl
def I8:List Item:=skim 64 I5.tail
theorem Po_:skim 64 I5.tail=I8:=by kernel_rfl
def GH:List Item:=skim 64 I8.tail
theorem Sd:skim 64 I8.tail=GH:=by kernel_rfl
def KG:List Item:=skim 64 (brT GH)
theorem HL_:skim 64 (brT GH)=KG:=by kernel_rfl
def IY:List Item:=skim 64 (brF GH)
theorem Kk_:skim 64 (brF GH)=IY:=by kernel_rfl
def NT:List Item:=skim 64 KG.tail
theorem HI_:skim 64 KG.tail=NT:=by kernel_rfl
def K1:List Item:=skim 64 IY.tail
theorem OJ_:skim 64 IY.tail=K1:=by kernel_rfl
def Gd:List Item:=skim 64 K1.tail
theorem V3:skim 64 K1.tail=Gd:=by kernel_rfl
def K5:List Item:=skim 64 (brT Gd)
theorem Oj_:skim 64 (brT Gd)=K5:=by kernel_rfl
def HG:List Item:=skim 64 (brF Gd)
theorem Ie_:skim 64 (brF Gd)=HG:=by kernel_rfl
def PH:List Item:=skim 64 K5.tail
theorem Ga_:skim 64 K5.tail=PH:=by kernel_rfl
def Mg:List Item:=skim 64 HG.tail
theorem IL_:skim 64 HG.tail=Mg:=by kernel_rfl
def VV (E:Env)(call round:Ac)(tm:T Value):M (T Value):=
 mv (some (.slice none 0 0)) fun v4=>
 setF 4 v4 tm fun tm1=>
 mv (some (.int .i64 0)) fun v5=>
 setF 5 v5 tm1 fun tm2=>
 M.pure tm2
theorem Kp_:RegEq 12 31 C1 Ms VV:=⟨by kernel_rfl,fun _ _ _ _ _ _ _ _ _=>by kernel_rfl⟩
def XZ (E:Env)(call round:Ac)(tm:T Value):M (T Value):=
 mv (T.get tm 0) fun v8=>
 M.bind (M.on (some (.func (.func 36) #[] #[])) fun f=>M.on (seqO [(some v8)]) fun l=>A5 call round f l) fun v9=>
 mv (some v9) fun v6=>
 setF 6 v6 tm fun tm1=>
 M.pure tm1
theorem Mv_:RegEq 12 31 C1 I5 XZ:=⟨by kernel_rfl,fun _ _ _ _ _ _ _ _ _=>by kernel_rfl⟩
def O5 (E:Env)(call round:Ac)(tm:T Value):M (T Value):=
 mv (T.get tm 6) fun v10=>
 M.bind (oS (some v10) fun a=>oS (some (.int .i64 0)) fun b=>Cl.get (aBin E .neq 27 (.tmp 10) (.const (.int .i64 0))) a b) fun v11=>
 setF 11 v11 tm fun tm1=>
 M.pure tm1
theorem Md_:RegEq 12 31 C1 I8 O5:=⟨by kernel_rfl,fun _ _ _ _ _ _ _ _ _=>by kernel_rfl⟩
theorem Wv:Bc GH=some 11:=by kernel_rfl
def SI (E:Env)(call round:Ac)(tm:T Value):M (T Value):=
 mv (T.get tm 6) fun v12=>
 mv (some (.slice none 0 0)) fun v4=>
 setF 4 v4 tm fun tm1=>
 mv (some v12) fun v5=>
 setF 5 v5 tm1 fun tm2=>
 M.pure tm2
theorem Cf_:RegEq 12 31 C1 KG SI:=⟨by kernel_rfl,fun _ _ _ _ _ _ _ _ _=>by kernel_rfl⟩
def Uf (E:Env)(call round:Ac)(tm:T Value):M (T Value):=
 mv (T.get tm 0) fun v13=>
 M.bind (oS (some v13) fun a=>kNil a) fun v14=>
 M.bind (oS (some v14) fun a=>kFld E 75 a 1) fun v15=>
 M.bind (oS (some v15) fun a=>A1 E 68 a) fun v16=>
 mv (T.get tm 1) fun v17=>
 M.bind (oS (some v16) fun a=>oS (some v17) fun b=>Cm E 68 false a b) fun v18=>
 mv (some v18) fun v7=>
 setF 7 v7 tm fun tm1=>
 M.pure tm1
theorem QL_:RegEq 12 31 C1 IY Uf:=⟨by kernel_rfl,fun _ _ _ _ _ _ _ _ _=>by kernel_rfl⟩
theorem Ih_: ∃k,NT= .code .ret::k:=⟨NT.tail,by kernel_rfl⟩
def M6 (E:Env)(call round:Ac)(tm:T Value):M (T Value):=
 mv (T.get tm 7) fun v19=>
 M.bind (oS (some v19) fun a=>oS (some (.pointer none)) fun b=>Cl.get (aBin E .eql 67 (.tmp 19) (.const (.pointer none))) a b) fun v20=>
 setF 20 v20 tm fun tm1=>
 M.pure tm1
theorem LQ_:RegEq 12 31 C1 K1 M6:=⟨by kernel_rfl,fun _ _ _ _ _ _ _ _ _=>by kernel_rfl⟩
theorem Xo:Bc Gd=some 20:=by kernel_rfl
def UY (E:Env)(call round:Ac)(tm:T Value):M (T Value):=
 mv (some (.slice none 0 0)) fun v4=>
 setF 4 v4 tm fun tm1=>
 mv (some (.int .i64 6)) fun v5=>
 setF 5 v5 tm1 fun tm2=>
 M.pure tm2
theorem Zk:RegEq 12 31 C1 K5 UY:=⟨by kernel_rfl,fun _ _ _ _ _ _ _ _ _=>by kernel_rfl⟩
def S4 (E:Env)(call round:Ac)(tm:T Value):M ((Rho×T Value)×List OpLog):=
 M.bind (apartO (oS (T.get tm 7) fun a=>M.pure a)) fun p0=>
 M.bind (apartO (oS (some p0.1) fun a=>kNil a)) fun p1=>
 M.bind (apartO (oS (some p1.1) fun a=>kFld E 79 a 0)) fun p2=>
 M.bind (apartO (oS (some p2.1) fun a=>A1 E 26 a)) fun p3=>
 M.bind (apartO (oS (T.get tm 7) fun a=>M.pure a)) fun p4=>
 M.bind (apartO (oS (some p4.1) fun a=>kNil a)) fun p5=>
 M.bind (apartO (oS (some p5.1) fun a=>kFld E 79 a 1)) fun p6=>
 M.bind (apartO (oS (some p6.1) fun a=>A1 E 26 a)) fun p7=>
 M.bind (apartO (oS (seqP [(0,(some p3.1)),(1,(some p7.1))]) fun ps=>CE E 22 2 ps)) fun p8=>
 M.bind (apartO (M.on (some (.func (.func 47) #[] #[])) fun f=>M.on (seqO [(some p8.1)]) fun l=>A5 call round f l)) fun p9=>
 M.bind (apartO (oS (some p9.1) fun a=>M.pure a)) fun p10=>
 setT 4 p10.1 tm fun tm1=>
 M.pure (([p10.1,p9.1,p8.1,p7.1,p6.1,p5.1,p4.1,p3.1,p2.1,p1.1,p0.1],tm1),[p10.2,p9.2,p8.2,p7.2,p6.2,p5.2,p4.2,p3.2,p2.2,p1.2,p0.2])
theorem Jo_:DrawEq 12 31 C1 HG [0,1,3,7,0,16,48,112,255,511,1023,2047] S4:=⟨by kernel_rfl,by kernel_rfl,fun _ _ _ _ _ _ _ _ _=>by kernel_rfl⟩
theorem Qs_ (E:Env)(call round:Ac)(x21 x22 x23 x24 x25 x26 x27 x28 x29 x30 x4:Value)(tm:T Value)(s:St):BF call round (CH E C1 31 (hdC HG)) [x4,x30,x29,x28,x27,x26,x25,x24,x23,x22,x21] tm s=(M.bind (oS (some (.int .i64 0)) fun a=>M.pure a) fun v5=>setT 5 v5 tm fun tm1=>M.pure tm1) s:=by kernel_rfl
theorem Mc_: ∃k,PH= .code .ret::k:=⟨PH.tail,by kernel_rfl⟩
theorem ZA: ∃k,Mg= .code .ret::k:=⟨Mg.tail,by kernel_rfl⟩
def HM:Nat:=Bh Try.f11
def YI:Code:=Try.f11.body.getD .skip
theorem XR:envS.fn.get 11=some Try.f11:=by kernel_rfl
theorem Me_ {a0 a1:Value}{n:Nat}{s:St}{Q:Value→St→Prop}(h: ∀tm,T.get tm 0=some a0→T.get tm 1=some a1→W (runF envS n ⟨11,17,HM,tm,[.code YI], .run, .normal,none⟩) (s.cxN cxN) fun p s1=>Q p.1 (s1.cxN s.cx)):W (Av envS (runF envS n) 11 [a0,a1]) s Q:=
 W.call (by kernel_rfl) (by kernel_rfl) XR (by kernel_rfl) rfl rfl (by simp) (h _ (by kernel_rfl) (by kernel_rfl))
theorem Hn_:Try.f11.results.toList=[.tmp 4]:=by kernel_rfl
def O9:List Item:=skim 64 [.code YI]
def LM:List Item:=skim 64 O9.tail
theorem Jb_:skim 64 O9.tail=LM:=by kernel_rfl
def LG:List Item:=skim 64 LM.tail
theorem Gu_:skim 64 LM.tail=LG:=by kernel_rfl
def I9:List Item:=skim 64 (brF LG)
theorem DR_:skim 64 (brF LG)=I9:=by kernel_rfl
def KX:List Item:=skim 64 I9.tail
theorem Qw_:skim 64 I9.tail=KX:=by kernel_rfl
def Po:List Item:=skim 64 KX.tail
theorem EE_:skim 64 KX.tail=Po:=by kernel_rfl
def YT (E:Env)(call round:Ac)(tm:T Value):M (T Value):=
 M.bind (oS (T.get tm 1) fun a=>kBox a) fun v3=>
 setF 3 v3 tm fun tm1=>
 mv (some (.slice none 0 0)) fun v4=>
 setF 4 v4 tm1 fun tm2=>
 M.pure tm2
theorem Cb_:RegEq 11 17 HM O9 YT:=⟨by kernel_rfl,fun _ _ _ _ _ _ _ _ _=>by kernel_rfl⟩
def WA (E:Env)(call round:Ac)(tm:T Value):M (T Value):=
 mv (T.get tm 0) fun v6=>
 M.bind (M.on (some (.func (.func 40) #[] #[])) fun f=>M.on (seqO [(some v6)]) fun l=>A5 call round f l) fun v7=>
 setF 7 v7 tm fun tm1=>
 M.pure tm1
theorem RG_:RegEq 11 17 HM LM WA:=⟨by kernel_rfl,fun _ _ _ _ _ _ _ _ _=>by kernel_rfl⟩
theorem Gd_:Bc LG=some 7:=by kernel_rfl
def Yo (E:Env)(call round:Ac)(tm:T Value):M (T Value):=
 mv (T.get tm 0) fun v8=>
 M.bind (oS (some v8) fun a=>kNil a) fun v9=>
 M.bind (oS (some v9) fun a=>kFld E 75 a 1) fun v10=>
 M.bind (oS (some v10) fun a=>A1 E 68 a) fun v11=>
 M.bind (M.on (some (.func (.func 43) #[] #[])) fun f=>M.on (seqO [(some v11)]) fun l=>A5 call round f l) fun v12=>
 M.bind (M.on (some (.func (.func 42) #[] #[])) fun f=>M.on (seqO [(some v12)]) fun l=>A5 call round f l) fun v13=>
 mv (some v13) fun v5=>
 setF 5 v5 tm fun tm1=>
 M.pure tm1
theorem Jl_:RegEq 11 17 HM I9 Yo:=⟨by kernel_rfl,fun _ _ _ _ _ _ _ _ _=>by kernel_rfl⟩
def YP (E:Env)(call round:Ac)(tm:T Value):M (T Value):=
 mv (T.get tm 5) fun v14=>
 M.bind (oS (seqO []) fun a=>oS (seqO [(T.get tm 3)]) fun b=>M.pure (.func (.func 45) a.toArray b.toArray)) fun v15=>
 M.bind (M.on (some (.func (.func 44) #[] #[])) fun f=>M.on (seqO [(some v14),(some v15)]) fun l=>A5 call round f l) fun v16=>
 mv (some v16) fun v4=>
 setF 4 v4 tm fun tm1=>
 M.pure tm1
theorem MQ_:RegEq 11 17 HM KX YP:=⟨by kernel_rfl,fun _ _ _ _ _ _ _ _ _=>by kernel_rfl⟩
theorem AW_: ∃k,Po= .code .ret::k:=⟨Po.tail,by kernel_rfl⟩
def Pb:Nat:=Bh Try.f45
def Sy:Code:=Try.f45.body.getD .skip
theorem QF:envS.fn.get 45=some Try.f45:=by kernel_rfl
theorem IU_ {a0 a1:Value}{n:Nat}{s:St}{Q:Value→St→Prop}(h: ∀tm,T.get tm 0=some a0→T.get tm 1=some a1→W (runF envS n ⟨45,8,Pb,tm,[.code Sy], .run, .normal,none⟩) (s.cxN cxN) fun p s1=>Q p.1 (s1.cxN s.cx)):W (Av envS (runF envS n) 45 [a0,a1]) s Q:=
 W.call (by kernel_rfl) (by kernel_rfl) QF (by kernel_rfl) rfl rfl (by simp) (h _ (by kernel_rfl) (by kernel_rfl))
theorem Al_:Try.f45.results.toList=[.tmp 3]:=by kernel_rfl
def M1:List Item:=skim 64 [.code Sy]
def Ip:List Item:=skim 64 M1.tail
theorem KI_:skim 64 M1.tail=Ip:=by kernel_rfl
def Ov:List Item:=skim 64 Ip.tail
theorem HA_:skim 64 Ip.tail=Ov:=by kernel_rfl
def Sz (E:Env)(call round:Ac)(tm:T Value):M (T Value):=
 mv (some (.bool false)) fun v3=>
 setF 3 v3 tm fun tm1=>
 M.pure tm1
theorem Gx_:RegEq 45 8 Pb M1 Sz:=⟨by kernel_rfl,fun _ _ _ _ _ _ _ _ _=>by kernel_rfl⟩
def W5 (E:Env)(call round:Ac)(tm:T Value):M (T Value):=
 mv (T.get tm 0) fun v4=>
 M.bind (oS (T.get tm 1) fun a=>A1 E 9 a) fun v5=>
 M.bind (M.on (some (.func (.func 46) #[] #[])) fun f=>M.on (seqO [(some v4),(some v5)]) fun l=>A5 call round f l) fun v6=>
 M.bind (oS (some v6) fun a=>kUn E.P .not a) fun v7=>
 mv (some v7) fun v3=>
 setF 3 v3 tm fun tm1=>
 M.pure tm1
theorem Gn_:RegEq 45 8 Pb Ip W5:=⟨by kernel_rfl,fun _ _ _ _ _ _ _ _ _=>by kernel_rfl⟩
theorem AA_: ∃k,Ov= .code .ret::k:=⟨Ov.tail,by kernel_rfl⟩
def JS:Nat:=Bh Try.f30
def QN:Code:=Try.f30.body.getD .skip
theorem Ys:envS.fn.get 30=some Try.f30:=by kernel_rfl
theorem RB_ {a0 a1:Value}{n:Nat}{s:St}{Q:Value→St→Prop}(h: ∀tm,T.get tm 0=some a0→T.get tm 1=some a1→W (runF envS n ⟨30,26,JS,tm,[.code QN], .run, .normal,none⟩) (s.cxN cxN) fun p s1=>Q p.1 (s1.cxN s.cx)):W (Av envS (runF envS n) 30 [a0,a1]) s Q:=
 W.call (by kernel_rfl) (by kernel_rfl) Ys (by kernel_rfl) rfl rfl (by simp) (h _ (by kernel_rfl) (by kernel_rfl))
theorem FX_:Try.f30.results.toList=[.tmp 4]:=by kernel_rfl
def OK:List Item:=skim 64 [.code QN]
def Is:List Item:=skim 64 OK.tail
theorem Fr_:skim 64 OK.tail=Is:=by kernel_rfl
def Ka:List Item:=skim 64 Is.tail
theorem EI_:skim 64 Is.tail=Ka:=by kernel_rfl
def Lb:List Item:=skim 64 (brF Ka)
theorem FL_:skim 64 (brF Ka)=Lb:=by kernel_rfl
def N8:List Item:=skim 64 Lb.tail
theorem JG_:skim 64 Lb.tail=N8:=by kernel_rfl
def WE (E:Env)(call round:Ac)(tm:T Value):M (T Value):=
 mv (some (.int .i64 0)) fun v4=>
 setF 4 v4 tm fun tm1=>
 M.pure tm1
theorem MG_:RegEq 30 26 JS OK WE:=⟨by kernel_rfl,fun _ _ _ _ _ _ _ _ _=>by kernel_rfl⟩
def RU (E:Env)(call round:Ac)(tm:T Value):M (T Value):=
 mv (T.get tm 0) fun v5=>
 M.bind (M.on (some (.func (.func 40) #[] #[])) fun f=>M.on (seqO [(some v5)]) fun l=>A5 call round f l) fun v6=>
 mv (some v6) fun v7=>
 M.bind (M.chk (isK v7) (M.if (isB v7 false) (oS (T.get tm 0) fun a=>M.pure a) (M.pure undef))) fun v8=>
 M.bind (M.chk (isK v7) (M.if (isB v7 false) (oS (some v8) fun a=>kNil a) (M.pure undef))) fun v9=>
 M.bind (M.chk (isK v7) (M.if (isB v7 false) (oS (some v9) fun a=>kFld E 75 a 1) (M.pure undef))) fun v10=>
 M.bind (M.chk (isK v7) (M.if (isB v7 false) (oS (some v10) fun a=>A1 E 68 a) (M.pure undef))) fun v11=>
 M.bind (M.chk (isK v7) (M.if (isB v7 false) (oS (T.get tm 1) fun a=>M.pure a) (M.pure undef))) fun v12=>
 M.bind (M.chk (isK v7) (M.if (isB v7 false) (oS (some v11) fun a=>oS (some v12) fun b=>Cm E 68 false a b) (M.pure undef))) fun v13=>
 M.bind (M.chk (isK v7) (M.if (isB v7 false) (oS (some v13) fun a=>oS (some (.pointer none)) fun b=>Cl.get (aBin E .eql 67 (.tmp 13) (.const (.pointer none))) a b) (M.pure undef))) fun v14=>
 M.bind (M.on (some v7) fun a=>M.on (some (.bool true)) fun b=>M.on (some v14) fun c=>Bl a b c) fun v15=>
 setF 15 v15 tm fun tm1=>
 M.pure tm1
theorem AJ_:RegEq 30 26 JS Is RU:=⟨by kernel_rfl,fun _ _ _ _ _ _ _ _ _=>by kernel_rfl⟩
theorem Pj_:Bc Ka=some 15:=by kernel_rfl
def U2 (E:Env)(call round:Ac)(tm:T Value):M (T Value):=
 mv (T.get tm 0) fun v16=>
 M.bind (oS (some v16) fun a=>kNil a) fun v17=>
 M.bind (oS (some v17) fun a=>kFld E 75 a 1) fun v18=>
 M.bind (oS (some v18) fun a=>A1 E 68 a) fun v19=>
 mv (T.get tm 1) fun v20=>
 M.bind (oS (some v19) fun a=>oS (some v20) fun b=>Cm E 68 false a b) fun v21=>
 M.bind (oS (some v21) fun a=>kNil a) fun v22=>
 M.bind (oS (some v22) fun a=>kFld E 79 a 1) fun v23=>
 M.bind (oS (some v23) fun a=>A1 E 26 a) fun v24=>
 M.bind (oS (seqO [(some v24)]) fun l=>A6 E .len [26] l) fun v25=>
 mv (some v25) fun v4=>
 setF 4 v4 tm fun tm1=>
 M.pure tm1
theorem FT_:RegEq 30 26 JS Lb U2:=⟨by kernel_rfl,fun _ _ _ _ _ _ _ _ _=>by kernel_rfl⟩
theorem NY_: ∃k,N8= .code .ret::k:=⟨N8.tail,by kernel_rfl⟩
def MG:Nat:=Bh Try.f34
def Vp:Code:=Try.f34.body.getD .skip
theorem YW:envS.fn.get 34=some Try.f34:=by kernel_rfl
theorem Cc_ {a0:Value}{n:Nat}{s:St}{Q:Value→St→Prop}(h: ∀tm,T.get tm 0=some a0→W (runF envS n ⟨34,13,MG,tm,[.code Vp], .run, .normal,none⟩) (s.cxN cxN) fun p s1=>Q p.1 (s1.cxN s.cx)):W (Av envS (runF envS n) 34 [a0]) s Q:=
 W.call (by kernel_rfl) (by kernel_rfl) YW (by kernel_rfl) rfl rfl (by simp) (h _ (by kernel_rfl))
theorem Py_:Try.f34.results.toList=[.tmp 2]:=by kernel_rfl
def O6:List Item:=skim 64 [.code Vp]
def Ii:List Item:=skim 64 O6.tail
theorem PS_:skim 64 O6.tail=Ii:=by kernel_rfl
def Oq:List Item:=skim 64 Ii.tail
theorem MJ_:skim 64 Ii.tail=Oq:=by kernel_rfl
def Ue (E:Env)(call round:Ac)(tm:T Value):M (T Value):=
 mv (some (.bool false)) fun v2=>
 setF 2 v2 tm fun tm1=>
 M.pure tm1
theorem DX_:RegEq 34 13 MG O6 Ue:=⟨by kernel_rfl,fun _ _ _ _ _ _ _ _ _=>by kernel_rfl⟩
def R6 (E:Env)(call round:Ac)(tm:T Value):M (T Value):=
 mv (T.get tm 0) fun v3=>
 M.bind (M.on (some (.func (.func 40) #[] #[])) fun f=>M.on (seqO [(some v3)]) fun l=>A5 call round f l) fun v4=>
 M.bind (oS (some v4) fun a=>kUn E.P .not a) fun v5=>
 mv (some v5) fun v6=>
 M.bind (M.chk (isK v6) (M.if (isB v6 true) (oS (T.get tm 0) fun a=>M.pure a) (M.pure undef))) fun v7=>
 M.bind (M.chk (isK v6) (M.if (isB v6 true) (oS (some v7) fun a=>kNil a) (M.pure undef))) fun v8=>
 M.bind (M.chk (isK v6) (M.if (isB v6 true) (oS (some v8) fun a=>kFld E 75 a 6) (M.pure undef))) fun v9=>
 M.bind (M.chk (isK v6) (M.if (isB v6 true) (oS (some v9) fun a=>A1 E 4 a) (M.pure undef))) fun v10=>
 M.bind (M.chk (isK v6) (M.if (isB v6 true) (oS (some v10) fun a=>kUn E.P .not a) (M.pure undef))) fun v11=>
 M.bind (M.on (some v6) fun a=>M.on (some v11) fun b=>M.on (some (.bool false)) fun c=>Bl a b c) fun v12=>
 mv (some v12) fun v2=>
 setF 2 v2 tm fun tm1=>
 M.pure tm1
theorem EA_:RegEq 34 13 MG Ii R6:=⟨by kernel_rfl,fun _ _ _ _ _ _ _ _ _=>by kernel_rfl⟩
theorem DK_: ∃k,Oq= .code .ret::k:=⟨Oq.tail,by kernel_rfl⟩
def Fd:Nat:=Bh Try.f33
def U6:Code:=Try.f33.body.getD .skip
theorem UT:envS.fn.get 33=some Try.f33:=by kernel_rfl
theorem Co_ {a0 a1:Value}{n:Nat}{s:St}{Q:Value→St→Prop}(h: ∀tm,T.get tm 0=some a0→T.get tm 1=some a1→W (runF envS n ⟨33,18,Fd,tm,[.code U6], .run, .normal,none⟩) (s.cxN cxN) fun p s1=>Q p.1 (s1.cxN s.cx)):W (Av envS (runF envS n) 33 [a0,a1]) s Q:=
 W.call (by kernel_rfl) (by kernel_rfl) UT (by kernel_rfl) rfl rfl (by simp) (h _ (by kernel_rfl) (by kernel_rfl))
theorem NU_:Try.f33.results.toList=[.tmp 4]:=by kernel_rfl
def PR:List Item:=skim 64 [.code U6]
def Ks:List Item:=skim 64 PR.tail
theorem Zf:skim 64 PR.tail=Ks:=by kernel_rfl
def JY:List Item:=skim 64 Ks.tail
theorem Kq_:skim 64 Ks.tail=JY:=by kernel_rfl
def Jj:List Item:=skim 64 (brF JY)
theorem Fo_:skim 64 (brF JY)=Jj:=by kernel_rfl
def Lv:List Item:=skim 64 Jj.tail
theorem QD_:skim 64 Jj.tail=Lv:=by kernel_rfl
def Jp:List Item:=skim 64 (brF Lv)
theorem KG_:skim 64 (brF Lv)=Jp:=by kernel_rfl
def JK:List Item:=skim 64 Jp.tail
theorem DQ_:skim 64 Jp.tail=JK:=by kernel_rfl
def OC:List Item:=skim 64 JK.tail
theorem Dm_:skim 64 JK.tail=OC:=by kernel_rfl
def X2 (E:Env)(call round:Ac)(tm:T Value):M (T Value):=
 mv (some (.int .i64 0)) fun v4=>
 setF 4 v4 tm fun tm1=>
 M.pure tm1
theorem At_:RegEq 33 18 Fd PR X2:=⟨by kernel_rfl,fun _ _ _ _ _ _ _ _ _=>by kernel_rfl⟩
def RZ (E:Env)(call round:Ac)(tm:T Value):M (T Value):=
 mv (T.get tm 0) fun v6=>
 M.bind (M.on (some (.func (.func 40) #[] #[])) fun f=>M.on (seqO [(some v6)]) fun l=>A5 call round f l) fun v7=>
 mv (some v7) fun v5=>
 setF 5 v5 tm fun tm1=>
 M.pure tm1
theorem Zb:RegEq 33 18 Fd Ks RZ:=⟨by kernel_rfl,fun _ _ _ _ _ _ _ _ _=>by kernel_rfl⟩
theorem Zq:Bc JY=some 5:=by kernel_rfl
def YR (E:Env)(call round:Ac)(tm:T Value):M (T Value):=
 mv (T.get tm 1) fun v9=>
 M.bind (oS (some v9) fun a=>oS (some (.int .i64 0)) fun b=>Cl.get (aBin E .lss 3 (.tmp 9) (.const (.int .i64 0))) a b) fun v10=>
 mv (some v10) fun v8=>
 setF 8 v8 tm fun tm1=>
 M.pure tm1
theorem Fv_:RegEq 33 18 Fd Jj YR:=⟨by kernel_rfl,fun _ _ _ _ _ _ _ _ _=>by kernel_rfl⟩
theorem BW_:Bc Lv=some 8:=by kernel_rfl
def TQ (E:Env)(call round:Ac)(tm:T Value):M (T Value):=
 mv (T.get tm 0) fun v11=>
 mv (T.get tm 0) fun v12=>
 mv (T.get tm 1) fun v13=>
 M.bind (oS (some v11) fun a=>kNil a) fun v14=>
 M.bind (oS (some v14) fun a=>kFld E 75 a 4) fun v15=>
 M.bind (oS (some v15) fun a=>oS (some (.bool true)) fun b=>BC E 4 a b) fun _=>
 M.bind (oS (some v12) fun a=>kNil a) fun v16=>
 M.bind (oS (some v16) fun a=>kFld E 75 a 5) fun v17=>
 M.bind (oS (some v17) fun a=>oS (some v13) fun b=>BC E 3 a b) fun _=>
 M.pure tm
theorem GN_:RegEq 33 18 Fd Jp TQ:=⟨by kernel_rfl,fun _ _ _ _ _ _ _ _ _=>by kernel_rfl⟩
def Te (E:Env)(call round:Ac)(tm:T Value):M (T Value):=
 mv (some (.int .i64 0)) fun v4=>
 setF 4 v4 tm fun tm1=>
 M.pure tm1
theorem Bi_:RegEq 33 18 Fd JK Te:=⟨by kernel_rfl,fun _ _ _ _ _ _ _ _ _=>by kernel_rfl⟩
theorem KX_: ∃k,OC= .code .ret::k:=⟨OC.tail,by kernel_rfl⟩
def BM:Nat:=Bh Try.f18
abbrev HO:Nat:=73
def QR:Code:=Try.f18.body.getD .skip
theorem Rb:envS.fn.get 18=some Try.f18:=by kernel_rfl
theorem RN_ {a0 a1:Value}{n:Nat}{s:St}{Q:Value→St→Prop}(h: ∀tm,T.get tm 0=some a0→T.get tm 1=some a1→W (runF envS n ⟨18,73,BM,tm,[.code QR], .run, .normal,none⟩) (s.cxN cxN) fun p s1=>Q p.1 (s1.cxN s.cx)):W (Av envS (runF envS n) 18 [a0,a1]) s Q:=
 W.call (by kernel_rfl) (by kernel_rfl) Rb (by kernel_rfl) rfl rfl (by simp) (h _ (by kernel_rfl) (by kernel_rfl))
theorem DA_:Try.f18.results.toList=[.tmp 4]:=by kernel_rfl
def NX:List Item:=skim 64 [.code QR]
def KZ:List Item:=skim 64 NX.tail
theorem LK_:skim 64 NX.tail=KZ:=by kernel_rfl
def Le:List Item:=skim 64 KZ.tail
theorem EG_:skim 64 KZ.tail=Le:=by kernel_rfl
def J9:List Item:=skim 64 (brF Le)
theorem KT_:skim 64 (brF Le)=J9:=by kernel_rfl
def FE:List Item:=skim 64 J9.tail
theorem BT_:skim 64 J9.tail=FE:=by kernel_rfl
def FC:List Item:=skim 64 FE.tail
theorem Q8:skim 64 FE.tail=FC:=by kernel_rfl
def Jo:List Item:=skim 64 (brT FC)
theorem OU_:skim 64 (brT FC)=Jo:=by kernel_rfl
def HB:List Item:=skim 64 (brF FC)
theorem Ny_:skim 64 (brF FC)=HB:=by kernel_rfl
def JA:List Item:=skim 64 Jo.tail
theorem Ao_:skim 64 Jo.tail=JA:=by kernel_rfl
def K2:List Item:=skim 64 HB.tail
theorem Eo_:skim 64 HB.tail=K2:=by kernel_rfl
def KO:List Item:=skim 64 JA.tail
theorem Kf_:skim 64 JA.tail=KO:=by kernel_rfl
def MO:List Item:=skim 64 K2.tail
theorem IQ_:skim 64 K2.tail=MO:=by kernel_rfl
def Ff:List Item:=skim 64 KO.tail
theorem Rm:skim 64 KO.tail=Ff:=by kernel_rfl
def IG:List Item:=skim 64 (brT Ff)
theorem Bb_:skim 64 (brT Ff)=IG:=by kernel_rfl
def D5:List Item:=skim 64 (brF Ff)
theorem PW_:skim 64 (brF Ff)=D5:=by kernel_rfl
def OG:List Item:=skim 64 IG.tail
theorem Nc_:skim 64 IG.tail=OG:=by kernel_rfl
def KS:List Item:=skim 64 D5.tail
theorem DC_:skim 64 D5.tail=KS:=by kernel_rfl
theorem BY_:skim 64 OG.tail=D5:=by kernel_rfl
theorem HP_:skim 64 KS.tail=FE:=by kernel_rfl
def TW (E:Env)(call round:Ac)(tm:T Value):M (T Value):=
 mv (some (.int .i64 0)) fun v4=>
 setF 4 v4 tm fun tm1=>
 M.pure tm1
theorem Kt_:RegEq 18 73 BM NX TW:=⟨by kernel_rfl,fun _ _ _ _ _ _ _ _ _=>by kernel_rfl⟩
def Sq (E:Env)(call round:Ac)(tm:T Value):M (T Value):=
 mv (T.get tm 0) fun v10=>
 M.bind (M.on (some (.func (.func 40) #[] #[])) fun f=>M.on (seqO [(some v10)]) fun l=>A5 call round f l) fun v11=>
 setF 11 v11 tm fun tm1=>
 M.pure tm1
theorem Ke_:RegEq 18 73 BM KZ Sq:=⟨by kernel_rfl,fun _ _ _ _ _ _ _ _ _=>by kernel_rfl⟩
theorem CY_:Bc Le=some 11:=by kernel_rfl
def YL (E:Env)(call round:Ac)(tm:T Value):M (T Value):=
 mv (T.get tm 0) fun v12=>
 M.bind (M.on (some (.func (.func 11) #[] #[])) fun f=>M.on (seqO [(some v12),(some (.string {data:= #[]}))]) fun l=>A5 call round f l) fun v13=>
 setF 13 v13 tm fun tm1=>
 M.bind (oS (seqO [(some v13)]) fun l=>A6 E .len [30] l) fun v14=>
 setF 14 v14 tm1 fun tm2=>
 mv (some (.int .i64 0)) fun v15=>
 setF 15 v15 tm2 fun tm3=>
 M.pure tm3
theorem HR_:RegEq 18 73 BM J9 YL:=⟨by kernel_rfl,fun _ _ _ _ _ _ _ _ _=>by kernel_rfl⟩
def OS (E:Env)(call round:Ac)(tm:T Value):M (T Value):=
 M.bind (oS (T.get tm 15) fun a=>oS (T.get tm 14) fun b=>Cl.get (aBin E .lss 3 (.tmp 15) (.tmp 14)) a b) fun v16=>
 setF 16 v16 tm fun tm1=>
 M.pure tm1
theorem Wt:RegEq 18 73 BM FE OS:=⟨by kernel_rfl,fun _ _ _ _ _ _ _ _ _=>by kernel_rfl⟩
theorem SN:Bc FC=some 16:=by kernel_rfl
def X1 (E:Env)(call round:Ac)(tm:T Value):M (T Value):=
 mv (T.get tm 15) fun v17=>
 M.bind (oS (T.get tm 13) fun a=>oS (T.get tm 15) fun b=>BN E 30 a b) fun v18=>
 M.bind (oS (some v18) fun a=>A1 E 9 a) fun v19=>
 mv (some v17) fun v5=>
 setF 5 v5 tm fun tm1=>
 mv (some v19) fun v6=>
 setF 6 v6 tm1 fun tm2=>
 M.pure tm2
theorem IF_:RegEq 18 73 BM Jo X1:=⟨by kernel_rfl,fun _ _ _ _ _ _ _ _ _=>by kernel_rfl⟩
def QB (E:Env)(call round:Ac)(tm:T Value):M (T Value):=
 mv (T.get tm 0) fun v64=>
 mv (T.get tm 0) fun v65=>
 mv (T.get tm 0) fun v66=>
 M.bind (oS (some v64) fun a=>kNil a) fun v67=>
 M.bind (oS (some v67) fun a=>kFld E 75 a 6) fun v68=>
 M.bind (oS (some v68) fun a=>oS (some (.bool false)) fun b=>BC E 4 a b) fun _=>
 M.bind (oS (some v65) fun a=>kNil a) fun v69=>
 M.bind (oS (some v69) fun a=>kFld E 75 a 4) fun v70=>
 M.bind (oS (some v70) fun a=>oS (some (.bool false)) fun b=>BC E 4 a b) fun _=>
 M.bind (oS (some v66) fun a=>kNil a) fun v71=>
 M.bind (oS (some v71) fun a=>kFld E 75 a 5) fun v72=>
 M.bind (oS (some v72) fun a=>oS (some (.int .i64 0)) fun b=>BC E 3 a b) fun _=>
 M.pure tm
theorem Ep_:RegEq 18 73 BM HB QB:=⟨by kernel_rfl,fun _ _ _ _ _ _ _ _ _=>by kernel_rfl⟩
def XC (E:Env)(call round:Ac)(tm:T Value):M (T Value):=
 mv (T.get tm 0) fun v20=>
 M.bind (oS (some v20) fun a=>kNil a) fun v21=>
 M.bind (oS (some v21) fun a=>kFld E 75 a 1) fun v22=>
 M.bind (oS (some v22) fun a=>A1 E 68 a) fun v23=>
 mv (T.get tm 6) fun v24=>
 M.bind (oS (some v23) fun a=>oS (some v24) fun b=>Cm E 68 false a b) fun v25=>
 mv (some v25) fun v7=>
 setF 7 v7 tm fun tm1=>
 mv (some (.int .i64 0)) fun v8=>
 setF 8 v8 tm1 fun tm2=>
 M.pure tm2
theorem Oc_:RegEq 18 73 BM JA XC:=⟨by kernel_rfl,fun _ _ _ _ _ _ _ _ _=>by kernel_rfl⟩
def Uq (E:Env)(call round:Ac)(tm:T Value):M (T Value):=
 mv (some (.int .i64 0)) fun v4=>
 setF 4 v4 tm fun tm1=>
 M.pure tm1
theorem LH_:RegEq 18 73 BM K2 Uq:=⟨by kernel_rfl,fun _ _ _ _ _ _ _ _ _=>by kernel_rfl⟩
def YS (E:Env)(call round:Ac)(tm:T Value):M (T Value):=
 mv (T.get tm 5) fun v26=>
 mv (T.get tm 1) fun v27=>
 M.bind (oS (seqO [(some v27)]) fun l=>A6 E .len [49] l) fun v28=>
 M.bind (oS (some v26) fun a=>oS (some v28) fun b=>Cl.get (aBin E .lss 3 (.tmp 26) (.tmp 28)) a b) fun v29=>
 setF 29 v29 tm fun tm1=>
 M.pure tm1
theorem Ot_:RegEq 18 73 BM KO YS:=⟨by kernel_rfl,fun _ _ _ _ _ _ _ _ _=>by kernel_rfl⟩
theorem DM_: ∃k,MO= .code .ret::k:=⟨MO.tail,by kernel_rfl⟩
theorem Yu:Bc Ff=some 29:=by kernel_rfl
def Up (E:Env)(call round:Ac)(tm:T Value):M (T Value):=
 mv (T.get tm 7) fun v30=>
 M.bind (oS (some v30) fun a=>kNil a) fun v31=>
 M.bind (oS (some v31) fun a=>kFld E 79 a 1) fun v32=>
 M.bind (oS (some v32) fun a=>A1 E 26 a) fun v33=>
 M.bind (oS (seqO [(some v33)]) fun l=>A6 E .len [26] l) fun v34=>
 M.bind (oS (some v34) fun a=>oS (some (.int .i64 1)) fun b=>Cl.get (aBin E .add 3 (.tmp 34) (.const (.int .i64 1))) a b) fun v35=>
 mv (some v35) fun v9=>
 setF 9 v9 tm fun tm1=>
 M.pure tm1
theorem HX_:RegEq 18 73 BM IG Up:=⟨by kernel_rfl,fun _ _ _ _ _ _ _ _ _=>by kernel_rfl⟩
def QZ (E:Env)(call round:Ac)(tm:T Value):M ((Rho×T Value)×List OpLog):=
 M.bind (apartO (oS (T.get tm 7) fun a=>M.pure a)) fun p0=>
 M.bind (apartO (oS (T.get tm 7) fun a=>M.pure a)) fun p1=>
 M.bind (apartO (oS (T.get tm 7) fun a=>M.pure a)) fun p2=>
 M.bind (apartO (oS (some p2.1) fun a=>kNil a)) fun p3=>
 M.bind (apartO (oS (some p3.1) fun a=>kFld E 79 a 0)) fun p4=>
 M.bind (apartO (oS (some p4.1) fun a=>A1 E 26 a)) fun p5=>
 M.bind (apartO (oS (T.get tm 7) fun a=>M.pure a)) fun p6=>
 M.bind (apartO (oS (some p6.1) fun a=>kNil a)) fun p7=>
 M.bind (apartO (oS (some p7.1) fun a=>kFld E 79 a 1)) fun p8=>
 M.bind (apartO (oS (some p8.1) fun a=>A1 E 26 a)) fun p9=>
 M.bind (apartO (oS (T.get tm 8) fun a=>M.pure a)) fun p10=>
 M.bind (apartO (M.on (some p9.1) fun a=>M.on (some none) fun b=>M.on (onO (some p10.1) fun v=>some (some v)) fun c=>BR E 26 a b c)) fun p11=>
 M.bind (apartO (oS (seqO [(some p5.1),(some p11.1)]) fun l=>A6 E .append [26,26] l)) fun p12=>
 M.bind (apartO (oS (some p0.1) fun a=>kNil a)) fun p13=>
 M.bind (apartO (oS (some p13.1) fun a=>kFld E 79 a 0)) fun p14=>
 M.bind (apartO (oS (some p14.1) fun a=>oS (some p12.1) fun b=>BC E 26 a b)) fun p15=>
 M.bind (apartO (oS (some p1.1) fun a=>kNil a)) fun p16=>
 M.bind (apartO (oS (some p16.1) fun a=>kFld E 79 a 1)) fun p17=>
 M.pure (([p17.1,p16.1,p14.1,p13.1,p12.1,p11.1,p10.1,p9.1,p8.1,p7.1,p6.1,p5.1,p4.1,p3.1,p2.1,p1.1,p0.1],tm),[p17.2,p16.2,p15.2,p14.2,p13.2,p12.2,p11.2,p10.2,p9.2,p8.2,p7.2,p6.2,p5.2,p4.2,p3.2,p2.2,p1.2,p0.2])
theorem EL_:DrawEq 18 73 BM D5 [0,0,0,4,12,28,0,64,192,448,0,1984,4092,8189,16381,32765,65535,131071,262143] QZ:=⟨by kernel_rfl,by kernel_rfl,fun _ _ _ _ _ _ _ _ _=>by kernel_rfl⟩
theorem Bx_ (E:Env)(call round:Ac)(x46 x47 x48 x49 x50 x51 x52 x53 x54 x55 x56 x57 x58 x59 x60 x61 x62:Value)(tm:T Value)(s:St):BF call round (CH E BM 73 (hdC D5)) [x62,x61,x60,x59,x58,x57,x56,x55,x54,x53,x52,x51,x50,x49,x48,x47,x46] tm s=(M.bind (oS (some x62) fun a=>oS (some (.slice none 0 0)) fun b=>BC E 26 a b) fun _=>M.pure tm) s:=by kernel_rfl
def Xi (E:Env)(call round:Ac)(tm:T Value):M (T Value):=
 mv (T.get tm 1) fun v36=>
 mv (T.get tm 5) fun v37=>
 M.bind (oS (some v36) fun a=>oS (some v37) fun b=>BN E 49 a b) fun v38=>
 M.bind (oS (some v38) fun a=>A1 E 3 a) fun v39=>
 mv (T.get tm 9) fun v40=>
 M.bind (oS (some v39) fun a=>oS (some v40) fun b=>Cl.get (aBin E .rem 3 (.tmp 39) (.tmp 40)) a b) fun v41=>
 mv (T.get tm 9) fun v42=>
 M.bind (oS (some v41) fun a=>oS (some v42) fun b=>Cl.get (aBin E .add 3 (.tmp 41) (.tmp 42)) a b) fun v43=>
 mv (T.get tm 9) fun v44=>
 M.bind (oS (some v43) fun a=>oS (some v44) fun b=>Cl.get (aBin E .rem 3 (.tmp 43) (.tmp 44)) a b) fun v45=>
 mv (some v45) fun v8=>
 setF 8 v8 tm fun tm1=>
 M.pure tm1
theorem ZR:RegEq 18 73 BM OG Xi:=⟨by kernel_rfl,fun _ _ _ _ _ _ _ _ _=>by kernel_rfl⟩
def Qn (E:Env)(call round:Ac)(tm:T Value):M (T Value):=
 M.bind (oS (T.get tm 15) fun a=>oS (some (.int .i64 1)) fun b=>Cl.get (aBin E .add 3 (.tmp 15) (.const (.int .i64 1))) a b) fun v63=>
 mv (some v63) fun v15=>
 setF 15 v15 tm fun tm1=>
 M.pure tm1
theorem AO_:RegEq 18 73 BM KS Qn:=⟨by kernel_rfl,fun _ _ _ _ _ _ _ _ _=>by kernel_rfl⟩
end Go.Proofs.Ytjfhmacppabehaa.Am
end
