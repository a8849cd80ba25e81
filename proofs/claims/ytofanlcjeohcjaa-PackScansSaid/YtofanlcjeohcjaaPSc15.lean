import Derived.Test.YtofanlcjeohcjaaPSc14
import Derived.Test.YtofanlcjeohcjaaPSc07
import Derived.KernelRfl
noncomputable section
namespace Go.Proofs.Ytofanlcjeohcjaa.Am
open Go.RowKit
def Ic:Nat:=Bm Try.f21
def RB:Code:=Try.f21.body.getD .skip
theorem IV:envS.fn.get 21=some Try.f21:=by kernel_rfl
theorem Lw_ {a0:Value}{n:Nat}{s:St}{Q:Value→St→Prop}(h: ∀tm,T.get tm 0=some a0→W (runF envS n ⟨21,11,Ic,tm,[.code RB], .run, .normal,none⟩) (s.cxN cxN) fun p s1=>Q p.1 (s1.cxN s.cx)):W (Ai envS (runF envS n) 21 [a0]) s Q:=
 W.call (by kernel_rfl) (by kernel_rfl) IV (by kernel_rfl) rfl rfl (by simp) (h _ (by kernel_rfl))
theorem NK:Try.f21.results.toList=[.tmp 2]:=by kernel_rfl
def AM_:List Item:=skim 64 [.code RB]
def VD:List Item:=skim 64 AM_.tail
def M8:List Item:=skim 64 VD.tail
def Gg_:List Item:=skim 64 (brT M8)
def ZI:List Item:=skim 64 (brF M8)
def Ei_:List Item:=skim 64 Gg_.tail
def FT_:List Item:=skim 64 ZI.tail
def Zn (E:Env)(call round:Ab)(tm:T Value):M (T Value):=
 mv (some (.int .i64 0)) fun v2=>
 setF 2 v2 tm fun tm1=>
 M.pure tm1
theorem Sm_:RegEq 21 11 Ic AM_ Zn:={}
def DL_ (E:Env)(call round:Ab)(tm:T Value):M (T Value):=
 mv (T.get tm 0) fun v3=>
 M.bind (oS (some v3) fun a=>oS (some (.int .i64 1)) fun b=>Cl.get (aBin E .lss 3 (.tmp 3) (.const (.int .i64 1))) a b) fun v4=>
 mv (some v4) fun v5=>
 M.bind (M.chk (isK v5) (M.if (isB v5 false) (oS (T.get tm 0) fun a=>M.pure a) (M.pure undef))) fun v6=>
 M.bind (M.chk (isK v5) (M.if (isB v5 false) (oS (some v6) fun a=>oS (some (.int .i64 1024)) fun b=>Cl.get (aBin E .gtr 3 (.tmp 6) (.const (.int .i64 1024))) a b) (M.pure undef))) fun v7=>
 M.bind (M.on (some v5) fun a=>M.on (some (.bool true)) fun b=>M.on (some v7) fun c=>BM a b c) fun v8=>
 setF 8 v8 tm fun tm1=>
 M.pure tm1
theorem La_:RegEq 21 11 Ic VD DL_:={}
theorem MC:A4 M8=some 8:=by kernel_rfl
def OP (E:Env)(call round:Ab)(tm:T Value):M (T Value):=
 mv (some (.int .i64 0)) fun v2=>
 setF 2 v2 tm fun tm1=>
 M.pure tm1
theorem Fg_:RegEq 21 11 Ic Gg_ OP:={}
def TQ (E:Env)(call round:Ab)(tm:T Value):M (T Value):=
 mv (T.get tm 0) fun v9=>
 M.bind (oS (some v9) fun a=>oS (some (.int .i64 26)) fun b=>Cl.get (aBin E .add 3 (.tmp 9) (.const (.int .i64 26))) a b) fun v10=>
 mv (some v10) fun v2=>
 setF 2 v2 tm fun tm1=>
 M.pure tm1
theorem Je_:RegEq 21 11 Ic ZI TQ:={}
theorem Xd: ∃k,Ei_= .code .ret::k:=⟨Ei_.tail,by kernel_rfl⟩
theorem Kt_: ∃k,FT_= .code .ret::k:=⟨FT_.tail,by kernel_rfl⟩
def Cs:Nat:=Bm Try.f25
abbrev DR_:Nat:=73
def By_:Code:=Try.f25.body.getD .skip
theorem GS:envS.fn.get 25=some Try.f25:=by kernel_rfl
theorem AaR_ {a0:Value}{n:Nat}{s:St}{Q:Value→St→Prop}(h: ∀tm,T.get tm 0=some a0→W (runF envS n ⟨25,73,Cs,tm,[.code By_], .run, .normal,none⟩) (s.cxN cxN) fun p s1=>Q p.1 (s1.cxN s.cx)):W (Ai envS (runF envS n) 25 [a0]) s Q:=
 W.call (by kernel_rfl) (by kernel_rfl) GS (by kernel_rfl) rfl rfl (by simp) (h _ (by kernel_rfl))
theorem Ih:Try.f25.results.toList=[.tmp 2, .tmp 3, .tmp 4, .tmp 5]:=by kernel_rfl
def Eu_:List Item:=skim 64 [.code By_]
def Ur:List Item:=skim 64 Eu_.tail
def Ui:List Item:=skim 64 Ur.tail
def JP:List Item:=skim 64 Ui.tail
def Nt:List Item:=skim 64 JP.tail
def ZD:List Item:=skim 64 (brT Nt)
def Am_:List Item:=skim 64 (brF Nt)
def YN:List Item:=skim 64 ZD.tail
def PA:List Item:=skim 64 Am_.tail
def QV:List Item:=skim 64 (brT PA)
def YL:List Item:=skim 64 (brF PA)
def Yu:List Item:=skim 64 QV.tail
def Bv_:List Item:=skim 64 YL.tail
def Pp:List Item:=skim 64 Bv_.tail
def Ti:List Item:=skim 64 (brT Pp)
def Th:List Item:=skim 64 (brF Pp)
def Fq_:List Item:=skim 64 Ti.tail
def LH:List Item:=skim 64 Th.tail
def Tu:List Item:=skim 64 (brT LH)
def Sp:List Item:=skim 64 (brF LH)
def Vb:List Item:=skim 64 Tu.tail
def RX:List Item:=skim 64 Sp.tail
def Mg:List Item:=skim 64 RX.tail
def TX:List Item:=skim 64 (brT Mg)
def FL_:List Item:=skim 64 (brF Mg)
def Je:List Item:=skim 64 TX.tail
theorem Kr_:skim 64 FL_.tail=Je:=by kernel_rfl
theorem Wy_:skim 64 Je.tail=JP:=by kernel_rfl
def Bi_ (E:Env)(call round:Ab)(tm:T Value):M (T Value):=
 mv (some (.slice none 0 0)) fun v2=>
 setF 2 v2 tm fun tm1=>
 mv (some (.int .i64 0)) fun v3=>
 setF 3 v3 tm1 fun tm2=>
 mv (some (.int .i64 0)) fun v4=>
 setF 4 v4 tm2 fun tm3=>
 mv (some (.int .i64 0)) fun v5=>
 setF 5 v5 tm3 fun tm4=>
 M.pure tm4
theorem LG_:RegEq 25 73 Cs Eu_ Bi_:={}
def U3 (E:Env)(call round:Ab)(tm:T Value):M (T Value):=
 mv (some (.slice none 0 0)) fun v6=>
 setF 6 v6 tm fun tm1=>
 M.pure tm1
theorem Sg_:RegEq 25 73 Cs Ur U3:={}
def XD (E:Env)(call round:Ab)(tm:T Value):M (T Value):=
 mv (some (.int .i64 0)) fun v7=>
 setF 7 v7 tm fun tm1=>
 mv (some (.int .i64 0)) fun v8=>
 setF 8 v8 tm1 fun tm2=>
 M.pure tm2
theorem Ll_:RegEq 25 73 Cs Ui XD:={}
def Qp (E:Env)(call round:Ab)(tm:T Value):M (T Value):=
 mv (T.get tm 7) fun v14=>
 mv (T.get tm 0) fun v15=>
 M.bind (oS (seqO [(some v15)]) fun l=>Az E .len [22] l) fun v16=>
 M.bind (oS (some v14) fun a=>oS (some v16) fun b=>Cl.get (aBin E .eql 3 (.tmp 14) (.tmp 16)) a b) fun v17=>
 setF 17 v17 tm fun tm1=>
 M.pure tm1
theorem CQ_:RegEq 25 73 Cs JP Qp:={}
theorem Pc:A4 Nt=some 17:=by kernel_rfl
def Mv (E:Env)(call round:Ab)(tm:T Value):M (T Value):=
 mv (T.get tm 6) fun v18=>
 mv (T.get tm 7) fun v19=>
 mv (T.get tm 8) fun v20=>
 mv (some v18) fun v2=>
 setF 2 v2 tm fun tm1=>
 mv (some v19) fun v3=>
 setF 3 v3 tm1 fun tm2=>
 mv (some v20) fun v4=>
 setF 4 v4 tm2 fun tm3=>
 mv (some (.int .i64 0)) fun v5=>
 setF 5 v5 tm3 fun tm4=>
 M.pure tm4
theorem AS_:RegEq 25 73 Cs ZD Mv:={}
def YS (E:Env)(call round:Ab)(tm:T Value):M (T Value):=
 mv (T.get tm 0) fun v21=>
 M.bind (oS (seqO [(some v21)]) fun l=>Az E .len [22] l) fun v22=>
 mv (T.get tm 7) fun v23=>
 M.bind (oS (some v22) fun a=>oS (some v23) fun b=>Cl.get (aBin E .sub 3 (.tmp 22) (.tmp 23)) a b) fun v24=>
 M.bind (oS (some v24) fun a=>oS (some (.int .i64 6)) fun b=>Cl.get (aBin E .lss 3 (.tmp 24) (.const (.int .i64 6))) a b) fun v25=>
 setF 25 v25 tm fun tm1=>
 M.pure tm1
theorem XV_:RegEq 25 73 Cs Am_ YS:={}
theorem Hl_: ∃k,YN= .code .ret::k:=⟨YN.tail,by kernel_rfl⟩
theorem Yt:A4 PA=some 25:=by kernel_rfl
def Se (E:Env)(call round:Ab)(tm:T Value):M (T Value):=
 mv (T.get tm 6) fun v26=>
 mv (T.get tm 7) fun v27=>
 mv (T.get tm 8) fun v28=>
 mv (some v26) fun v2=>
 setF 2 v2 tm fun tm1=>
 mv (some v27) fun v3=>
 setF 3 v3 tm1 fun tm2=>
 mv (some v28) fun v4=>
 setF 4 v4 tm2 fun tm3=>
 mv (some (.int .i64 1)) fun v5=>
 setF 5 v5 tm3 fun tm4=>
 M.pure tm4
theorem ZS_:RegEq 25 73 Cs QV Se:={}
def WB (E:Env)(call round:Ab)(tm:T Value):M (T Value):=
 mv (T.get tm 0) fun v30=>
 mv (T.get tm 7) fun v31=>
 M.bind (M.on (some (.func (.func 69) #[] #[])) fun f=>M.on (seqO [(some v30),(some v31)]) fun l=>AC call round f l) fun v32=>
 mv (some v32) fun v29=>
 M.bind (oS (some v29) fun a=>kExt 0 a) fun v33=>
 M.bind (oS (some v29) fun a=>kExt 1 a) fun v34=>
 mv (some v33) fun v9=>
 setF 9 v9 tm fun tm1=>
 mv (some v34) fun v10=>
 setF 10 v10 tm1 fun tm2=>
 M.pure tm2
theorem Jf_:RegEq 25 73 Cs YL WB:={}
theorem Qi_: ∃k,Yu= .code .ret::k:=⟨Yu.tail,by kernel_rfl⟩
def PZ (E:Env)(call round:Ab)(tm:T Value):M (T Value):=
 mv (T.get tm 10) fun v35=>
 M.bind (oS (some v35) fun a=>kUn E.P .not a) fun v36=>
 setF 36 v36 tm fun tm1=>
 M.pure tm1
theorem XG:RegEq 25 73 Cs Bv_ PZ:={}
theorem Gq_:A4 Pp=some 36:=by kernel_rfl
def UO (E:Env)(call round:Ab)(tm:T Value):M (T Value):=
 mv (T.get tm 6) fun v37=>
 mv (T.get tm 7) fun v38=>
 mv (T.get tm 8) fun v39=>
 mv (some v37) fun v2=>
 setF 2 v2 tm fun tm1=>
 mv (some v38) fun v3=>
 setF 3 v3 tm1 fun tm2=>
 mv (some v39) fun v4=>
 setF 4 v4 tm2 fun tm3=>
 mv (some (.int .i64 2)) fun v5=>
 setF 5 v5 tm3 fun tm4=>
 M.pure tm4
theorem AaP_:RegEq 25 73 Cs Ti UO:={}
def ZW (E:Env)(call round:Ab)(tm:T Value):M (T Value):=
 mv (T.get tm 0) fun v40=>
 M.bind (oS (seqO [(some v40)]) fun l=>Az E .len [22] l) fun v41=>
 mv (T.get tm 7) fun v42=>
 M.bind (oS (some v41) fun a=>oS (some v42) fun b=>Cl.get (aBin E .sub 3 (.tmp 41) (.tmp 42)) a b) fun v43=>
 mv (T.get tm 9) fun v44=>
 M.bind (M.on (some (.func (.func 21) #[] #[])) fun f=>M.on (seqO [(some v44)]) fun l=>AC call round f l) fun v45=>
 M.bind (oS (some v43) fun a=>oS (some v45) fun b=>Cl.get (aBin E .lss 3 (.tmp 43) (.tmp 45)) a b) fun v46=>
 setF 46 v46 tm fun tm1=>
 M.pure tm1
theorem KN_:RegEq 25 73 Cs Th ZW:={}
theorem Im_: ∃k,Fq_= .code .ret::k:=⟨Fq_.tail,by kernel_rfl⟩
theorem Tf:A4 LH=some 46:=by kernel_rfl
def GD_ (E:Env)(call round:Ab)(tm:T Value):M (T Value):=
 mv (T.get tm 6) fun v47=>
 mv (T.get tm 7) fun v48=>
 mv (T.get tm 8) fun v49=>
 mv (some v47) fun v2=>
 setF 2 v2 tm fun tm1=>
 mv (some v48) fun v3=>
 setF 3 v3 tm1 fun tm2=>
 mv (some v49) fun v4=>
 setF 4 v4 tm2 fun tm3=>
 mv (some (.int .i64 1)) fun v5=>
 setF 5 v5 tm3 fun tm4=>
 M.pure tm4
theorem QI_:RegEq 25 73 Cs Tu GD_:={}
def T9 (E:Env)(call round:Ab)(tm:T Value):M (T Value):=
 mv (T.get tm 0) fun v51=>
 mv (T.get tm 7) fun v52=>
 M.bind (oS (some v52) fun a=>oS (some (.int .i64 6)) fun b=>Cl.get (aBin E .add 3 (.tmp 52) (.const (.int .i64 6))) a b) fun v53=>
 mv (T.get tm 9) fun v54=>
 M.bind (M.on (some (.func (.func 70) #[] #[])) fun f=>M.on (seqO [(some v51),(some v53),(some v54)]) fun l=>AC call round f l) fun v55=>
 mv (some v55) fun v50=>
 M.bind (oS (some v50) fun a=>kExt 0 a) fun v56=>
 M.bind (oS (some v50) fun a=>kExt 1 a) fun v57=>
 M.bind (oS (some v50) fun a=>kExt 2 a) fun v58=>
 M.bind (Bt E 26) fun v11=>
 setF 11 v11 tm fun tm1=>
 M.bind (oS (some v11) fun a=>oS (some v56) fun b=>A7 E 26 a b) fun _=>
 mv (some v57) fun v12=>
 mv (some v58) fun v13=>
 setF 13 v13 tm1 fun tm2=>
 M.pure tm2
theorem Rb_:RegEq 25 73 Cs Sp T9:={}
theorem YP_: ∃k,Vb= .code .ret::k:=⟨Vb.tail,by kernel_rfl⟩
def Fa_ (E:Env)(call round:Ab)(tm:T Value):M (T Value):=
 mv (T.get tm 13) fun v59=>
 setF 59 v59 tm fun tm1=>
 M.pure tm1
theorem AbG_:RegEq 25 73 Cs RX Fa_:={}
theorem Ht_:A4 Mg=some 59:=by kernel_rfl
def Fl_ (E:Env)(call round:Ab)(tm:T Value):M (T Value):=
 mv (T.get tm 6) fun v60=>
 M.bind (oS (T.get tm 11) fun a=>Ak E 26 a) fun v61=>
 mv (T.get tm 7) fun v62=>
 mv (T.get tm 9) fun v63=>
 M.bind (oS (seqP [(0,(some v61)),(1,(some v62)),(2,(some v63))]) fun ps=>Cj E 35 ps) fun v64=>
 M.bind (oS (seqP [(0,(some v64))]) fun ps=>BZ E 36 1 ps) fun v65=>
 M.bind (oS (seqO [(some v60),(some v65)]) fun l=>Az E .append [36,36] l) fun v66=>
 mv (some v66) fun v6=>
 setF 6 v6 tm fun tm1=>
 M.pure tm1
theorem NG_:RegEq 25 73 Cs TX Fl_:={}
def Tj (E:Env)(call round:Ab)(tm:T Value):M (T Value):=
 mv (T.get tm 8) fun v67=>
 M.bind (oS (some v67) fun a=>oS (some (.int .i64 1)) fun b=>Cl.get (aBin E .add 3 (.tmp 67) (.const (.int .i64 1))) a b) fun v68=>
 mv (some v68) fun v8=>
 setF 8 v8 tm fun tm1=>
 M.pure tm1
theorem Ua_:RegEq 25 73 Cs FL_ Tj:={}
def Hc_ (E:Env)(call round:Ab)(tm:T Value):M (T Value):=
 mv (T.get tm 7) fun v69=>
 mv (T.get tm 9) fun v70=>
 M.bind (M.on (some (.func (.func 21) #[] #[])) fun f=>M.on (seqO [(some v70)]) fun l=>AC call round f l) fun v71=>
 M.bind (oS (some v69) fun a=>oS (some v71) fun b=>Cl.get (aBin E .add 3 (.tmp 69) (.tmp 71)) a b) fun v72=>
 mv (some v72) fun v7=>
 setF 7 v7 tm fun tm1=>
 M.pure tm1
theorem YO_:RegEq 25 73 Cs Je Hc_:={}
def C2:Nat:=Bm Try.f28
abbrev G9:Nat:=55
def DN_:Code:=Try.f28.body.getD .skip
theorem Kv:envS.fn.get 28=some Try.f28:=by kernel_rfl
theorem Wg_ {a0 a1:Value}{n:Nat}{s:St}{Q:Value→St→Prop}(h: ∀tm,T.get tm 0=some a0→T.get tm 1=some a1→W (runF envS n ⟨28,55,C2,tm,[.code DN_], .run, .normal,none⟩) (s.cxN cxN) fun p s1=>Q p.1 (s1.cxN s.cx)):W (Ai envS (runF envS n) 28 [a0,a1]) s Q:=
 W.call (by kernel_rfl) (by kernel_rfl) Kv (by kernel_rfl) rfl rfl (by simp) (h _ (by kernel_rfl) (by kernel_rfl))
theorem MW:Try.f28.results.toList=[.tmp 4, .tmp 5]:=by kernel_rfl
def Hw_:List Item:=skim 64 [.code DN_]
def Me:List Item:=skim 64 Hw_.tail
def IF:List Item:=skim 64 Me.tail
def KQ:List Item:=skim 64 IF.tail
def WW:List Item:=skim 64 (brT KQ)
def Mt:List Item:=skim 64 (brF KQ)
def ZO:List Item:=skim 64 WW.tail
def DM_:List Item:=skim 64 Mt.tail
def JE:List Item:=skim 64 DM_.tail
def XC:List Item:=skim 64 (brT JE)
def Tk:List Item:=skim 64 (brF JE)
def Fd_:List Item:=skim 64 XC.tail
def Tp:List Item:=skim 64 Tk.tail
def XZ (E:Env)(call round:Ab)(tm:T Value):M (T Value):=
 M.bind (oS (T.get tm 1) fun a=>kBox a) fun v3=>
 setF 3 v3 tm fun tm1=>
 mv (some (.slice none 0 0)) fun v4=>
 setF 4 v4 tm1 fun tm2=>
 mv (some (.int .i64 0)) fun v5=>
 setF 5 v5 tm2 fun tm3=>
 M.pure tm3
theorem OX_:RegEq 28 55 C2 Hw_ XZ:={}
def Vm (E:Env)(call round:Ab)(tm:T Value):M (T Value):=
 mv (T.get tm 0) fun v12=>
 M.bind (oS (T.get tm 3) fun a=>kFld E 35 a 1) fun v13=>
 M.bind (oS (some v13) fun a=>Ak E 3 a) fun v14=>
 M.bind (M.on (some (.func (.func 69) #[] #[])) fun f=>M.on (seqO [(some v12),(some v14)]) fun l=>AC call round f l) fun v15=>
 mv (some v15) fun v11=>
 M.bind (oS (some v11) fun a=>kExt 0 a) fun v16=>
 M.bind (oS (some v11) fun a=>kExt 1 a) fun v17=>
 mv (some v16) fun v6=>
 setF 6 v6 tm fun tm1=>
 mv (some v17) fun v7=>
 setF 7 v7 tm1 fun tm2=>
 M.pure tm2
theorem Pg_:RegEq 28 55 C2 Me Vm:={}
def Pl (E:Env)(call round:Ab)(tm:T Value):M ((Rho×T Value)×List OpLog):=
 M.bind (apartO (oS (T.get tm 7) fun a=>M.pure a)) fun p0=>
 M.bind (apartO (oS (some p0.1) fun a=>kUn E.P .not a)) fun p1=>
 M.bind (apartO (oS (some p1.1) fun a=>M.pure a)) fun p2=>
 M.bind (apartO (M.chk (isK p2.1) (M.if (isB p2.1 false) (oS (T.get tm 6) fun a=>M.pure a) (M.pure undef)))) fun p3=>
 M.bind (apartO (M.chk (isK p2.1) (M.if (isB p2.1 false) (oS (T.get tm 3) fun a=>kFld E 35 a 2) (M.pure undef)))) fun p4=>
 M.bind (apartO (M.chk (isK p2.1) (M.if (isB p2.1 false) (oS (some p4.1) fun a=>Ak E 3 a) (M.pure undef)))) fun p5=>
 M.bind (apartO (M.chk (isK p2.1) (M.if (isB p2.1 false) (oS (some p3.1) fun a=>oS (some p5.1) fun b=>Cl.get (aBin E .neq 3 (.tmp 21) (.tmp 23)) a b) (M.pure undef)))) fun p6=>
 M.bind (apartO (M.on (some p2.1) fun a=>M.on (some (.bool true)) fun b=>M.on (some p6.1) fun c=>BM a b c)) fun p7=>
 M.bind (apartO (oS (some p7.1) fun a=>M.pure a)) fun p8=>
 M.bind (apartO (M.chk (isK p8.1) (M.if (isB p8.1 false) (oS (T.get tm 0) fun a=>M.pure a) (M.pure undef)))) fun p9=>
 M.bind (apartO (M.chk (isK p8.1) (M.if (isB p8.1 false) (oS (seqO [(some p9.1)]) fun l=>Az E .len [22] l) (M.pure undef)))) fun p10=>
 M.bind (apartO (M.chk (isK p8.1) (M.if (isB p8.1 false) (oS (T.get tm 3) fun a=>kFld E 35 a 1) (M.pure undef)))) fun p11=>
 M.bind (apartO (M.chk (isK p8.1) (M.if (isB p8.1 false) (oS (some p11.1) fun a=>Ak E 3 a) (M.pure undef)))) fun p12=>
 M.bind (apartO (M.chk (isK p8.1) (M.if (isB p8.1 false) (oS (some p10.1) fun a=>oS (some p12.1) fun b=>Cl.get (aBin E .sub 3 (.tmp 28) (.tmp 30)) a b) (M.pure undef)))) fun p13=>
 M.bind (apartO (M.chk (isK p8.1) (M.if (isB p8.1 false) (oS (T.get tm 6) fun a=>M.pure a) (M.pure undef)))) fun p14=>
 M.bind (apartO (M.chk (isK p8.1) (M.if (isB p8.1 false) (M.on (some (.func (.func 21) #[] #[])) fun f=>M.on (seqO [(some p14.1)]) fun l=>AC call round f l) (M.pure undef)))) fun p15=>
 M.bind (apartO (M.chk (isK p8.1) (M.if (isB p8.1 false) (oS (some p13.1) fun a=>oS (some p15.1) fun b=>Cl.get (aBin E .lss 3 (.tmp 31) (.tmp 33)) a b) (M.pure undef)))) fun p16=>
 M.pure (([p16.1,p15.1,p14.1,p13.1,p12.1,p11.1,p10.1,p9.1,p8.1,p7.1,p6.1,p5.1,p4.1,p3.1,p2.1,p1.1,p0.1],tm),[p16.2,p15.2,p14.2,p13.2,p12.2,p11.2,p10.2,p9.2,p8.2,p7.2,p6.2,p5.2,p4.2,p3.2,p2.2,p1.2,p0.2])
theorem Wb_:DrawEq 28 55 C2 IF [0,1,3,7,7,23,63,127,255,511,1023,511,2559,8191,511,16895,65535,131071] Pl:={}
theorem OZ (E:Env)(call round:Ab)(x18 x19 x20 x21 x22 x23 x24 x25 x26 x27 x28 x29 x30 x31 x32 x33 x34:Value)(tm:T Value)(s:St):Bw call round (BO E C2 55 (hdC IF)) [x34,x33,x32,x31,x30,x29,x28,x27,x26,x25,x24,x23,x22,x21,x20,x19,x18] tm s=(M.bind (M.on (some x26) fun a=>M.on (some (.bool true)) fun b=>M.on (some x34) fun c=>BM a b c) fun v35=>setT 35 v35 tm fun tm1=>M.pure tm1) s:=by kernel_rfl
theorem AI_:A4 KQ=some 35:=by kernel_rfl
def GI_ (E:Env)(call round:Ab)(tm:T Value):M (T Value):=
 mv (some (.slice none 0 0)) fun v4=>
 setF 4 v4 tm fun tm1=>
 mv (some (.int .i64 6)) fun v5=>
 setF 5 v5 tm1 fun tm2=>
 M.pure tm2
theorem Mv_:RegEq 28 55 C2 WW GI_:={}
def Yz (E:Env)(call round:Ab)(tm:T Value):M (T Value):=
 mv (T.get tm 0) fun v37=>
 M.bind (oS (T.get tm 3) fun a=>kFld E 35 a 1) fun v38=>
 M.bind (oS (some v38) fun a=>Ak E 3 a) fun v39=>
 M.bind (oS (some v39) fun a=>oS (some (.int .i64 6)) fun b=>Cl.get (aBin E .add 3 (.tmp 39) (.const (.int .i64 6))) a b) fun v40=>
 mv (T.get tm 6) fun v41=>
 M.bind (M.on (some (.func (.func 70) #[] #[])) fun f=>M.on (seqO [(some v37),(some v40),(some v41)]) fun l=>AC call round f l) fun v42=>
 mv (some v42) fun v36=>
 M.bind (oS (some v36) fun a=>kExt 0 a) fun v43=>
 M.bind (oS (some v36) fun a=>kExt 1 a) fun v44=>
 M.bind (oS (some v36) fun a=>kExt 2 a) fun v45=>
 M.bind (Bt E 26) fun v8=>
 setF 8 v8 tm fun tm1=>
 M.bind (oS (some v8) fun a=>oS (some v43) fun b=>A7 E 26 a b) fun _=>
 mv (some v44) fun v9=>
 setF 9 v9 tm1 fun tm2=>
 mv (some v45) fun v10=>
 setF 10 v10 tm2 fun tm3=>
 M.pure tm3
theorem Kf_:RegEq 28 55 C2 Mt Yz:={}
theorem NL_: ∃k,ZO= .code .ret::k:=⟨ZO.tail,by kernel_rfl⟩
def Qx (E:Env)(call round:Ab)(tm:T Value):M (T Value):=
 mv (T.get tm 10) fun v46=>
 M.bind (oS (some v46) fun a=>kUn E.P .not a) fun v47=>
 mv (some v47) fun v48=>
 M.bind (M.chk (isK v48) (M.if (isB v48 false) (oS (T.get tm 8) fun a=>Ak E 26 a) (M.pure undef))) fun v49=>
 M.bind (M.chk (isK v48) (M.if (isB v48 false) (oS (T.get tm 3) fun a=>kFld E 35 a 0) (M.pure undef))) fun v50=>
 M.bind (M.chk (isK v48) (M.if (isB v48 false) (oS (some v50) fun a=>Ak E 26 a) (M.pure undef))) fun v51=>
 M.bind (M.chk (isK v48) (M.if (isB v48 false) (oS (some v49) fun a=>oS (some v51) fun b=>Cl.get (aBin E .neq 26 (.tmp 49) (.tmp 51)) a b) (M.pure undef))) fun v52=>
 M.bind (M.on (some v48) fun a=>M.on (some (.bool true)) fun b=>M.on (some v52) fun c=>BM a b c) fun v53=>
 setF 53 v53 tm fun tm1=>
 M.pure tm1
theorem Pd_:RegEq 28 55 C2 DM_ Qx:={}
theorem Gr_:A4 JE=some 53:=by kernel_rfl
def VM (E:Env)(call round:Ab)(tm:T Value):M (T Value):=
 mv (some (.slice none 0 0)) fun v4=>
 setF 4 v4 tm fun tm1=>
 mv (some (.int .i64 11)) fun v5=>
 setF 5 v5 tm1 fun tm2=>
 M.pure tm2
theorem Kl_:RegEq 28 55 C2 XC VM:={}
def X4 (E:Env)(call round:Ab)(tm:T Value):M (T Value):=
 mv (T.get tm 9) fun v54=>
 mv (some v54) fun v4=>
 setF 4 v4 tm fun tm1=>
 mv (some (.int .i64 0)) fun v5=>
 setF 5 v5 tm1 fun tm2=>
 M.pure tm2
theorem AbH_:RegEq 28 55 C2 Tk X4:={}
theorem Yj_: ∃k,Fd_= .code .ret::k:=⟨Fd_.tail,by kernel_rfl⟩
theorem Wj_: ∃k,Tp= .code .ret::k:=⟨Tp.tail,by kernel_rfl⟩
def HQ:Nat:=Bm Try.f66
def Sw:Code:=Try.f66.body.getD .skip
theorem ZU:envS.fn.get 66=some Try.f66:=by kernel_rfl
theorem Abb_ {a0:Value}{n:Nat}{s:St}{Q:Value→St→Prop}(h: ∀tm,T.get tm 0=some a0→W (runF envS n ⟨66,30,HQ,tm,[.code Sw], .run, .normal,none⟩) (s.cxN cxN) fun p s1=>Q p.1 (s1.cxN s.cx)):W (Ai envS (runF envS n) 66 [a0]) s Q:=
 W.call (by kernel_rfl) (by kernel_rfl) ZU (by kernel_rfl) rfl rfl (by simp) (h _ (by kernel_rfl))
theorem Sy_:Try.f66.results.toList=[.tmp 2]:=by kernel_rfl
def ZB:List Item:=skim 64 [.code Sw]
def T6:List Item:=skim 64 ZB.tail
def TJ:List Item:=skim 64 T6.tail
def ZS:List Item:=skim 64 TJ.tail
def UJ:List Item:=skim 64 ZS.tail
def Rs (E:Env)(call round:Ab)(tm:T Value):M (T Value):=
 mv (some (.slice none 0 0)) fun v2=>
 setF 2 v2 tm fun tm1=>
 M.pure tm1
theorem QJ_:RegEq 66 30 HQ ZB Rs:={}
def Sk (E:Env)(call round:Ab)(tm:T Value):M (T Value):=
 mv (T.get tm 0) fun v5=>
 M.bind (oS (some v5) fun a=>oS (some (.int .i64 256)) fun b=>Cl.get (aBin E .quo 3 (.tmp 5) (.const (.int .i64 256))) a b) fun v6=>
 M.bind (oS (some v6) fun a=>Bc E 3 5 a) fun v7=>
 mv (T.get tm 0) fun v8=>
 M.bind (oS (some v8) fun a=>oS (some (.int .i64 256)) fun b=>Cl.get (aBin E .rem 3 (.tmp 8) (.const (.int .i64 256))) a b) fun v9=>
 M.bind (oS (some v9) fun a=>Bc E 3 5 a) fun v10=>
 mv (T.get tm 0) fun v11=>
 M.bind (oS (some v11) fun a=>oS (some (.int .i64 256)) fun b=>Cl.get (aBin E .quo 3 (.tmp 11) (.const (.int .i64 256))) a b) fun v12=>
 M.bind (oS (some (.int .i64 255)) fun a=>oS (some v12) fun b=>Cl.get (aBin E .sub 3 (.const (.int .i64 255)) (.tmp 12)) a b) fun v13=>
 M.bind (oS (some v13) fun a=>Bc E 3 5 a) fun v14=>
 mv (T.get tm 0) fun v15=>
 M.bind (oS (some v15) fun a=>oS (some (.int .i64 256)) fun b=>Cl.get (aBin E .rem 3 (.tmp 15) (.const (.int .i64 256))) a b) fun v16=>
 M.bind (oS (some (.int .i64 255)) fun a=>oS (some v16) fun b=>Cl.get (aBin E .sub 3 (.const (.int .i64 255)) (.tmp 16)) a b) fun v17=>
 M.bind (oS (some v17) fun a=>Bc E 3 5 a) fun v18=>
 M.bind (oS (seqP [(0,(some v7)),(1,(some v10)),(2,(some v14)),(3,(some v18))]) fun ps=>BZ E 22 4 ps) fun v19=>
 mv (some v19) fun v3=>
 setF 3 v3 tm fun tm1=>
 M.pure tm1
theorem Na_:RegEq 66 30 HQ T6 Sk:={}
def U5 (E:Env)(call round:Ab)(tm:T Value):M (T Value):=
 mv (T.get tm 3) fun v20=>
 M.bind (M.on (some (.func (.func 108) #[] #[])) fun f=>M.on (seqO [(some v20)]) fun l=>AC call round f l) fun v21=>
 mv (some v21) fun v4=>
 setF 4 v4 tm fun tm1=>
 M.pure tm1
theorem OV_:RegEq 66 30 HQ TJ U5:={}
def W9 (E:Env)(call round:Ab)(tm:T Value):M (T Value):=
 mv (T.get tm 3) fun v22=>
 mv (T.get tm 4) fun v23=>
 M.bind (oS (some v23) fun a=>Bc E 51 5 a) fun v24=>
 mv (T.get tm 4) fun v25=>
 M.bind (oS (some v25) fun a=>oS (some (.int .u64 8)) fun b=>Cl.get (aBin E .shr 51 (.tmp 25) (.const (.int .u64 8))) a b) fun v26=>
 M.bind (oS (some v26) fun a=>Bc E 51 5 a) fun v27=>
 M.bind (oS (seqP [(0,(some v24)),(1,(some v27))]) fun ps=>BZ E 22 2 ps) fun v28=>
 M.bind (oS (seqO [(some v22),(some v28)]) fun l=>Az E .append [22,22] l) fun v29=>
 mv (some v29) fun v2=>
 setF 2 v2 tm fun tm1=>
 M.pure tm1
theorem Acf_:RegEq 66 30 HQ ZS W9:={}
theorem Abs_: ∃k,UJ= .code .ret::k:=⟨UJ.tail,by kernel_rfl⟩
def Dx:Nat:=Bm Try.f69
abbrev RN:Nat:=45
def Ez_:Code:=Try.f69.body.getD .skip
theorem Ks:envS.fn.get 69=some Try.f69:=by kernel_rfl
theorem Tr {a0 a1:Value}{n:Nat}{s:St}{Q:Value→St→Prop}(h: ∀tm,T.get tm 0=some a0→T.get tm 1=some a1→W (runF envS n ⟨69,45,Dx,tm,[.code Ez_], .run, .normal,none⟩) (s.cxN cxN) fun p s1=>Q p.1 (s1.cxN s.cx)):W (Ai envS (runF envS n) 69 [a0,a1]) s Q:=
 W.call (by kernel_rfl) (by kernel_rfl) Ks (by kernel_rfl) rfl rfl (by simp) (h _ (by kernel_rfl) (by kernel_rfl))
theorem Lw:Try.f69.results.toList=[.tmp 4, .tmp 5]:=by kernel_rfl
def UZ:List Item:=skim 64 [.code Ez_]
def UU:List Item:=skim 64 UZ.tail
def LN:List Item:=skim 64 UU.tail
def Qd:List Item:=skim 64 (brT LN)
def Lp:List Item:=skim 64 (brF LN)
def Aj_:List Item:=skim 64 Qd.tail
def LQ:List Item:=skim 64 Lp.tail
def Nd:List Item:=skim 64 LQ.tail
def PC:List Item:=skim 64 (brT Nd)
def Bh_:List Item:=skim 64 (brF Nd)
def XW:List Item:=skim 64 PC.tail
def RI:List Item:=skim 64 Bh_.tail
def MK (E:Env)(call round:Ab)(tm:T Value):M (T Value):=
 mv (some (.int .i64 0)) fun v4=>
 setF 4 v4 tm fun tm1=>
 mv (some (.bool false)) fun v5=>
 setF 5 v5 tm1 fun tm2=>
 M.pure tm2
theorem Q2:RegEq 69 45 Dx UZ MK:={}
def Ll (E:Env)(call round:Ab)(tm:T Value):M (T Value):=
 mv (T.get tm 1) fun v7=>
 M.bind (oS (some v7) fun a=>oS (some (.int .i64 0)) fun b=>Cl.get (aBin E .lss 3 (.tmp 7) (.const (.int .i64 0))) a b) fun v8=>
 mv (some v8) fun v9=>
 M.bind (M.chk (isK v9) (M.if (isB v9 false) (oS (T.get tm 1) fun a=>M.pure a) (M.pure undef))) fun v10=>
 M.bind (M.chk (isK v9) (M.if (isB v9 false) (oS (T.get tm 0) fun a=>M.pure a) (M.pure undef))) fun v11=>
 M.bind (M.chk (isK v9) (M.if (isB v9 false) (oS (seqO [(some v11)]) fun l=>Az E .len [22] l) (M.pure undef))) fun v12=>
 M.bind (M.chk (isK v9) (M.if (isB v9 false) (oS (some v12) fun a=>oS (some (.int .i64 6)) fun b=>Cl.get (aBin E .sub 3 (.tmp 12) (.const (.int .i64 6))) a b) (M.pure undef))) fun v13=>
 M.bind (M.chk (isK v9) (M.if (isB v9 false) (oS (some v10) fun a=>oS (some v13) fun b=>Cl.get (aBin E .gtr 3 (.tmp 10) (.tmp 13)) a b) (M.pure undef))) fun v14=>
 M.bind (M.on (some v9) fun a=>M.on (some (.bool true)) fun b=>M.on (some v14) fun c=>BM a b c) fun v15=>
 setF 15 v15 tm fun tm1=>
 M.pure tm1
theorem Dr_:RegEq 69 45 Dx UU Ll:={}
theorem NV:A4 LN=some 15:=by kernel_rfl
def ER_ (E:Env)(call round:Ab)(tm:T Value):M (T Value):=
 mv (some (.int .i64 0)) fun v4=>
 setF 4 v4 tm fun tm1=>
 mv (some (.bool false)) fun v5=>
 setF 5 v5 tm1 fun tm2=>
 M.pure tm2
theorem UE_:RegEq 69 45 Dx Qd ER_:={}
def SB (E:Env)(call round:Ab)(tm:T Value):M ((Rho×T Value)×List OpLog):=
 M.bind (apartO (oS (T.get tm 0) fun a=>M.pure a)) fun p0=>
 M.bind (apartO (oS (T.get tm 1) fun a=>M.pure a)) fun p1=>
 M.bind (apartO (oS (some p0.1) fun a=>oS (some p1.1) fun b=>AH E 22 a b)) fun p2=>
 M.bind (apartO (oS (some p2.1) fun a=>Ak E 5 a)) fun p3=>
 M.bind (apartO (oS (some p3.1) fun a=>Bc E 5 3 a)) fun p4=>
 M.bind (apartO (oS (some (.int .i64 256)) fun a=>oS (some p4.1) fun b=>Cl.get (aBin E .mul 3 (.const (.int .i64 256)) (.tmp 20)) a b)) fun p5=>
 M.bind (apartO (oS (T.get tm 0) fun a=>M.pure a)) fun p6=>
 M.bind (apartO (oS (T.get tm 1) fun a=>M.pure a)) fun p7=>
 M.bind (apartO (oS (some p7.1) fun a=>oS (some (.int .i64 1)) fun b=>Cl.get (aBin E .add 3 (.tmp 23) (.const (.int .i64 1))) a b)) fun p8=>
 M.bind (apartO (oS (some p6.1) fun a=>oS (some p8.1) fun b=>AH E 22 a b)) fun p9=>
 M.bind (apartO (oS (some p9.1) fun a=>Ak E 5 a)) fun p10=>
 M.bind (apartO (oS (some p10.1) fun a=>Bc E 5 3 a)) fun p11=>
 M.bind (apartO (oS (some p5.1) fun a=>oS (some p11.1) fun b=>Cl.get (aBin E .add 3 (.tmp 21) (.tmp 27)) a b)) fun p12=>
 M.pure (([p12.1,p11.1,p10.1,p9.1,p8.1,p7.1,p6.1,p5.1,p4.1,p3.1,p2.1,p1.1,p0.1],tm),[p12.2,p11.2,p10.2,p9.2,p8.2,p7.2,p6.2,p5.2,p4.2,p3.2,p2.2,p1.2,p0.2])
theorem Rp_:DrawEq 69 45 Dx Lp [0,0,3,7,15,31,0,0,128,448,960,1984,4095,8191] SB:={}
theorem SU_ (E:Env)(call round:Ab)(x16 x17 x18 x19 x20 x21 x22 x23 x24 x25 x26 x27 x28:Value)(tm:T Value)(s:St):Bw call round (BO E Dx 45 (hdC Lp)) [x28,x27,x26,x25,x24,x23,x22,x21,x20,x19,x18,x17,x16] tm s=(M.bind (oS (some x28) fun a=>M.pure a) fun v6=>setT 6 v6 tm fun tm1=>M.pure tm1) s:=by kernel_rfl
theorem LD_: ∃k,Aj_= .code .ret::k:=⟨Aj_.tail,by kernel_rfl⟩
def Yx (E:Env)(call round:Ab)(tm:T Value):M ((Rho×T Value)×List OpLog):=
 M.bind (apartO (oS (T.get tm 6) fun a=>M.pure a)) fun p0=>
 M.bind (apartO (M.on (some (.func (.func 21) #[] #[])) fun f=>M.on (seqO [(some p0.1)]) fun l=>AC call round f l)) fun p1=>
 M.bind (apartO (oS (some p1.1) fun a=>oS (some (.int .i64 0)) fun b=>Cl.get (aBin E .eql 3 (.tmp 30) (.const (.int .i64 0))) a b)) fun p2=>
 M.bind (apartO (oS (some p2.1) fun a=>M.pure a)) fun p3=>
 M.bind (apartO (M.chk (isK p3.1) (M.if (isB p3.1 false) (oS (T.get tm 0) fun a=>M.pure a) (M.pure undef)))) fun p4=>
 M.bind (apartO (M.chk (isK p3.1) (M.if (isB p3.1 false) (oS (T.get tm 1) fun a=>M.pure a) (M.pure undef)))) fun p5=>
 M.bind (apartO (M.chk (isK p3.1) (M.if (isB p3.1 false) (oS (T.get tm 1) fun a=>M.pure a) (M.pure undef)))) fun p6=>
 M.bind (apartO (M.chk (isK p3.1) (M.if (isB p3.1 false) (oS (some p6.1) fun a=>oS (some (.int .i64 6)) fun b=>Cl.get (aBin E .add 3 (.tmp 35) (.const (.int .i64 6))) a b) (M.pure undef)))) fun p7=>
 M.bind (apartO (M.chk (isK p3.1) (M.if (isB p3.1 false) (M.on (some p4.1) fun a=>M.on (onO (some p5.1) fun v=>some (some v)) fun b=>M.on (onO (some p7.1) fun v=>some (some v)) fun c=>BB E 22 a b c) (M.pure undef)))) fun p8=>
 M.bind (apartO (M.chk (isK p3.1) (M.if (isB p3.1 false) (oS (some p8.1) fun a=>Bc E 22 9 a) (M.pure undef)))) fun p9=>
 M.bind (apartO (M.chk (isK p3.1) (M.if (isB p3.1 false) (oS (T.get tm 6) fun a=>M.pure a) (M.pure undef)))) fun p10=>
 M.bind (apartO (M.chk (isK p3.1) (M.if (isB p3.1 false) (M.on (some (.func (.func 66) #[] #[])) fun f=>M.on (seqO [(some p10.1)]) fun l=>AC call round f l) (M.pure undef)))) fun p11=>
 M.bind (apartO (M.chk (isK p3.1) (M.if (isB p3.1 false) (oS (some p11.1) fun a=>Bc E 22 9 a) (M.pure undef)))) fun p12=>
 M.bind (apartO (M.chk (isK p3.1) (M.if (isB p3.1 false) (oS (some p9.1) fun a=>oS (some p12.1) fun b=>Cl.get (aBin E .neq 9 (.tmp 38) (.tmp 41)) a b) (M.pure undef)))) fun p13=>
 M.pure (([p13.1,p12.1,p11.1,p10.1,p9.1,p8.1,p7.1,p6.1,p5.1,p4.1,p3.1,p2.1,p1.1,p0.1],tm),[p13.2,p12.2,p11.2,p10.2,p9.2,p8.2,p7.2,p6.2,p5.2,p4.2,p3.2,p2.2,p1.2,p0.2])
theorem TO_:DrawEq 69 45 Dx LQ [0,1,3,7,15,15,15,79,255,511,15,1039,3087,8191,16383] Yx:={}
theorem Sx (E:Env)(call round:Ab)(x29 x30 x31 x32 x33 x34 x35 x36 x37 x38 x39 x40 x41 x42:Value)(tm:T Value)(s:St):Bw call round (BO E Dx 45 (hdC LQ)) [x42,x41,x40,x39,x38,x37,x36,x35,x34,x33,x32,x31,x30,x29] tm s=(M.bind (M.on (some x32) fun a=>M.on (some (.bool true)) fun b=>M.on (some x42) fun c=>BM a b c) fun v43=>setT 43 v43 tm fun tm1=>M.pure tm1) s:=by kernel_rfl
theorem MY:A4 Nd=some 43:=by kernel_rfl
def Td (E:Env)(call round:Ab)(tm:T Value):M (T Value):=
 mv (some (.int .i64 0)) fun v4=>
 setF 4 v4 tm fun tm1=>
 mv (some (.bool false)) fun v5=>
 setF 5 v5 tm1 fun tm2=>
 M.pure tm2
theorem HG_:RegEq 69 45 Dx PC Td:={}
def CB_ (E:Env)(call round:Ab)(tm:T Value):M (T Value):=
 mv (T.get tm 6) fun v44=>
 mv (some v44) fun v4=>
 setF 4 v4 tm fun tm1=>
 mv (some (.bool true)) fun v5=>
 setF 5 v5 tm1 fun tm2=>
 M.pure tm2
theorem SW_:RegEq 69 45 Dx Bh_ CB_:={}
theorem SE_: ∃k,XW= .code .ret::k:=⟨XW.tail,by kernel_rfl⟩
theorem Nb_: ∃k,RI= .code .ret::k:=⟨RI.tail,by kernel_rfl⟩
def Da:Nat:=Bm Try.f70
abbrev UL:Nat:=45
def FE_:Code:=Try.f70.body.getD .skip
theorem MS:envS.fn.get 70=some Try.f70:=by kernel_rfl
theorem OQ_ {a0 a1 a2:Value}{n:Nat}{s:St}{Q:Value→St→Prop}(h: ∀tm,T.get tm 0=some a0→T.get tm 1=some a1→T.get tm 2=some a2→W (runF envS n ⟨70,45,Da,tm,[.code FE_], .run, .normal,none⟩) (s.cxN cxN) fun p s1=>Q p.1 (s1.cxN s.cx)):W (Ai envS (runF envS n) 70 [a0,a1,a2]) s Q:=
 W.call (by kernel_rfl) (by kernel_rfl) MS (by kernel_rfl) rfl rfl (by simp) (h _ (by kernel_rfl) (by kernel_rfl) (by kernel_rfl))
theorem Q5:Try.f70.results.toList=[.cell 6 26, .tmp 7, .tmp 8]:=by kernel_rfl
def UM:List Item:=skim 64 [.code FE_]
def SS:List Item:=skim 64 UM.tail
def Ft_:List Item:=skim 64 SS.tail
def QD:List Item:=skim 64 Ft_.tail
def P1:List Item:=skim 64 QD.tail
def Bl_:List Item:=skim 64 (brT P1)
def Vi:List Item:=skim 64 (brF P1)
def Wf:List Item:=skim 64 Bl_.tail
def J5:List Item:=skim 64 Vi.tail
def NP:List Item:=skim 64 J5.tail
def BO_:List Item:=skim 64 (brT NP)
def Kc:List Item:=skim 64 (brF NP)
def SR:List Item:=skim 64 BO_.tail
def Rf:List Item:=skim 64 Kc.tail
theorem TY_:skim 64 SR.tail=J5:=by kernel_rfl
def Fj_ (E:Env)(call round:Ab)(tm:T Value):M (T Value):=
 M.bind (Bt E 26) fun v6=>
 setF 6 v6 tm fun tm1=>
 mv (some (.slice none 0 0)) fun v7=>
 setF 7 v7 tm1 fun tm2=>
 mv (some (.bool false)) fun v8=>
 setF 8 v8 tm2 fun tm3=>
 M.pure tm3
theorem Pq_:RegEq 70 45 Da UM Fj_:={}
def Vw (E:Env)(call round:Ab)(tm:T Value):M (T Value):=
 M.bind (Bt E 26) fun v9=>
 setF 9 v9 tm fun tm1=>
 M.pure tm1
theorem UB_:RegEq 70 45 Da SS Vw:={}
def Wz (E:Env)(call round:Ab)(tm:T Value):M (T Value):=
 mv (T.get tm 0) fun v14=>
 mv (T.get tm 1) fun v15=>
 mv (T.get tm 1) fun v16=>
 mv (T.get tm 2) fun v17=>
 M.bind (oS (some v16) fun a=>oS (some v17) fun b=>Cl.get (aBin E .add 3 (.tmp 16) (.tmp 17)) a b) fun v18=>
 M.bind (oS (some v18) fun a=>oS (some (.int .i64 20)) fun b=>Cl.get (aBin E .add 3 (.tmp 18) (.const (.int .i64 20))) a b) fun v19=>
 M.bind (M.on (some v14) fun a=>M.on (onO (some v15) fun v=>some (some v)) fun b=>M.on (onO (some v19) fun v=>some (some v)) fun c=>BB E 22 a b c) fun v20=>
 M.bind (M.on (some (.func (.func 87) #[] #[])) fun f=>M.on (seqO [(some v20)]) fun l=>AC call round f l) fun v21=>
 mv (some v21) fun v13=>
 M.bind (oS (some v13) fun a=>kExt 0 a) fun v22=>
 M.bind (oS (some v13) fun a=>kExt 1 a) fun v23=>
 mv (some v22) fun v10=>
 setF 10 v10 tm fun tm1=>
 mv (some v23) fun v11=>
 setF 11 v11 tm1 fun tm2=>
 M.pure tm2
theorem KA_:RegEq 70 45 Da Ft_ Wz:={}
def LG (E:Env)(call round:Ab)(tm:T Value):M (T Value):=
 mv (T.get tm 11) fun v24=>
 M.bind (oS (some v24) fun a=>oS (some (.int .i64 0)) fun b=>Cl.get (aBin E .neq 27 (.tmp 24) (.const (.int .i64 0))) a b) fun v25=>
 setF 25 v25 tm fun tm1=>
 M.pure tm1
theorem R9:RegEq 70 45 Da QD LG:={}
theorem Dx_:A4 P1=some 25:=by kernel_rfl
def ED_ (E:Env)(call round:Ab)(tm:T Value):M (T Value):=
 M.bind (oS (T.get tm 9) fun a=>Ak E 26 a) fun v26=>
 M.bind (oS (T.get tm 6) fun a=>oS (some v26) fun b=>A7 E 26 a b) fun _=>
 mv (some (.slice none 0 0)) fun v7=>
 setF 7 v7 tm fun tm1=>
 mv (some (.bool false)) fun v8=>
 setF 8 v8 tm1 fun tm2=>
 M.pure tm2
theorem Nd_:RegEq 70 45 Da Bl_ ED_:={}
def YT (E:Env)(call round:Ab)(tm:T Value):M (T Value):=
 mv (some (.int .i64 0)) fun v12=>
 setF 12 v12 tm fun tm1=>
 M.pure tm1
theorem Tx_:RegEq 70 45 Da Vi YT:={}
theorem Pr_: ∃k,Wf= .code .ret::k:=⟨Wf.tail,by kernel_rfl⟩
def Ni (E:Env)(call round:Ab)(tm:T Value):M (T Value):=
 mv (T.get tm 12) fun v27=>
 M.bind (oS (some v27) fun a=>oS (some (.int .i64 16)) fun b=>Cl.get (aBin E .lss 3 (.tmp 27) (.const (.int .i64 16))) a b) fun v28=>
 setF 28 v28 tm fun tm1=>
 M.pure tm1
theorem AJ_:RegEq 70 45 Da J5 Ni:={}
theorem U6:A4 NP=some 28:=by kernel_rfl
def Wc (E:Env)(call round:Ab)(tm:T Value):M (T Value):=
 mv (T.get tm 12) fun v31=>
 mv (T.get tm 10) fun v32=>
 mv (T.get tm 12) fun v33=>
 M.bind (oS (some v32) fun a=>oS (some v33) fun b=>AH E 22 a b) fun v34=>
 M.bind (oS (some v34) fun a=>Ak E 5 a) fun v35=>
 M.bind (oS (T.get tm 9) fun a=>oS (some v31) fun b=>AH E 26 a b) fun v36=>
 M.bind (oS (some v36) fun a=>oS (some v35) fun b=>A7 E 5 a b) fun _=>
 M.pure tm
theorem PP_:RegEq 70 45 Da BO_ Wc:={}
def W5 (E:Env)(call round:Ab)(tm:T Value):M ((Rho×T Value)×List OpLog):=
 M.bind (apartO (oS (T.get tm 9) fun a=>Ak E 26 a)) fun p0=>
 M.bind (apartO (oS (T.get tm 10) fun a=>M.pure a)) fun p1=>
 M.bind (apartO (M.on (some p1.1) fun a=>M.on (onO (some (.int .i64 16)) fun v=>some (some v)) fun b=>M.on (some none) fun c=>BB E 22 a b c)) fun p2=>
 M.bind (apartO (oS (T.get tm 10) fun a=>M.pure a)) fun p3=>
 M.bind (apartO (M.on (some p3.1) fun a=>M.on (onO (some (.int .i64 16)) fun v=>some (some v)) fun b=>M.on (some none) fun c=>BB E 22 a b c)) fun p4=>
 M.bind (apartO (M.on (some (.func (.func 65) #[] #[])) fun f=>M.on (seqO [(some p4.1)]) fun l=>AC call round f l)) fun p5=>
 M.bind (apartO (oS (T.get tm 9) fun a=>Ak E 26 a)) fun p6=>
 M.bind (apartO (oS (some p5.1) fun a=>oS (some p6.1) fun b=>Cl.get (aBin E .eql 26 (.tmp 42) (.tmp 43)) a b)) fun p7=>
 M.bind (apartO (oS (T.get tm 6) fun a=>oS (some p0.1) fun b=>A7 E 26 a b)) fun p8=>
 M.bind (apartO (oS (some p2.1) fun a=>M.pure a)) fun p9=>
 setT 7 p9.1 tm fun tm1=>
 M.pure (([p9.1,p7.1,p6.1,p5.1,p4.1,p3.1,p2.1,p1.1,p0.1],tm1),[p9.2,p8.2,p7.2,p6.2,p5.2,p4.2,p3.2,p2.2,p1.2,p0.2])
theorem JB_:DrawEq 70 45 Da Kc [0,0,2,0,8,24,0,120,57,319,1023] W5:={}
theorem Qj_ (E:Env)(call round:Ab)(x37 x38 x39 x40 x41 x42 x43 x44 x7:Value)(tm:T Value)(s:St):Bw call round (BO E Da 45 (hdC Kc)) [x7,x44,x43,x42,x41,x40,x39,x38,x37] tm s=(M.bind (oS (some x44) fun a=>M.pure a) fun v8=>setT 8 v8 tm fun tm1=>M.pure tm1) s:=by kernel_rfl
def Gc_ (E:Env)(call round:Ab)(tm:T Value):M (T Value):=
 mv (T.get tm 12) fun v29=>
 M.bind (oS (some v29) fun a=>oS (some (.int .i64 1)) fun b=>Cl.get (aBin E .add 3 (.tmp 29) (.const (.int .i64 1))) a b) fun v30=>
 mv (some v30) fun v12=>
 setF 12 v12 tm fun tm1=>
 M.pure tm1
theorem IW_:RegEq 70 45 Da SR Gc_:={}
theorem Jt_: ∃k,Rf= .code .ret::k:=⟨Rf.tail,by kernel_rfl⟩
def IX:Nat:=Bm Try.f67
def Tz:Code:=Try.f67.body.getD .skip
theorem R7:envS.fn.get 67=some Try.f67:=by kernel_rfl
theorem Oc_ {a0:Value}{n:Nat}{s:St}{Q:Value→St→Prop}(h: ∀tm,T.get tm 0=some a0→W (runF envS n ⟨67,22,IX,tm,[.code Tz], .run, .normal,none⟩) (s.cxN cxN) fun p s1=>Q p.1 (s1.cxN s.cx)):W (Ai envS (runF envS n) 67 [a0]) s Q:=
 W.call (by kernel_rfl) (by kernel_rfl) R7 (by kernel_rfl) rfl rfl (by simp) (h _ (by kernel_rfl))
theorem St_:Try.f67.results.toList=[.tmp 2]:=by kernel_rfl
def Ug:List Item:=skim 64 [.code Tz]
def Cd_:List Item:=skim 64 Ug.tail
def Hh_:List Item:=skim 64 Cd_.tail
def WE:List Item:=skim 64 Hh_.tail
def Uk (E:Env)(call round:Ab)(tm:T Value):M (T Value):=
 mv (some (.slice none 0 0)) fun v2=>
 setF 2 v2 tm fun tm1=>
 M.pure tm1
theorem Sx_:RegEq 67 22 IX Ug Uk:={}
def S9 (E:Env)(call round:Ab)(tm:T Value):M (T Value):=
 mv (T.get tm 0) fun v4=>
 M.bind (M.on (some (.func (.func 108) #[] #[])) fun f=>M.on (seqO [(some v4)]) fun l=>AC call round f l) fun v5=>
 mv (some v5) fun v3=>
 setF 3 v3 tm fun tm1=>
 M.pure tm1
theorem WV_:RegEq 67 22 IX Cd_ S9:={}
def Y8 (E:Env)(call round:Ab)(tm:T Value):M (T Value):=
 M.bind (oS (seqP []) fun ps=>BZ E 22 0 ps) fun v6=>
 mv (T.get tm 0) fun v7=>
 M.bind (oS (seqO [(some v6),(some v7)]) fun l=>Az E .append [22,22] l) fun v8=>
 mv (T.get tm 3) fun v9=>
 M.bind (oS (some v9) fun a=>Bc E 51 5 a) fun v10=>
 mv (T.get tm 3) fun v11=>
 M.bind (oS (some v11) fun a=>oS (some (.int .u64 8)) fun b=>Cl.get (aBin E .shr 51 (.tmp 11) (.const (.int .u64 8))) a b) fun v12=>
 M.bind (oS (some v12) fun a=>Bc E 51 5 a) fun v13=>
 mv (T.get tm 3) fun v14=>
 M.bind (oS (some v14) fun a=>oS (some (.int .u64 16)) fun b=>Cl.get (aBin E .shr 51 (.tmp 14) (.const (.int .u64 16))) a b) fun v15=>
 M.bind (oS (some v15) fun a=>Bc E 51 5 a) fun v16=>
 mv (T.get tm 3) fun v17=>
 M.bind (oS (some v17) fun a=>oS (some (.int .u64 24)) fun b=>Cl.get (aBin E .shr 51 (.tmp 17) (.const (.int .u64 24))) a b) fun v18=>
 M.bind (oS (some v18) fun a=>Bc E 51 5 a) fun v19=>
 M.bind (oS (seqP [(0,(some v10)),(1,(some v13)),(2,(some v16)),(3,(some v19))]) fun ps=>BZ E 22 4 ps) fun v20=>
 M.bind (oS (seqO [(some v8),(some v20)]) fun l=>Az E .append [22,22] l) fun v21=>
 mv (some v21) fun v2=>
 setF 2 v2 tm fun tm1=>
 M.pure tm1
theorem Up_:RegEq 67 22 IX Hh_ Y8:={}
theorem Kh_: ∃k,WE= .code .ret::k:=⟨WE.tail,by kernel_rfl⟩
def CK:Nat:=Bm Try.f108
abbrev Jo:Nat:=35
def Cv_:Code:=Try.f108.body.getD .skip
theorem ZF:envS.fn.get 108=some Try.f108:=by kernel_rfl
theorem VK_ {a0:Value}{n:Nat}{s:St}{Q:Value→St→Prop}(h: ∀tm,T.get tm 0=some a0→W (runF envS n ⟨108,35,CK,tm,[.code Cv_], .run, .normal,none⟩) (s.cxN cxN) fun p s1=>Q p.1 (s1.cxN s.cx)):W (Ai envS (runF envS n) 108 [a0]) s Q:=
 W.call (by kernel_rfl) (by kernel_rfl) ZF (by kernel_rfl) rfl rfl (by simp) (h _ (by kernel_rfl))
theorem Vw_:Try.f108.results.toList=[.tmp 2]:=by kernel_rfl
def BE_:List Item:=skim 64 [.code Cv_]
def Yf:List Item:=skim 64 BE_.tail
def QS:List Item:=skim 64 Yf.tail
def Jh:List Item:=skim 64 QS.tail
def LA:List Item:=skim 64 Jh.tail
def Bx_:List Item:=skim 64 (brT LA)
def OF:List Item:=skim 64 (brF LA)
def Ku:List Item:=skim 64 Bx_.tail
def EL_:List Item:=skim 64 OF.tail
def Qn:List Item:=skim 64 Ku.tail
def WL:List Item:=skim 64 (brT Qn)
def OG:List Item:=skim 64 (brF Qn)
def Ey_:List Item:=skim 64 WL.tail
theorem Xe_:skim 64 OG.tail=Jh:=by kernel_rfl
def Dg_:List Item:=skim 64 Ey_.tail
def N1:List Item:=skim 64 Dg_.tail
def ZZ:List Item:=skim 64 (brT N1)
def P0:List Item:=skim 64 (brF N1)
theorem Xt_:skim 64 ZZ.tail=P0:=by kernel_rfl
theorem Zp:skim 64 P0.tail=Ku:=by kernel_rfl
def WZ (E:Env)(call round:Ab)(tm:T Value):M (T Value):=
 mv (some (.int .u32 0)) fun v2=>
 setF 2 v2 tm fun tm1=>
 M.pure tm1
theorem OH_:RegEq 108 35 CK BE_ WZ:={}
def Zf (E:Env)(call round:Ab)(tm:T Value):M (T Value):=
 mv (some (.int .u32 4294967295)) fun v3=>
 setF 3 v3 tm fun tm1=>
 M.pure tm1
theorem HC_:RegEq 108 35 CK Yf Zf:={}
def QT (E:Env)(call round:Ab)(tm:T Value):M (T Value):=
 mv (some (.int .i64 0)) fun v4=>
 setF 4 v4 tm fun tm1=>
 M.pure tm1
theorem OW_:RegEq 108 35 CK QS QT:={}
def Pe (E:Env)(call round:Ab)(tm:T Value):M (T Value):=
 mv (T.get tm 4) fun v7=>
 mv (T.get tm 0) fun v8=>
 M.bind (oS (seqO [(some v8)]) fun l=>Az E .len [22] l) fun v9=>
 M.bind (oS (some v7) fun a=>oS (some v9) fun b=>Cl.get (aBin E .lss 3 (.tmp 7) (.tmp 9)) a b) fun v10=>
 setF 10 v10 tm fun tm1=>
 M.pure tm1
theorem Ri:RegEq 108 35 CK Jh Pe:={}
theorem ZC:A4 LA=some 10:=by kernel_rfl
def FJ_ (E:Env)(call round:Ab)(tm:T Value):M (T Value):=
 mv (some (.int .i64 0)) fun v5=>
 setF 5 v5 tm fun tm1=>
 M.pure tm1
theorem Kp_:RegEq 108 35 CK Bx_ FJ_:={}
def Tx (E:Env)(call round:Ab)(tm:T Value):M (T Value):=
 mv (T.get tm 3) fun v33=>
 M.bind (oS (some v33) fun a=>kUn E.P .xor a) fun v34=>
 mv (some v34) fun v2=>
 setF 2 v2 tm fun tm1=>
 M.pure tm1
theorem Abt_:RegEq 108 35 CK OF Tx:={}
def NL (E:Env)(call round:Ab)(tm:T Value):M (T Value):=
 mv (T.get tm 5) fun v13=>
 M.bind (oS (some v13) fun a=>oS (some (.int .i64 8)) fun b=>Cl.get (aBin E .lss 3 (.tmp 13) (.const (.int .i64 8))) a b) fun v14=>
 setF 14 v14 tm fun tm1=>
 M.pure tm1
theorem TB:RegEq 108 35 CK Ku NL:={}
theorem WC_: ∃k,EL_= .code .ret::k:=⟨EL_.tail,by kernel_rfl⟩
theorem Gh_:A4 Qn=some 14:=by kernel_rfl
def Fk_ (E:Env)(call round:Ab)(tm:T Value):M (T Value):=
 mv (T.get tm 3) fun v17=>
 M.bind (oS (some v17) fun a=>oS (some (.int .u32 2)) fun b=>Cl.get (aBin E .rem 51 (.tmp 17) (.const (.int .u32 2))) a b) fun v18=>
 mv (T.get tm 0) fun v19=>
 mv (T.get tm 4) fun v20=>
 M.bind (oS (some v19) fun a=>oS (some v20) fun b=>AH E 22 a b) fun v21=>
 M.bind (oS (some v21) fun a=>Ak E 5 a) fun v22=>
 mv (T.get tm 5) fun v23=>
 M.bind (oS (some v22) fun a=>oS (some v23) fun b=>Cl.get (aBin E .shr 5 (.tmp 22) (.tmp 23)) a b) fun v24=>
 M.bind (oS (some v24) fun a=>Bc E 5 51 a) fun v25=>
 M.bind (oS (some v25) fun a=>oS (some (.int .u32 2)) fun b=>Cl.get (aBin E .rem 51 (.tmp 25) (.const (.int .u32 2))) a b) fun v26=>
 M.bind (oS (some v18) fun a=>oS (some v26) fun b=>Cl.get (aBin E .neq 51 (.tmp 18) (.tmp 26)) a b) fun v27=>
 mv (some v27) fun v6=>
 setF 6 v6 tm fun tm1=>
 M.pure tm1
theorem VS_:RegEq 108 35 CK WL Fk_:={}
def An_ (E:Env)(call round:Ab)(tm:T Value):M (T Value):=
 mv (T.get tm 4) fun v11=>
 M.bind (oS (some v11) fun a=>oS (some (.int .i64 1)) fun b=>Cl.get (aBin E .add 3 (.tmp 11) (.const (.int .i64 1))) a b) fun v12=>
 mv (some v12) fun v4=>
 setF 4 v4 tm fun tm1=>
 M.pure tm1
theorem Wm_:RegEq 108 35 CK OG An_:={}
def WK (E:Env)(call round:Ab)(tm:T Value):M (T Value):=
 mv (T.get tm 3) fun v28=>
 M.bind (oS (some v28) fun a=>oS (some (.int .u64 1)) fun b=>Cl.get (aBin E .shr 51 (.tmp 28) (.const (.int .u64 1))) a b) fun v29=>
 mv (some v29) fun v3=>
 setF 3 v3 tm fun tm1=>
 M.pure tm1
theorem AbB_:RegEq 108 35 CK Ey_ WK:={}
def BC_ (E:Env)(call round:Ab)(tm:T Value):M (T Value):=
 mv (T.get tm 6) fun v30=>
 setF 30 v30 tm fun tm1=>
 M.pure tm1
theorem Ny_:RegEq 108 35 CK Dg_ BC_:={}
theorem Xa:A4 N1=some 30:=by kernel_rfl
def Du_ (E:Env)(call round:Ab)(tm:T Value):M (T Value):=
 mv (T.get tm 3) fun v31=>
 M.bind (oS (some v31) fun a=>oS (some (.int .u32 3988292384)) fun b=>Cl.get (aBin E .xor 51 (.tmp 31) (.const (.int .u32 3988292384))) a b) fun v32=>
 mv (some v32) fun v3=>
 setF 3 v3 tm fun tm1=>
 M.pure tm1
theorem OP_:RegEq 108 35 CK ZZ Du_:={}
def M1 (E:Env)(call round:Ab)(tm:T Value):M (T Value):=
 mv (T.get tm 5) fun v15=>
 M.bind (oS (some v15) fun a=>oS (some (.int .i64 1)) fun b=>Cl.get (aBin E .add 3 (.tmp 15) (.const (.int .i64 1))) a b) fun v16=>
 mv (some v16) fun v5=>
 setF 5 v5 tm fun tm1=>
 M.pure tm1
theorem Bz_:RegEq 108 35 CK P0 M1:={}
def Fd:Nat:=Bm Try.f87
def Aa_:Code:=Try.f87.body.getD .skip
theorem Pd:envS.fn.get 87=some Try.f87:=by kernel_rfl
theorem YS_ {a0:Value}{n:Nat}{s:St}{Q:Value→St→Prop}(h: ∀tm,T.get tm 0=some a0→W (runF envS n ⟨87,22,Fd,tm,[.code Aa_], .run, .normal,none⟩) (s.cxN cxN) fun p s1=>Q p.1 (s1.cxN s.cx)):W (Ai envS (runF envS n) 87 [a0]) s Q:=
 W.call (by kernel_rfl) (by kernel_rfl) Pd (by kernel_rfl) rfl rfl (by simp) (h _ (by kernel_rfl))
theorem FB_:Try.f87.results.toList=[.tmp 2, .tmp 3]:=by kernel_rfl
def TF:List Item:=skim 64 [.code Aa_]
def Er_:List Item:=skim 64 TF.tail
def Tc:List Item:=skim 64 Er_.tail
def BF_:List Item:=skim 64 (brF Tc)
def NU:List Item:=skim 64 BF_.tail
def LP:List Item:=skim 64 NU.tail
def DC_:List Item:=skim 64 (brT LP)
def Wu:List Item:=skim 64 (brF LP)
def Gk_:List Item:=skim 64 DC_.tail
def Yc:List Item:=skim 64 Wu.tail
def Rw (E:Env)(call round:Ab)(tm:T Value):M (T Value):=
 mv (some (.slice none 0 0)) fun v2=>
 setF 2 v2 tm fun tm1=>
 mv (some (.int .i64 0)) fun v3=>
 setF 3 v3 tm1 fun tm2=>
 M.pure tm2
theorem Jo_:RegEq 87 22 Fd TF Rw:={}
def Sb (E:Env)(call round:Ab)(tm:T Value):M (T Value):=
 mv (T.get tm 0) fun v5=>
 M.bind (oS (seqO [(some v5)]) fun l=>Az E .len [22] l) fun v6=>
 M.bind (oS (some v6) fun a=>oS (some (.int .i64 4)) fun b=>Cl.get (aBin E .lss 3 (.tmp 6) (.const (.int .i64 4))) a b) fun v7=>
 setF 7 v7 tm fun tm1=>
 M.pure tm1
theorem YE_:RegEq 87 22 Fd Er_ Sb:={}
theorem Zx_:A4 Tc=some 7:=by kernel_rfl
def Eq_ (E:Env)(call round:Ab)(tm:T Value):M (T Value):=
 M.bind (oS (seqP []) fun ps=>BZ E 22 0 ps) fun v8=>
 mv (T.get tm 0) fun v9=>
 mv (T.get tm 0) fun v10=>
 M.bind (oS (seqO [(some v10)]) fun l=>Az E .len [22] l) fun v11=>
 M.bind (oS (some v11) fun a=>oS (some (.int .i64 4)) fun b=>Cl.get (aBin E .sub 3 (.tmp 11) (.const (.int .i64 4))) a b) fun v12=>
 M.bind (M.on (some v9) fun a=>M.on (some none) fun b=>M.on (onO (some v12) fun v=>some (some v)) fun c=>BB E 22 a b c) fun v13=>
 M.bind (oS (seqO [(some v8),(some v13)]) fun l=>Az E .append [22,22] l) fun v14=>
 mv (some v14) fun v4=>
 setF 4 v4 tm fun tm1=>
 M.pure tm1
theorem Tc_:RegEq 87 22 Fd BF_ Eq_:={}
def Zw (E:Env)(call round:Ab)(tm:T Value):M ((Rho×T Value)×List OpLog):=
 M.bind (apartO (oS (T.get tm 4) fun a=>M.pure a)) fun p0=>
 M.bind (apartO (M.on (some (.func (.func 67) #[] #[])) fun f=>M.on (seqO [(some p0.1)]) fun l=>AC call round f l)) fun p1=>
 M.bind (apartO (oS (some p1.1) fun a=>Bc E 22 9 a)) fun p2=>
 M.bind (apartO (oS (T.get tm 0) fun a=>M.pure a)) fun p3=>
 M.bind (apartO (oS (some p3.1) fun a=>Bc E 22 9 a)) fun p4=>
 M.pure (([p4.1,p3.1,p2.1,p1.1,p0.1],tm),[p4.2,p3.2,p2.2,p1.2,p0.2])
theorem Aas_:DrawEq 87 22 Fd NU [0,1,3,0,8,31] Zw:={}
theorem Is_ (E:Env)(call round:Ab)(x15 x16 x17 x18 x19:Value)(tm:T Value)(s:St):Bw call round (BO E Fd 22 (hdC NU)) [x19,x18,x17,x16,x15] tm s=(M.bind (oS (some x17) fun a=>oS (some x19) fun b=>Cl.get (aBin E .neq 9 (.tmp 17) (.tmp 19)) a b) fun v20=>setT 20 v20 tm fun tm1=>M.pure tm1) s:=by kernel_rfl
theorem BL_:A4 LP=some 20:=by kernel_rfl
def CC_ (E:Env)(call round:Ab)(tm:T Value):M (T Value):=
 mv (some (.slice none 0 0)) fun v2=>
 setF 2 v2 tm fun tm1=>
 mv (some (.int .i64 4)) fun v3=>
 setF 3 v3 tm1 fun tm2=>
 M.pure tm2
theorem XP_:RegEq 87 22 Fd DC_ CC_:={}
def AK_ (E:Env)(call round:Ab)(tm:T Value):M (T Value):=
 mv (T.get tm 4) fun v21=>
 mv (some v21) fun v2=>
 setF 2 v2 tm fun tm1=>
 mv (some (.int .i64 0)) fun v3=>
 setF 3 v3 tm1 fun tm2=>
 M.pure tm2
theorem PR_:RegEq 87 22 Fd Wu AK_:={}
theorem Zu_: ∃k,Gk_= .code .ret::k:=⟨Gk_.tail,by kernel_rfl⟩
theorem Nj_: ∃k,Yc= .code .ret::k:=⟨Yc.tail,by kernel_rfl⟩
def Ov:Nat:=Bm Try.f105
def So:Code:=Try.f105.body.getD .skip
theorem QC:envS.fn.get 105=some Try.f105:=by kernel_rfl
theorem Us_ {a0:Value}{n:Nat}{s:St}{Q:Value→St→Prop}(h: ∀tm,T.get tm 0=some a0→W (runF envS n ⟨105,5,Ov,tm,[.code So], .run, .normal,none⟩) (s.cxN cxN) fun p s1=>Q p.1 (s1.cxN s.cx)):W (Ai envS (runF envS n) 105 [a0]) s Q:=
 W.call (by kernel_rfl) (by kernel_rfl) QC (by kernel_rfl) rfl rfl (by simp) (h _ (by kernel_rfl))
theorem TH_:Try.f105.results.toList=[.tmp 2]:=by kernel_rfl
def QA:List Item:=skim 64 [.code So]
def Gu_:List Item:=skim 64 QA.tail
def Hu_:List Item:=skim 64 Gu_.tail
def WP (E:Env)(call round:Ab)(tm:T Value):M (T Value):=
 mv (some (.int .u32 0)) fun v2=>
 setF 2 v2 tm fun tm1=>
 M.pure tm1
theorem Ox_:RegEq 105 5 Ov QA WP:={}
def Wn (E:Env)(call round:Ab)(tm:T Value):M (T Value):=
 mv (T.get tm 0) fun v3=>
 M.bind (M.on (some (.func (.func 130) #[] #[])) fun f=>M.on (seqO [(some (.int .u32 0)),(some v3)]) fun l=>AC call round f l) fun v4=>
 mv (some v4) fun v2=>
 setF 2 v2 tm fun tm1=>
 M.pure tm1
theorem JF_:RegEq 105 5 Ov Gu_ Wn:={}
theorem Ws_: ∃k,Hu_= .code .ret::k:=⟨Hu_.tail,by kernel_rfl⟩
def K5:Nat:=Bm Try.f64
def Rz:Code:=Try.f64.body.getD .skip
theorem Dj_:envS.fn.get 64=some Try.f64:=by kernel_rfl
theorem OM_ {a0:Value}{n:Nat}{s:St}{Q:Value→St→Prop}(h: ∀tm,T.get tm 0=some a0→W (runF envS n ⟨64,21,K5,tm,[.code Rz], .run, .normal,none⟩) (s.cxN cxN) fun p s1=>Q p.1 (s1.cxN s.cx)):W (Ai envS (runF envS n) 64 [a0]) s Q:=
 W.call (by kernel_rfl) (by kernel_rfl) Dj_ (by kernel_rfl) rfl rfl (by simp) (h _ (by kernel_rfl))
theorem SQ_:Try.f64.results.toList=[.tmp 2]:=by kernel_rfl
def SF:List Item:=skim 64 [.code Rz]
def Di_:List Item:=skim 64 SF.tail
def AH_:List Item:=skim 64 Di_.tail
def SK:List Item:=skim 64 AH_.tail
def Q9 (E:Env)(call round:Ab)(tm:T Value):M (T Value):=
 mv (some (.slice none 0 0)) fun v2=>
 setF 2 v2 tm fun tm1=>
 M.pure tm1
theorem PS_:RegEq 64 21 K5 SF Q9:={}
def DD_ (E:Env)(call round:Ab)(tm:T Value):M (T Value):=
 mv (T.get tm 0) fun v4=>
 M.bind (M.on (some (.func (.func 105) #[] #[])) fun f=>M.on (seqO [(some v4)]) fun l=>AC call round f l) fun v5=>
 mv (some v5) fun v3=>
 setF 3 v3 tm fun tm1=>
 M.pure tm1
theorem Wo_:RegEq 64 21 K5 Di_ DD_:={}
def Vq (E:Env)(call round:Ab)(tm:T Value):M (T Value):=
 mv (T.get tm 0) fun v6=>
 mv (T.get tm 3) fun v7=>
 M.bind (oS (some v7) fun a=>Bc E 51 5 a) fun v8=>
 mv (T.get tm 3) fun v9=>
 M.bind (oS (some v9) fun a=>oS (some (.int .u64 8)) fun b=>Cl.get (aBin E .shr 51 (.tmp 9) (.const (.int .u64 8))) a b) fun v10=>
 M.bind (oS (some v10) fun a=>Bc E 51 5 a) fun v11=>
 mv (T.get tm 3) fun v12=>
 M.bind (oS (some v12) fun a=>oS (some (.int .u64 16)) fun b=>Cl.get (aBin E .shr 51 (.tmp 12) (.const (.int .u64 16))) a b) fun v13=>
 M.bind (oS (some v13) fun a=>Bc E 51 5 a) fun v14=>
 mv (T.get tm 3) fun v15=>
 M.bind (oS (some v15) fun a=>oS (some (.int .u64 24)) fun b=>Cl.get (aBin E .shr 51 (.tmp 15) (.const (.int .u64 24))) a b) fun v16=>
 M.bind (oS (some v16) fun a=>Bc E 51 5 a) fun v17=>
 M.bind (oS (seqP [(0,(some v8)),(1,(some v11)),(2,(some v14)),(3,(some v17))]) fun ps=>BZ E 22 4 ps) fun v18=>
 M.bind (oS (seqP [(0,(some v6)),(1,(some v18))]) fun ps=>BZ E 43 2 ps) fun v19=>
 M.bind (M.on (some (.func (.func 63) #[] #[])) fun f=>M.on (seqO [(some v19)]) fun l=>AC call round f l) fun v20=>
 mv (some v20) fun v2=>
 setF 2 v2 tm fun tm1=>
 M.pure tm1
theorem XK_:RegEq 64 21 K5 AH_ Vq:={}
theorem Iu_: ∃k,SK= .code .ret::k:=⟨SK.tail,by kernel_rfl⟩
def Gc:Nat:=Bm Try.f81
def Xy:Code:=Try.f81.body.getD .skip
theorem KF:envS.fn.get 81=some Try.f81:=by kernel_rfl
theorem YV_ {a0:Value}{n:Nat}{s:St}{Q:Value→St→Prop}(h: ∀tm,T.get tm 0=some a0→W (runF envS n ⟨81,23,Gc,tm,[.code Xy], .run, .normal,none⟩) (s.cxN cxN) fun p s1=>Q p.1 (s1.cxN s.cx)):W (Ai envS (runF envS n) 81 [a0]) s Q:=
 W.call (by kernel_rfl) (by kernel_rfl) KF (by kernel_rfl) rfl rfl (by simp) (h _ (by kernel_rfl))
theorem Pu:Try.f81.results.toList=[.tmp 2, .tmp 3]:=by kernel_rfl
def Ev_:List Item:=skim 64 [.code Xy]
def Up:List Item:=skim 64 Ev_.tail
def Sf:List Item:=skim 64 Up.tail
def N6:List Item:=skim 64 Sf.tail
def ZX:List Item:=skim 64 (brT N6)
def DV_:List Item:=skim 64 (brF N6)
def Sq:List Item:=skim 64 ZX.tail
def Q4:List Item:=skim 64 DV_.tail
def Ej_ (E:Env)(call round:Ab)(tm:T Value):M (T Value):=
 mv (some (.slice none 0 0)) fun v2=>
 setF 2 v2 tm fun tm1=>
 mv (some (.int .i64 0)) fun v3=>
 setF 3 v3 tm1 fun tm2=>
 M.pure tm2
theorem RR_:RegEq 81 23 Gc Ev_ Ej_:={}
def Sl (E:Env)(call round:Ab)(tm:T Value):M (T Value):=
 mv (T.get tm 0) fun v5=>
 M.bind (oS (seqO [(some v5)]) fun l=>Az E .len [22] l) fun v6=>
 M.bind (oS (some v6) fun a=>oS (some (.int .i64 4)) fun b=>Cl.get (aBin E .sub 3 (.tmp 6) (.const (.int .i64 4))) a b) fun v7=>
 mv (some v7) fun v4=>
 setF 4 v4 tm fun tm1=>
 M.pure tm1
theorem JJ_:RegEq 81 23 Gc Up Sl:={}
def P9 (E:Env)(call round:Ab)(tm:T Value):M (T Value):=
 mv (T.get tm 4) fun v8=>
 M.bind (oS (some v8) fun a=>oS (some (.int .i64 0)) fun b=>Cl.get (aBin E .lss 3 (.tmp 8) (.const (.int .i64 0))) a b) fun v9=>
 mv (some v9) fun v10=>
 M.bind (M.chk (isK v10) (M.if (isB v10 false) (oS (T.get tm 0) fun a=>M.pure a) (M.pure undef))) fun v11=>
 M.bind (M.chk (isK v10) (M.if (isB v10 false) (oS (T.get tm 4) fun a=>M.pure a) (M.pure undef))) fun v12=>
 M.bind (M.chk (isK v10) (M.if (isB v10 false) (M.on (some v11) fun a=>M.on (some none) fun b=>M.on (onO (some v12) fun v=>some (some v)) fun c=>BB E 22 a b c) (M.pure undef))) fun v13=>
 M.bind (M.chk (isK v10) (M.if (isB v10 false) (M.on (some (.func (.func 64) #[] #[])) fun f=>M.on (seqO [(some v13)]) fun l=>AC call round f l) (M.pure undef))) fun v14=>
 M.bind (M.chk (isK v10) (M.if (isB v10 false) (oS (T.get tm 0) fun a=>M.pure a) (M.pure undef))) fun v15=>
 M.bind (M.chk (isK v10) (M.if (isB v10 false) (M.on (some (.func (.func 116) #[] #[])) fun f=>M.on (seqO [(some v14),(some v15)]) fun l=>AC call round f l) (M.pure undef))) fun v16=>
 M.bind (M.chk (isK v10) (M.if (isB v10 false) (oS (some v16) fun a=>kUn E.P .not a) (M.pure undef))) fun v17=>
 M.bind (M.on (some v10) fun a=>M.on (some (.bool true)) fun b=>M.on (some v17) fun c=>BM a b c) fun v18=>
 setF 18 v18 tm fun tm1=>
 M.pure tm1
theorem Ace_:RegEq 81 23 Gc Sf P9:={}
theorem N3:A4 N6=some 18:=by kernel_rfl
def PO (E:Env)(call round:Ab)(tm:T Value):M (T Value):=
 mv (some (.slice none 0 0)) fun v2=>
 setF 2 v2 tm fun tm1=>
 mv (some (.int .i64 4)) fun v3=>
 setF 3 v3 tm1 fun tm2=>
 M.pure tm2
theorem Fz_:RegEq 81 23 Gc ZX PO:={}
def SE (E:Env)(call round:Ab)(tm:T Value):M (T Value):=
 mv (T.get tm 0) fun v19=>
 mv (T.get tm 4) fun v20=>
 M.bind (M.on (some v19) fun a=>M.on (some none) fun b=>M.on (onO (some v20) fun v=>some (some v)) fun c=>BB E 22 a b c) fun v21=>
 M.bind (M.on (some (.func (.func 117) #[] #[])) fun f=>M.on (seqO [(some v21)]) fun l=>AC call round f l) fun v22=>
 mv (some v22) fun v2=>
 setF 2 v2 tm fun tm1=>
 mv (some (.int .i64 0)) fun v3=>
 setF 3 v3 tm1 fun tm2=>
 M.pure tm2
theorem Jz_:RegEq 81 23 Gc DV_ SE:={}
theorem Sd: ∃k,Sq= .code .ret::k:=⟨Sq.tail,by kernel_rfl⟩
theorem Wz_: ∃k,Q4= .code .ret::k:=⟨Q4.tail,by kernel_rfl⟩
def Ct:Nat:=Bm Try.f63
abbrev Kp:Nat:=36
def Uc:Code:=Try.f63.body.getD .skip
theorem Fb_:envS.fn.get 63=some Try.f63:=by kernel_rfl
theorem Ih_ {a0:Value}{n:Nat}{s:St}{Q:Value→St→Prop}(h: ∀tm,T.get tm 0=some a0→W (runF envS n ⟨63,36,Ct,tm,[.code Uc], .run, .normal,none⟩) (s.cxN cxN) fun p s1=>Q p.1 (s1.cxN s.cx)):W (Ai envS (runF envS n) 63 [a0]) s Q:=
 W.call (by kernel_rfl) (by kernel_rfl) Fb_ (by kernel_rfl) rfl rfl (by simp) (h _ (by kernel_rfl))
theorem RW_:Try.f63.results.toList=[.tmp 2]:=by kernel_rfl
def TS:List Item:=skim 64 [.code Uc]
def SX:List Item:=skim 64 TS.tail
def Cs_:List Item:=skim 64 SX.tail
def Kl:List Item:=skim 64 Cs_.tail
def PV:List Item:=skim 64 Kl.tail
def YY:List Item:=skim 64 (brT PV)
def Qc:List Item:=skim 64 (brF PV)
def Wq:List Item:=skim 64 YY.tail
def Gd_:List Item:=skim 64 Qc.tail
def Xr:List Item:=skim 64 Wq.tail
def Kx:List Item:=skim 64 Gd_.tail
def WA:List Item:=skim 64 Xr.tail
def Nr:List Item:=skim 64 Kx.tail
def Ah_:List Item:=skim 64 (brF WA)
def QQ:List Item:=skim 64 (brT Nr)
def Mu:List Item:=skim 64 (brF Nr)
theorem AaH_:skim 64 Ah_.tail=Kl:=by kernel_rfl
def WS:List Item:=skim 64 QQ.tail
def Xg:List Item:=skim 64 Mu.tail
def Ep_:List Item:=skim 64 WS.tail
theorem YT_:skim 64 Ep_.tail=Kx:=by kernel_rfl
def QE (E:Env)(call round:Ab)(tm:T Value):M (T Value):=
 mv (some (.slice none 0 0)) fun v2=>
 setF 2 v2 tm fun tm1=>
 M.pure tm1
theorem Qw_:RegEq 63 36 Ct TS QE:={}
def ZM (E:Env)(call round:Ab)(tm:T Value):M (T Value):=
 mv (some (.int .i64 0)) fun v3=>
 setF 3 v3 tm fun tm1=>
 M.pure tm1
theorem Ig_:RegEq 63 36 Ct SX ZM:={}
def UA (E:Env)(call round:Ab)(tm:T Value):M (T Value):=
 mv (T.get tm 0) fun v9=>
 setF 9 v9 tm fun tm1=>
 M.bind (oS (seqO [(some v9)]) fun l=>Az E .len [43] l) fun v10=>
 setF 10 v10 tm1 fun tm2=>
 mv (some (.int .i64 0)) fun v11=>
 setF 11 v11 tm2 fun tm3=>
 M.pure tm3
theorem Md_:RegEq 63 36 Ct Cs_ UA:={}
def M3 (E:Env)(call round:Ab)(tm:T Value):M (T Value):=
 M.bind (oS (T.get tm 11) fun a=>oS (T.get tm 10) fun b=>Cl.get (aBin E .lss 3 (.tmp 11) (.tmp 10)) a b) fun v12=>
 setF 12 v12 tm fun tm1=>
 M.pure tm1
theorem Um:RegEq 63 36 Ct Kl M3:={}
theorem VI:A4 PV=some 12:=by kernel_rfl
def Hj_ (E:Env)(call round:Ab)(tm:T Value):M (T Value):=
 M.bind (oS (T.get tm 9) fun a=>oS (T.get tm 11) fun b=>AH E 43 a b) fun v13=>
 M.bind (oS (some v13) fun a=>Ak E 22 a) fun v14=>
 mv (some v14) fun v5=>
 setF 5 v5 tm fun tm1=>
 M.pure tm1
theorem PN_:RegEq 63 36 Ct YY Hj_:={}
def Bu_ (E:Env)(call round:Ab)(tm:T Value):M (T Value):=
 mv (T.get tm 3) fun v23=>
 M.bind (M.on (some (.func (.func 106) #[] #[])) fun f=>M.on (seqO [(some (.slice none 0 0)),(some v23)]) fun l=>AC call round f l) fun v24=>
 mv (some v24) fun v6=>
 setF 6 v6 tm fun tm1=>
 M.pure tm1
theorem LO_:RegEq 63 36 Ct Qc Bu_:={}
def XT (E:Env)(call round:Ab)(tm:T Value):M (T Value):=
 mv (T.get tm 3) fun v15=>
 mv (T.get tm 5) fun v16=>
 M.bind (oS (seqO [(some v16)]) fun l=>Az E .len [22] l) fun v17=>
 M.bind (oS (some v15) fun a=>oS (some v17) fun b=>Cl.get (aBin E .add 3 (.tmp 15) (.tmp 17)) a b) fun v18=>
 mv (some v18) fun v3=>
 setF 3 v3 tm fun tm1=>
 M.pure tm1
theorem MB_:RegEq 63 36 Ct Wq XT:={}
def Hp_ (E:Env)(call round:Ab)(tm:T Value):M (T Value):=
 mv (T.get tm 0) fun v25=>
 setF 25 v25 tm fun tm1=>
 M.bind (oS (seqO [(some v25)]) fun l=>Az E .len [43] l) fun v26=>
 setF 26 v26 tm1 fun tm2=>
 mv (some (.int .i64 0)) fun v27=>
 setF 27 v27 tm2 fun tm3=>
 M.pure tm3
theorem IC_:RegEq 63 36 Ct Gd_ Hp_:={}
def VY (E:Env)(call round:Ab)(tm:T Value):M (T Value):=
 mv (T.get tm 3) fun v19=>
 M.bind (oS (some v19) fun a=>oS (some (.int .i64 0)) fun b=>Cl.get (aBin E .lss 3 (.tmp 19) (.const (.int .i64 0))) a b) fun v20=>
 setF 20 v20 tm fun tm1=>
 M.pure tm1
theorem Oo_:RegEq 63 36 Ct Xr VY:={}
def LJ (E:Env)(call round:Ab)(tm:T Value):M (T Value):=
 M.bind (oS (T.get tm 27) fun a=>oS (T.get tm 26) fun b=>Cl.get (aBin E .lss 3 (.tmp 27) (.tmp 26)) a b) fun v28=>
 setF 28 v28 tm fun tm1=>
 M.pure tm1
theorem FW_:RegEq 63 36 Ct Kx LJ:={}
theorem AbX_:A4 WA=some 20:=by kernel_rfl
theorem Az_:A4 Nr=some 28:=by kernel_rfl
def TC (E:Env)(call round:Ab)(tm:T Value):M (T Value):=
 M.bind (oS (T.get tm 11) fun a=>oS (some (.int .i64 1)) fun b=>Cl.get (aBin E .add 3 (.tmp 11) (.const (.int .i64 1))) a b) fun v22=>
 mv (some v22) fun v11=>
 setF 11 v11 tm fun tm1=>
 M.pure tm1
theorem Pw_:RegEq 63 36 Ct Ah_ TC:={}
def Ex_ (E:Env)(call round:Ab)(tm:T Value):M (T Value):=
 M.bind (oS (T.get tm 25) fun a=>oS (T.get tm 27) fun b=>AH E 43 a b) fun v29=>
 M.bind (oS (some v29) fun a=>Ak E 22 a) fun v30=>
 mv (some v30) fun v8=>
 setF 8 v8 tm fun tm1=>
 M.pure tm1
theorem ZZ_:RegEq 63 36 Ct QQ Ex_:={}
def Z8 (E:Env)(call round:Ab)(tm:T Value):M (T Value):=
 mv (T.get tm 6) fun v35=>
 mv (some v35) fun v2=>
 setF 2 v2 tm fun tm1=>
 M.pure tm1
theorem Ir_:RegEq 63 36 Ct Mu Z8:={}
def WN (E:Env)(call round:Ab)(tm:T Value):M (T Value):=
 mv (T.get tm 6) fun v31=>
 mv (T.get tm 8) fun v32=>
 M.bind (oS (seqO [(some v31),(some v32)]) fun l=>Az E .append [22,22] l) fun v33=>
 mv (some v33) fun v6=>
 setF 6 v6 tm fun tm1=>
 M.pure tm1
theorem Wv_:RegEq 63 36 Ct WS WN:={}
theorem Qb_: ∃k,Xg= .code .ret::k:=⟨Xg.tail,by kernel_rfl⟩
def SG (E:Env)(call round:Ab)(tm:T Value):M (T Value):=
 M.bind (oS (T.get tm 27) fun a=>oS (some (.int .i64 1)) fun b=>Cl.get (aBin E .add 3 (.tmp 27) (.const (.int .i64 1))) a b) fun v34=>
 mv (some v34) fun v27=>
 setF 27 v27 tm fun tm1=>
 M.pure tm1
theorem QU_:RegEq 63 36 Ct Ep_ SG:={}
def FF:Nat:=Bm Try.f106
def Gb_:Code:=Try.f106.body.getD .skip
theorem ZQ:envS.fn.get 106=some Try.f106:=by kernel_rfl
theorem LC_ {a0 a1:Value}{n:Nat}{s:St}{Q:Value→St→Prop}(h: ∀tm,T.get tm 0=some a0→T.get tm 1=some a1→W (runF envS n ⟨106,27,FF,tm,[.code Gb_], .run, .normal,none⟩) (s.cxN cxN) fun p s1=>Q p.1 (s1.cxN s.cx)):W (Ai envS (runF envS n) 106 [a0,a1]) s Q:=
 W.call (by kernel_rfl) (by kernel_rfl) ZQ (by kernel_rfl) rfl rfl (by simp) (h _ (by kernel_rfl) (by kernel_rfl))
theorem Mg_:Try.f106.results.toList=[.tmp 4]:=by kernel_rfl
def S6:List Item:=skim 64 [.code Gb_]
def Un:List Item:=skim 64 S6.tail
def BI_:List Item:=skim 64 Un.tail
def Vj:List Item:=skim 64 (brF BI_)
def YB:List Item:=skim 64 Vj.tail
def Ns:List Item:=skim 64 YB.tail
def DS_:List Item:=skim 64 (brT Ns)
def NY:List Item:=skim 64 (brF Ns)
theorem Sz_:skim 64 DS_.tail=NY:=by kernel_rfl
def Ck_:List Item:=skim 64 NY.tail
def GU_ (E:Env)(call round:Ab)(tm:T Value):M (T Value):=
 mv (some (.slice none 0 0)) fun v4=>
 setF 4 v4 tm fun tm1=>
 M.pure tm1
theorem Yh_:RegEq 106 27 FF S6 GU_:={}
def SM (E:Env)(call round:Ab)(tm:T Value):M (T Value):=
 mv (T.get tm 1) fun v5=>
 M.bind (oS (some v5) fun a=>oS (some (.int .i64 0)) fun b=>Cl.get (aBin E .lss 3 (.tmp 5) (.const (.int .i64 0))) a b) fun v6=>
 setF 6 v6 tm fun tm1=>
 M.pure tm1
theorem Vg_:RegEq 106 27 FF Un SM:={}
theorem Ui_:A4 BI_=some 6:=by kernel_rfl
def UB (E:Env)(call round:Ab)(tm:T Value):M (T Value):=
 mv (T.get tm 1) fun v8=>
 mv (T.get tm 0) fun v9=>
 M.bind (oS (seqO [(some v9)]) fun l=>Az E .cap [22] l) fun v10=>
 mv (T.get tm 0) fun v11=>
 M.bind (oS (seqO [(some v11)]) fun l=>Az E .len [22] l) fun v12=>
 M.bind (oS (some v10) fun a=>oS (some v12) fun b=>Cl.get (aBin E .sub 3 (.tmp 10) (.tmp 12)) a b) fun v13=>
 M.bind (oS (some v8) fun a=>oS (some v13) fun b=>Cl.get (aBin E .sub 3 (.tmp 8) (.tmp 13)) a b) fun v14=>
 mv (some v14) fun v1=>
 setF 1 v1 tm fun tm1=>
 M.pure tm1
theorem If_:RegEq 106 27 FF Vj UB:={}
def GN_ (E:Env)(call round:Ab)(tm:T Value):M (T Value):=
 mv (T.get tm 1) fun v15=>
 M.bind (oS (some v15) fun a=>oS (some (.int .i64 0)) fun b=>Cl.get (aBin E .gtr 3 (.tmp 15) (.const (.int .i64 0))) a b) fun v16=>
 setF 16 v16 tm fun tm1=>
 M.pure tm1
theorem Ug_:RegEq 106 27 FF YB GN_:={}
theorem WK_:A4 Ns=some 16:=by kernel_rfl
def AA_ (E:Env)(call round:Ab)(tm:T Value):M (T Value):=
 mv (T.get tm 0) fun v17=>
 mv (T.get tm 0) fun v18=>
 M.bind (oS (seqO [(some v18)]) fun l=>Az E .cap [22] l) fun v19=>
 M.bind (M.on (some v17) fun a=>M.on (some none) fun b=>M.on (onO (some v19) fun v=>some (some v)) fun c=>BB E 22 a b c) fun v20=>
 mv (T.get tm 1) fun v21=>
 M.bind (oS (seqO [(some v20),(some v21)]) fun l=>Az E .append [22,3] l) fun v22=>
 mv (T.get tm 0) fun v23=>
 M.bind (oS (seqO [(some v23)]) fun l=>Az E .len [22] l) fun v24=>
 M.bind (M.on (some v22) fun a=>M.on (some none) fun b=>M.on (onO (some v24) fun v=>some (some v)) fun c=>BB E 22 a b c) fun v25=>
 mv (some v25) fun v0=>
 setF 0 v0 tm fun tm1=>
 M.pure tm1
theorem Ob_:RegEq 106 27 FF DS_ AA_:={}
def U9 (E:Env)(call round:Ab)(tm:T Value):M (T Value):=
 mv (T.get tm 0) fun v26=>
 mv (some v26) fun v4=>
 setF 4 v4 tm fun tm1=>
 M.pure tm1
theorem Rt_:RegEq 106 27 FF NY U9:={}
theorem Rc_: ∃k,Ck_= .code .ret::k:=⟨Ck_.tail,by kernel_rfl⟩
def Dp:Nat:=Bm Try.f116
abbrev ZP_:Nat:=26
def W6:Code:=Try.f116.body.getD .skip
theorem J0:envS.fn.get 116=some Try.f116:=by kernel_rfl
theorem NB_ {a0 a1:Value}{n:Nat}{s:St}{Q:Value→St→Prop}(h: ∀tm,T.get tm 0=some a0→T.get tm 1=some a1→W (runF envS n ⟨116,26,Dp,tm,[.code W6], .run, .normal,none⟩) (s.cxN cxN) fun p s1=>Q p.1 (s1.cxN s.cx)):W (Ai envS (runF envS n) 116 [a0,a1]) s Q:=
 W.call (by kernel_rfl) (by kernel_rfl) J0 (by kernel_rfl) rfl rfl (by simp) (h _ (by kernel_rfl) (by kernel_rfl))
theorem LV:Try.f116.results.toList=[.tmp 4]:=by kernel_rfl
def Y7:List Item:=skim 64 [.code W6]
def Bj_:List Item:=skim 64 Y7.tail
def My:List Item:=skim 64 Bj_.tail
def Vo:List Item:=skim 64 (brT My)
def Ws:List Item:=skim 64 (brF My)
def Br_:List Item:=skim 64 Vo.tail
def Iu:List Item:=skim 64 Ws.tail
def MA:List Item:=skim 64 Iu.tail
def Fe_:List Item:=skim 64 (brT MA)
def Ch_:List Item:=skim 64 (brF MA)
def OB:List Item:=skim 64 Fe_.tail
def Dq_:List Item:=skim 64 Ch_.tail
def Ml:List Item:=skim 64 OB.tail
def Gv_:List Item:=skim 64 (brT Ml)
def GP_:List Item:=skim 64 (brF Ml)
def YZ:List Item:=skim 64 Gv_.tail
theorem UJ_:skim 64 GP_.tail=Iu:=by kernel_rfl
def VL (E:Env)(call round:Ab)(tm:T Value):M (T Value):=
 mv (some (.bool false)) fun v4=>
 setF 4 v4 tm fun tm1=>
 M.pure tm1
theorem Mj_:RegEq 116 26 Dp Y7 VL:={}
def Da_ (E:Env)(call round:Ab)(tm:T Value):M (T Value):=
 mv (T.get tm 0) fun v6=>
 M.bind (oS (seqO [(some v6)]) fun l=>Az E .len [22] l) fun v7=>
 mv (T.get tm 1) fun v8=>
 M.bind (oS (seqO [(some v8)]) fun l=>Az E .len [22] l) fun v9=>
 M.bind (oS (some v7) fun a=>oS (some v9) fun b=>Cl.get (aBin E .neq 3 (.tmp 7) (.tmp 9)) a b) fun v10=>
 setF 10 v10 tm fun tm1=>
 M.pure tm1
theorem LU_:RegEq 116 26 Dp Bj_ Da_:={}
theorem Rr:A4 My=some 10:=by kernel_rfl
def Fx_ (E:Env)(call round:Ab)(tm:T Value):M (T Value):=
 mv (some (.bool false)) fun v4=>
 setF 4 v4 tm fun tm1=>
 M.pure tm1
theorem Ju_:RegEq 116 26 Dp Vo Fx_:={}
def CX_ (E:Env)(call round:Ab)(tm:T Value):M (T Value):=
 mv (T.get tm 0) fun v11=>
 M.bind (oS (seqO [(some v11)]) fun l=>Az E .len [22] l) fun v12=>
 setF 12 v12 tm fun tm1=>
 mv (some (.int .i64 0)) fun v13=>
 setF 13 v13 tm1 fun tm2=>
 M.pure tm2
theorem QQ_:RegEq 116 26 Dp Ws CX_:={}
theorem IR_: ∃k,Br_= .code .ret::k:=⟨Br_.tail,by kernel_rfl⟩
def Qg (E:Env)(call round:Ab)(tm:T Value):M (T Value):=
 M.bind (oS (T.get tm 13) fun a=>oS (T.get tm 12) fun b=>Cl.get (aBin E .lss 3 (.tmp 13) (.tmp 12)) a b) fun v14=>
 setF 14 v14 tm fun tm1=>
 M.pure tm1
theorem Y0:RegEq 116 26 Dp Iu Qg:={}
theorem Gz_:A4 MA=some 14:=by kernel_rfl
def CK_ (E:Env)(call round:Ab)(tm:T Value):M (T Value):=
 mv (T.get tm 13) fun v15=>
 mv (some v15) fun v5=>
 setF 5 v5 tm fun tm1=>
 M.pure tm1
theorem NW_:RegEq 116 26 Dp Fe_ CK_:={}
def Tn (E:Env)(call round:Ab)(tm:T Value):M (T Value):=
 mv (some (.bool true)) fun v4=>
 setF 4 v4 tm fun tm1=>
 M.pure tm1
theorem Wd_:RegEq 116 26 Dp Ch_ Tn:={}
def DE_ (E:Env)(call round:Ab)(tm:T Value):M ((Rho×T Value)×List OpLog):=
 M.bind (apartO (oS (T.get tm 0) fun a=>M.pure a)) fun p0=>
 M.bind (apartO (oS (T.get tm 5) fun a=>M.pure a)) fun p1=>
 M.bind (apartO (oS (some p0.1) fun a=>oS (some p1.1) fun b=>AH E 22 a b)) fun p2=>
 M.bind (apartO (oS (some p2.1) fun a=>Ak E 5 a)) fun p3=>
 M.bind (apartO (oS (T.get tm 1) fun a=>M.pure a)) fun p4=>
 M.bind (apartO (oS (T.get tm 5) fun a=>M.pure a)) fun p5=>
 M.bind (apartO (oS (some p4.1) fun a=>oS (some p5.1) fun b=>AH E 22 a b)) fun p6=>
 M.bind (apartO (oS (some p6.1) fun a=>Ak E 5 a)) fun p7=>
 M.pure (([p7.1,p6.1,p5.1,p4.1,p3.1,p2.1,p1.1,p0.1],tm),[p7.2,p6.2,p5.2,p4.2,p3.2,p2.2,p1.2,p0.2])
theorem ZF_:DrawEq 116 26 Dp OB [0,0,3,7,0,0,48,112,255] DE_:={}
theorem UP_ (E:Env)(call round:Ab)(x16 x17 x18 x19 x20 x21 x22 x23:Value)(tm:T Value)(s:St):Bw call round (BO E Dp 26 (hdC OB)) [x23,x22,x21,x20,x19,x18,x17,x16] tm s=(M.bind (oS (some x19) fun a=>oS (some x23) fun b=>Cl.get (aBin E .neq 5 (.tmp 19) (.tmp 23)) a b) fun v24=>setT 24 v24 tm fun tm1=>M.pure tm1) s:=by kernel_rfl
theorem Abn_: ∃k,Dq_= .code .ret::k:=⟨Dq_.tail,by kernel_rfl⟩
theorem Dh_:A4 Ml=some 24:=by kernel_rfl
def CN_ (E:Env)(call round:Ab)(tm:T Value):M (T Value):=
 mv (some (.bool false)) fun v4=>
 setF 4 v4 tm fun tm1=>
 M.pure tm1
theorem Aag_:RegEq 116 26 Dp Gv_ CN_:={}
def Zq (E:Env)(call round:Ab)(tm:T Value):M (T Value):=
 M.bind (oS (T.get tm 13) fun a=>oS (some (.int .i64 1)) fun b=>Cl.get (aBin E .add 3 (.tmp 13) (.const (.int .i64 1))) a b) fun v25=>
 mv (some v25) fun v13=>
 setF 13 v13 tm fun tm1=>
 M.pure tm1
theorem LF_:RegEq 116 26 Dp GP_ Zq:={}
theorem ZH_: ∃k,YZ= .code .ret::k:=⟨YZ.tail,by kernel_rfl⟩
def Jc:Nat:=Bm Try.f117
def WI:Code:=Try.f117.body.getD .skip
theorem PX:envS.fn.get 117=some Try.f117:=by kernel_rfl
theorem YQ_ {a0:Value}{n:Nat}{s:St}{Q:Value→St→Prop}(h: ∀tm,T.get tm 0=some a0→W (runF envS n ⟨117,8,Jc,tm,[.code WI], .run, .normal,none⟩) (s.cxN cxN) fun p s1=>Q p.1 (s1.cxN s.cx)):W (Ai envS (runF envS n) 117 [a0]) s Q:=
 W.call (by kernel_rfl) (by kernel_rfl) PX (by kernel_rfl) rfl rfl (by simp) (h _ (by kernel_rfl))
theorem Rc:Try.f117.results.toList=[.tmp 2]:=by kernel_rfl
def Ub:List Item:=skim 64 [.code WI]
def YK:List Item:=skim 64 Ub.tail
def Ut:List Item:=skim 64 YK.tail
def ZJ:List Item:=skim 64 (brF Ut)
def TP:List Item:=skim 64 ZJ.tail
def Vr (E:Env)(call round:Ab)(tm:T Value):M (T Value):=
 mv (some (.slice none 0 0)) fun v2=>
 setF 2 v2 tm fun tm1=>
 M.pure tm1
theorem Rg_:RegEq 117 8 Jc Ub Vr:={}
def VG (E:Env)(call round:Ab)(tm:T Value):M (T Value):=
 mv (T.get tm 0) fun v3=>
 M.bind (oS (some v3) fun a=>oS (some (.slice none 0 0)) fun b=>Cl.get (aBin E .eql 22 (.tmp 3) (.const (.slice none 0 0))) a b) fun v4=>
 setF 4 v4 tm fun tm1=>
 M.pure tm1
theorem Od_:RegEq 117 8 Jc YK VG:={}
theorem Qc_:A4 Ut=some 4:=by kernel_rfl
def Xh (E:Env)(call round:Ab)(tm:T Value):M (T Value):=
 M.bind (oS (seqP []) fun ps=>BZ E 22 0 ps) fun v5=>
 mv (T.get tm 0) fun v6=>
 M.bind (oS (seqO [(some v5),(some v6)]) fun l=>Az E .append [22,22] l) fun v7=>
 mv (some v7) fun v2=>
 setF 2 v2 tm fun tm1=>
 M.pure tm1
theorem OZ_:RegEq 117 8 Jc ZJ Xh:={}
theorem Gp_: ∃k,TP= .code .ret::k:=⟨TP.tail,by kernel_rfl⟩
section
variable {s:St}
def Bn (s:St)(v:Value)(l:List Nat):Prop:= ∃b o c,v= .slice (some ⟨b,o,none⟩) l.length c∧l.length≤c%capU∧CA c 1=true∧Row s b o (u8l l)
theorem Bn.bs {v:Value}{l:List Nat}(h:Bn s v l):Bs s v l:= .inr h
theorem Bn.ext {F G:Nat→Prop}{s s':St}{v:Value}{l:List Nat}(h:Bn s v l)(e:Ext F G s s')(hG: ∀x,BsF v x→ ¬G x):Bn s' v l:=by
 rcases h.bs.ext e hG with⟨rfl,_⟩|h'
 ·obtain⟨_,_,_,e,_⟩:=h;cases e
 ·exact h'
theorem Bn.ext0 {F:Nat→Prop}{s s':St}{v:Value}{l:List Nat}(h:Bn s v l)(e:Ext F Non s s'):Bn s' v l:=h.ext e fun _ _=>id
def Byt (l:List Nat):Prop:= ∀x∈l,x<256
theorem Qo: ∀{l:List Nat},Byt l→u8s (u8l l)=some l
 |[],_=>rfl
 |n::l,h=>by
  have e:=Qo (l:=l) fun x hx=>h x (by simp[hx])
  show(match Value.int .u8 (.ofNat n),u8s (u8l l)with| .int .u8 (.ofNat n),some ns=>bif Nat.blt n 256 then some (n::ns)else none|_,_=>none)=_
  rw[e]
  simp -implicitDefEqProofs only[BV (h n (by simp)),cond_true]
theorem W.rdB {b o:Nat}{l:List Nat}{Q:List Value→St→Prop}(h:Row s b o (u8l l))(q: ∀s1,s1.mem=s.mem→s1.next=s.next→Ext (In b o l.length) Non s s1→Q (u8l l) s1):W (Am.rdL l.length ⟨b,o,none⟩) s Q:=by
 have hl:l.length=(u8l l).length:=(A6 l).symm
 rw[hl]
 refine W.rdL h fun s1 e1 e2 e3=>q s1 e1 e2 ?_
 rw[A6]at e3
 exact e3
theorem W.more {sum:Nat}{v:Value}{l:List Nat}{Q:Value→St→Prop}(h:Bn s v l)(hl:Byt l)(hz:l.length≤4611686018427387904)(hs:sum<4294967296)
  (q: ∀s1,s1.mem=s.mem→s1.next=s.next→Ext (BsF v) Non s s1→Q (.int .u32 (Cu sum l:Nat)) s1):W (Ek [.int .u32 (sum:Nat),v]) s Q:=by
 obtain⟨b,o,c,rfl,h1,h2,h3⟩:=h
 refine W.chk (by rw[BV hs];simpa using hz) (W.bind (W.rdB h3 fun s1 e1 e2 e3=>W.on (Qo hl) ?_))
 rw[JB]
 exact W.pure (q s1 e1 e2 e3)
end
theorem EN_ {n:Nat}{s:St}{v:Value}{l:List Nat}{Q:Value→St→Prop}(hn:10≤n)(h:Bn s v l)(hl:Byt l)(hz:l.length≤4611686018427387904)
  (q: ∀s1,s1.mem=s.mem→s1.next=s.next→Ext (BsF v) Non s s1→Q (.int .u32 (Cu 0 l:Nat)) s1):W (Ai envS (runF envS n) 105 [v]) s Q:=by
 refine Us_ fun tm h0=> ?_
 refine Ox_.w rfl (by omega) ?_
 simp -implicitDefEqProofs only[WP,Aa,W_mv,Ac]
 refine JF_.w rfl (by omega) ?_
 simp -implicitDefEqProofs only[Wn,Ad,W_on,Aa,W_mv,Ac,T.get_set,Ah,Ag,Af,Ar,reduceIte,reduceCtorEq, ↓reduceIte,h0]
 refine W.orc (m:=Ek) (by kernel_rfl) ?_
 change W (Ek [.int .u32 ((0:Nat):Int),v]) _ _
 refine W.more (s:=s.cxN cxN) h hl hz (by decide) fun s1 e1 e2 e3=> ?_
 refine W.end' (rs:=[2]) (vs:=[.int .u32 (Cu 0 l:Nat)]) rfl (.inl Ws_) (by omega) QC TH_ e3.cx (by simp[T.get_set]) ?_
 refine q _ e1 e2 ⟨e3.nxt,e3.lim,rfl,e3.mem,e3.rd,e3.wr⟩
theorem AE:slN envS 22=some 1:=by kernel_rfl
theorem Jx:slN envS 43=some 1:=by kernel_rfl
theorem CU:elT envS 22=some (1,1,[.int .u8 0]):=by kernel_rfl
theorem Gq:appT envS 22 22=some (1,1,false,[.int .u8 0]):=by kernel_rfl
theorem Zh_:appT envS 22 3=some (1,1,true,[.int .u8 0]):=by kernel_rfl
theorem EH:tyS envS 22=some (1,false):=by kernel_rfl
theorem CG:tyS envS 5=some (1,false):=by kernel_rfl
theorem GA (n:Nat):rep n [Value.int .u8 0]=List.replicate n (Value.int .u8 0):=by
 induction n with
 |zero=>rfl
 |succ n ih=>
  show [Value.int .u8 0]++rep n [Value.int .u8 0]=_
  rw[ih];rfl
structure Room (s s':St)(N:Nat)(v:Value)(b:Nat):Prop where
 val:v= .slice (some ⟨b,0,none⟩) 0 (capU*((b+N*1)*1024+1)+N)
 new:s.next≤b
 own:Ae s' b 0 (List.replicate N (.int .u8 0))
 tok:T.get s'.mem (b+N)=some (.O (.tok false 1025))
 lt:b+N<s'.next
theorem Ji_ {n N:Nat}{s:St}{Q:Value→St→Prop}(hbd:s.lim≤s.next)(hn:20≤n)(hN:0<N)(hN2:N≤1000000)
  (q: ∀s1 v b,Room s s1 N v b→Ext Non Non s s1→Q v s1):W (Ai envS (runF envS n) 106 [.slice none 0 0, .int .i64 (N:Nat)]) s Q:=by
 refine LC_ fun tm h0 h1=> ?_
 refine Yh_.w rfl (by omega) ?_
 simp -implicitDefEqProofs only[GU_,Aa,W_mv,Ac]
 refine Vg_.w rfl (by omega) ?_
 simp -implicitDefEqProofs only[SM,Ad,W_oS,Aa,W_mv,Ac,T.get_set,reduceIte,Nat.reduceEqDiff, ↓reduceIte,Be,h1]
 refine W.cond (v:=false) rfl Ui_ (by simp[T.get_set]) (by omega) (fun h=>by cases h) fun _=> ?_
 refine If_.w rfl (by omega) ?_
 simp -implicitDefEqProofs only[UB,Ad,W_oS,Aa,W_mv,Ac,T.get_set,Ah,Ag,Af,reduceIte,Nat.reduceEqDiff,reduceCtorEq, ↓reduceIte,Cm,h0,h1,Ye AE,B5 AE]
 refine Ug_.w rfl (by omega) ?_
 have e1:wrap64 ((N:Int)-wrap64 (((0:Nat):Int)-((0:Nat):Int)))=(N:Nat):=by
  rw[AP (n:=((0:Nat):Int)-((0:Nat):Int)) (by simp) (by simp),AP]<;>simp<;>omega
 simp -implicitDefEqProofs only[GN_,Ad,W_oS,Aa,W_mv,Ac,T.get_set,reduceIte, ↓reduceIte,Dl,e1]
 refine W.cond (v:=true) rfl WK_ (by simp[T.get_set,hN]) (by omega) (fun _=> ?_) fun h=>by cases h
 refine Ob_.w rfl (by omega) ?_
 simp -implicitDefEqProofs only[AA_,Ad,W_oS,W_on,Aa,W_mv,Ac,T.get_set,Ah,Ag,Af,reduceIte,Nat.reduceEqDiff,reduceCtorEq, ↓reduceIte,h0,Ye AE,AaO_ (lo:=none) (hi:=some (.int .i64 ((0:Nat):Int))) AE rfl rfl,Eo]
 refine W.appNilT (s:=s.cxN cxN) hbd (n:=N) (l:=rep N [.int .u8 0]) Zh_ (ZK_ (by omega)) hN (by decide) (by decide) (by omega) (by rw[GA];simp) (by rw[GA];simp[oneCell]) fun s2 v b hf hT x2=> ?_
 obtain⟨rfl,hnew,hown,hlen,htok,hlt⟩:=hf
 have hc:=FM (q:=(b+N*1)*1024+1) (Bh (n:=N) (by omega))
 simp -implicitDefEqProofs only[B5 AE,Gm (l:=0) (h:=0) (lo:=none) (hi:=some (.int .i64 ((0:Nat):Int))) AE rfl rfl (Nat.le_refl _) (Nat.zero_le _) (Ey (m:=b+N*1) (Bh (n:=N) (by omega)) (by decide)),reduceIte, ↓reduceIte,hc,hN]
 refine Rt_.w Sz_ (by omega) ?_
 simp -implicitDefEqProofs only[U9,Aa,W_mv,Ac,T.get_set,reduceIte, ↓reduceIte]
 refine W.end' (rs:=[4]) (vs:=[.slice (some ⟨b,0,none⟩) 0 (capU*((b+N*1)*1024+1)+N)]) rfl (.inl Rc_) (by omega) ZQ Mg_ x2.cx (by simp[T.get_set]) ?_
 exact q _ _ b ⟨rfl,hnew,fun i v e=>(hown i v (by rw[GA];exact e)).same rfl rfl,by rw[Nat.mul_one]at hT;exact hT,by rw[Nat.mul_one]at hlt;exact hlt⟩ ⟨x2.nxt,x2.lim,rfl,x2.mem,x2.rd,x2.wr⟩
end Go.Proofs.Ytofanlcjeohcjaa.Am
end
