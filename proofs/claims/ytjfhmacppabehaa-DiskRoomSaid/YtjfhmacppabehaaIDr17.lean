import Derived.Test.YtjfhmacppabehaaIDr15
import Derived.Test.YtjfhmacppabehaaIDr08
import Derived.KernelRfl
import Derived.Test.YtjfhmacppabehaaIDr07
import Derived.Test.YtjfhmacppabehaaIDr14
import Derived.Test.YtjfhmacppabehaaIDr16
noncomputable section
namespace Go.Proofs.Ytjfhmacppabehaa.Am
open Go.RowKit
def OK:Nat:=Bq Try.f67
def SD:Code:=Try.f67.body.getD .skip
theorem Ti:envS.fn.get 67=some Try.f67:=by kernel_rfl
theorem Jt_ {a0 a1:Value}{n:Nat}{s:St}{Q:Value→St→Prop}(h: ∀tm,T.get tm 0=some a0→T.get tm 1=some a1→W (runF envS n ⟨67,9,OK,tm,[.code SD], .run, .normal,none⟩) (s.cxN cxN) fun p s1=>Q p.1 (s1.cxN s.cx)):W (As envS (runF envS n) 67 [a0,a1]) s Q:=
 W.call (by kernel_rfl) (by kernel_rfl) Ti (by kernel_rfl) rfl rfl (by simp) (h _ (by kernel_rfl) (by kernel_rfl))
theorem YQ:Try.f67.results.toList=[.tmp 4]:=by kernel_rfl
def MI:List Item:=skim 64 [.code SD]
def J1:List Item:=skim 64 MI.tail
theorem Kv_:skim 64 MI.tail=J1:=by kernel_rfl
def NF:List Item:=skim 64 J1.tail
theorem Ez_:skim 64 J1.tail=NF:=by kernel_rfl
def Sl (E:Env)(call round:Ac)(tm:T Value):M (T Value):=
 mv (some (.bool false)) fun v4=>
 setF 4 v4 tm fun tm1=>
 M.pure tm1
theorem Mn_:RegEq 67 9 OK MI Sl:=⟨by kernel_rfl,fun _ _ _ _ _ _ _ _ _=>by kernel_rfl⟩
def VA (E:Env)(call round:Ac)(tm:T Value):M (T Value):=
 mv (T.get tm 0) fun v5=>
 mv (T.get tm 1) fun v6=>
 M.bind (M.on (some (.func (.func 82) #[] #[])) fun f=>M.on (seqO [(some v5),(some v6)]) fun l=>A9 call round f l) fun v7=>
 M.bind (oS (some v7) fun a=>oS (some (.int .i64 0)) fun b=>Cl.get (aBin E .geq 3 (.tmp 7) (.const (.int .i64 0))) a b) fun v8=>
 mv (some v8) fun v4=>
 setF 4 v4 tm fun tm1=>
 M.pure tm1
theorem Em_:RegEq 67 9 OK J1 VA:=⟨by kernel_rfl,fun _ _ _ _ _ _ _ _ _=>by kernel_rfl⟩
theorem HW_: ∃k,NF= .code .ret::k:=⟨NF.tail,by kernel_rfl⟩
def M8:Nat:=Bq Try.f82
def TU:Code:=Try.f82.body.getD .skip
theorem SY:envS.fn.get 82=some Try.f82:=by kernel_rfl
theorem Cz_ {a0 a1:Value}{n:Nat}{s:St}{Q:Value→St→Prop}(h: ∀tm,T.get tm 0=some a0→T.get tm 1=some a1→W (runF envS n ⟨82,8,M8,tm,[.code TU], .run, .normal,none⟩) (s.cxN cxN) fun p s1=>Q p.1 (s1.cxN s.cx)):W (As envS (runF envS n) 82 [a0,a1]) s Q:=
 W.call (by kernel_rfl) (by kernel_rfl) SY (by kernel_rfl) rfl rfl (by simp) (h _ (by kernel_rfl) (by kernel_rfl))
theorem YI:Try.f82.results.toList=[.tmp 4]:=by kernel_rfl
def KQ:List Item:=skim 64 [.code TU]
def IH:List Item:=skim 64 KQ.tail
theorem AO_:skim 64 KQ.tail=IH:=by kernel_rfl
def LO:List Item:=skim 64 IH.tail
theorem Al_:skim 64 IH.tail=LO:=by kernel_rfl
def Pd (E:Env)(call round:Ac)(tm:T Value):M (T Value):=
 mv (some (.int .i64 0)) fun v4=>
 setF 4 v4 tm fun tm1=>
 M.pure tm1
theorem KJ_:RegEq 82 8 M8 KQ Pd:=⟨by kernel_rfl,fun _ _ _ _ _ _ _ _ _=>by kernel_rfl⟩
def P3 (E:Env)(call round:Ac)(tm:T Value):M (T Value):=
 mv (T.get tm 0) fun v5=>
 mv (T.get tm 1) fun v6=>
 M.bind (M.on (some (.func (.func 89) #[] #[])) fun f=>M.on (seqO [(some v5),(some v6),(some (.bool true))]) fun l=>A9 call round f l) fun v7=>
 mv (some v7) fun v4=>
 setF 4 v4 tm fun tm1=>
 M.pure tm1
theorem An_:RegEq 82 8 M8 IH P3:=⟨by kernel_rfl,fun _ _ _ _ _ _ _ _ _=>by kernel_rfl⟩
theorem XQ: ∃k,LO= .code .ret::k:=⟨LO.tail,by kernel_rfl⟩
def Ex:Nat:=Bq Try.f89
def Wd:Code:=Try.f89.body.getD .skip
theorem U6:envS.fn.get 89=some Try.f89:=by kernel_rfl
theorem BT_ {a0 a1 a2:Value}{n:Nat}{s:St}{Q:Value→St→Prop}(h: ∀tm,T.get tm 0=some a0→T.get tm 1=some a1→T.get tm 2=some a2→W (runF envS n ⟨89,21,Ex,tm,[.code Wd], .run, .normal,none⟩) (s.cxN cxN) fun p s1=>Q p.1 (s1.cxN s.cx)):W (As envS (runF envS n) 89 [a0,a1,a2]) s Q:=
 W.call (by kernel_rfl) (by kernel_rfl) U6 (by kernel_rfl) rfl rfl (by simp) (h _ (by kernel_rfl) (by kernel_rfl) (by kernel_rfl))
theorem BN_:Try.f89.results.toList=[.tmp 6]:=by kernel_rfl
def LZ:List Item:=skim 64 [.code Wd]
def JZ:List Item:=skim 64 LZ.tail
theorem Bs_:skim 64 LZ.tail=JZ:=by kernel_rfl
def Gt:List Item:=skim 64 JZ.tail
theorem Lm_:skim 64 JZ.tail=Gt:=by kernel_rfl
def Fy:List Item:=skim 64 Gt.tail
theorem OX:skim 64 Gt.tail=Fy:=by kernel_rfl
def Je:List Item:=skim 64 (brT Fy)
theorem Mp_:skim 64 (brT Fy)=Je:=by kernel_rfl
def Hy:List Item:=skim 64 (brF Fy)
theorem Gc_:skim 64 (brF Fy)=Hy:=by kernel_rfl
def Im:List Item:=skim 64 Je.tail
theorem Bz_:skim 64 Je.tail=Im:=by kernel_rfl
def LR:List Item:=skim 64 Hy.tail
theorem Fc_:skim 64 Hy.tail=LR:=by kernel_rfl
def Mj:List Item:=skim 64 Im.tail
theorem XU:skim 64 Im.tail=Mj:=by kernel_rfl
theorem ZM:skim 64 (brF Mj)=Gt:=by kernel_rfl
def Sd (E:Env)(call round:Ac)(tm:T Value):M (T Value):=
 mv (some (.int .i64 0)) fun v6=>
 setF 6 v6 tm fun tm1=>
 M.pure tm1
theorem Yg:RegEq 89 21 Ex LZ Sd:=⟨by kernel_rfl,fun _ _ _ _ _ _ _ _ _=>by kernel_rfl⟩
def QF (E:Env)(call round:Ac)(tm:T Value):M (T Value):=
 mv (T.get tm 0) fun v9=>
 M.bind (oS (some v9) fun a=>CV E 9 a) fun v10=>
 setF 10 v10 tm fun tm1=>
 M.pure tm1
theorem Ib_:RegEq 89 21 Ex JZ QF:=⟨by kernel_rfl,fun _ _ _ _ _ _ _ _ _=>by kernel_rfl⟩
def Lg (E:Env)(call round:Ac)(tm:T Value):M (T Value):=
 M.bind (oS (T.get tm 10) fun a=>De a) fun v11=>
 setF 11 v11 tm fun tm1=>
 M.bind (oS (some v11) fun a=>kExt 0 a) fun v12=>
 setF 12 v12 tm1 fun tm2=>
 M.pure tm2
theorem Rl:RegEq 89 21 Ex Gt Lg:=⟨by kernel_rfl,fun _ _ _ _ _ _ _ _ _=>by kernel_rfl⟩
theorem Vq:Bb Fy=some 12:=by kernel_rfl
def VG (E:Env)(call round:Ac)(tm:T Value):M (T Value):=
 M.bind (oS (T.get tm 11) fun a=>kExt 1 a) fun v13=>
 M.bind (oS (T.get tm 11) fun a=>kExt 2 a) fun v14=>
 mv (some v13) fun v7=>
 setF 7 v7 tm fun tm1=>
 mv (some v14) fun v8=>
 setF 8 v8 tm1 fun tm2=>
 M.pure tm2
theorem ZO:RegEq 89 21 Ex Je VG:=⟨by kernel_rfl,fun _ _ _ _ _ _ _ _ _=>by kernel_rfl⟩
def S2 (E:Env)(call round:Ac)(tm:T Value):M (T Value):=
 mv (some (.int .i64 (-1))) fun v6=>
 setF 6 v6 tm fun tm1=>
 M.pure tm1
theorem Ek_:RegEq 89 21 Ex Hy S2:=⟨by kernel_rfl,fun _ _ _ _ _ _ _ _ _=>by kernel_rfl⟩
def RQ (E:Env)(call round:Ac)(tm:T Value):M (T Value):=
 mv (T.get tm 1) fun v15=>
 mv (T.get tm 8) fun v16=>
 M.bind (M.on (some v15) fun f=>M.on (seqO [(some v16)]) fun l=>A9 call round f l) fun v17=>
 mv (T.get tm 2) fun v18=>
 M.bind (oS (some v17) fun a=>oS (some v18) fun b=>Cl.get (aBin E .eql 4 (.tmp 17) (.tmp 18)) a b) fun v19=>
 setF 19 v19 tm fun tm1=>
 M.pure tm1
theorem WL:RegEq 89 21 Ex Im RQ:=⟨by kernel_rfl,fun _ _ _ _ _ _ _ _ _=>by kernel_rfl⟩
theorem Cx_: ∃k,LR= .code .ret::k:=⟨LR.tail,by kernel_rfl⟩
theorem GE_:Bb Mj=some 19:=by kernel_rfl
def OC:Nat:=Bq Try.f46
def U9:Code:=Try.f46.body.getD .skip
theorem Vh:envS.fn.get 46=some Try.f46:=by kernel_rfl
theorem GK_ {a0 a1:Value}{n:Nat}{s:St}{Q:Value→St→Prop}(h: ∀tm,T.get tm 0=some a0→T.get tm 1=some a1→W (runF envS n ⟨46,8,OC,tm,[.code U9], .run, .normal,none⟩) (s.cxN cxN) fun p s1=>Q p.1 (s1.cxN s.cx)):W (As envS (runF envS n) 46 [a0,a1]) s Q:=
 W.call (by kernel_rfl) (by kernel_rfl) Vh (by kernel_rfl) rfl rfl (by simp) (h _ (by kernel_rfl) (by kernel_rfl))
theorem AL_:Try.f46.results.toList=[.tmp 4]:=by kernel_rfl
def Ni:List Item:=skim 64 [.code U9]
def Jx:List Item:=skim 64 Ni.tail
theorem Ai_:skim 64 Ni.tail=Jx:=by kernel_rfl
def Ns:List Item:=skim 64 Jx.tail
theorem Kh_:skim 64 Jx.tail=Ns:=by kernel_rfl
def Tr (E:Env)(call round:Ac)(tm:T Value):M (T Value):=
 mv (some (.bool false)) fun v4=>
 setF 4 v4 tm fun tm1=>
 M.pure tm1
theorem KK_:RegEq 46 8 OC Ni Tr:=⟨by kernel_rfl,fun _ _ _ _ _ _ _ _ _=>by kernel_rfl⟩
def Qh (E:Env)(call round:Ac)(tm:T Value):M (T Value):=
 mv (T.get tm 0) fun v5=>
 mv (T.get tm 1) fun v6=>
 M.bind (M.on (some (.func (.func 74) #[] #[])) fun f=>M.on (seqO [(some v5),(some v6)]) fun l=>A9 call round f l) fun v7=>
 mv (some v7) fun v4=>
 setF 4 v4 tm fun tm1=>
 M.pure tm1
theorem FG_:RegEq 46 8 OC Jx Qh:=⟨by kernel_rfl,fun _ _ _ _ _ _ _ _ _=>by kernel_rfl⟩
theorem Wn: ∃k,Ns= .code .ret::k:=⟨Ns.tail,by kernel_rfl⟩
def NE:Nat:=Bq Try.f74
def RK:Code:=Try.f74.body.getD .skip
theorem U1:envS.fn.get 74=some Try.f74:=by kernel_rfl
theorem IE_ {a0 a1:Value}{n:Nat}{s:St}{Q:Value→St→Prop}(h: ∀tm,T.get tm 0=some a0→T.get tm 1=some a1→W (runF envS n ⟨74,18,NE,tm,[.code RK], .run, .normal,none⟩) (s.cxN cxN) fun p s1=>Q p.1 (s1.cxN s.cx)):W (As envS (runF envS n) 74 [a0,a1]) s Q:=
 W.call (by kernel_rfl) (by kernel_rfl) U1 (by kernel_rfl) rfl rfl (by simp) (h _ (by kernel_rfl) (by kernel_rfl))
theorem Jj_:Try.f74.results.toList=[.tmp 4]:=by kernel_rfl
def NA:List Item:=skim 64 [.code RK]
def Ig:List Item:=skim 64 NA.tail
theorem LN_:skim 64 NA.tail=Ig:=by kernel_rfl
def MH:List Item:=skim 64 Ig.tail
theorem Gv_:skim 64 Ig.tail=MH:=by kernel_rfl
def QO (E:Env)(call round:Ac)(tm:T Value):M (T Value):=
 mv (some (.bool false)) fun v4=>
 setF 4 v4 tm fun tm1=>
 M.pure tm1
theorem HH_:RegEq 74 18 NE NA QO:=⟨by kernel_rfl,fun _ _ _ _ _ _ _ _ _=>by kernel_rfl⟩
def RI (E:Env)(call round:Ac)(tm:T Value):M (T Value):=
 mv (T.get tm 0) fun v5=>
 M.bind (oS (seqO [(some v5)]) fun l=>A6 E .len [9] l) fun v6=>
 mv (T.get tm 1) fun v7=>
 M.bind (oS (seqO [(some v7)]) fun l=>A6 E .len [9] l) fun v8=>
 M.bind (oS (some v6) fun a=>oS (some v8) fun b=>Cl.get (aBin E .geq 3 (.tmp 6) (.tmp 8)) a b) fun v9=>
 mv (some v9) fun v10=>
 M.bind (M.chk (isK v10) (M.if (isB v10 true) (oS (T.get tm 0) fun a=>M.pure a) (M.pure undef))) fun v11=>
 M.bind (M.chk (isK v10) (M.if (isB v10 true) (oS (T.get tm 1) fun a=>M.pure a) (M.pure undef))) fun v12=>
 M.bind (M.chk (isK v10) (M.if (isB v10 true) (oS (seqO [(some v12)]) fun l=>A6 E .len [9] l) (M.pure undef))) fun v13=>
 M.bind (M.chk (isK v10) (M.if (isB v10 true) (M.on (some v11) fun a=>M.on (some none) fun b=>M.on (onO (some v13) fun v=>some (some v)) fun c=>BK E 9 a b c) (M.pure undef))) fun v14=>
 M.bind (M.chk (isK v10) (M.if (isB v10 true) (oS (T.get tm 1) fun a=>M.pure a) (M.pure undef))) fun v15=>
 M.bind (M.chk (isK v10) (M.if (isB v10 true) (oS (some v14) fun a=>oS (some v15) fun b=>Cl.get (aBin E .eql 9 (.tmp 14) (.tmp 15)) a b) (M.pure undef))) fun v16=>
 M.bind (M.on (some v10) fun a=>M.on (some v16) fun b=>M.on (some (.bool false)) fun c=>BC a b c) fun v17=>
 mv (some v17) fun v4=>
 setF 4 v4 tm fun tm1=>
 M.pure tm1
theorem HN_:RegEq 74 18 NE Ig RI:=⟨by kernel_rfl,fun _ _ _ _ _ _ _ _ _=>by kernel_rfl⟩
theorem Mx_: ∃k,MH= .code .ret::k:=⟨MH.tail,by kernel_rfl⟩
def Hs:Nat:=Bq Try.f44
def TK:Code:=Try.f44.body.getD .skip
theorem QY:envS.fn.get 44=some Try.f44:=by kernel_rfl
theorem WX {a0 a1:Value}{n:Nat}{s:St}{Q:Value→St→Prop}(h: ∀tm,T.get tm 0=some a0→T.get tm 1=some a1→W (runF envS n ⟨44,42,Hs,tm,[.code TK], .run, .normal,none⟩) (s.cxN cxN) fun p s1=>Q p.1 (s1.cxN s.cx)):W (As envS (runF envS n) 44 [a0,a1]) s Q:=
 W.call (by kernel_rfl) (by kernel_rfl) QY (by kernel_rfl) rfl rfl (by simp) (h _ (by kernel_rfl) (by kernel_rfl))
theorem Hx_:Try.f44.results.toList=[.tmp 4]:=by kernel_rfl
def N9:List Item:=skim 64 [.code TK]
def Ky:List Item:=skim 64 N9.tail
theorem FW_:skim 64 N9.tail=Ky:=by kernel_rfl
def Ks:List Item:=skim 64 Ky.tail
theorem JY_:skim 64 Ky.tail=Ks:=by kernel_rfl
def JU:List Item:=skim 64 Ks.tail
theorem YK:skim 64 Ks.tail=JU:=by kernel_rfl
def Ir:List Item:=skim 64 (brT JU)
theorem Fh_:skim 64 (brT JU)=Ir:=by kernel_rfl
def K3:List Item:=skim 64 Ir.tail
theorem Eh_:skim 64 Ir.tail=K3:=by kernel_rfl
def Pc (E:Env)(call round:Ac)(tm:T Value):M (T Value):=
 mv (some (.slice none 0 0)) fun v4=>
 setF 4 v4 tm fun tm1=>
 M.pure tm1
theorem Kj_:RegEq 44 42 Hs N9 Pc:=⟨by kernel_rfl,fun _ _ _ _ _ _ _ _ _=>by kernel_rfl⟩
def Si (E:Env)(call round:Ac)(tm:T Value):M (T Value):=
 mv (T.get tm 0) fun v8=>
 mv (T.get tm 1) fun v9=>
 M.bind (M.on (some (.func (.func 73) #[] #[])) fun f=>M.on (seqO [(some v8),(some v9)]) fun l=>A9 call round f l) fun v10=>
 mv (some v10) fun v5=>
 setF 5 v5 tm fun tm1=>
 M.pure tm1
theorem Br_:RegEq 44 42 Hs Ky Si:=⟨by kernel_rfl,fun _ _ _ _ _ _ _ _ _=>by kernel_rfl⟩
def Vz (E:Env)(call round:Ac)(tm:T Value):M (T Value):=
 mv (T.get tm 5) fun v11=>
 M.bind (oS (some v11) fun a=>oS (some (.int .i64 (-1))) fun b=>Cl.get (aBin E .eql 3 (.tmp 11) (.const (.int .i64 (-1)))) a b) fun v12=>
 setF 12 v12 tm fun tm1=>
 M.pure tm1
theorem Gn_:RegEq 44 42 Hs Ks Vz:=⟨by kernel_rfl,fun _ _ _ _ _ _ _ _ _=>by kernel_rfl⟩
theorem CR_:Bb JU=some 12:=by kernel_rfl
def V6 (E:Env)(call round:Ac)(tm:T Value):M (T Value):=
 mv (T.get tm 0) fun v13=>
 mv (some v13) fun v4=>
 setF 4 v4 tm fun tm1=>
 M.pure tm1
theorem Ao_:RegEq 44 42 Hs Ir V6:=⟨by kernel_rfl,fun _ _ _ _ _ _ _ _ _=>by kernel_rfl⟩
theorem Zv: ∃k,K3= .code .ret::k:=⟨K3.tail,by kernel_rfl⟩
def Dw:Nat:=Bq Try.f73
abbrev Yd:Nat:=19
def S8:Code:=Try.f73.body.getD .skip
theorem Qo:envS.fn.get 73=some Try.f73:=by kernel_rfl
theorem Db_ {a0 a1:Value}{n:Nat}{s:St}{Q:Value→St→Prop}(h: ∀tm,T.get tm 0=some a0→T.get tm 1=some a1→W (runF envS n ⟨73,19,Dw,tm,[.code S8], .run, .normal,none⟩) (s.cxN cxN) fun p s1=>Q p.1 (s1.cxN s.cx)):W (As envS (runF envS n) 73 [a0,a1]) s Q:=
 W.call (by kernel_rfl) (by kernel_rfl) Qo (by kernel_rfl) rfl rfl (by simp) (h _ (by kernel_rfl) (by kernel_rfl))
theorem YC:Try.f73.results.toList=[.tmp 4]:=by kernel_rfl
def LI:List Item:=skim 64 [.code S8]
def Jw:List Item:=skim 64 LI.tail
theorem BE_:skim 64 LI.tail=Jw:=by kernel_rfl
def FG:List Item:=skim 64 Jw.tail
theorem Hy_:skim 64 Jw.tail=FG:=by kernel_rfl
def FY:List Item:=skim 64 FG.tail
theorem TJ:skim 64 FG.tail=FY:=by kernel_rfl
def JM:List Item:=skim 64 (brT FY)
theorem Lv_:skim 64 (brT FY)=JM:=by kernel_rfl
def Io:List Item:=skim 64 (brF FY)
theorem AI_:skim 64 (brF FY)=Io:=by kernel_rfl
def Kt:List Item:=skim 64 JM.tail
theorem Yn:skim 64 JM.tail=Kt:=by kernel_rfl
def MP:List Item:=skim 64 Io.tail
theorem Ka_:skim 64 Io.tail=MP:=by kernel_rfl
def Kn:List Item:=skim 64 Kt.tail
theorem HJ_:skim 64 Kt.tail=Kn:=by kernel_rfl
def Lo:List Item:=skim 64 (brF Kn)
theorem Y2:skim 64 (brF Kn)=Lo:=by kernel_rfl
theorem Cv_:skim 64 Lo.tail=FG:=by kernel_rfl
def SB (E:Env)(call round:Ac)(tm:T Value):M (T Value):=
 mv (some (.int .i64 0)) fun v4=>
 setF 4 v4 tm fun tm1=>
 M.pure tm1
theorem HB_:RegEq 73 19 Dw LI SB:=⟨by kernel_rfl,fun _ _ _ _ _ _ _ _ _=>by kernel_rfl⟩
def P2 (E:Env)(call round:Ac)(tm:T Value):M (T Value):=
 mv (T.get tm 0) fun v6=>
 M.bind (oS (seqO [(some v6)]) fun l=>A6 E .len [30] l) fun v7=>
 setF 7 v7 tm fun tm1=>
 mv (some (.int .i64 0)) fun v8=>
 setF 8 v8 tm1 fun tm2=>
 M.pure tm2
theorem WD:RegEq 73 19 Dw Jw P2:=⟨by kernel_rfl,fun _ _ _ _ _ _ _ _ _=>by kernel_rfl⟩
def OB (E:Env)(call round:Ac)(tm:T Value):M (T Value):=
 M.bind (oS (T.get tm 8) fun a=>oS (T.get tm 7) fun b=>Cl.get (aBin E .lss 3 (.tmp 8) (.tmp 7)) a b) fun v9=>
 setF 9 v9 tm fun tm1=>
 M.pure tm1
theorem Tx:RegEq 73 19 Dw FG OB:=⟨by kernel_rfl,fun _ _ _ _ _ _ _ _ _=>by kernel_rfl⟩
theorem QC:Bb FY=some 9:=by kernel_rfl
def RC (E:Env)(call round:Ac)(tm:T Value):M (T Value):=
 mv (T.get tm 8) fun v10=>
 mv (some v10) fun v5=>
 setF 5 v5 tm fun tm1=>
 M.pure tm1
theorem Mu_:RegEq 73 19 Dw JM RC:=⟨by kernel_rfl,fun _ _ _ _ _ _ _ _ _=>by kernel_rfl⟩
def SO (E:Env)(call round:Ac)(tm:T Value):M (T Value):=
 mv (some (.int .i64 (-1))) fun v4=>
 setF 4 v4 tm fun tm1=>
 M.pure tm1
theorem Fb_:RegEq 73 19 Dw Io SO:=⟨by kernel_rfl,fun _ _ _ _ _ _ _ _ _=>by kernel_rfl⟩
def TZ (E:Env)(call round:Ac)(tm:T Value):M (T Value):=
 mv (T.get tm 1) fun v11=>
 mv (T.get tm 0) fun v12=>
 mv (T.get tm 5) fun v13=>
 M.bind (oS (some v12) fun a=>oS (some v13) fun b=>BS E 30 a b) fun v14=>
 M.bind (oS (some v14) fun a=>A3 E 9 a) fun v15=>
 M.bind (M.on (some v11) fun f=>M.on (seqO [(some v15)]) fun l=>A9 call round f l) fun v16=>
 setF 16 v16 tm fun tm1=>
 M.pure tm1
theorem Mb_:RegEq 73 19 Dw Kt TZ:=⟨by kernel_rfl,fun _ _ _ _ _ _ _ _ _=>by kernel_rfl⟩
theorem CP_: ∃k,MP= .code .ret::k:=⟨MP.tail,by kernel_rfl⟩
theorem Y5:Bb Kn=some 16:=by kernel_rfl
def RO (E:Env)(call round:Ac)(tm:T Value):M (T Value):=
 M.bind (oS (T.get tm 8) fun a=>oS (some (.int .i64 1)) fun b=>Cl.get (aBin E .add 3 (.tmp 8) (.const (.int .i64 1))) a b) fun v18=>
 mv (some v18) fun v8=>
 setF 8 v8 tm fun tm1=>
 M.pure tm1
theorem KN_:RegEq 73 19 Dw Lo RO:=⟨by kernel_rfl,fun _ _ _ _ _ _ _ _ _=>by kernel_rfl⟩
def BD:Nat:=Bq Try.f47
abbrev Fx:Nat:=36
def Sf:Code:=Try.f47.body.getD .skip
theorem L8:envS.fn.get 47=some Try.f47:=by kernel_rfl
theorem TB {a0:Value}{n:Nat}{s:St}{Q:Value→St→Prop}(h: ∀tm,T.get tm 0=some a0→W (runF envS n ⟨47,36,BD,tm,[.code Sf], .run, .normal,none⟩) (s.cxN cxN) fun p s1=>Q p.1 (s1.cxN s.cx)):W (As envS (runF envS n) 47 [a0]) s Q:=
 W.call (by kernel_rfl) (by kernel_rfl) L8 (by kernel_rfl) rfl rfl (by simp) (h _ (by kernel_rfl))
theorem S1:Try.f47.results.toList=[.tmp 2]:=by kernel_rfl
def Mc:List Item:=skim 64 [.code Sf]
def HD:List Item:=skim 64 Mc.tail
theorem QQ:skim 64 Mc.tail=HD:=by kernel_rfl
def HW:List Item:=skim 64 HD.tail
theorem Q2:skim 64 HD.tail=HW:=by kernel_rfl
def FC:List Item:=skim 64 HW.tail
theorem UO:skim 64 HW.tail=FC:=by kernel_rfl
def Fj:List Item:=skim 64 FC.tail
theorem Ut:skim 64 FC.tail=Fj:=by kernel_rfl
def Ip:List Item:=skim 64 (brT Fj)
theorem BP_:skim 64 (brT Fj)=Ip:=by kernel_rfl
def Hm:List Item:=skim 64 (brF Fj)
theorem BA_:skim 64 (brF Fj)=Hm:=by kernel_rfl
def HN:List Item:=skim 64 Ip.tail
theorem Hz_:skim 64 Ip.tail=HN:=by kernel_rfl
def HC:List Item:=skim 64 Hm.tail
theorem Pl:skim 64 Hm.tail=HC:=by kernel_rfl
def HP:List Item:=skim 64 HN.tail
theorem GT_:skim 64 HN.tail=HP:=by kernel_rfl
def D5:List Item:=skim 64 HC.tail
theorem Pa:skim 64 HC.tail=D5:=by kernel_rfl
def Iz:List Item:=skim 64 HP.tail
theorem ES_:skim 64 HP.tail=Iz:=by kernel_rfl
def Fz:List Item:=skim 64 D5.tail
theorem Hz:skim 64 D5.tail=Fz:=by kernel_rfl
def NH:List Item:=skim 64 (brF Iz)
theorem Ke_:skim 64 (brF Iz)=NH:=by kernel_rfl
def H7:List Item:=skim 64 (brT Fz)
theorem QI:skim 64 (brT Fz)=H7:=by kernel_rfl
def Fh:List Item:=skim 64 (brF Fz)
theorem RL:skim 64 (brF Fz)=Fh:=by kernel_rfl
theorem DJ_:skim 64 NH.tail=FC:=by kernel_rfl
def KA:List Item:=skim 64 H7.tail
theorem Sy:skim 64 H7.tail=KA:=by kernel_rfl
def Og:List Item:=skim 64 Fh.tail
theorem O1:skim 64 Fh.tail=Og:=by kernel_rfl
def Nv:List Item:=skim 64 KA.tail
theorem Sv:skim 64 KA.tail=Nv:=by kernel_rfl
theorem QS:skim 64 Nv.tail=D5:=by kernel_rfl
def LF (E:Env)(call round:Ac)(tm:T Value):M (T Value):=
 mv (some (.slice none 0 0)) fun v2=>
 setF 2 v2 tm fun tm1=>
 M.pure tm1
theorem P8:RegEq 47 36 BD Mc LF:=⟨by kernel_rfl,fun _ _ _ _ _ _ _ _ _=>by kernel_rfl⟩
def Oh (E:Env)(call round:Ac)(tm:T Value):M (T Value):=
 mv (some (.int .i64 0)) fun v3=>
 setF 3 v3 tm fun tm1=>
 M.pure tm1
theorem QL:RegEq 47 36 BD HD Oh:=⟨by kernel_rfl,fun _ _ _ _ _ _ _ _ _=>by kernel_rfl⟩
def Oe (E:Env)(call round:Ac)(tm:T Value):M (T Value):=
 mv (T.get tm 0) fun v9=>
 setF 9 v9 tm fun tm1=>
 M.bind (oS (seqO [(some v9)]) fun l=>A6 E .len [22] l) fun v10=>
 setF 10 v10 tm1 fun tm2=>
 mv (some (.int .i64 0)) fun v11=>
 setF 11 v11 tm2 fun tm3=>
 M.pure tm3
theorem VB:RegEq 47 36 BD HW Oe:=⟨by kernel_rfl,fun _ _ _ _ _ _ _ _ _=>by kernel_rfl⟩
def LJ (E:Env)(call round:Ac)(tm:T Value):M (T Value):=
 M.bind (oS (T.get tm 11) fun a=>oS (T.get tm 10) fun b=>Cl.get (aBin E .lss 3 (.tmp 11) (.tmp 10)) a b) fun v12=>
 setF 12 v12 tm fun tm1=>
 M.pure tm1
theorem PZ:RegEq 47 36 BD FC LJ:=⟨by kernel_rfl,fun _ _ _ _ _ _ _ _ _=>by kernel_rfl⟩
theorem VV:Bb Fj=some 12:=by kernel_rfl
def TY (E:Env)(call round:Ac)(tm:T Value):M (T Value):=
 M.bind (oS (T.get tm 9) fun a=>oS (T.get tm 11) fun b=>BS E 22 a b) fun v13=>
 M.bind (oS (some v13) fun a=>A3 E 26 a) fun v14=>
 mv (some v14) fun v5=>
 setF 5 v5 tm fun tm1=>
 M.pure tm1
theorem CX_:RegEq 47 36 BD Ip TY:=⟨by kernel_rfl,fun _ _ _ _ _ _ _ _ _=>by kernel_rfl⟩
def N5 (E:Env)(call round:Ac)(tm:T Value):M (T Value):=
 mv (T.get tm 3) fun v23=>
 M.bind (M.on (some (.func (.func 75) #[] #[])) fun f=>M.on (seqO [(some (.slice none 0 0)),(some v23)]) fun l=>A9 call round f l) fun v24=>
 mv (some v24) fun v6=>
 setF 6 v6 tm fun tm1=>
 M.pure tm1
theorem TW:RegEq 47 36 BD Hm N5:=⟨by kernel_rfl,fun _ _ _ _ _ _ _ _ _=>by kernel_rfl⟩
def UL (E:Env)(call round:Ac)(tm:T Value):M (T Value):=
 mv (T.get tm 3) fun v15=>
 mv (T.get tm 5) fun v16=>
 M.bind (oS (seqO [(some v16)]) fun l=>A6 E .len [26] l) fun v17=>
 M.bind (oS (some v15) fun a=>oS (some v17) fun b=>Cl.get (aBin E .add 3 (.tmp 15) (.tmp 17)) a b) fun v18=>
 mv (some v18) fun v3=>
 setF 3 v3 tm fun tm1=>
 M.pure tm1
theorem WP:RegEq 47 36 BD HN UL:=⟨by kernel_rfl,fun _ _ _ _ _ _ _ _ _=>by kernel_rfl⟩
def KZ (E:Env)(call round:Ac)(tm:T Value):M (T Value):=
 mv (T.get tm 0) fun v25=>
 setF 25 v25 tm fun tm1=>
 M.bind (oS (seqO [(some v25)]) fun l=>A6 E .len [22] l) fun v26=>
 setF 26 v26 tm1 fun tm2=>
 mv (some (.int .i64 0)) fun v27=>
 setF 27 v27 tm2 fun tm3=>
 M.pure tm3
theorem SH:RegEq 47 36 BD HC KZ:=⟨by kernel_rfl,fun _ _ _ _ _ _ _ _ _=>by kernel_rfl⟩
def Q5 (E:Env)(call round:Ac)(tm:T Value):M (T Value):=
 mv (T.get tm 3) fun v19=>
 M.bind (oS (some v19) fun a=>oS (some (.int .i64 0)) fun b=>Cl.get (aBin E .lss 3 (.tmp 19) (.const (.int .i64 0))) a b) fun v20=>
 setF 20 v20 tm fun tm1=>
 M.pure tm1
theorem Ea_:RegEq 47 36 BD HP Q5:=⟨by kernel_rfl,fun _ _ _ _ _ _ _ _ _=>by kernel_rfl⟩
def GR (E:Env)(call round:Ac)(tm:T Value):M (T Value):=
 M.bind (oS (T.get tm 27) fun a=>oS (T.get tm 26) fun b=>Cl.get (aBin E .lss 3 (.tmp 27) (.tmp 26)) a b) fun v28=>
 setF 28 v28 tm fun tm1=>
 M.pure tm1
theorem Jj:RegEq 47 36 BD D5 GR:=⟨by kernel_rfl,fun _ _ _ _ _ _ _ _ _=>by kernel_rfl⟩
theorem W4:Bb Iz=some 20:=by kernel_rfl
theorem KK:Bb Fz=some 28:=by kernel_rfl
def VK (E:Env)(call round:Ac)(tm:T Value):M (T Value):=
 M.bind (oS (T.get tm 11) fun a=>oS (some (.int .i64 1)) fun b=>Cl.get (aBin E .add 3 (.tmp 11) (.const (.int .i64 1))) a b) fun v22=>
 mv (some v22) fun v11=>
 setF 11 v11 tm fun tm1=>
 M.pure tm1
theorem JB_:RegEq 47 36 BD NH VK:=⟨by kernel_rfl,fun _ _ _ _ _ _ _ _ _=>by kernel_rfl⟩
def NO (E:Env)(call round:Ac)(tm:T Value):M (T Value):=
 M.bind (oS (T.get tm 25) fun a=>oS (T.get tm 27) fun b=>BS E 22 a b) fun v29=>
 M.bind (oS (some v29) fun a=>A3 E 26 a) fun v30=>
 mv (some v30) fun v8=>
 setF 8 v8 tm fun tm1=>
 M.pure tm1
theorem Uc:RegEq 47 36 BD H7 NO:=⟨by kernel_rfl,fun _ _ _ _ _ _ _ _ _=>by kernel_rfl⟩
def On (E:Env)(call round:Ac)(tm:T Value):M (T Value):=
 mv (T.get tm 6) fun v35=>
 mv (some v35) fun v2=>
 setF 2 v2 tm fun tm1=>
 M.pure tm1
theorem VE:RegEq 47 36 BD Fh On:=⟨by kernel_rfl,fun _ _ _ _ _ _ _ _ _=>by kernel_rfl⟩
def K7 (E:Env)(call round:Ac)(tm:T Value):M (T Value):=
 mv (T.get tm 6) fun v31=>
 mv (T.get tm 8) fun v32=>
 M.bind (oS (seqO [(some v31),(some v32)]) fun l=>A6 E .append [26,26] l) fun v33=>
 mv (some v33) fun v6=>
 setF 6 v6 tm fun tm1=>
 M.pure tm1
theorem Qb:RegEq 47 36 BD KA K7:=⟨by kernel_rfl,fun _ _ _ _ _ _ _ _ _=>by kernel_rfl⟩
theorem R9: ∃k,Og= .code .ret::k:=⟨Og.tail,by kernel_rfl⟩
def M0 (E:Env)(call round:Ac)(tm:T Value):M (T Value):=
 M.bind (oS (T.get tm 27) fun a=>oS (some (.int .i64 1)) fun b=>Cl.get (aBin E .add 3 (.tmp 27) (.const (.int .i64 1))) a b) fun v34=>
 mv (some v34) fun v27=>
 setF 27 v27 tm fun tm1=>
 M.pure tm1
theorem VL:RegEq 47 36 BD Nv M0:=⟨by kernel_rfl,fun _ _ _ _ _ _ _ _ _=>by kernel_rfl⟩
def Ea:Nat:=Bq Try.f75
def Vo:Code:=Try.f75.body.getD .skip
theorem Lj:envS.fn.get 75=some Try.f75:=by kernel_rfl
theorem Sr {a0 a1:Value}{n:Nat}{s:St}{Q:Value→St→Prop}(h: ∀tm,T.get tm 0=some a0→T.get tm 1=some a1→W (runF envS n ⟨75,27,Ea,tm,[.code Vo], .run, .normal,none⟩) (s.cxN cxN) fun p s1=>Q p.1 (s1.cxN s.cx)):W (As envS (runF envS n) 75 [a0,a1]) s Q:=
 W.call (by kernel_rfl) (by kernel_rfl) Lj (by kernel_rfl) rfl rfl (by simp) (h _ (by kernel_rfl) (by kernel_rfl))
theorem VN:Try.f75.results.toList=[.tmp 4]:=by kernel_rfl
def MU:List Item:=skim 64 [.code Vo]
def H4:List Item:=skim 64 MU.tail
theorem Pr:skim 64 MU.tail=H4:=by kernel_rfl
def HS:List Item:=skim 64 H4.tail
theorem Q0:skim 64 H4.tail=HS:=by kernel_rfl
def I7:List Item:=skim 64 (brF HS)
theorem Uk:skim 64 (brF HS)=I7:=by kernel_rfl
def Kr:List Item:=skim 64 I7.tail
theorem Um:skim 64 I7.tail=Kr:=by kernel_rfl
def E3:List Item:=skim 64 Kr.tail
theorem Q3:skim 64 Kr.tail=E3:=by kernel_rfl
def Ld:List Item:=skim 64 (brT E3)
theorem WV:skim 64 (brT E3)=Ld:=by kernel_rfl
def Hj:List Item:=skim 64 (brF E3)
theorem Bo_:skim 64 (brF E3)=Hj:=by kernel_rfl
theorem Zh:skim 64 Ld.tail=Hj:=by kernel_rfl
def K8:List Item:=skim 64 Hj.tail
theorem PI:skim 64 Hj.tail=K8:=by kernel_rfl
def Nt (E:Env)(call round:Ac)(tm:T Value):M (T Value):=
 mv (some (.slice none 0 0)) fun v4=>
 setF 4 v4 tm fun tm1=>
 M.pure tm1
theorem V9:RegEq 75 27 Ea MU Nt:=⟨by kernel_rfl,fun _ _ _ _ _ _ _ _ _=>by kernel_rfl⟩
def Ms (E:Env)(call round:Ac)(tm:T Value):M (T Value):=
 mv (T.get tm 1) fun v5=>
 M.bind (oS (some v5) fun a=>oS (some (.int .i64 0)) fun b=>Cl.get (aBin E .lss 3 (.tmp 5) (.const (.int .i64 0))) a b) fun v6=>
 setF 6 v6 tm fun tm1=>
 M.pure tm1
theorem QB:RegEq 75 27 Ea H4 Ms:=⟨by kernel_rfl,fun _ _ _ _ _ _ _ _ _=>by kernel_rfl⟩
theorem OQ:Bb HS=some 6:=by kernel_rfl
def Mw (E:Env)(call round:Ac)(tm:T Value):M (T Value):=
 mv (T.get tm 1) fun v8=>
 mv (T.get tm 0) fun v9=>
 M.bind (oS (seqO [(some v9)]) fun l=>A6 E .cap [26] l) fun v10=>
 mv (T.get tm 0) fun v11=>
 M.bind (oS (seqO [(some v11)]) fun l=>A6 E .len [26] l) fun v12=>
 M.bind (oS (some v10) fun a=>oS (some v12) fun b=>Cl.get (aBin E .sub 3 (.tmp 10) (.tmp 12)) a b) fun v13=>
 M.bind (oS (some v8) fun a=>oS (some v13) fun b=>Cl.get (aBin E .sub 3 (.tmp 8) (.tmp 13)) a b) fun v14=>
 mv (some v14) fun v1=>
 setF 1 v1 tm fun tm1=>
 M.pure tm1
theorem Qc:RegEq 75 27 Ea I7 Mw:=⟨by kernel_rfl,fun _ _ _ _ _ _ _ _ _=>by kernel_rfl⟩
def MC (E:Env)(call round:Ac)(tm:T Value):M (T Value):=
 mv (T.get tm 1) fun v15=>
 M.bind (oS (some v15) fun a=>oS (some (.int .i64 0)) fun b=>Cl.get (aBin E .gtr 3 (.tmp 15) (.const (.int .i64 0))) a b) fun v16=>
 setF 16 v16 tm fun tm1=>
 M.pure tm1
theorem T2:RegEq 75 27 Ea Kr MC:=⟨by kernel_rfl,fun _ _ _ _ _ _ _ _ _=>by kernel_rfl⟩
theorem Rn:Bb E3=some 16:=by kernel_rfl
def Py (E:Env)(call round:Ac)(tm:T Value):M (T Value):=
 mv (T.get tm 0) fun v17=>
 mv (T.get tm 0) fun v18=>
 M.bind (oS (seqO [(some v18)]) fun l=>A6 E .cap [26] l) fun v19=>
 M.bind (M.on (some v17) fun a=>M.on (some none) fun b=>M.on (onO (some v19) fun v=>some (some v)) fun c=>BK E 26 a b c) fun v20=>
 mv (T.get tm 1) fun v21=>
 M.bind (oS (seqO [(some v20),(some v21)]) fun l=>A6 E .append [26,3] l) fun v22=>
 mv (T.get tm 0) fun v23=>
 M.bind (oS (seqO [(some v23)]) fun l=>A6 E .len [26] l) fun v24=>
 M.bind (M.on (some v22) fun a=>M.on (some none) fun b=>M.on (onO (some v24) fun v=>some (some v)) fun c=>BK E 26 a b c) fun v25=>
 mv (some v25) fun v0=>
 setF 0 v0 tm fun tm1=>
 M.pure tm1
theorem ZL:RegEq 75 27 Ea Ld Py:=⟨by kernel_rfl,fun _ _ _ _ _ _ _ _ _=>by kernel_rfl⟩
def Mk (E:Env)(call round:Ac)(tm:T Value):M (T Value):=
 mv (T.get tm 0) fun v26=>
 mv (some v26) fun v4=>
 setF 4 v4 tm fun tm1=>
 M.pure tm1
theorem P9:RegEq 75 27 Ea Hj Mk:=⟨by kernel_rfl,fun _ _ _ _ _ _ _ _ _=>by kernel_rfl⟩
theorem PF: ∃k,K8= .code .ret::k:=⟨K8.tail,by kernel_rfl⟩
def Lp:Nat:=Bq Try.f69
def OY:Code:=Try.f69.body.getD .skip
theorem Wk:envS.fn.get 69=some Try.f69:=by kernel_rfl
theorem Wl {a0 a1:Value}{n:Nat}{s:St}{Q:Value→St→Prop}(h: ∀tm,T.get tm 0=some a0→T.get tm 1=some a1→W (runF envS n ⟨69,10,Lp,tm,[.code OY], .run, .normal,none⟩) (s.cxN cxN) fun p s1=>Q p.1 (s1.cxN s.cx)):W (As envS (runF envS n) 69 [a0,a1]) s Q:=
 W.call (by kernel_rfl) (by kernel_rfl) Wk (by kernel_rfl) rfl rfl (by simp) (h _ (by kernel_rfl) (by kernel_rfl))
theorem HK_:Try.f69.results.toList=[.tmp 4]:=by kernel_rfl
def N7:List Item:=skim 64 [.code OY]
def H1:List Item:=skim 64 N7.tail
theorem BF_:skim 64 N7.tail=H1:=by kernel_rfl
def Oq:List Item:=skim 64 H1.tail
theorem Lk_:skim 64 H1.tail=Oq:=by kernel_rfl
def Rs (E:Env)(call round:Ac)(tm:T Value):M (T Value):=
 mv (some (.int .i64 0)) fun v4=>
 setF 4 v4 tm fun tm1=>
 M.pure tm1
theorem Yo:RegEq 69 10 Lp N7 Rs:=⟨by kernel_rfl,fun _ _ _ _ _ _ _ _ _=>by kernel_rfl⟩
def Ue (E:Env)(call round:Ac)(tm:T Value):M (T Value):=
 mv (T.get tm 0) fun v5=>
 M.bind (oS (some v5) fun a=>kNil a) fun v6=>
 M.bind (oS (some v6) fun a=>kFld E 73 a 2) fun v7=>
 mv (T.get tm 1) fun v8=>
 M.bind (M.on (some (.func (.func 83) #[] #[])) fun f=>M.on (seqO [(some v7),(some v8)]) fun l=>A9 call round f l) fun v9=>
 mv (some v9) fun v4=>
 setF 4 v4 tm fun tm1=>
 M.pure tm1
theorem MN_:RegEq 69 10 Lp H1 Ue:=⟨by kernel_rfl,fun _ _ _ _ _ _ _ _ _=>by kernel_rfl⟩
theorem Y7: ∃k,Oq= .code .ret::k:=⟨Oq.tail,by kernel_rfl⟩
section
variable {s:St}{E:Env}{t t2:Nat}
theorem W.appV (hbd:s.lim≤s.next){sz by' n len b:Nat}{z l old:List Value}{v x:Value}{F:Nat→Prop}{Q:Value→St→Prop}{g:Bool}(ht:appT E t t2=some (sz,by',g,z))(hm:MkS s sz len old v b)(hx:SrcG s sz by' g z x n l F)(hs0:0<sz)(hs1:sz<1024)
  (hb:(len+n)*(by'+1)≤16777216) (hl:l.length=n*sz) (h1:l.all oneCell=true)
  (q: ∀s2 v2 b2,(b2=b∧n=0∨s.next≤b2)→MkS s2 sz (len+n) (old++l) v2 b2→Ext (fun x=>F x∨MkF sz len b x) (MkF sz len b) s s2→Q v2 s2):W (B3 E t t2 v x) s Q:=by
 by_cases hn:n=0
 ·rcases hm with⟨rfl,rfl,rfl⟩|⟨hm,h0⟩
  ·subst hn
   have hl0:l=[]:=List.eq_nil_of_length_eq_zero (by rw[hl,Nat.zero_mul])
   subst hl0
   obtain⟨i,i2,e,ie,g1,g2,g3,g4,g5,g6,g7,g8⟩:=Gz ht
   obtain⟨hN,s1,e1,m1,n1,x1⟩:=hx ie g5 g6 g8
   subst g5;subst g6
   refine W.bind (W.ti g1 (W.bind (W.ti g2 ?_)))
   rw[g3,g7]
   refine W.bind (W.ti g4 (W.bind (W.of (hN s) (W.bind ?_))))
   refine W.of e1 ?_
   show W (M.if (Nat.ble (Nat.add 0 0) (0%capU)) (D3 ie.size none 0 0 0 []) _) s1 Q
   rw[show Nat.ble (Nat.add 0 0) (0%capU)=true from Nat.ble_eq_true_of_le (Nat.zero_le _)]
   show W (M.pure (.slice none 0 0)) s1 Q
   exact W.pure (q s1 _ b (.inl ⟨rfl,rfl⟩) (.inl ⟨rfl,rfl,rfl⟩) (x1.weak hbd (fun _ _ h=> .inl h) fun _ _ h=>h.elim))
  ·refine W.appE hbd ht (.inr ⟨hm,h0⟩) hx hs0 hs1 hb hl h1 fun s2 v2 b2 hb2 e2 x2=>q s2 v2 b2 (hb2.elim (fun h=> .inl ⟨h,hn⟩) .inr) ?_ x2
   rcases e2 with⟨_,h,_⟩|⟨h,h'⟩
   ·omega
   ·exact .inr ⟨h,h'⟩
 ·exact W.appU hbd ht hm hx (by omega) hs0 hs1 hb hl h1 fun s2 v2 b2 hb2 mk x2=>q s2 v2 b2 (.inr hb2) mk x2
end
def GJ (n0:Nat)(m a:OpLog):Prop:=(∀x∈m.rd,n0≤x→ ¬(a.lo≤x∧x<a.hi))∧(∀x∈m.wr,n0≤x→ ¬(a.lo≤x∧x<a.hi))∧(∀x∈a.wr,x∉m.rd∧x∉m.wr)∧(∀x∈m.wr,x∉a.rd)
def DA (n0 b:Nat)(m:OpLog):List OpLog→Nat→Prop
 |[],_=>True
 |a::l,i=>(b.testBit i=true∨GJ n0 m a)∧DA n0 b m l (i+1)
def allP (n0:Nat)(all:List OpLog):List OpLog→List Nat→Nat→Prop
 |[],_,_=>True
 |m::l,b::bef,j=>DA n0 b m (all.take j) 0∧allP n0 all l bef (j+1)
 |_::_,[],_=>False
theorem O3 {x:Nat}: ∀{l:List Nat} {m:Nat},(BR l m).testBit x=true→x∈l∨m.testBit x=true
 |[],m,h=> .inr h
 |a::l,m,h=>by
  have e:BR (a::l) m=BR l (m|||2^a):=by
   show fN (Nat.lor m (Nat.shiftLeft (nat_lit 1) a)) (BR l)=_
   rw[A1]
   show BR l (m|||(1<<<a))=_
   rw[Nat.one_shiftLeft]
  rw[e]at h
  rcases O3 h with h|h
  ·exact .inl (by simp[h])
  ·rw[Nat.testBit_or,LT,Bool.or_eq_true]at h
   rcases h with h|h
   ·exact .inr h
   ·have:x=a:=by
     have:=of_decide_eq_true h
     omega
    exact .inl (by simp[this])
theorem Qg {a b:Nat}(h: ∀x,¬(a.testBit x=true∧b.testBit x=true)):Nat.beq (Nat.land a b) (nat_lit 0)=true:=by
 have e:a&&&b=0:=by
  refine Nat.eq_of_testBit_eq fun x=> ?_
  rw[Nat.testBit_and,Nat.zero_testBit]
  cases h1:a.testBit x with
  |false=>rfl
  |true=>
   cases h2:b.testBit x with
   |false=>rfl
   |true=>exact absurd ⟨h1,h2⟩ (h x)
 show Nat.beq (a&&&b) 0=true
 rw[e]
 rfl
theorem EN {x:Nat}{l:List Nat}(h:(BR l 0).testBit x=true):x∈l:=by
 rcases O3 h with h|h
 ·exact h
 ·rw[Nat.zero_testBit]at h;cases h
theorem Iq_ {a m:OpLog}(h1: ∀x∈a.wr,x∉m.rd∧x∉m.wr)(h2: ∀x∈m.wr,x∉a.rd):Dl (BA a) (BA m)=true:=by
 unfold Dl
 rw[Bool.and_eq_true,Kx,Kx]
 refine⟨Qg fun x ⟨p,q⟩=> ?_,Qg fun x ⟨p,q⟩=>h2 x (EN p) (EN q)⟩
 have q':(BR m.rd 0|||BR m.wr 0).testBit x=true:=q
 rw[Nat.testBit_or,Bool.or_eq_true]at q'
 rcases q' with q|q
 ·exact(h1 x (EN p)).1 (EN q)
 ·exact(h1 x (EN p)).2 (EN q)
theorem T3 {n0 b:Nat}{m:OpLog}(news:List Nat)(hn: ∀x∈news,n0≤x∧(x∈m.rd∨x∈m.wr)): ∀(acc:List OpLog) (i:Nat),DA n0 b m acc i→Dd b news acc i=true
 |[],_,_=>rfl
 |a::acc,i,h=>by
  show((b.testBit i|| !CG a.lo a.hi news)&&Dd b news acc (Nat.succ i))=true
  rw[Bool.and_eq_true]
  refine⟨?_,T3 news hn acc (i+1) h.2⟩
  rcases h.1 with h|h
  ·rw[h];rfl
  ·rw[Wc _ _ _ fun x hx=> ?_]
   ·simp
   ·obtain⟨h1,h2⟩:=hn x hx
    rcases h2 with h2|h2
    ·exact h.1 x h2 h1
    ·exact h.2.1 x h2 h1
theorem PC {n0 b:Nat}{m:OpLog}: ∀(acc:List OpLog) (i:Nat),DA n0 b m acc i→Ei b (BA m) (acc.map BA) i=true
 |[],_,_=>rfl
 |a::acc,i,h=>by
  show((b.testBit i||Dl (BA a) (BA m))&&Ei b (BA m) (acc.map BA) (Nat.succ i))=true
  rw[Bool.and_eq_true]
  refine⟨?_,PC acc (i+1) h.2⟩
  rcases h.1 with h|h
  ·rw[h];rfl
  ·rw[Iq_ h.2.2.1 h.2.2.2];simp
theorem Qm {n0:Nat}{all:List OpLog}: ∀(l:List OpLog) (bef:List Nat) (j:Nat),allP n0 all l bef j→D6 n0 all l bef j=true
 |[],_,_,_=>rfl
 |_::_,[],_,h=>h.elim
 |m::l,b::bef,j,h=>by
  show(F4 b (Bv n0 m.rd (Bv n0 m.wr [])) (all.take j)&&D6 n0 all l bef (Nat.succ j))=true
  rw[Bool.and_eq_true]
  refine⟨?_,Qm l bef (j+1) h.2⟩
  have hn: ∀x∈Bv n0 m.rd (Bv n0 m.wr []),n0≤x∧(x∈m.rd∨x∈m.wr):=fun x hx=>by
   rcases Ml _ _ _ x hx with h|h
   ·exact⟨h.2, .inl h.1⟩
   ·rcases Ml _ _ _ x h with h|h
    ·exact⟨h.2, .inr h.1⟩
    ·cases h
  have hj:=T3 _ hn _ _ h.1
  unfold F4
  generalize Bv n0 m.rd (Bv n0 m.wr [])=z at hj
  cases z with
  |nil=>rfl
  |cons x z=>exact hj
theorem RS {n0:Nat}{all:List OpLog}: ∀(l:List OpLog) (bef:List Nat) (j:Nat),allP n0 all l bef j→Ha (all.map BA) (l.map BA) bef j=true
 |[],_,_,_=>rfl
 |_::_,[],_,h=>h.elim
 |m::l,b::bef,j,h=>by
  show(Ei b (BA m) ((all.map BA).take j) 0&&Ha (all.map BA) (l.map BA) bef (Nat.succ j))=true
  rw[Bool.and_eq_true,←List.map_take]
  exact⟨PC _ _ h.1,RS l bef (j+1) h.2⟩
theorem HA {n0:Nat}{l:List OpLog}{bef:List Nat}(h:allP n0 l l bef 0):B2 n0 l bef=true:=by
 unfold B2
 rw[Qm l bef 0 h,NT,RS l bef 0 h]
 simp
section
variable {α β:Type}{s:St}
theorem W.dopG {m:M α}{f:α×OpLog→M β}{mem:T Cell}{next:Nat}{Q:β→St→Prop}
  (h:W m (oSt mem next) fun v s1=> ∃F G,Ext F G (oSt mem next) s1∧ ∀rd wr,(∀x∈rd,x<next∧F x)→(∀x∈wr,x<next∧G x)→W (f (v,⟨next,s1.next,rd,wr⟩)) (dSt s1.mem s1.next) Q):W (M.bind (apartO m) f) (dSt mem next) Q:=by
 obtain⟨a,s1,e,F,G,x,q⟩:=h
 obtain⟨mem1,next1,lim1,rd1,wr1,cx1⟩:=s1
 have hcx:cx1= .no:=x.cx
 obtain⟨d1,p1,p2⟩:=x.rd
 obtain⟨d2,p3,p4⟩:=x.wr
 have e1:rd1=d1:=by simpa [oSt]using p1
 have e2:wr1=d2:=by simpa [oSt]using p3
 subst hcx
 refine W.bind (W.of (a:=(a,⟨next,next1,rd1,wr1⟩)) (s':=dSt mem1 next1) ?_ (q rd1 wr1 (fun y hy=>p2 y (by rw[←e1];exact hy)) fun y hy=>p4 y (by rw[←e2];exact hy)))
 have e':m ⟨mem,next,next,[],[], .no⟩= .some a ⟨mem1,next1,lim1,rd1,wr1, .no⟩:=e
 show Am.apartO m ⟨mem,next,0,[],[], .no⟩=_
 unfold Am.apartO
 simp only[e']
 rfl
theorem CD_ (lim:Nat)(l:List OpLog)(base:List Nat): ∃d,wrsL lim l base=d++base∧ ∀x∈d,x<lim∧ ∃m∈l,x∈m.wr:=by
 induction l with
 |nil=>exact⟨[],rfl,fun _ h=>by cases h⟩
 |cons m l ih=>
  obtain⟨d,e,q⟩:=ih
  obtain⟨d2,e2,q2⟩:=QG lim m.wr (wrsL lim l base)
  refine⟨d2++d, ?_,fun x hx=> ?_⟩
  ·show addL lim m.wr (wrsL lim l base)=_
   rw[e2,e,List.append_assoc]
  ·rcases List.mem_append.1 hx with hx|hx
   ·exact⟨(q2 x hx).1,m,by simp,(q2 x hx).2⟩
   ·obtain⟨h1,m',h2,h3⟩:=q x hx
    exact⟨h1,m',by simp[h2],h3⟩
theorem Ext.drawG {F G:Nat→Prop}{mem':T Cell}{next':Nat}{l:List OpLog}(h1:s.next≤next')(h2: ∀x,x<s.next→ ¬G x→T.get mem' x=T.get s.mem x)(hw: ∀m∈l,∀x∈m.wr,x<s.lim→G x)(hr: ∀m∈l,∀x∈m.rd,x<s.lim→F x):
  Ext F G s ⟨mem',next',s.lim,rdsL s.lim l s.rd,wrsL s.lim l s.wr,s.cx⟩:=by
 obtain⟨d,e,q⟩:=Ts s.lim l s.rd
 obtain⟨d2,e2,q2⟩:=CD_ s.lim l s.wr
 exact⟨h1,rfl,rfl,fun x hx hg=>h2 x hx hg,⟨d,e,fun x hx=>by obtain⟨a,m,b,c⟩:=q x hx;exact⟨a,hr m b x c a⟩⟩,⟨d2,e2,fun x hx=>by obtain⟨a,m,b,c⟩:=q2 x hx;exact⟨a,hw m b x c a⟩⟩⟩
end
theorem Ext.on {G F' G':Nat→Prop}{s s1 s2:St}(h:Ext Any G s s1)(k:Ext F' G' s1 s2)(hb:s.lim≤s.next)(hG: ∀x,x<s.next→G' x→G x):Ext Any G s s2:=h.trans k hb (fun _ _ _=>trivial) hG
theorem Ext.gw {G G':Nat→Prop}{s s1:St}(h:Ext Any G s s1)(hb:s.lim≤s.next)(hG: ∀x,x<s.next→G x→G' x):Ext Any G' s s1:=h.weak hb (fun _ _ h=>h) hG
theorem In1 {b x:Nat}:In b 0 1 x↔x=b:=⟨fun h=>by have:=h.1;have:=h.2;omega,fun h=>⟨by omega,by omega⟩⟩
theorem Ia_:fldN envS 75 0=some (0,1,false):=by kernel_rfl
theorem Et:fldN envS 75 1=some (1,1,false):=by kernel_rfl
theorem PQ:fldN envS 75 2=some (2,1,false):=by kernel_rfl
theorem IK_:fldN envS 75 3=some (3,1,true):=by kernel_rfl
theorem Nu:fldN envS 75 4=some (4,1,false):=by kernel_rfl
theorem VU:fldN envS 75 5=some (5,1,false):=by kernel_rfl
theorem RV:fldN envS 75 6=some (6,1,false):=by kernel_rfl
theorem KL_:fldN envS 73 2=some (0,1,false):=by kernel_rfl
theorem Lq_:fldN envS 79 0=some (0,1,false):=by kernel_rfl
theorem Nj:fldN envS 79 1=some (1,1,false):=by kernel_rfl
theorem Fv:tyS envS 4=some (1,false):=by kernel_rfl
theorem GZ:tyS envS 3=some (1,false):=by kernel_rfl
theorem EK:tyS envS 68=some (1,false):=by kernel_rfl
theorem Dc:tyS envS 9=some (1,false):=by kernel_rfl
theorem Ek:tyS envS 67=some (1,false):=by kernel_rfl
theorem Cy:tyS envS 24=some (1,false):=by kernel_rfl
theorem DI_:OA envS 67=some [.pointer none]:=by kernel_rfl
theorem VC:ptrT envS 24=true:=by kernel_rfl
theorem JX:ptrT envS 67=true:=by kernel_rfl
theorem Lx_:mapU envS 68=true:=by kernel_rfl
theorem J2 (s:St):mapT envS 68 s= .some (9,67) s:=by kernel_rfl
theorem Bh_ (s:St):zeroOf envS 67 s= .some (.pointer none) s:=by kernel_rfl
theorem IK:envS.P.underlying 9=some .string:=by kernel_rfl
theorem KZ_ (k:Nat)(s:St):Cl.get (aBin envS .eql 67 (.tmp k) (.const (.pointer none))) (.pointer none) (.pointer none) s= .some (.bool true) s:=by kernel_rfl
theorem Nl (k:Nat)(s:St)(Q:Value→St→Prop):W (Cl.get (aBin envS .eql 67 (.tmp k) (.const (.pointer none))) (.pointer none) (.pointer none)) s Q=Q (.bool true) s:=Bp (KZ_ k s)
theorem Wb {s:St}{call round:Ac}{f:Nat}{cap:Array Value}{l:List Value}(Q:Value→St→Prop):W (A9 call round (.func (.func f) #[] cap) l) s Q=W (call f (l++cap.toList)) s Q:=by
 show W (call f ([]++(l++cap.toList))) s Q=_
 rw[List.nil_append]
theorem W.extF {E:Env}{s:St}{ih:AF→M (Value×FrameMode)}{f:Nat}{m:List Value→M Value}{args:List Value}{Q:Value→St→Prop}(h0:E.orc.get f=none)(ho:E.ext.get f=some m)(h:W (m args) s Q):W (As E ih f args) s Q:=by
 unfold As
 rw[h0,ho]
 exact h
section
variable {D n:Nat}{s:St}{Q:Value→St→Prop}
theorem L9 (hb:s.lim≤s.next)(h0:Own s D 0 (.bool true))(hn:20≤n)(q: ∀s1,s1.mem=s.mem→s1.next=s.next→Ext Any Non s s1→Q (.bool false) s1):W (As envS (runF envS n) 40 [.pointer (some ⟨D,0,none⟩)]) s Q:=by
 refine Ax_ fun tm h=> ?_
 refine Eu_.w rfl (by omega) ?_
 simp only[U0,Aa,W_mv,Ab]
 refine JO_.w ZT (by omega) ?_
 simp only[VZ,Ad,W_oS,W_on,Aa,W_mv,Ab,T.get_set,reduceIte,AP,AT,AQ,AS,AO,AN,reduceCtorEq, ↓reduceIte,h,Fp VC,Bz Ia_ (by decide)]
 refine W.load1 Fv (h0.same (s':=s.cxN cxN) rfl rfl).at' ?_
 simp only[JO,Bool.not_true]
 refine W.end' (rs:=[2]) (vs:=[.bool false]) JJ_ (.inl Dj_) (by omega) Ub ZC rfl (by simp[T.get_set]) ?_
 exact q _ rfl rfl ((Ext.refl (F:=Any) (G:=Non) (s.cxN cxN)).thenRd hb _).cx'
theorem OE {o:Bool}(hb:s.lim≤s.next)(h0:Own s D 0 (.bool true))(h6:Own s D 6 (.bool o))(hn:60≤n)(q: ∀s1,s1.mem=s.mem→s1.next=s.next→Ext Any Non s s1→Q (.int .i64 (if o then 10 else 0)) s1):W (As envS (runF envS n) 36 [.pointer (some ⟨D,0,none⟩)]) s Q:=by
 have hb0:(s.cxN cxN).lim≤(s.cxN cxN).next:=hb
 refine ZD fun tm h=> ?_
 refine ZS.w rfl (by omega) ?_
 simp only[PW,Aa,W_mv,Ab]
 refine IF_.w La_ (by omega) ?_
 simp only[Qy,Ad,W_on,Aa,W_mv,Ab,T.get_set,Ak,Aj,Ai,Av,reduceIte,reduceCtorEq, ↓reduceIte,h]
 refine L9 hb0 (h0.same rfl rfl) (by omega) fun s1 m1 n1 x1=> ?_
 try simp only[Ad,W_oS,W_on,Aa,W_mv,Ab,AV,T.get_set,Ak,Aj,A0,AZ,Ai,Av,reduceIte,AP,AW,A2,AY,AT,AQ,AS,AX,AO,AN,Nat.reduceEqDiff,reduceCtorEq, ↓reduceIte]
 refine W.cond (v:=false) Yp Je_ (by simp[T.get_set]) (by omega) (fun h=>by cases h) fun _=> ?_
 refine Ic_.w Aw_ (by omega) ?_
 simp only[Sh,Ad,W_oS,Aa,W_mv,Ab,T.get_set,reduceIte,AN,reduceCtorEq, ↓reduceIte,h,Bz RV (by decide)]
 have y1:=x1.thenRd hb0 (D+(0+6))
 refine W.load1 Fv ((h6.same (s':=s.cxN cxN) rfl rfl).same m1 n1).at' ?_
 try simp only[Ad,W_oS,W_on,Aa,W_mv,Ab,AV,T.get_set,Ak,Aj,A0,AZ,Ai,Av,reduceIte,AP,AW,A2,AY,AT,AQ,AS,AX,AO,AN,Nat.reduceEqDiff,reduceCtorEq, ↓reduceIte]
 cases o with
 |true=>
  refine W.cond (v:=true) T1 We (by simp[T.get_set]) (by omega) (fun _=> ?_) fun h=>by cases h
  refine Wv.w KV_ (by omega) ?_
  simp only[TA,Aa,W_mv,Ab]
  refine W.end' (rs:=[2]) (vs:=[.int .i64 10]) Hn_ (.inl AN_) (by omega) Mb Ra y1.cx (by simp[T.get_set]) ?_
  exact q _ m1 n1 y1.cx'
 |false=>
  refine W.cond (v:=false) T1 We (by simp[T.get_set]) (by omega) (fun h=>by cases h) fun _=> ?_
  refine Zi.w YF (by omega) ?_
  simp only[Qn,Aa,W_mv,Ab]
  refine W.end' (rs:=[2]) (vs:=[.int .i64 0]) EA_ (.inl BO_) (by omega) Mb Ra y1.cx (by simp[T.get_set]) ?_
  exact q _ m1 n1 y1.cx'
theorem Z8 {o:Nat}{x:Int}(hb:s.lim≤s.next)(h3:Own s D o (.int .i64 x))(hn:20≤n)(q: ∀w s1,s1.next=s.next→Ext Any (fun y=>y=D+o) s s1→Own s1 D o (.int .i64 (wrap64 (x+1)))→Q w s1):W (As envS (runF envS n) 69 [.pointer (some ⟨D,o,none⟩), .int .i64 1]) s Q:=by
 have hb0:(s.cxN cxN).lim≤(s.cxN cxN).next:=hb
 refine Wl fun tm h h1=> ?_
 refine Yo.w rfl (by omega) ?_
 simp only[Rs,Aa,W_mv,Ab]
 refine MN_.w BF_ (by omega) ?_
 simp only[Ue,Ad,W_oS,W_on,Aa,W_mv,Ab,T.get_set,Ak,Aj,Ai,Av,reduceIte,AN,Nat.reduceEqDiff,reduceCtorEq, ↓reduceIte,h,h1,Bz KL_ (by decide)]
 refine W.extF (by kernel_rfl) (m:=Gv) (by kernel_rfl) ?_
 show W (M.bind (Am.rdV ⟨D,o,none⟩) fun v=>match v with
  | .int .i64 x=>fI (wrap64 (addI x 1)) fun n=>M.bind (Am.wrV ⟨D,o,none⟩ (.int .i64 n)) fun _=>M.pure (Value.int .i64 n)
  |_=>M.fail) (s.cxN cxN) _
 have h3':Own (s.cxN cxN) D o (.int .i64 x):=h3.same rfl rfl
 refine W.bind (W.rdV h3'.at' ?_)
 show W (fI (wrap64 (addI x 1)) _) _ _
 rw[B0,Ku]
 refine W.bind (W.wrV (h3'.same (s':=(s.cxN cxN).rdN (D+o)) rfl rfl) rfl (W.pure ?_))
 have z0:=(Ext.refl (F:=Any) (G:=fun y=>y=D+o) (s.cxN cxN)).on (Ext.rdN (F:=Any) (G:=fun y=>y=D+o) (s.cxN cxN) (D+o) fun _=>trivial) hb0 fun _ _ h=>h
 have z1:=z0.on (Ext.rdN (F:=Any) (G:=fun y=>y=D+o) _ (D+o) fun _=>trivial) hb0 fun _ _ h=>h
 have z2:=z1.on (Ext.wrN (F:=Any) (G:=fun y=>y=D+o) _ (D+o) (.C D (.int .i64 (wrap64 (x+1)))) rfl) hb0 fun _ _ h=>h
 have hw:Own ((((s.cxN cxN).rdN (D+o)).rdN (D+o)).wrN (D+o) (.C D (.int .i64 (wrap64 (x+1))))) D o (.int .i64 (wrap64 (x+1))):=⟨h3.1,by
  show T.get (T.set s.mem (D+o) _) (D+o)=_
  rw[T.get_set,if_pos rfl]⟩
 have nz:((((s.cxN cxN).rdN (D+o)).rdN (D+o)).wrN (D+o) (.C D (.int .i64 (wrap64 (x+1))))).next=s.next:=rfl
 generalize (((s.cxN cxN).rdN (D+o)).rdN (D+o)).wrN (D+o) (.C D (.int .i64 (wrap64 (x+1))))=s2 at *
 try simp only[Ad,W_oS,W_on,Aa,W_mv,Ab,AV,T.get_set,Ak,Aj,A0,AZ,Ai,Av,reduceIte,AP,AW,A2,AY,AT,AQ,AS,AX,AO,AN,Nat.reduceEqDiff,reduceCtorEq, ↓reduceIte]
 refine W.end' (rs:=[4]) (vs:=[.int .i64 (wrap64 (x+1))]) Lk_ (.inl Y7) (by omega) Wk HK_ z2.cx (by simp[T.get_set]) ?_
 exact q _ _ nz z2.cx' (hw.same rfl rfl)
theorem TR {f2:Nat}{cap:Array Value}{fused out:Bool}{left steps:Int}(hb:s.lim≤s.next)(h3:Own s D 3 (.int .i64 steps))(h4:Own s D 4 (.bool fused))(h5:Own s D 5 (.int .i64 left))(h6:Own s D 6 (.bool out))(hn:60≤n)
  (q1:(fused=true∧left=0)→ ∀s1,s1.next=s.next→Ext Any (fun y=>y=D+6) s s1→Own s1 D 6 (.bool true)→Q (.int .i64 10) s1)
  (q2: ¬(fused=true∧left=0)→ ∀n' s1,n≤n'+20→s1.cx=cxN→s1.next=s.next→Ext Any (fun y=>y=D+3∨y=D+5) s (s1.cxN s.cx)→Own s1 D 3 (.int .i64 (wrap64 (steps+1)))→Own s1 D 5 (.int .i64 (if fused then wrap64 (left-1)else left))→W (As envS (runF envS n') f2 cap.toList) s1 fun _ s2=>s2.cx=cxN∧Q (.int .i64 0) (s2.cxN s.cx)):
  W (As envS (runF envS n) 38 [.pointer (some ⟨D,0,none⟩), .func (.func f2) #[] cap]) s Q:=by
 have hb0:(s.cxN cxN).lim≤(s.cxN cxN).next:=hb
 refine YH fun tm h h1=> ?_
 refine Bt_.w rfl (by omega) ?_
 simp only[SM,Aa,W_mv,Ab]
 refine Da_.w ZG (by omega) ?_
 simp only[Ri,Ad,W_oS,W_on,Aa,W_mv,Ab,T.get_set,reduceIte,AN,reduceCtorEq, ↓reduceIte,h,Bz Nu (by decide)]
 refine W.load1 Fv (h4.same (s':=s.cxN cxN) rfl rfl).at' ?_
 have y1:=(Ext.refl (F:=Any) (G:=Non) (s.cxN cxN)).thenRd hb0 (D+(0+4))
 have work: ∀(n':Nat) (tm':T Value) (td':List Item) (s':St),n≤n'+10→skim 64 td'=FX→s'.next=s.next→Ext Any (fun y=>y=D+5) (s.cxN cxN) s'→Own s' D 5 (.int .i64 (if fused then wrap64 (left-1)else left))→T.get tm' 0=some (.pointer (some ⟨D,0,none⟩))→T.get tm' 1=some (.func (.func f2) #[] cap)→ ¬(fused=true∧left=0)→W (runF envS n' ⟨38,CF_,CC,tm',td', .run, .normal,none⟩) s' fun p s1=>Q p.1 (s1.cxN s.cx):=by
  intro n' tm' td' s' hn' hT' hnx x' h5' g0 g1 hc
  have h3':Own s' D 3 (.int .i64 steps):=(h3.same (s':=s.cxN cxN) rfl rfl).ext x' fun hq=>by omega
  refine Xw.w hT' (by omega) ?_
  simp only[SE,Ad,W_oS,W_on,Aa,W_mv,Ak,Aj,Ai,Av,AN,g0,Bz IK_ (by decide)]
  refine Z8 (x'.bnd hb0) h3' (by omega) fun w s2 n2 x2 o2=> ?_
  have z2:Ext Any (fun y=>y=D+3∨y=D+5) (s.cxN cxN) s2:=(x'.gw hb0 fun _ _ h=> .inr h).on x2 hb0 fun y _ hq=> .inl (by omega)
  try simp only[Ad,W_oS,W_on,Aa,W_mv,Ab,AV,T.get_set,Ak,Aj,A0,AZ,Ai,Av,reduceIte,AP,AW,A2,AY,AT,AQ,AS,AX,AO,AN,Nat.reduceEqDiff,reduceCtorEq, ↓reduceIte]
  refine Yc.w FS_ (by omega) ?_
  simp only[Rj,Ad,W_on,Aa,W_mv,Aj,g1]
  rw[Wb]
  refine W.mono (q2 hc (n'-1-1) s2 (by omega) z2.cx (by omega) z2.cx' o2 (h5'.ext x2 fun hq=>by omega)) fun w2 s3 hq=> ?_
  obtain⟨hcx,hq⟩:=hq
  try simp only[Ad,W_oS,W_on,Aa,W_mv,Ab,AV,T.get_set,Ak,Aj,A0,AZ,Ai,Av,reduceIte,AP,AW,A2,AY,AT,AQ,AS,AX,AO,AN,Nat.reduceEqDiff,reduceCtorEq, ↓reduceIte]
  refine CM_.w GJ_ (by omega) ?_
  simp only[PR,Aa,W_mv,Ab]
  exact W.end' (rs:=[4]) (vs:=[.int .i64 0]) Ed_ (.inl Me_) (by omega) Na OW hcx (by simp[T.get_set]) hq
 cases fused with
 |false=>
  simp only[Aa,reduceIte,AP,AY,AQ,AX,AO, ↓reduceIte,Bool.false_eq_true]
  refine W.cond (v:=false) KP Nh (by simp[T.get_set]) (by omega) (fun h=>by cases h) fun _=> ?_
  refine Sa.w Qt (by omega) ?_
  simp only[NW,Ad,W_oS,Aa,W_mv,Ab,T.get_set,reduceIte,AN,reduceCtorEq, ↓reduceIte,h,Bz Nu (by decide)]
  refine W.load1 Fv (h4.same (s':=(s.cxN cxN).rdN (D+(0+4))) rfl rfl).at' ?_
  have y2:=y1.thenRd hb0 (D+(0+4))
  try simp only[Ad,W_oS,W_on,Aa,W_mv,Ab,AV,T.get_set,Ak,Aj,A0,AZ,Ai,Av,reduceIte,AP,AW,A2,AY,AT,AQ,AS,AX,AO,AN,Nat.reduceEqDiff,reduceCtorEq, ↓reduceIte]
  refine W.cond (v:=false) RG UH (by simp[T.get_set]) (by omega) (fun h=>by cases h) fun _=> ?_
  exact work _ _ _ _ (by omega) Ee_ rfl (y2.gw hb0 fun _ _ h=>h.elim) (h5.same rfl rfl) (by simp[T.get_set,h]) (by simp[T.get_set,h1]) (by simp)
 |true=>
  simp only[W_oS,Aa,reduceIte,AP,AW,AQ,AS,AO,AN, ↓reduceIte,Bz VU (by decide)]
  refine W.load1 GZ (h5.same (s':=(s.cxN cxN).rdN (D+(0+4))) rfl rfl).at' ?_
  have y2:=y1.thenRd hb0 (D+(0+5))
  simp only[DH]
  by_cases hl:left=0
  ·refine W.cond (v:=true) KP Nh (by simp[T.get_set,hl]) (by omega) (fun _=> ?_) fun h=>by cases h
   refine Hw_.w FV_ (by omega) ?_
   simp only[TV,Ad,W_oS,Aa,W_mv,T.get_set,reduceIte,AN,reduceCtorEq, ↓reduceIte,h,Bz RV (by decide)]
   refine W.store1 Fv rfl (h6.same (s':=((s.cxN cxN).rdN (D+(0+4))).rdN (D+(0+5))) rfl rfl) fun s3 n3 x3 o3=> ?_
   have y3:Ext Any (fun y=>y=D+6) (s.cxN cxN) s3:=(y2.gw hb0 fun _ _ h=>h.elim).on x3 hb0 fun y _ hq=>by have:=In1.1 (show In (D+6) 0 1 y from⟨by have:=hq.1;omega,by have:=hq.2;omega⟩);omega
   try simp only[Ad,W_oS,W_on,Aa,W_mv,Ab,AV,T.get_set,Ak,Aj,A0,AZ,Ai,Av,reduceIte,AP,AW,A2,AY,AT,AQ,AS,AX,AO,AN,Nat.reduceEqDiff,reduceCtorEq, ↓reduceIte]
   refine IV_.w XZ (by omega) ?_
   simp only[Pj,Aa,W_mv,Ab]
   refine W.end' (rs:=[4]) (vs:=[.int .i64 10]) AW_ (.inl HU_) (by omega) Na OW y3.cx (by simp[T.get_set]) ?_
   exact q1 ⟨rfl,hl⟩ _ n3 y3.cx' (o3.same rfl rfl)
  ·refine W.cond (v:=false) KP Nh (by simp[T.get_set,hl]) (by omega) (fun h=>by cases h) fun _=> ?_
   refine Sa.w Qt (by omega) ?_
   simp only[NW,Ad,W_oS,Aa,W_mv,Ab,T.get_set,reduceIte,AN,reduceCtorEq, ↓reduceIte,h,Bz Nu (by decide)]
   refine W.load1 Fv (h4.same rfl rfl).at' ?_
   have y3:=y2.thenRd hb0 (D+(0+4))
   try simp only[Ad,W_oS,W_on,Aa,W_mv,Ab,AV,T.get_set,Ak,Aj,A0,AZ,Ai,Av,reduceIte,AP,AW,A2,AY,AT,AQ,AS,AX,AO,AN,Nat.reduceEqDiff,reduceCtorEq, ↓reduceIte]
   refine W.cond (v:=true) RG UH (by simp[T.get_set]) (by omega) (fun _=> ?_) fun h=>by cases h
   refine Ly_.w BL_ (by omega) ?_
   simp only[RP,Ad,W_oS,Aa,W_mv,T.get_set,reduceIte,AN,reduceCtorEq, ↓reduceIte,h,Bz VU (by decide)]
   refine W.load1 GZ (h5.same rfl rfl).at' ?_
   have y4:=y3.thenRd hb0 (D+(0+5))
   simp only[Jo]
   refine W.store1 GZ rfl (h5.same rfl rfl) fun s5 n5 x5 o5=> ?_
   have y5:Ext Any (fun y=>y=D+5) (s.cxN cxN) s5:=(y4.gw hb0 fun _ _ h=>h.elim).on x5 hb0 fun y _ hq=>by have h1:=hq.1;have h2:=hq.2;omega
   try simp only[Ad,W_oS,W_on,Aa,W_mv,Ab,AV,T.get_set,Ak,Aj,A0,AZ,Ai,Av,reduceIte,AP,AW,A2,AY,AT,AQ,AS,AX,AO,AN,Nat.reduceEqDiff,reduceCtorEq, ↓reduceIte]
   exact work _ _ _ _ (by omega) Mc_ n5 y5 o5 (by simp[T.get_set,h]) (by simp[T.get_set,h1]) (by simp[hl])
end
section
variable {E:Env}{s:St}{t:Nat}
theorem BZ_ {a b:Bool}{xo yo:Operand}(h:E.P.underlying t=some .bool):Cl.get (aBin E .eql t xo yo) (.bool a) (.bool b) s= .some (.bool (a==b)) s:=by
 show Bi E .eql t xo yo (.bool a) (.bool b) s=_
 unfold Bi
 show M.on (semP E.P (do pure (.bool (←Op.equalIn (9999+1) t (.bool a) (.bool b))))) pV s=_
 have e:semP E.P (Op.equalIn (9999+1) t (.bool a) (.bool b))=some (a==b):=by
  unfold Op.equalIn
  rw[CK,Kw h]
  rfl
 rw[CK,e]
 rfl
theorem XE {a b:Bool}{xo yo:Operand}(h:E.P.underlying t=some .bool)(Q:Value→St→Prop):W (Cl.get (aBin E .eql t xo yo) (.bool a) (.bool b)) s Q=Q (.bool (a==b)) s:=Bp (BZ_ h)
theorem YO {a b:Bool}{xo yo:Operand}(h:E.P.underlying t=some .bool):Cl.get (aBin E .neq t xo yo) (.bool a) (.bool b) s= .some (.bool (!(a==b))) s:=by
 show Bi E .neq t xo yo (.bool a) (.bool b) s=_
 unfold Bi
 show M.on (semP E.P (do pure (.bool (!(←Op.equalIn (9999+1) t (.bool a) (.bool b)))))) pV s=_
 have e:semP E.P (Op.equalIn (9999+1) t (.bool a) (.bool b))=some (a==b):=by
  unfold Op.equalIn
  rw[CK,Kw h]
  rfl
 rw[CK,e]
 rfl
theorem UD {a b:Bool}{xo yo:Operand}(h:E.P.underlying t=some .bool)(Q:Value→St→Prop):W (Cl.get (aBin E .neq t xo yo) (.bool a) (.bool b)) s Q=Q (.bool (!(a==b))) s:=Bp (YO h)
end
theorem MO (v:Value):tupV [v]=v:=rfl
theorem MM:envS.P.underlying 4=some .bool:=by kernel_rfl
theorem Oz:HI envS 9=true:=by kernel_rfl
structure NmOk (a:ByteArray):Prop where
 size:a.size=1
 ne:(a.data.toList==([]:List UInt8))=false
 ok: ∃c:Nat,Utf8.decode a 0=(c,1)∧ ∀(m:Nat) (mem:T Cell) (next lim:Nat) (rd wr:List Nat) (cx:Ctx),As envS (runF envS (m+30)) 68 [.int .i32 (c:Nat)] ⟨mem,next,lim,rd,wr,cx⟩= .some (.bool false) ⟨mem,next,lim,rd,wr,cx⟩
section
variable {n:Nat}{s:St}{a:ByteArray}{Q:Value→St→Prop}
theorem W.tyStr {Q:Value→St→Prop}(q: ∀s1,s1.next=s.next+1→Ext Non Non s s1→Obj s1 s.next (.sit a 0)→Q (.chan (some s.next)) s1):W (CV envS 9 (.string a)) s Q:=by
 obtain⟨i,hi,hu⟩:=O6 Oz
 unfold CV
 refine W.bind (W.ti hi ?_)
 rw[hu]
 exact W.bind (W.newO fun s1 n1 x1 o1=>W.pure (q s1 n1 x1 o1))
theorem Gt_ (hb:s.lim≤s.next)(ha:NmOk a)(hn:60≤n)(q: ∀s1,Ext Any Non s s1→Q (.int .i64 (-1)) s1):W (As envS (runF envS n) 89 [.string a, .func (.func 68) #[] #[], .bool true]) s Q:=by
 obtain⟨c,hc,hF⟩:=ha.ok
 have hb0:(s.cxN cxN).lim≤(s.cxN cxN).next:=hb
 refine BT_ fun tm h h1 h2=> ?_
 refine Yg.w rfl (by omega) ?_
 simp only[Sd,Aa,W_mv,Ab]
 refine Ib_.w Bs_ (by omega) ?_
 simp only[QF,Ad,W_oS,Aa,W_mv,Ab,T.get_set,reduceIte,reduceCtorEq, ↓reduceIte,h]
 refine W.tyStr fun s1 n1 x1 o1=> ?_
 have ea:(s.cxN cxN).next=s.next:=rfl
 rw[ea]at o1 n1 ⊢
 have y1:=(Ext.refl (F:=Any) (G:=Non) (s.cxN cxN)).on x1 hb0 fun _ _ h=>h
 try simp only[Ad,W_oS,W_on,Aa,W_mv,Ab,AV,T.get_set,Ak,Aj,A0,AZ,Ai,Av,reduceIte,AP,AW,A2,AY,AT,AQ,AS,AX,AO,AN,Nat.reduceEqDiff,reduceCtorEq, ↓reduceIte]
 refine Rl.w Lm_ (by omega) ?_
 simp only[Lg,Ad,W_oS,Aa,Ab,T.get_set,reduceIte, ↓reduceIte]
 refine W.bind (W.rdC o1.2 o1.1 ?_)
 show W (fN 0 fun pos=>sitN s.next a pos) (s1.rdN s.next) _
 rw[A1]
 unfold sitN
 rw[ha.size,hc]
 have o1':Obj (s1.rdN s.next) s.next (.sit a 0):=o1.same rfl rfl
 refine W.bind (W.wrC (s:=s1.rdN s.next) o1'.1 ?_)
 show W (fN 0 fun pos=>fN (Utf8.decode a pos).1 fun c=>M.pure (Value.tuple #[.bool true, .int .i64 (.ofNat pos), .int .i32 (.ofNat c)])) ((s1.rdN s.next).wrN s.next (.O (.sit a (0+1)))) _
 rw[A1,A1,hc,Aa]
 have z2:=Ext.wrO (s:=s1) s.next (.O (.sit a (0+1)))
 have o2:Obj ((s1.rdN s.next).wrN s.next (.O (.sit a (0+1)))) s.next (.sit a (0+1)):=Obj.wrO o1
 generalize (s1.rdN s.next).wrN s.next (.O (.sit a (0+1)))=s2 at *
 have y2:=y1.on z2 hb0 fun x hx hq=>by have:x<s.next:=hx;omega
 rw[Dz (k:=0) rfl]
 try simp only[Ad]
 refine W.cond (v:=true) OX Vq (by simp[T.get_set]) (by omega) (fun _=> ?_) fun h=>by cases h
 refine ZO.w Mp_ (by omega) ?_
 simp only[VG,Ad,W_oS,Aa,W_mv,Ab,T.get_set,reduceIte,Nat.reduceEqDiff, ↓reduceIte]
 rw[Dz (k:=1) rfl,Dz (k:=2) rfl]
 try simp only[Ad,W_oS,W_on,Aa,W_mv,Ab,AV,T.get_set,Ak,Aj,A0,AZ,Ai,Av,reduceIte,AP,AW,A2,AY,AT,AQ,AS,AX,AO,AN,Nat.reduceEqDiff,reduceCtorEq, ↓reduceIte]
 refine WL.w Bz_ (by omega) ?_
 simp only[RQ,Ad,W_oS,W_on,Aa,W_mv,Ab,T.get_set,Ak,Aj,Ai,Av,reduceIte,Nat.reduceEqDiff, ↓reduceIte,h1,h2]
 obtain⟨mem2,next2,lim2,rd2,wr2,cx2⟩:=s2
 obtain⟨m,hm⟩: ∃m,n-1-1-1-1-1-1=m+30:=⟨n-6-30,by omega⟩
 rw[show n-1-1-1-1-1-1=m+30 from hm]
 refine W.of (hF m mem2 next2 lim2 rd2 wr2 cx2) ?_
 rw[XE MM]
 generalize (⟨mem2,next2,lim2,rd2,wr2,cx2⟩:St)=s2 at *
 refine W.cond (v:=false) XU GE_ (by simp[T.get_set]) (by omega) (fun h=>by cases h) fun _=> ?_
 refine Rl.w ZM (by omega) ?_
 simp only[Lg,Ad,W_oS,Aa,Ab,T.get_set,reduceIte,Nat.reduceEqDiff, ↓reduceIte]
 refine W.bind (W.rdC o2.2 o2.1 ?_)
 show W (fN (0+1) fun pos=>sitN s.next a pos) (s2.rdN s.next) _
 rw[A1]
 unfold sitN
 rw[ha.size]
 show W (M.pure (Value.tuple #[.bool false])) (s2.rdN s.next) _
 rw[Aa,Dz (k:=0) rfl]
 have y3:=y2.thenRd hb0 s.next
 try simp only[Ad,W_oS,W_on,Aa,W_mv,Ab,AV,T.get_set,Ak,Aj,A0,AZ,Ai,Av,reduceIte,AP,AW,A2,AY,AT,AQ,AS,AX,AO,AN,Nat.reduceEqDiff,reduceCtorEq, ↓reduceIte]
 refine W.cond (v:=false) OX Vq (by simp[T.get_set]) (by omega) (fun h=>by cases h) fun _=> ?_
 refine Ek_.w Gc_ (by omega) ?_
 simp only[S2,Aa,W_mv,Ab]
 refine W.end' (rs:=[6]) (vs:=[.int .i64 (-1)]) Fc_ (.inl Cx_) (by omega) U6 BN_ y3.cx (by simp[T.get_set]) ?_
 exact q _ y3.cx'
theorem AS_ (hb:s.lim≤s.next)(ha:NmOk a)(hn:100≤n)(q: ∀s1,Ext Any Non s s1→Q (.bool true) s1):W (As envS (runF envS n) 37 [.string a]) s Q:=by
 have hb0:(s.cxN cxN).lim≤(s.cxN cxN).next:=hb
 refine Am_ fun tm h=> ?_
 refine Ab_.w rfl (by omega) ?_
 simp only[OP,Aa,W_mv,Ab]
 refine Cm_.w HE_ (by omega) ?_
 simp only[Re,Ad,W_on,Aa,W_mv,Ab,T.get_set,Ak,Aj,Ai,Av,reduceIte,reduceCtorEq, ↓reduceIte,h]
 refine Jt_ fun tmc c0 c1=> ?_
 refine Mn_.w rfl (by omega) ?_
 simp only[Sl,Aa,W_mv,Ab]
 refine Em_.w Kv_ (by omega) ?_
 simp only[VA,Ad,W_oS,W_on,Aa,W_mv,Ab,T.get_set,Ak,Aj,Ai,Av,reduceIte,Nat.reduceEqDiff,reduceCtorEq, ↓reduceIte,c0,c1]
 refine Cz_ fun tmi i0 i1=> ?_
 refine KJ_.w rfl (by omega) ?_
 simp only[Pd,Aa,W_mv,Ab]
 refine An_.w AO_ (by omega) ?_
 simp only[P3,Ad,W_on,Aa,W_mv,Ab,T.get_set,Ak,Aj,Ai,Av,reduceIte,Nat.reduceEqDiff,reduceCtorEq, ↓reduceIte,i0,i1]
 refine Gt_ hb0 ha (by omega) fun s1 x1=> ?_
 try simp only[Ad,W_oS,W_on,Aa,W_mv,Ab,AV,T.get_set,Ak,Aj,A0,AZ,Ai,Av,reduceIte,AP,AW,A2,AY,AT,AQ,AS,AX,AO,AN,Nat.reduceEqDiff,reduceCtorEq, ↓reduceIte]
 refine W.end' (rs:=[4]) (vs:=[.int .i64 (-1)]) Al_ (.inl XQ) (by omega) SY YI x1.cx (by simp[T.get_set]) ?_
 show W _ (s1.cxN cxN) _
 simp only[Ls,MO]
 refine W.end' (rs:=[4]) (vs:=[.bool false]) Ez_ (.inl HW_) (by omega) Ti YQ rfl (by simp[T.get_set]) ?_
 show W _ ((s1.cxN cxN).cxN cxN) _
 try simp only[MO]
 refine EF_.w Wy (by omega) ?_
 have e1:(!(a.data.toList==({data:= #[]}:ByteArray).data.toList))=true:=by
  show(!(a.data.toList==([]:List UInt8)))=true
  rw[ha.ne];rfl
 have e2:decide (((1:Nat):Int)≤60)=true:=rfl
 simp only[Uv,Ad,W_oS,W_on,Aa,W_mv,Ab,T.get_set,Ak,Aj,Ai,reduceIte,AP,AW,AQ,AS,AO,reduceCtorEq, ↓reduceIte,OF,h,Fk_,e1,Sk Oz,ha.size,e2,JO,Bool.not_false]
 refine W.end' (rs:=[2]) (vs:=[.bool true]) Bb_ (.inl ET_) (by omega) UM MM_ rfl (by simp[T.get_set]) ?_
 exact q _ (show Ext Any Non s (s1.cxN s.cx)from⟨x1.nxt,x1.lim,rfl,x1.mem,x1.rd,x1.wr⟩)
end
theorem EB:slN envS 26=some 1:=by kernel_rfl
theorem XH:appT envS 26 26=some (1,1,false,[.int .u8 0]):=by kernel_rfl
theorem Cx:tyS envS 26=some (1,false):=by kernel_rfl
theorem Zf (E:Env)(t t2:Nat)(s x:Value)(st:St)(Q:Value→St→Prop):W (A6 E .append [t,t2] [s,x]) st Q=W (B3 E t t2 s x) st Q:=rfl
theorem V4 {l:List Nat}(h: ∀x∈l,False):l=[]:=by
 cases l with
 |nil=>rfl
 |cons y _=>exact(h y (by simp)).elim
theorem MkS.one {s:St}{sz n:Nat}{l:List Value}{v:Value}{b:Nat}(h:MkS s sz n l v b):oneCell v=true:=by
 rcases h with⟨rfl,_⟩|⟨h,_⟩
 ·rfl
 ·rw[h.val];rfl
theorem DV_ (l m:List Nat):u8l (l++m)=u8l l++u8l m:=by unfold u8l;rw[List.map_append]
theorem DA_:O7=[]:=by kernel_rfl
section
variable {n:Nat}{s:St}
theorem Rx {C K blk lbk:Nat}{lv bv:Value}{lb l:List Nat}{tm:T Value}{td:List Item}{Q:Value×FrameMode→St→Prop}(hb:s.lim≤s.next)(h6:Own s K 0 (.pointer (some ⟨blk,0,none⟩)))(h4:Own s C 0 bv)(hl:Own s blk 1 lv)(hm:MkS s 1 lb.length (u8l lb) lv lbk)(hB:Bs s bv l)(hz:lb.length+l.length≤5000000)
  (hK: ¬MkF 1 lb.length lbk K) (hbl: ¬MkF 1 lb.length lbk (blk+1)) (t0:T.get tm 0=some (.pointer (some ⟨K,0,none⟩))) (t3:T.get tm 3=some (.pointer (some ⟨C,0,none⟩))) (hT:skim 64 td=Ey) (hn:20≤n) (hcx:s.cx=cxN)
  (q: ∀s1 v b,Ext Any (fun x=>x=blk+1∨MkF 1 lb.length lbk x) s s1→Own s1 blk 1 v→MkS s1 1 (lb.length+l.length) (u8l (lb++l)) v b→(b=lbk∧l.length=0∨s.next≤b)→Q (.tuple #[], .run) s1):
  W (runF envS n ⟨39,Hg_,DY,tm,td, .run, .normal,none⟩) s Q:=by
 refine LJ_.w hT (by omega) ?_
 simp only[Tj,t0,t3,Ba]
 refine W.dload Ek ((h6.same (s':=dSt s.mem s.next) rfl rfl).at') fun rd0 hr0=> ?_
 refine W.dload Ek ((h6.same (s':=dSt s.mem s.next) rfl rfl).at') fun rd1 hr1=> ?_
 try simp only[Ba]
 rw[W_dq fun s Q=>AN (s:=s) _ Q]
 dsimp only
 try simp only[Ba]
 rw[W_dq fun s Q=>Bz (s:=s) Nj (by decide) Q]
 dsimp only
 try simp only[Ba]
 refine W.dload Cx ((hl.same (s':=dSt s.mem s.next) rfl rfl).at') fun rd4 hr4=> ?_
 refine W.dload Cx ((h4.same (s':=dSt s.mem s.next) rfl rfl).at') fun rd5 hr5=> ?_
 try simp only[Ba,Ak,Aj,Ai]
 refine W.dopG ?_
 rw[Zf]
 refine W.appV (s:=oSt s.mem s.next) (Nat.le_refl _) XH (hm.same rfl rfl) (hB.same (s':=oSt s.mem s.next) rfl rfl).src.g (by decide) (by decide) (by omega) (by rw[Df,Nat.mul_one]) (NP l) fun s2 v2 b2 hb2 mk2 x2=>⟨_,_,x2,fun rd6 wr6 hr6 hw6=> ?_⟩
 have n2:s.next≤s2.next:=x2.nxt
 try simp only[Ba]
 rw[W_dq fun s Q=>AN (s:=s) _ Q]
 dsimp only
 try simp only[Ba]
 rw[W_dq fun s Q=>Bz (s:=s) Nj (by decide) Q,Aa]
 refine⟨HA ?_, ?_⟩
 ·simp only[List.reverse_cons,List.reverse_nil,List.nil_append,List.cons_append,allP,DA,List.take,GJ]
  have lts: ∀x,s.next≤x→ ¬x<s.next:=fun x h=>by omega
  have e0: ∀x,x∈rd0→x=K:=fun x h=>by have:=hr0 x h;omega
  have e6: ∀x,x∈rd6→x<s.next:=fun x h=>(hr6 x h).1
  have w6: ∀x,x∈wr6→x<s.next:=fun x h=>(hw6 x h).1
  have g6: ∀x,x∈wr6→ ¬x∈rd0:=fun x h1 h2=>hK (by have h3:=(hw6 x h1).2;rw[e0 x h2]at h3;exact h3)
  have a6: ∀x,x∈rd6→s.next≤x→False:=fun x h1 h2=>by have:=e6 x h1;omega
  have b6: ∀x,x∈wr6→s.next≤x→False:=fun x h1 h2=>by have:=w6 x h1;omega
  simp+contextual [lts,g6]
  exact⟨.inl rfl, .inl rfl, .inl rfl⟩
 ·refine W.cast (KB_ _ _ _ _ _ _ _ _ _ _ _ _ _ _) ?_
  simp only[Ad,W_oS,Aa]
  generalize hs':(⟨(dSt s2.mem s2.next).mem,(dSt s2.mem s2.next).next,s.lim,_,_,s.cx⟩:St)=s7
  have m7:s7.mem=s2.mem:=by rw[←hs'];rfl
  have n7:s7.next=s2.next:=by rw[←hs'];rfl
  have x7:Ext Any (fun x=>MkF 1 lb.length lbk x) s s7:=by
   rw[←hs']
   refine Ext.drawG (by show s.next≤s2.next;omega) (fun x hx hg=>x2.mem x hx hg) ?_ fun _ _ _ _ _=>trivial
   simp only[List.mem_cons,List.not_mem_nil,or_false]
   rintro m (rfl|rfl|rfl|rfl|rfl|rfl|rfl|rfl|rfl) x hx hxl<;>first|(cases hx;done)|exact(hw6 x hx).2
  have hl7:Own s7 blk 1 lv:=hl.ext x7 hbl
  refine W.store1 Cx mk2.one (hl7.same rfl rfl) fun s8 n8 x8 o8=> ?_
  try simp only[Ad,W_oS,W_on,Aa,W_mv,Ab,AV,T.get_set,Ak,Aj,A0,AZ,Ai,Av,reduceIte,AP,AW,A2,AY,AT,AQ,AS,AX,AO,AN,Nat.reduceEqDiff,reduceCtorEq, ↓reduceIte]
  have y8:Ext Any (fun x=>x=blk+1∨MkF 1 lb.length lbk x) s s8:=(x7.gw hb fun _ _ h=> .inr h).on x8 hb fun y _ hq=> .inl (by have h1:=hq.1;have h2:=hq.2;omega)
  refine W.end' (rs:=[]) (vs:=[]) MO_ (.inr DA_) (by omega) S0 Dh_ (y8.cx.trans hcx) rfl ?_
  have mk8:MkS s8 1 (lb.length+l.length) (u8l (lb++l)) v2 b2:=by
   rw[DV_]
   refine(mk2.same m7 n7).ext x8 fun x hx hq=> ?_
   have h1:=hq.1
   have h2:=hq.2
   have hxe:x=blk+1:=by omega
   subst hxe
   rcases hb2 with h|h
   ·rw[h.1,h.2,Nat.add_zero]at hx
    exact hbl hx
   ·have h3:=hx.2.1
    have h4:=hl.1
    have h5:(oSt s.mem s.next).next≤b2:=h
    have h6:s.next≤b2:=h5
    omega
  exact q s8 v2 b2 y8 o8 mk8 hb2
end
def BL (fs:List FileS)(a:ByteArray):Option Nat:=(fs.map FileS.name).findIdx? fun b=>a==b
def BG (fs:List FileS)(a:ByteArray):Value:=match BL fs a with
 |none=> .pointer none
 |some j=>match fs[j]? with
  |some f=> .pointer (some ⟨f.blk,0,none⟩)
  |none=> .pointer none
theorem H8 (fs:List FileS):(fs.map FileS.ent).map (·.key)=(fs.map FileS.name).map Value.string:=by rw[List.map_map,List.map_map];rfl
theorem JR {fs:List FileS}{a:ByteArray}{j:Nat}(h:BL fs a=some j):j<fs.length:=by
 have:=(List.findIdx?_eq_some_iff_getElem.1 h).1
 simpa using this
theorem Oc {s:St}{M mx:Nat}{fs:List FileS}{a:ByteArray}{Q:Value→St→Prop}(ho:Obj s M (.map (fs.map FileS.ent) mx))(q:Q (BG fs a) (s.rdN M)):W (CH envS 68 false (.map (some M)) (.string a)) s Q:=by
 unfold BG at q
 cases hj:BL fs a with
 |none=>
  rw[hj]at q
  exact W.lookS0 J2 Bh_ IK (H8 fs) hj ho q
 |some j=>
  rw[hj]at q
  have hlt:=JR hj
  simp only[List.getElem?_eq_getElem hlt]at q
  exact W.lookS1 (j:=j) (e:=fs[j].ent) J2 IK (H8 fs) hj (by rw[List.getElem?_map,List.getElem?_eq_getElem hlt];rfl) ho q
def DkS.used (k:DkS):Nat:=(k.fs.map fun f=>f.sb.length+f.lb.length).sum
theorem DkI.lens {s:St}{col:Nat→Nat}{D M:Nat}{k:DkS}(h:DkI s col D M k): ∀(i:Nat) (e:MapEntry) (n:Nat),(k.fs.map FileS.ent)[i]?=some e→(k.fs.map fun f=>f.sb.length+f.lb.length)[i]?=some n→FL s e n:=by
 intro i e n h1 h2
 rw[List.getElem?_map]at h1 h2
 obtain⟨f,hf,rfl⟩:=Option.map_eq_some_iff.1 h1
 rw[hf]at h2
 cases h2
 obtain⟨hi,rfl⟩:=List.getElem?_eq_some_iff.1 hf
 have g:=h.fl i hi
 obtain⟨p1,c1,e1⟩:=g.ms.sl
 obtain⟨p2,c2,e2⟩:=g.ml.sl
 have o0:=g.o0
 have o1:=g.o1
 rw[e1]at o0
 rw[e2]at o1
 exact⟨_,p1,_,c1,p2,_,c2,rfl,o0.at',o1.at',rfl⟩
structure After (s s1:St)(col col':Nat→Nat)(D M:Nat)(k:DkS):Prop where
 inv:DkI s1 col' D M k
 agree: ∀x,x<s.next→col' x=col x
 ext:Ext Any (fun x=>col x<1000) s s1
def DG (k:DkS)(a:ByteArray)(blk:Nat)(v:Value)(b:Nat)(l:List Nat):List FileS:=match BL k.fs a with
 |some j=>match k.fs[j]? with
  |some f=>k.fs.set j {f with lv:=v,lbk:=b,lb:=f.lb++l}
  |none=>k.fs
 |none=>k.fs++[⟨a,k.mx,blk, .slice none 0 0,0,[],v,b,l⟩]
def DR (k:DkS)(a:ByteArray):Nat:=match BL k.fs a with|some _=>k.mx|none=>k.mx+1
theorem X8 (a b:Int){E:Env}{s:St}{xo yo:Operand}{t:Nat}(Q:Value→St→Prop):W (Cl.get (aBin E .add t xo yo) (.int .i64 a) (.int .i64 b)) s Q=Q (.int .i64 (wrap64 (a+b))) s:=Bp (Qa _ a b)
theorem Vi {e:MapEntry}: ∀{es:List MapEntry} {lo n:Nat},Bx es lo n=true→lo≤n→e.born=n→Bx (es++[e]) lo (n+1)=true
 |[],lo,n,_,hle,he=>by
  show(Nat.ble lo e.born&&Nat.blt e.born (n+1)&&Bx [] (e.born+1) (n+1))=true
  rw[he,Nat.ble_eq_true_of_le hle,BI (by omega)]
  rfl
 |x::es,lo,n,h,hle,he=>by
  unfold Bx at h
  rw[Bool.and_eq_true,Bool.and_eq_true]at h
  have h2:x.born<n:=Nat.le_of_ble_eq_true h.1.2
  show(Nat.ble lo x.born&&Nat.blt x.born (n+1)&&Bx (es++[e]) (x.born+1) (n+1))=true
  rw[h.1.1,BI (by omega),Vi h.2 (by omega) he]
  rfl
theorem S6 {α:Type}(x y:α): ∀l:List α,(l++[x]).set l.length y=l++[y]
 |[]=>rfl
 |z::l=>by
  show z::(l++[x]).set l.length y=z::(l++[y])
  rw[S6 x y l]
theorem FT_ {l:List Nat}{i:Nat}(h:i<l.length):l[i]≤l.sum:=by
 have e:l=l.take i++l[i]::l.drop (i+1):=by rw[List.getElem_cons_drop,List.take_append_drop]
 have:l.sum=(l.take i).sum+(l[i]+(l.drop (i+1)).sum):=by
  conv=>lhs;rw[e]
  rw[List.sum_append,List.sum_cons]
 omega
theorem DkS.used_at {k:DkS}{j:Nat}(h:j<k.fs.length):k.fs[j].sb.length+k.fs[j].lb.length≤k.used:=by
 unfold DkS.used
 have:=FT_ (l:=k.fs.map fun f=>f.sb.length+f.lb.length) (i:=j) (by simpa using h)
 simpa using this
theorem DkI.file {F G:Nat→Prop}{s s':St}{col col':Nat→Nat}{D M j:Nat}{k:DkS}{f':FileS}(h:DkI s col D M k)(hj:j<k.fs.length)(x:Ext F G s s')(hG: ∀y,y<s.next→G y→2+3*j≤col y∧col y≤2+3*j+2)(ec: ∀y,y<s.next→col' y=col y)(hf:FileI s' col' (2+3*j) f')(he:f'.ent=k.fs[j].ent):DkI s' col' D M {k with fs:=k.fs.set j f'}:=by
 have c: ∀o,o<7→D+o<s.next→ ¬G (D+o):=fun o ho hn g=>by
  have h1:=hG _ hn g
  have h2:=h.kd (D+o) (by omega) (by omega)
  omega
 have em:(k.fs.set j f').map FileS.ent=k.fs.map FileS.ent:=by
  rw[List.map_set,he]
  apply List.ext_getElem
  ·simp
  ·intro i h1 h2
   rw[List.getElem_set]
   by_cases c:j=i
   ·subst c;simp
   ·simp[c]
 have b6:=h.d6.1
 refine⟨h.d0.ext x (c 0 (by decide) h.d0.1),h.d1.ext x (c 1 (by decide) h.d1.1),h.d2.ext x (c 2 (by decide) h.d2.1),h.d3.ext x (c 3 (by decide) h.d3.1),h.d4.ext x (c 4 (by decide) h.d4.1),h.d5.ext x (c 5 (by decide) h.d5.1),h.d6.ext x (c 6 (by decide) h.d6.1),fun y h1 h2=>(ec y (by omega)).trans (h.kd y h1 h2), ?_,(ec M h.om.1).trans h.km, ?_,fun i hi=> ?_⟩
 ·show Obj s' M (.map ((k.fs.set j f').map FileS.ent) k.mx)
  rw[em]
  exact h.om.ext x fun g=>by
   have h1:=hG _ h.om.1 g
   have h2:=h.km
   omega
 ·show Bx ((k.fs.set j f').map FileS.ent) 0 k.mx=true
  rw[em]
  exact h.bo
 ·show FileI s' col' (2+3*i) (k.fs.set j f')[i]
  by_cases q:i=j
  ·subst q
   rw[List.getElem_set_self]
   exact hf
  ·have hi':i<k.fs.length:=by simpa using hi
   rw[List.getElem_set_ne (by omega)]
   refine((h.fl i hi').col ec).ext x fun y hy g=> ?_
   have h1:=hG y hy g
   rw[ec y hy]
   omega
theorem DkI.newF {s s':St}{F:Nat→Prop}{col col':Nat→Nat}{D M:Nat}{k:DkS}{f:FileS}(h:DkI s col D M k)(x:Ext F (fun y=>y=M) s s')(ec: ∀y,y<s.next→col' y=col y)(hM:Obj s' M (.map (k.fs.map FileS.ent++[f.ent]) (k.mx+1)))(hb:f.born=k.mx)(hf:FileI s' col' (2+3*k.fs.length) f):DkI s' col' D M {k with fs:=k.fs++[f],mx:=k.mx+1}:=by
 have c: ∀o,o<7→ ¬D+o=M:=fun o ho e=>by
  have h2:=h.kd (D+o) (by omega) (by omega)
  rw[e,h.km]at h2
  omega
 have b6:=h.d6.1
 refine⟨h.d0.ext x (c 0 (by decide)),h.d1.ext x (c 1 (by decide)),h.d2.ext x (c 2 (by decide)),h.d3.ext x (c 3 (by decide)),h.d4.ext x (c 4 (by decide)),h.d5.ext x (c 5 (by decide)),h.d6.ext x (c 6 (by decide)),fun y h1 h2=>(ec y (by omega)).trans (h.kd y h1 h2), ?_,(ec M h.om.1).trans h.km, ?_,fun i hi=> ?_⟩
 ·show Obj s' M (.map ((k.fs++[f]).map FileS.ent) (k.mx+1))
  rw[List.map_append]
  exact hM
 ·show Bx ((k.fs++[f]).map FileS.ent) 0 (k.mx+1)=true
  rw[List.map_append]
  exact Vi h.bo (Nat.zero_le _) hb
 ·show FileI s' col' (2+3*i) (k.fs++[f])[i]
  have hi':i<k.fs.length+1:=by simpa using hi
  rcases Nat.lt_or_ge i k.fs.length with q|q
  ·rw[List.getElem_append_left q]
   refine((h.fl i q).col ec).ext x fun y hy g=> ?_
   rw[ec y hy,g,h.km]
   omega
  ·have:i=k.fs.length:=by omega
   subst this
   rw[List.getElem_append_right (Nat.le_refl _)]
   simp only[Nat.sub_self,List.getElem_cons_zero]
   exact hf
theorem FileI.loose {G:Nat→Prop}{s s':St}{F:Nat→Prop}{col:Nat→Nat}{c b:Nat}{v:Value}{m:List Nat}{f:FileS}(h:FileI s col c f)(x:Ext F (fun y=>y=f.blk+1∨MkF 1 f.lb.length f.lbk y) s s')(ho:Own s' f.blk 1 v)(hm:MkS s' 1 m.length (u8l m) v b)(hb:b=f.lbk∧m.length=f.lb.length∨s.next≤b):FileI s' (paint col s.next (c+2)) c {f with lv:=v,lbk:=b,lb:=m}:=by
 have b0:=h.o0.1
 have b1:=h.o1.1
 refine⟨h.o0.ext x fun g=> ?_,ho,fun y h1 h2=>(BJ (by have h3:y<f.blk+2:=h2;omega)).trans (h.k y h1 h2),h.ms.ext x fun y hy g=> ?_,fun y hy=>(BJ (h.ms.lt y hy)).trans (h.ks y hy),hm,fun y hy=> ?_⟩
 ·rcases g with g|g
  ·omega
  ·have h1:=h.kl _ g
   have h2:=h.k (f.blk+0) (by omega) (by omega)
   omega
 ·have h1:=h.ks y hy
  rcases g with g|g
  ·have h2:=h.k y (by omega) (by omega)
   omega
  ·have h2:=h.kl y g
   omega
 ·have hy':MkF 1 m.length b y:=hy
  rcases hb with⟨h1,h2⟩|h1
  ·rw[h1,h2]at hy'
   exact(BJ (h.ml.lt y hy')).trans (h.kl y hy')
  ·exact Dx (by have:=hy'.2.1;omega)
theorem Zs:Jy envS 79 []=some [.slice none 0 0, .slice none 0 0]:=by kernel_rfl
section
variable {n D M C K:Nat}{s:St}{k:DkS}{col:Nat→Nat}{a:ByteArray}{bv:Value}{l:List Nat}
theorem W7 {Q:Value→St→Prop}(hb:s.lim≤s.next)(hI:DkI s col D M k)(hlen:k.fs.length≤300)(hB:Bs s bv l)(hC:Own s C 0 (.pointer (some ⟨D,0,none⟩)))(hC2:Own s (C+2) 0 (.string a))(hC4:Own s (C+4) 0 bv)(hK:Own s K 0 (BG k.fs a))(kC: ∀x,C≤x→x<C+6→1000≤col x)(kK:1000≤col K)(hBc: ∀x,BsF bv x→x≠K∧1000≤col x)(hKC:K<C∨C+6≤K)(hz:k.used+l.length≤4000000)(hn:100≤n)
  (q: ∀s1 col' blk v b,DkI s1 col' D M {k with fs:=DG k a blk v b l,mx:=DR k a}→(∀x,x<s.next→col' x=col x)→Ext Any (fun x=>col x<1000∨x=K) s s1→Q (.tuple #[]) s1):
  W (As envS (runF envS n) 39 [.pointer (some ⟨K,0,none⟩), .pointer (some ⟨C,0,none⟩), .pointer (some ⟨C+2,0,none⟩), .pointer (some ⟨C+4,0,none⟩)]) s Q:=by
 have hb0:(s.cxN cxN).lim≤(s.cxN cxN).next:=hb
 refine Eb_ fun tm t0 t1 t2 t3=> ?_
 refine YS.w rfl (by omega) ?_
 simp only[TP,Ad,W_oS,Aa,Ab,t0]
 refine W.load1 Ek (hK.same (s':=s.cxN cxN) rfl rfl).at' ?_
 have y1:=(Ext.refl (F:=Any) (G:=Non) (s.cxN cxN)).thenRd hb0 (K+0)
 have hI1:DkI ((s.cxN cxN).rdN (K+0)) col D M k:=hI.same rfl rfl
 have o1:Own ((s.cxN cxN).rdN (K+0)) K 0 (BG k.fs a):=hK.same rfl rfl
 have c0:Own ((s.cxN cxN).rdN (K+0)) C 0 (.pointer (some ⟨D,0,none⟩)):=hC.same rfl rfl
 have c2:Own ((s.cxN cxN).rdN (K+0)) (C+2) 0 (.string a):=hC2.same rfl rfl
 have c4:Own ((s.cxN cxN).rdN (K+0)) (C+4) 0 bv:=hC4.same rfl rfl
 have hB1:Bs ((s.cxN cxN).rdN (K+0)) bv l:=hB.same rfl rfl
 have hn1:((s.cxN cxN).rdN (K+0)).next=s.next:=rfl
 generalize (s.cxN cxN).rdN (K+0)=s1 at *
 cases hj:BL k.fs a with
 |some j=>
  have hlt:=JR hj
  have hv:BG k.fs a= .pointer (some ⟨k.fs[j].blk,0,none⟩):=by
   unfold BG
   rw[hj]
   simp only[List.getElem?_eq_getElem hlt]
  have hadd: ∀blk v b,DG k a blk v b l=k.fs.set j {k.fs[j]with lv:=v,lbk:=b,lb:=k.fs[j].lb++l}:=fun blk v b=>by
   unfold DG
   rw[hj]
   simp only[List.getElem?_eq_getElem hlt]
  have hmx:DR k a=k.mx:=by unfold DR;rw[hj]
  rw[hv]at o1 ⊢
  have g:=hI1.fl j hlt
  have hused:=DkS.used_at hlt
  simp only[Fp JX]
  refine W.cond (v:=false) Pv UU (by simp[T.get_set]) (by omega) (fun h=>by cases h) fun _=> ?_
  refine Rx (C:=C+4) (K:=K) (y1.bnd hb0) o1 c4 g.o1 g.ml hB1 (by omega) (fun h=>by have:=g.kl _ h;omega) (fun h=>by have h1:=g.kl _ h;have h2:=g.k _ (show k.fs[j].blk≤k.fs[j].blk+1 by omega) (by omega);omega) (by simp[T.get_set,t0]) (by simp[T.get_set,t3]) ZI (by omega) y1.cx fun s2 v b x2 o2 mk2 hb2=> ?_
  have hf:FileI s2 (paint col s1.next (2+3*j+2)) (2+3*j) {k.fs[j]with lv:=v,lbk:=b,lb:=k.fs[j].lb++l}:=g.loose (G:=Non) x2 o2 (by rw[List.length_append];exact mk2) (hb2.imp (fun h=>⟨h.1,by rw[List.length_append,h.2,Nat.add_zero]⟩) fun h=>h)
  have hD:=hI1.file hlt x2 (fun y hy h=>by
   rcases h with rfl|h
   ·have:=g.k _ (show k.fs[j].blk≤k.fs[j].blk+1 by omega) (by omega)
    omega
   ·have:=g.kl y h
    omega) (fun y hy=>BJ hy) hf rfl
  refine q (s2.cxN s.cx) (paint col s1.next (2+3*j+2)) 0 v b ?_ (fun x hx=>BJ (by omega)) ((y1.gw hb0 fun _ _ h=>h.elim).on x2 hb0 fun y hy h=> .inl ?_).cx'
  ·rw[hadd,hmx]
   exact hD.same rfl rfl
  ·rcases h with rfl|h
   ·have:=g.k _ (show k.fs[j].blk≤k.fs[j].blk+1 by omega) (by omega)
    omega
   ·have:=g.kl y h
    omega
 |none=>
  have hv:BG k.fs a= .pointer none:=by unfold BG;rw[hj]
  have hadd: ∀blk v b,DG k a blk v b l=k.fs++[⟨a,k.mx,blk, .slice none 0 0,0,[],v,b,l⟩]:=fun blk v b=>by unfold DG;rw[hj]
  have hmx:DR k a=k.mx+1:=by unfold DR;rw[hj]
  rw[hv]at o1 ⊢
  simp only[Nl]
  refine W.cond (v:=true) Pv UU (by simp[T.get_set]) (by omega) (fun _=> ?_) fun h=>by cases h
  refine Dk_.w Km_ (by omega) ?_
  simp only[UT,Ad,W_oS,Aa,T.get_set,AZ,reduceIte,reduceCtorEq, ↓reduceIte,U3 Zs,t0]
  refine W.box fun s2 n2 x2 r2=> ?_
  rw[TC]at n2 r2
  have n2':s2.next=s.next+3:=by rw[n2,hn1];rfl
  rw[hn1]at r2 ⊢
  have y2:=y1.on x2 hb0 fun _ _ h=>h
  try simp only[Ad,W_oS,W_on,Aa,W_mv,Ab,AV,T.get_set,Ak,Aj,A0,AZ,Ai,Av,reduceIte,AP,AW,A2,AY,AT,AQ,AS,AX,AO,AN,Nat.reduceEqDiff,reduceCtorEq, ↓reduceIte]
  refine W.store1 Ek rfl (o1.ext0 x2) fun s3 n3 x3 o3=> ?_
  have x3':Ext Any (fun y=>y=K) s2 s3:=x3.weak (y2.bnd hb0) (fun _ _ _=>trivial) fun y _ hq=>by have h1:=hq.1;have h2:=hq.2;omega
  have y3:Ext Any (fun x=>col x<1000∨x=K) (s.cxN cxN) s3:=(y2.gw hb0 fun _ _ h=>h.elim).on x3' hb0 fun y _ h=> .inr h
  have hKs:K<s.next:=by have:=o1.1;omega
  have hI3:DkI s3 col D M k:=(hI1.ext0 x2 hlen).ext x3' hlen fun y _ h=>by subst h;exact kK
  have r3:A7 s3 s.next 0 [.slice none 0 0, .slice none 0 0]:=r2.ext x3' fun i hi h=>by omega
  have c03:=(c0.ext0 x2).ext x3' fun h=>by omega
  have c23:=(c2.ext0 x2).ext x3' fun h=>by omega
  have c43:=(c4.ext0 x2).ext x3' fun h=>by omega
  have hB3:Bs s3 bv l:=(hB1.ext0 x2).ext x3' fun x hx h=>(hBc x hx).1 h
  have n3':s3.next=s.next+3:=by omega
  try simp only[Ad,W_oS,W_on,Aa,W_mv,Ab,AV,T.get_set,Ak,Aj,A0,AZ,Ai,Av,reduceIte,AP,AW,A2,AY,AT,AQ,AS,AX,AO,AN,Nat.reduceEqDiff,reduceCtorEq, ↓reduceIte]
  refine Z6.w AH_ (by omega) ?_
  simp only[UV,T.get_set,Nat.reduceEqDiff,reduceIte,t0,t1,t2,Ba]
  refine W.dload Cy ((c03.same (s':=dSt s3.mem s3.next) rfl rfl).at') fun rd0 hr0=> ?_
  try simp only[Ba]
  rw[W_dq fun s Q=>AN (s:=s) _ Q]
  dsimp only
  try simp only[Ba]
  rw[W_dq fun s Q=>Bz (s:=s) Et (by decide) Q]
  dsimp only
  try simp only[Ba]
  refine W.dload EK ((hI3.d1.same (s':=dSt s3.mem s3.next) rfl rfl).at') fun rd3 hr3=> ?_
  refine W.dload Dc ((c23.same (s':=dSt s3.mem s3.next) rfl rfl).at') fun rd4 hr4=> ?_
  refine W.dload Ek ((o3.same (s':=dSt s3.mem s3.next) rfl rfl).at') fun rd5 hr5=> ?_
  rw[Aa]
  refine⟨IV (by simp) (by simp), ?_⟩
  refine W.cast (KC_ _ _ _ _ _ _ _ _ _ _ _) ?_
  simp only[Ad,W_on,Aa]
  generalize hs':(⟨(dSt s3.mem s3.next).mem,(dSt s3.mem s3.next).next,s3.lim,_,_,s3.cx⟩:St)=s4
  have x4:Ext Any Non s3 s4:=by
   rw[←hs']
   exact Ext.draw (F:=Any) (Nat.le_refl _) (fun _ _=>rfl) (by simp) fun _ _ _ _ _=>trivial
  have y4:=y3.on x4 hb0 fun _ _ h=>h.elim
  have hI4:=hI3.ext0 x4 hlen
  have n4:s4.next=s3.next:=by rw[←hs'];rfl
  refine W.mapUpS0 J2 IK (H8 k.fs) hj hI4.om fun s5 n5 x5 o5=> ?_
  have y5:=y4.on x5 hb0 fun y _ h=> .inl (by rw[h];have:=hI4.km;omega)
  try simp only[Ad,W_oS,W_on,Aa,W_mv,Ab,AV,T.get_set,Ak,Aj,A0,AZ,Ai,Av,reduceIte,AP,AW,A2,AY,AT,AQ,AS,AX,AO,AN,Nat.reduceEqDiff,reduceCtorEq, ↓reduceIte]
  have hMs:M<s.next:=hI.om.1
  have r5:A7 s5 s.next 0 [.slice none 0 0, .slice none 0 0]:=(A7.ext0 r3 x4).ext x5 fun i hi h=>by omega
  have hf5:FileI s5 (paint col s.next (2+3*k.fs.length)) (2+3*k.fs.length) ⟨a,k.mx,s.next, .slice none 0 0,0,[], .slice none 0 0,0,[]⟩:=
   ⟨r5 0 _ rfl,r5 1 _ rfl,fun y h1 _=>Dx h1, .inl ⟨rfl,rfl,rfl⟩,fun y hy=>absurd hy.1 (Nat.lt_irrefl 0), .inl ⟨rfl,rfl,rfl⟩,fun y hy=>absurd hy.1 (Nat.lt_irrefl 0)⟩
  have hI4':DkI s4 (paint col s.next (2+3*k.fs.length)) D M k:=⟨hI4.d0,hI4.d1,hI4.d2,hI4.d3,hI4.d4,hI4.d5,hI4.d6,fun x h1 h2=>(BJ (by have:=hI.d6.1;omega)).trans (hI4.kd x h1 h2),hI4.om,(BJ hMs).trans hI4.km,hI4.bo,fun i hi=>by
   have g1:=(hI1.fl i hi).col (col':=paint col s.next (2+3*k.fs.length)) fun x hx=>BJ (by omega)
   have g2:=g1.ext x2 fun _ _ h=>h.elim
   have g3:=g2.ext x3' fun y hy h=>by
    rw[h,BJ hKs]
    omega
   exact g3.ext x4 fun _ _ h=>h.elim⟩
  have hI5:=hI4'.newF (f:=⟨a,k.mx,s.next, .slice none 0 0,0,[], .slice none 0 0,0,[]⟩) x5 (fun _ _=>rfl) o5 rfl hf5
  have hlt5:k.fs.length<(k.fs++[(⟨a,k.mx,s.next, .slice none 0 0,0,[], .slice none 0 0,0,[]⟩:FileS)]).length:=by simp
  have g5:FileI s5 (paint col s.next (2+3*k.fs.length)) (2+3*k.fs.length) ⟨a,k.mx,s.next, .slice none 0 0,0,[], .slice none 0 0,0,[]⟩:=hf5
  have o5K:Own s5 K 0 (.pointer (some ⟨s.next,0,none⟩)):=(Own.ext0 o3 x4).ext x5 fun h=>by
   have h1:K=M:=by omega
   have h2:=hI.km
   rw[←h1]at h2
   omega
  have c45:Own s5 (C+4) 0 bv:=(Own.ext0 c43 x4).ext x5 fun h=>by
   have h1:C+4=M:=by omega
   have h2:=kC (C+4) (by omega) (by omega)
   rw[h1,hI.km]at h2
   omega
  have hB5:Bs s5 bv l:=(Bs.ext0 hB3 x4).ext x5 fun x hx h=>by
   have h1:=(hBc x hx).2
   rw[h,hI.km]at h1
   omega
  refine Rx (C:=C+4) (K:=K) (lb:=[]) (lbk:=0) (blk:=s.next) (y5.bnd hb0) o5K c45 g5.o1 g5.ml hB5 (by simp;omega) (fun h=>absurd h.1 (Nat.lt_irrefl 0)) (fun h=>absurd h.1 (Nat.lt_irrefl 0)) (by simp[T.get_set,t0]) (by simp[T.get_set,t3]) Kk_ (by omega) y5.cx fun s6 v b x6 o6 mk6 hb6=> ?_
  have hf6:=g5.loose (G:=Non) (m:=[]++l) x6 o6 (by rw[List.nil_append];simpa using mk6) (hb6.imp (fun h=>⟨h.1,by rw[List.nil_append,h.2];rfl⟩) fun h=>h)
  rw[List.nil_append]at hf6
  have hD:=hI5.file (j:=k.fs.length) hlt5 x6 (fun y hy h=>by
   rcases h with rfl|h
   ·rw[Dx (by omega)]
    omega
   ·exact absurd h.1 (Nat.lt_irrefl 0)) (fun y hy=>BJ hy) hf6 (by
   show _=((k.fs++[(⟨a,k.mx,s.next, .slice none 0 0,0,[], .slice none 0 0,0,[]⟩:FileS)])[k.fs.length]'hlt5).ent
   rw[List.getElem_append_right (Nat.le_refl _)]
   simp only[Nat.sub_self,List.getElem_cons_zero]
   rfl)
  have y6:=y5.on x6 hb0 fun y hy h=>by
   rcases h with rfl|h
   ·have h1:s.next+1<s.next:=hy
    omega
   ·exact absurd h.1 (Nat.lt_irrefl 0)
  refine q (s6.cxN s.cx) (paint (paint col s.next (2+3*k.fs.length)) s5.next (2+3*k.fs.length+2)) s.next v b ?_ (fun x hx=>(BJ (by have:=y5.nxt;have e:(s.cxN cxN).next=s.next:=rfl;omega)).trans (BJ hx)) y6.cx'
  rw[hadd,hmx]
  have: ∀f':FileS,(k.fs++[(⟨a,k.mx,s.next, .slice none 0 0,0,[], .slice none 0 0,0,[]⟩:FileS)]).set k.fs.length f'=k.fs++[f']:=fun f'=>S6 _ _ _
  have hD':=hD.same (s':=s6.cxN s.cx) rfl rfl
  simp only[this]at hD'
  exact hD'
end
end Go.Proofs.Ytjfhmacppabehaa.Am
end
