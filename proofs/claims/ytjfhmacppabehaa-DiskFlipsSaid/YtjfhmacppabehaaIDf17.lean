import Derived.Test.YtjfhmacppabehaaIDf15
import Derived.Test.YtjfhmacppabehaaIDf08
import Derived.KernelRfl
import Derived.Test.YtjfhmacppabehaaIDf07
import Derived.Test.YtjfhmacppabehaaIDf14
import Derived.Test.YtjfhmacppabehaaIDf16
noncomputable section
namespace Go.Proofs.Ytjfhmacppabehaa.Am
open Go.RowKit
def PE:Nat:=Bh Try.f67
def TC:Code:=Try.f67.body.getD .skip
theorem WV:envS.fn.get 67=some Try.f67:=by kernel_rfl
theorem FA_ {a0 a1:Value}{n:Nat}{s:St}{Q:Value→St→Prop}(h: ∀tm,T.get tm 0=some a0→T.get tm 1=some a1→W (runF envS n ⟨67,9,PE,tm,[.code TC], .run, .normal,none⟩) (s.cxN cxN) fun p s1=>Q p.1 (s1.cxN s.cx)):W (Ap envS (runF envS n) 67 [a0,a1]) s Q:=
 W.call (by kernel_rfl) (by kernel_rfl) WV (by kernel_rfl) rfl rfl (by simp) (h _ (by kernel_rfl) (by kernel_rfl))
theorem Ks_:Try.f67.results.toList=[.tmp 4]:=by kernel_rfl
def Nb:List Item:=skim 64 [.code TC]
def JQ:List Item:=skim 64 Nb.tail
theorem De_:skim 64 Nb.tail=JQ:=by kernel_rfl
def NX:List Item:=skim 64 JQ.tail
theorem IS_:skim 64 JQ.tail=NX:=by kernel_rfl
def S3 (E:Env)(call round:Ac)(tm:T Value):M (T Value):=
 mv (some (.bool false)) fun v4=>
 setF 4 v4 tm fun tm1=>
 M.pure tm1
theorem Al_:RegEq 67 9 PE Nb S3:=⟨by kernel_rfl,fun _ _ _ _ _ _ _ _ _=>by kernel_rfl⟩
def SI (E:Env)(call round:Ac)(tm:T Value):M (T Value):=
 mv (T.get tm 0) fun v5=>
 mv (T.get tm 1) fun v6=>
 M.bind (M.on (some (.func (.func 82) #[] #[])) fun f=>M.on (seqO [(some v5),(some v6)]) fun l=>A5 call round f l) fun v7=>
 M.bind (oS (some v7) fun a=>oS (some (.int .i64 0)) fun b=>Cl.get (aBin E .geq 3 (.tmp 7) (.const (.int .i64 0))) a b) fun v8=>
 mv (some v8) fun v4=>
 setF 4 v4 tm fun tm1=>
 M.pure tm1
theorem Ct_:RegEq 67 9 PE JQ SI:=⟨by kernel_rfl,fun _ _ _ _ _ _ _ _ _=>by kernel_rfl⟩
theorem Jw_: ∃k,NX= .code .ret::k:=⟨NX.tail,by kernel_rfl⟩
def LB:Nat:=Bh Try.f82
def V5:Code:=Try.f82.body.getD .skip
theorem Sp:envS.fn.get 82=some Try.f82:=by kernel_rfl
theorem Px_ {a0 a1:Value}{n:Nat}{s:St}{Q:Value→St→Prop}(h: ∀tm,T.get tm 0=some a0→T.get tm 1=some a1→W (runF envS n ⟨82,8,LB,tm,[.code V5], .run, .normal,none⟩) (s.cxN cxN) fun p s1=>Q p.1 (s1.cxN s.cx)):W (Ap envS (runF envS n) 82 [a0,a1]) s Q:=
 W.call (by kernel_rfl) (by kernel_rfl) Sp (by kernel_rfl) rfl rfl (by simp) (h _ (by kernel_rfl) (by kernel_rfl))
theorem Kn_:Try.f82.results.toList=[.tmp 4]:=by kernel_rfl
def Nq:List Item:=skim 64 [.code V5]
def J1:List Item:=skim 64 Nq.tail
theorem Ap_:skim 64 Nq.tail=J1:=by kernel_rfl
def Mo:List Item:=skim 64 J1.tail
theorem Ey_:skim 64 J1.tail=Mo:=by kernel_rfl
def VS (E:Env)(call round:Ac)(tm:T Value):M (T Value):=
 mv (some (.int .i64 0)) fun v4=>
 setF 4 v4 tm fun tm1=>
 M.pure tm1
theorem FH_:RegEq 82 8 LB Nq VS:=⟨by kernel_rfl,fun _ _ _ _ _ _ _ _ _=>by kernel_rfl⟩
def U5 (E:Env)(call round:Ac)(tm:T Value):M (T Value):=
 mv (T.get tm 0) fun v5=>
 mv (T.get tm 1) fun v6=>
 M.bind (M.on (some (.func (.func 89) #[] #[])) fun f=>M.on (seqO [(some v5),(some v6),(some (.bool true))]) fun l=>A5 call round f l) fun v7=>
 mv (some v7) fun v4=>
 setF 4 v4 tm fun tm1=>
 M.pure tm1
theorem PV_:RegEq 82 8 LB J1 U5:=⟨by kernel_rfl,fun _ _ _ _ _ _ _ _ _=>by kernel_rfl⟩
theorem Lc_: ∃k,Mo= .code .ret::k:=⟨Mo.tail,by kernel_rfl⟩
def Ew:Nat:=Bh Try.f89
def Se:Code:=Try.f89.body.getD .skip
theorem Q0:envS.fn.get 89=some Try.f89:=by kernel_rfl
theorem Iw_ {a0 a1 a2:Value}{n:Nat}{s:St}{Q:Value→St→Prop}(h: ∀tm,T.get tm 0=some a0→T.get tm 1=some a1→T.get tm 2=some a2→W (runF envS n ⟨89,21,Ew,tm,[.code Se], .run, .normal,none⟩) (s.cxN cxN) fun p s1=>Q p.1 (s1.cxN s.cx)):W (Ap envS (runF envS n) 89 [a0,a1,a2]) s Q:=
 W.call (by kernel_rfl) (by kernel_rfl) Q0 (by kernel_rfl) rfl rfl (by simp) (h _ (by kernel_rfl) (by kernel_rfl) (by kernel_rfl))
theorem MJ_:Try.f89.results.toList=[.tmp 6]:=by kernel_rfl
def MP:List Item:=skim 64 [.code Se]
def H0:List Item:=skim 64 MP.tail
theorem AP_:skim 64 MP.tail=H0:=by kernel_rfl
def G7:List Item:=skim 64 H0.tail
theorem AY_:skim 64 H0.tail=G7:=by kernel_rfl
def Gf:List Item:=skim 64 G7.tail
theorem S1:skim 64 G7.tail=Gf:=by kernel_rfl
def Ix:List Item:=skim 64 (brT Gf)
theorem EC_:skim 64 (brT Gf)=Ix:=by kernel_rfl
def KM:List Item:=skim 64 (brF Gf)
theorem KO_:skim 64 (brF Gf)=KM:=by kernel_rfl
def La:List Item:=skim 64 Ix.tail
theorem Ff_:skim 64 Ix.tail=La:=by kernel_rfl
def OO:List Item:=skim 64 KM.tail
theorem YU:skim 64 KM.tail=OO:=by kernel_rfl
def Mj:List Item:=skim 64 La.tail
theorem Dp_:skim 64 La.tail=Mj:=by kernel_rfl
theorem Kc_:skim 64 (brF Mj)=G7:=by kernel_rfl
def QH (E:Env)(call round:Ac)(tm:T Value):M (T Value):=
 mv (some (.int .i64 0)) fun v6=>
 setF 6 v6 tm fun tm1=>
 M.pure tm1
theorem II_:RegEq 89 21 Ew MP QH:=⟨by kernel_rfl,fun _ _ _ _ _ _ _ _ _=>by kernel_rfl⟩
def TT (E:Env)(call round:Ac)(tm:T Value):M (T Value):=
 mv (T.get tm 0) fun v9=>
 M.bind (oS (some v9) fun a=>C3 E 9 a) fun v10=>
 setF 10 v10 tm fun tm1=>
 M.pure tm1
theorem AV_:RegEq 89 21 Ew H0 TT:=⟨by kernel_rfl,fun _ _ _ _ _ _ _ _ _=>by kernel_rfl⟩
def PA (E:Env)(call round:Ac)(tm:T Value):M (T Value):=
 M.bind (oS (T.get tm 10) fun a=>Db a) fun v11=>
 setF 11 v11 tm fun tm1=>
 M.bind (oS (some v11) fun a=>kExt 0 a) fun v12=>
 setF 12 v12 tm1 fun tm2=>
 M.pure tm2
theorem UP:RegEq 89 21 Ew G7 PA:=⟨by kernel_rfl,fun _ _ _ _ _ _ _ _ _=>by kernel_rfl⟩
theorem UO:Bc Gf=some 12:=by kernel_rfl
def X5 (E:Env)(call round:Ac)(tm:T Value):M (T Value):=
 M.bind (oS (T.get tm 11) fun a=>kExt 1 a) fun v13=>
 M.bind (oS (T.get tm 11) fun a=>kExt 2 a) fun v14=>
 mv (some v13) fun v7=>
 setF 7 v7 tm fun tm1=>
 mv (some v14) fun v8=>
 setF 8 v8 tm1 fun tm2=>
 M.pure tm2
theorem Mo_:RegEq 89 21 Ew Ix X5:=⟨by kernel_rfl,fun _ _ _ _ _ _ _ _ _=>by kernel_rfl⟩
def Wh (E:Env)(call round:Ac)(tm:T Value):M (T Value):=
 mv (some (.int .i64 (-1))) fun v6=>
 setF 6 v6 tm fun tm1=>
 M.pure tm1
theorem HJ_:RegEq 89 21 Ew KM Wh:=⟨by kernel_rfl,fun _ _ _ _ _ _ _ _ _=>by kernel_rfl⟩
def Sj (E:Env)(call round:Ac)(tm:T Value):M (T Value):=
 mv (T.get tm 1) fun v15=>
 mv (T.get tm 8) fun v16=>
 M.bind (M.on (some v15) fun f=>M.on (seqO [(some v16)]) fun l=>A5 call round f l) fun v17=>
 mv (T.get tm 2) fun v18=>
 M.bind (oS (some v17) fun a=>oS (some v18) fun b=>Cl.get (aBin E .eql 4 (.tmp 17) (.tmp 18)) a b) fun v19=>
 setF 19 v19 tm fun tm1=>
 M.pure tm1
theorem Gj_:RegEq 89 21 Ew La Sj:=⟨by kernel_rfl,fun _ _ _ _ _ _ _ _ _=>by kernel_rfl⟩
theorem HL_: ∃k,OO= .code .ret::k:=⟨OO.tail,by kernel_rfl⟩
theorem CA_:Bc Mj=some 19:=by kernel_rfl
def Nv:Nat:=Bh Try.f46
def Tx:Code:=Try.f46.body.getD .skip
theorem P4:envS.fn.get 46=some Try.f46:=by kernel_rfl
theorem GE_ {a0 a1:Value}{n:Nat}{s:St}{Q:Value→St→Prop}(h: ∀tm,T.get tm 0=some a0→T.get tm 1=some a1→W (runF envS n ⟨46,8,Nv,tm,[.code Tx], .run, .normal,none⟩) (s.cxN cxN) fun p s1=>Q p.1 (s1.cxN s.cx)):W (Ap envS (runF envS n) 46 [a0,a1]) s Q:=
 W.call (by kernel_rfl) (by kernel_rfl) P4 (by kernel_rfl) rfl rfl (by simp) (h _ (by kernel_rfl) (by kernel_rfl))
theorem DG_:Try.f46.results.toList=[.tmp 4]:=by kernel_rfl
def N3:List Item:=skim 64 [.code Tx]
def JP:List Item:=skim 64 N3.tail
theorem Or_:skim 64 N3.tail=JP:=by kernel_rfl
def LO:List Item:=skim 64 JP.tail
theorem By_:skim 64 JP.tail=LO:=by kernel_rfl
def To (E:Env)(call round:Ac)(tm:T Value):M (T Value):=
 mv (some (.bool false)) fun v4=>
 setF 4 v4 tm fun tm1=>
 M.pure tm1
theorem KF_:RegEq 46 8 Nv N3 To:=⟨by kernel_rfl,fun _ _ _ _ _ _ _ _ _=>by kernel_rfl⟩
def Vu (E:Env)(call round:Ac)(tm:T Value):M (T Value):=
 mv (T.get tm 0) fun v5=>
 mv (T.get tm 1) fun v6=>
 M.bind (M.on (some (.func (.func 74) #[] #[])) fun f=>M.on (seqO [(some v5),(some v6)]) fun l=>A5 call round f l) fun v7=>
 mv (some v7) fun v4=>
 setF 4 v4 tm fun tm1=>
 M.pure tm1
theorem FI_:RegEq 46 8 Nv JP Vu:=⟨by kernel_rfl,fun _ _ _ _ _ _ _ _ _=>by kernel_rfl⟩
theorem Hl_: ∃k,LO= .code .ret::k:=⟨LO.tail,by kernel_rfl⟩
def Nn:Nat:=Bh Try.f74
def VU:Code:=Try.f74.body.getD .skip
theorem Tr:envS.fn.get 74=some Try.f74:=by kernel_rfl
theorem FR_ {a0 a1:Value}{n:Nat}{s:St}{Q:Value→St→Prop}(h: ∀tm,T.get tm 0=some a0→T.get tm 1=some a1→W (runF envS n ⟨74,18,Nn,tm,[.code VU], .run, .normal,none⟩) (s.cxN cxN) fun p s1=>Q p.1 (s1.cxN s.cx)):W (Ap envS (runF envS n) 74 [a0,a1]) s Q:=
 W.call (by kernel_rfl) (by kernel_rfl) Tr (by kernel_rfl) rfl rfl (by simp) (h _ (by kernel_rfl) (by kernel_rfl))
theorem PD_:Try.f74.results.toList=[.tmp 4]:=by kernel_rfl
def MY:List Item:=skim 64 [.code VU]
def H9:List Item:=skim 64 MY.tail
theorem CH_:skim 64 MY.tail=H9:=by kernel_rfl
def MX:List Item:=skim 64 H9.tail
theorem JR_:skim 64 H9.tail=MX:=by kernel_rfl
def We (E:Env)(call round:Ac)(tm:T Value):M (T Value):=
 mv (some (.bool false)) fun v4=>
 setF 4 v4 tm fun tm1=>
 M.pure tm1
theorem Og_:RegEq 74 18 Nn MY We:=⟨by kernel_rfl,fun _ _ _ _ _ _ _ _ _=>by kernel_rfl⟩
def R8 (E:Env)(call round:Ac)(tm:T Value):M (T Value):=
 mv (T.get tm 0) fun v5=>
 M.bind (oS (seqO [(some v5)]) fun l=>A7 E .len [9] l) fun v6=>
 mv (T.get tm 1) fun v7=>
 M.bind (oS (seqO [(some v7)]) fun l=>A7 E .len [9] l) fun v8=>
 M.bind (oS (some v6) fun a=>oS (some v8) fun b=>Cl.get (aBin E .geq 3 (.tmp 6) (.tmp 8)) a b) fun v9=>
 mv (some v9) fun v10=>
 M.bind (M.chk (isK v10) (M.if (isB v10 true) (oS (T.get tm 0) fun a=>M.pure a) (M.pure undef))) fun v11=>
 M.bind (M.chk (isK v10) (M.if (isB v10 true) (oS (T.get tm 1) fun a=>M.pure a) (M.pure undef))) fun v12=>
 M.bind (M.chk (isK v10) (M.if (isB v10 true) (oS (seqO [(some v12)]) fun l=>A7 E .len [9] l) (M.pure undef))) fun v13=>
 M.bind (M.chk (isK v10) (M.if (isB v10 true) (M.on (some v11) fun a=>M.on (some none) fun b=>M.on (onO (some v13) fun v=>some (some v)) fun c=>BQ E 9 a b c) (M.pure undef))) fun v14=>
 M.bind (M.chk (isK v10) (M.if (isB v10 true) (oS (T.get tm 1) fun a=>M.pure a) (M.pure undef))) fun v15=>
 M.bind (M.chk (isK v10) (M.if (isB v10 true) (oS (some v14) fun a=>oS (some v15) fun b=>Cl.get (aBin E .eql 9 (.tmp 14) (.tmp 15)) a b) (M.pure undef))) fun v16=>
 M.bind (M.on (some v10) fun a=>M.on (some v16) fun b=>M.on (some (.bool false)) fun c=>Bt a b c) fun v17=>
 mv (some v17) fun v4=>
 setF 4 v4 tm fun tm1=>
 M.pure tm1
theorem Ht_:RegEq 74 18 Nn H9 R8:=⟨by kernel_rfl,fun _ _ _ _ _ _ _ _ _=>by kernel_rfl⟩
theorem KJ_: ∃k,MX= .code .ret::k:=⟨MX.tail,by kernel_rfl⟩
def Hl:Nat:=Bh Try.f44
def XP:Code:=Try.f44.body.getD .skip
theorem Sm:envS.fn.get 44=some Try.f44:=by kernel_rfl
theorem Nf_ {a0 a1:Value}{n:Nat}{s:St}{Q:Value→St→Prop}(h: ∀tm,T.get tm 0=some a0→T.get tm 1=some a1→W (runF envS n ⟨44,42,Hl,tm,[.code XP], .run, .normal,none⟩) (s.cxN cxN) fun p s1=>Q p.1 (s1.cxN s.cx)):W (Ap envS (runF envS n) 44 [a0,a1]) s Q:=
 W.call (by kernel_rfl) (by kernel_rfl) Sm (by kernel_rfl) rfl rfl (by simp) (h _ (by kernel_rfl) (by kernel_rfl))
theorem Z0:Try.f44.results.toList=[.tmp 4]:=by kernel_rfl
def M8:List Item:=skim 64 [.code XP]
def KL:List Item:=skim 64 M8.tail
theorem Ir_:skim 64 M8.tail=KL:=by kernel_rfl
def K9:List Item:=skim 64 KL.tail
theorem Jy_:skim 64 KL.tail=K9:=by kernel_rfl
def Iy:List Item:=skim 64 K9.tail
theorem Az_:skim 64 K9.tail=Iy:=by kernel_rfl
def JU:List Item:=skim 64 (brT Iy)
theorem Nv_:skim 64 (brT Iy)=JU:=by kernel_rfl
def Ps:List Item:=skim 64 JU.tail
theorem JV_:skim 64 JU.tail=Ps:=by kernel_rfl
def So (E:Env)(call round:Ac)(tm:T Value):M (T Value):=
 mv (some (.slice none 0 0)) fun v4=>
 setF 4 v4 tm fun tm1=>
 M.pure tm1
theorem Nc_:RegEq 44 42 Hl M8 So:=⟨by kernel_rfl,fun _ _ _ _ _ _ _ _ _=>by kernel_rfl⟩
def VQ (E:Env)(call round:Ac)(tm:T Value):M (T Value):=
 mv (T.get tm 0) fun v8=>
 mv (T.get tm 1) fun v9=>
 M.bind (M.on (some (.func (.func 73) #[] #[])) fun f=>M.on (seqO [(some v8),(some v9)]) fun l=>A5 call round f l) fun v10=>
 mv (some v10) fun v5=>
 setF 5 v5 tm fun tm1=>
 M.pure tm1
theorem OI_:RegEq 44 42 Hl KL VQ:=⟨by kernel_rfl,fun _ _ _ _ _ _ _ _ _=>by kernel_rfl⟩
def P2 (E:Env)(call round:Ac)(tm:T Value):M (T Value):=
 mv (T.get tm 5) fun v11=>
 M.bind (oS (some v11) fun a=>oS (some (.int .i64 (-1))) fun b=>Cl.get (aBin E .eql 3 (.tmp 11) (.const (.int .i64 (-1)))) a b) fun v12=>
 setF 12 v12 tm fun tm1=>
 M.pure tm1
theorem HN_:RegEq 44 42 Hl K9 P2:=⟨by kernel_rfl,fun _ _ _ _ _ _ _ _ _=>by kernel_rfl⟩
theorem DD_:Bc Iy=some 12:=by kernel_rfl
def Tg (E:Env)(call round:Ac)(tm:T Value):M (T Value):=
 mv (T.get tm 0) fun v13=>
 mv (some v13) fun v4=>
 setF 4 v4 tm fun tm1=>
 M.pure tm1
theorem Op_:RegEq 44 42 Hl JU Tg:=⟨by kernel_rfl,fun _ _ _ _ _ _ _ _ _=>by kernel_rfl⟩
theorem LL_: ∃k,Ps= .code .ret::k:=⟨Ps.tail,by kernel_rfl⟩
def Dd:Nat:=Bh Try.f73
abbrev CM_:Nat:=19
def Ra:Code:=Try.f73.body.getD .skip
theorem Sb:envS.fn.get 73=some Try.f73:=by kernel_rfl
theorem KI_ {a0 a1:Value}{n:Nat}{s:St}{Q:Value→St→Prop}(h: ∀tm,T.get tm 0=some a0→T.get tm 1=some a1→W (runF envS n ⟨73,19,Dd,tm,[.code Ra], .run, .normal,none⟩) (s.cxN cxN) fun p s1=>Q p.1 (s1.cxN s.cx)):W (Ap envS (runF envS n) 73 [a0,a1]) s Q:=
 W.call (by kernel_rfl) (by kernel_rfl) Sb (by kernel_rfl) rfl rfl (by simp) (h _ (by kernel_rfl) (by kernel_rfl))
theorem KA_:Try.f73.results.toList=[.tmp 4]:=by kernel_rfl
def Og:List Item:=skim 64 [.code Ra]
def Ir:List Item:=skim 64 Og.tail
theorem HR_:skim 64 Og.tail=Ir:=by kernel_rfl
def Gj:List Item:=skim 64 Ir.tail
theorem Ee_:skim 64 Ir.tail=Gj:=by kernel_rfl
def FN:List Item:=skim 64 Gj.tail
theorem Vo:skim 64 Gj.tail=FN:=by kernel_rfl
def H8:List Item:=skim 64 (brT FN)
theorem NN_:skim 64 (brT FN)=H8:=by kernel_rfl
def If:List Item:=skim 64 (brF FN)
theorem KL_:skim 64 (brF FN)=If:=by kernel_rfl
def IV:List Item:=skim 64 H8.tail
theorem Jf_:skim 64 H8.tail=IV:=by kernel_rfl
def ML:List Item:=skim 64 If.tail
theorem KW_:skim 64 If.tail=ML:=by kernel_rfl
def KP:List Item:=skim 64 IV.tail
theorem NP_:skim 64 IV.tail=KP:=by kernel_rfl
def Pq:List Item:=skim 64 (brF KP)
theorem HA_:skim 64 (brF KP)=Pq:=by kernel_rfl
theorem GW_:skim 64 Pq.tail=Gj:=by kernel_rfl
def Vg (E:Env)(call round:Ac)(tm:T Value):M (T Value):=
 mv (some (.int .i64 0)) fun v4=>
 setF 4 v4 tm fun tm1=>
 M.pure tm1
theorem MQ_:RegEq 73 19 Dd Og Vg:=⟨by kernel_rfl,fun _ _ _ _ _ _ _ _ _=>by kernel_rfl⟩
def Q2 (E:Env)(call round:Ac)(tm:T Value):M (T Value):=
 mv (T.get tm 0) fun v6=>
 M.bind (oS (seqO [(some v6)]) fun l=>A7 E .len [30] l) fun v7=>
 setF 7 v7 tm fun tm1=>
 mv (some (.int .i64 0)) fun v8=>
 setF 8 v8 tm1 fun tm2=>
 M.pure tm2
theorem Mr_:RegEq 73 19 Dd Ir Q2:=⟨by kernel_rfl,fun _ _ _ _ _ _ _ _ _=>by kernel_rfl⟩
def O5 (E:Env)(call round:Ac)(tm:T Value):M (T Value):=
 M.bind (oS (T.get tm 8) fun a=>oS (T.get tm 7) fun b=>Cl.get (aBin E .lss 3 (.tmp 8) (.tmp 7)) a b) fun v9=>
 setF 9 v9 tm fun tm1=>
 M.pure tm1
theorem Vi:RegEq 73 19 Dd Gj O5:=⟨by kernel_rfl,fun _ _ _ _ _ _ _ _ _=>by kernel_rfl⟩
theorem SM:Bc FN=some 9:=by kernel_rfl
def PJ (E:Env)(call round:Ac)(tm:T Value):M (T Value):=
 mv (T.get tm 8) fun v10=>
 mv (some v10) fun v5=>
 setF 5 v5 tm fun tm1=>
 M.pure tm1
theorem In_:RegEq 73 19 Dd H8 PJ:=⟨by kernel_rfl,fun _ _ _ _ _ _ _ _ _=>by kernel_rfl⟩
def RR (E:Env)(call round:Ac)(tm:T Value):M (T Value):=
 mv (some (.int .i64 (-1))) fun v4=>
 setF 4 v4 tm fun tm1=>
 M.pure tm1
theorem ZV:RegEq 73 19 Dd If RR:=⟨by kernel_rfl,fun _ _ _ _ _ _ _ _ _=>by kernel_rfl⟩
def VB (E:Env)(call round:Ac)(tm:T Value):M (T Value):=
 mv (T.get tm 1) fun v11=>
 mv (T.get tm 0) fun v12=>
 mv (T.get tm 5) fun v13=>
 M.bind (oS (some v12) fun a=>oS (some v13) fun b=>BS E 30 a b) fun v14=>
 M.bind (oS (some v14) fun a=>A3 E 9 a) fun v15=>
 M.bind (M.on (some v11) fun f=>M.on (seqO [(some v15)]) fun l=>A5 call round f l) fun v16=>
 setF 16 v16 tm fun tm1=>
 M.pure tm1
theorem Qj_:RegEq 73 19 Dd IV VB:=⟨by kernel_rfl,fun _ _ _ _ _ _ _ _ _=>by kernel_rfl⟩
theorem Dq_: ∃k,ML= .code .ret::k:=⟨ML.tail,by kernel_rfl⟩
theorem GH_:Bc KP=some 16:=by kernel_rfl
def T3 (E:Env)(call round:Ac)(tm:T Value):M (T Value):=
 M.bind (oS (T.get tm 8) fun a=>oS (some (.int .i64 1)) fun b=>Cl.get (aBin E .add 3 (.tmp 8) (.const (.int .i64 1))) a b) fun v18=>
 mv (some v18) fun v8=>
 setF 8 v8 tm fun tm1=>
 M.pure tm1
theorem KM_:RegEq 73 19 Dd Pq T3:=⟨by kernel_rfl,fun _ _ _ _ _ _ _ _ _=>by kernel_rfl⟩
def BE:Nat:=Bh Try.f47
abbrev F8:Nat:=36
def Vf:Code:=Try.f47.body.getD .skip
theorem Pe:envS.fn.get 47=some Try.f47:=by kernel_rfl
theorem UH {a0:Value}{n:Nat}{s:St}{Q:Value→St→Prop}(h: ∀tm,T.get tm 0=some a0→W (runF envS n ⟨47,36,BE,tm,[.code Vf], .run, .normal,none⟩) (s.cxN cxN) fun p s1=>Q p.1 (s1.cxN s.cx)):W (Ap envS (runF envS n) 47 [a0]) s Q:=
 W.call (by kernel_rfl) (by kernel_rfl) Pe (by kernel_rfl) rfl rfl (by simp) (h _ (by kernel_rfl))
theorem SY:Try.f47.results.toList=[.tmp 2]:=by kernel_rfl
def Mb:List Item:=skim 64 [.code Vf]
def KQ:List Item:=skim 64 Mb.tail
theorem SU:skim 64 Mb.tail=KQ:=by kernel_rfl
def Ke:List Item:=skim 64 KQ.tail
theorem Xv:skim 64 KQ.tail=Ke:=by kernel_rfl
def FX:List Item:=skim 64 Ke.tail
theorem UD:skim 64 Ke.tail=FX:=by kernel_rfl
def Gr:List Item:=skim 64 FX.tail
theorem Qw:skim 64 FX.tail=Gr:=by kernel_rfl
def JT:List Item:=skim 64 (brT Gr)
theorem ZZ:skim 64 (brT Gr)=JT:=by kernel_rfl
def Hs:List Item:=skim 64 (brF Gr)
theorem CJ_:skim 64 (brF Gr)=Hs:=by kernel_rfl
def JB:List Item:=skim 64 JT.tail
theorem FX_:skim 64 JT.tail=JB:=by kernel_rfl
def Jv:List Item:=skim 64 Hs.tail
theorem RD:skim 64 Hs.tail=Jv:=by kernel_rfl
def J0:List Item:=skim 64 JB.tail
theorem MB_:skim 64 JB.tail=J0:=by kernel_rfl
def EN:List Item:=skim 64 Jv.tail
theorem Wu:skim 64 Jv.tail=EN:=by kernel_rfl
def H7:List Item:=skim 64 J0.tail
theorem JH_:skim 64 J0.tail=H7:=by kernel_rfl
def E7:List Item:=skim 64 EN.tail
theorem KO:skim 64 EN.tail=E7:=by kernel_rfl
def NN:List Item:=skim 64 (brF H7)
theorem BZ_:skim 64 (brF H7)=NN:=by kernel_rfl
def HY:List Item:=skim 64 (brT E7)
theorem Sz:skim 64 (brT E7)=HY:=by kernel_rfl
def Gm:List Item:=skim 64 (brF E7)
theorem TW:skim 64 (brF E7)=Gm:=by kernel_rfl
theorem IG_:skim 64 NN.tail=FX:=by kernel_rfl
def J5:List Item:=skim 64 HY.tail
theorem UL:skim 64 HY.tail=J5:=by kernel_rfl
def NQ:List Item:=skim 64 Gm.tail
theorem QI:skim 64 Gm.tail=NQ:=by kernel_rfl
def Ol:List Item:=skim 64 J5.tail
theorem Ro:skim 64 J5.tail=Ol:=by kernel_rfl
theorem WR:skim 64 Ol.tail=EN:=by kernel_rfl
def Pp (E:Env)(call round:Ac)(tm:T Value):M (T Value):=
 mv (some (.slice none 0 0)) fun v2=>
 setF 2 v2 tm fun tm1=>
 M.pure tm1
theorem Sg:RegEq 47 36 BE Mb Pp:=⟨by kernel_rfl,fun _ _ _ _ _ _ _ _ _=>by kernel_rfl⟩
def NL (E:Env)(call round:Ac)(tm:T Value):M (T Value):=
 mv (some (.int .i64 0)) fun v3=>
 setF 3 v3 tm fun tm1=>
 M.pure tm1
theorem WX:RegEq 47 36 BE KQ NL:=⟨by kernel_rfl,fun _ _ _ _ _ _ _ _ _=>by kernel_rfl⟩
def PC (E:Env)(call round:Ac)(tm:T Value):M (T Value):=
 mv (T.get tm 0) fun v9=>
 setF 9 v9 tm fun tm1=>
 M.bind (oS (seqO [(some v9)]) fun l=>A7 E .len [22] l) fun v10=>
 setF 10 v10 tm1 fun tm2=>
 mv (some (.int .i64 0)) fun v11=>
 setF 11 v11 tm2 fun tm3=>
 M.pure tm3
theorem RN:RegEq 47 36 BE Ke PC:=⟨by kernel_rfl,fun _ _ _ _ _ _ _ _ _=>by kernel_rfl⟩
def Pt (E:Env)(call round:Ac)(tm:T Value):M (T Value):=
 M.bind (oS (T.get tm 11) fun a=>oS (T.get tm 10) fun b=>Cl.get (aBin E .lss 3 (.tmp 11) (.tmp 10)) a b) fun v12=>
 setF 12 v12 tm fun tm1=>
 M.pure tm1
theorem WU:RegEq 47 36 BE FX Pt:=⟨by kernel_rfl,fun _ _ _ _ _ _ _ _ _=>by kernel_rfl⟩
theorem R9:Bc Gr=some 12:=by kernel_rfl
def U0 (E:Env)(call round:Ac)(tm:T Value):M (T Value):=
 M.bind (oS (T.get tm 9) fun a=>oS (T.get tm 11) fun b=>BS E 22 a b) fun v13=>
 M.bind (oS (some v13) fun a=>A3 E 26 a) fun v14=>
 mv (some v14) fun v5=>
 setF 5 v5 tm fun tm1=>
 M.pure tm1
theorem HG_:RegEq 47 36 BE JT U0:=⟨by kernel_rfl,fun _ _ _ _ _ _ _ _ _=>by kernel_rfl⟩
def Nu (E:Env)(call round:Ac)(tm:T Value):M (T Value):=
 mv (T.get tm 3) fun v23=>
 M.bind (M.on (some (.func (.func 75) #[] #[])) fun f=>M.on (seqO [(some (.slice none 0 0)),(some v23)]) fun l=>A5 call round f l) fun v24=>
 mv (some v24) fun v6=>
 setF 6 v6 tm fun tm1=>
 M.pure tm1
theorem Q3:RegEq 47 36 BE Hs Nu:=⟨by kernel_rfl,fun _ _ _ _ _ _ _ _ _=>by kernel_rfl⟩
def QP (E:Env)(call round:Ac)(tm:T Value):M (T Value):=
 mv (T.get tm 3) fun v15=>
 mv (T.get tm 5) fun v16=>
 M.bind (oS (seqO [(some v16)]) fun l=>A7 E .len [26] l) fun v17=>
 M.bind (oS (some v15) fun a=>oS (some v17) fun b=>Cl.get (aBin E .add 3 (.tmp 15) (.tmp 17)) a b) fun v18=>
 mv (some v18) fun v3=>
 setF 3 v3 tm fun tm1=>
 M.pure tm1
theorem Kx_:RegEq 47 36 BE JB QP:=⟨by kernel_rfl,fun _ _ _ _ _ _ _ _ _=>by kernel_rfl⟩
def OS (E:Env)(call round:Ac)(tm:T Value):M (T Value):=
 mv (T.get tm 0) fun v25=>
 setF 25 v25 tm fun tm1=>
 M.bind (oS (seqO [(some v25)]) fun l=>A7 E .len [22] l) fun v26=>
 setF 26 v26 tm1 fun tm2=>
 mv (some (.int .i64 0)) fun v27=>
 setF 27 v27 tm2 fun tm3=>
 M.pure tm3
theorem Q7:RegEq 47 36 BE Jv OS:=⟨by kernel_rfl,fun _ _ _ _ _ _ _ _ _=>by kernel_rfl⟩
def S7 (E:Env)(call round:Ac)(tm:T Value):M (T Value):=
 mv (T.get tm 3) fun v19=>
 M.bind (oS (some v19) fun a=>oS (some (.int .i64 0)) fun b=>Cl.get (aBin E .lss 3 (.tmp 19) (.const (.int .i64 0))) a b) fun v20=>
 setF 20 v20 tm fun tm1=>
 M.pure tm1
theorem Pb_:RegEq 47 36 BE J0 S7:=⟨by kernel_rfl,fun _ _ _ _ _ _ _ _ _=>by kernel_rfl⟩
def Hh (E:Env)(call round:Ac)(tm:T Value):M (T Value):=
 M.bind (oS (T.get tm 27) fun a=>oS (T.get tm 26) fun b=>Cl.get (aBin E .lss 3 (.tmp 27) (.tmp 26)) a b) fun v28=>
 setF 28 v28 tm fun tm1=>
 M.pure tm1
theorem JS:RegEq 47 36 BE EN Hh:=⟨by kernel_rfl,fun _ _ _ _ _ _ _ _ _=>by kernel_rfl⟩
theorem Cf_:Bc H7=some 20:=by kernel_rfl
theorem Ka:Bc E7=some 28:=by kernel_rfl
def Xz (E:Env)(call round:Ac)(tm:T Value):M (T Value):=
 M.bind (oS (T.get tm 11) fun a=>oS (some (.int .i64 1)) fun b=>Cl.get (aBin E .add 3 (.tmp 11) (.const (.int .i64 1))) a b) fun v22=>
 mv (some v22) fun v11=>
 setF 11 v11 tm fun tm1=>
 M.pure tm1
theorem Cl_:RegEq 47 36 BE NN Xz:=⟨by kernel_rfl,fun _ _ _ _ _ _ _ _ _=>by kernel_rfl⟩
def L0 (E:Env)(call round:Ac)(tm:T Value):M (T Value):=
 M.bind (oS (T.get tm 25) fun a=>oS (T.get tm 27) fun b=>BS E 22 a b) fun v29=>
 M.bind (oS (some v29) fun a=>A3 E 26 a) fun v30=>
 mv (some v30) fun v8=>
 setF 8 v8 tm fun tm1=>
 M.pure tm1
theorem PP:RegEq 47 36 BE HY L0:=⟨by kernel_rfl,fun _ _ _ _ _ _ _ _ _=>by kernel_rfl⟩
def Nl (E:Env)(call round:Ac)(tm:T Value):M (T Value):=
 mv (T.get tm 6) fun v35=>
 mv (some v35) fun v2=>
 setF 2 v2 tm fun tm1=>
 M.pure tm1
theorem TF:RegEq 47 36 BE Gm Nl:=⟨by kernel_rfl,fun _ _ _ _ _ _ _ _ _=>by kernel_rfl⟩
def OJ (E:Env)(call round:Ac)(tm:T Value):M (T Value):=
 mv (T.get tm 6) fun v31=>
 mv (T.get tm 8) fun v32=>
 M.bind (oS (seqO [(some v31),(some v32)]) fun l=>A7 E .append [26,26] l) fun v33=>
 mv (some v33) fun v6=>
 setF 6 v6 tm fun tm1=>
 M.pure tm1
theorem Ss:RegEq 47 36 BE J5 OJ:=⟨by kernel_rfl,fun _ _ _ _ _ _ _ _ _=>by kernel_rfl⟩
theorem RO: ∃k,NQ= .code .ret::k:=⟨NQ.tail,by kernel_rfl⟩
def NU (E:Env)(call round:Ac)(tm:T Value):M (T Value):=
 M.bind (oS (T.get tm 27) fun a=>oS (some (.int .i64 1)) fun b=>Cl.get (aBin E .add 3 (.tmp 27) (.const (.int .i64 1))) a b) fun v34=>
 mv (some v34) fun v27=>
 setF 27 v27 tm fun tm1=>
 M.pure tm1
theorem QM:RegEq 47 36 BE Ol NU:=⟨by kernel_rfl,fun _ _ _ _ _ _ _ _ _=>by kernel_rfl⟩
def Et:Nat:=Bh Try.f75
def TD:Code:=Try.f75.body.getD .skip
theorem Pw:envS.fn.get 75=some Try.f75:=by kernel_rfl
theorem Su {a0 a1:Value}{n:Nat}{s:St}{Q:Value→St→Prop}(h: ∀tm,T.get tm 0=some a0→T.get tm 1=some a1→W (runF envS n ⟨75,27,Et,tm,[.code TD], .run, .normal,none⟩) (s.cxN cxN) fun p s1=>Q p.1 (s1.cxN s.cx)):W (Ap envS (runF envS n) 75 [a0,a1]) s Q:=
 W.call (by kernel_rfl) (by kernel_rfl) Pw (by kernel_rfl) rfl rfl (by simp) (h _ (by kernel_rfl) (by kernel_rfl))
theorem Wq:Try.f75.results.toList=[.tmp 4]:=by kernel_rfl
def MN:List Item:=skim 64 [.code TD]
def Iz:List Item:=skim 64 MN.tail
theorem RI:skim 64 MN.tail=Iz:=by kernel_rfl
def Jj:List Item:=skim 64 Iz.tail
theorem UZ:skim 64 Iz.tail=Jj:=by kernel_rfl
def IE:List Item:=skim 64 (brF Jj)
theorem Qh:skim 64 (brF Jj)=IE:=by kernel_rfl
def Ky:List Item:=skim 64 IE.tail
theorem Ru:skim 64 IE.tail=Ky:=by kernel_rfl
def FW:List Item:=skim 64 Ky.tail
theorem QX:skim 64 Ky.tail=FW:=by kernel_rfl
def Mi:List Item:=skim 64 (brT FW)
theorem ZM:skim 64 (brT FW)=Mi:=by kernel_rfl
def GE:List Item:=skim 64 (brF FW)
theorem JF_:skim 64 (brF FW)=GE:=by kernel_rfl
theorem Yv:skim 64 Mi.tail=GE:=by kernel_rfl
def Ot:List Item:=skim 64 GE.tail
theorem TX:skim 64 GE.tail=Ot:=by kernel_rfl
def MA (E:Env)(call round:Ac)(tm:T Value):M (T Value):=
 mv (some (.slice none 0 0)) fun v4=>
 setF 4 v4 tm fun tm1=>
 M.pure tm1
theorem UK:RegEq 75 27 Et MN MA:=⟨by kernel_rfl,fun _ _ _ _ _ _ _ _ _=>by kernel_rfl⟩
def O0 (E:Env)(call round:Ac)(tm:T Value):M (T Value):=
 mv (T.get tm 1) fun v5=>
 M.bind (oS (some v5) fun a=>oS (some (.int .i64 0)) fun b=>Cl.get (aBin E .lss 3 (.tmp 5) (.const (.int .i64 0))) a b) fun v6=>
 setF 6 v6 tm fun tm1=>
 M.pure tm1
theorem W7:RegEq 75 27 Et Iz O0:=⟨by kernel_rfl,fun _ _ _ _ _ _ _ _ _=>by kernel_rfl⟩
theorem Xq:Bc Jj=some 6:=by kernel_rfl
def PB (E:Env)(call round:Ac)(tm:T Value):M (T Value):=
 mv (T.get tm 1) fun v8=>
 mv (T.get tm 0) fun v9=>
 M.bind (oS (seqO [(some v9)]) fun l=>A7 E .cap [26] l) fun v10=>
 mv (T.get tm 0) fun v11=>
 M.bind (oS (seqO [(some v11)]) fun l=>A7 E .len [26] l) fun v12=>
 M.bind (oS (some v10) fun a=>oS (some v12) fun b=>Cl.get (aBin E .sub 3 (.tmp 10) (.tmp 12)) a b) fun v13=>
 M.bind (oS (some v8) fun a=>oS (some v13) fun b=>Cl.get (aBin E .sub 3 (.tmp 8) (.tmp 13)) a b) fun v14=>
 mv (some v14) fun v1=>
 setF 1 v1 tm fun tm1=>
 M.pure tm1
theorem U6:RegEq 75 27 Et IE PB:=⟨by kernel_rfl,fun _ _ _ _ _ _ _ _ _=>by kernel_rfl⟩
def Pa (E:Env)(call round:Ac)(tm:T Value):M (T Value):=
 mv (T.get tm 1) fun v15=>
 M.bind (oS (some v15) fun a=>oS (some (.int .i64 0)) fun b=>Cl.get (aBin E .gtr 3 (.tmp 15) (.const (.int .i64 0))) a b) fun v16=>
 setF 16 v16 tm fun tm1=>
 M.pure tm1
theorem V2:RegEq 75 27 Et Ky Pa:=⟨by kernel_rfl,fun _ _ _ _ _ _ _ _ _=>by kernel_rfl⟩
theorem Wa:Bc FW=some 16:=by kernel_rfl
def PZ (E:Env)(call round:Ac)(tm:T Value):M (T Value):=
 mv (T.get tm 0) fun v17=>
 mv (T.get tm 0) fun v18=>
 M.bind (oS (seqO [(some v18)]) fun l=>A7 E .cap [26] l) fun v19=>
 M.bind (M.on (some v17) fun a=>M.on (some none) fun b=>M.on (onO (some v19) fun v=>some (some v)) fun c=>BQ E 26 a b c) fun v20=>
 mv (T.get tm 1) fun v21=>
 M.bind (oS (seqO [(some v20),(some v21)]) fun l=>A7 E .append [26,3] l) fun v22=>
 mv (T.get tm 0) fun v23=>
 M.bind (oS (seqO [(some v23)]) fun l=>A7 E .len [26] l) fun v24=>
 M.bind (M.on (some v22) fun a=>M.on (some none) fun b=>M.on (onO (some v24) fun v=>some (some v)) fun c=>BQ E 26 a b c) fun v25=>
 mv (some v25) fun v0=>
 setF 0 v0 tm fun tm1=>
 M.pure tm1
theorem BM_:RegEq 75 27 Et Mi PZ:=⟨by kernel_rfl,fun _ _ _ _ _ _ _ _ _=>by kernel_rfl⟩
def Lx (E:Env)(call round:Ac)(tm:T Value):M (T Value):=
 mv (T.get tm 0) fun v26=>
 mv (some v26) fun v4=>
 setF 4 v4 tm fun tm1=>
 M.pure tm1
theorem VM:RegEq 75 27 Et GE Lx:=⟨by kernel_rfl,fun _ _ _ _ _ _ _ _ _=>by kernel_rfl⟩
theorem Uq: ∃k,Ot= .code .ret::k:=⟨Ot.tail,by kernel_rfl⟩
def Mg:Nat:=Bh Try.f69
def WA:Code:=Try.f69.body.getD .skip
theorem XO:envS.fn.get 69=some Try.f69:=by kernel_rfl
theorem ZW {a0 a1:Value}{n:Nat}{s:St}{Q:Value→St→Prop}(h: ∀tm,T.get tm 0=some a0→T.get tm 1=some a1→W (runF envS n ⟨69,10,Mg,tm,[.code WA], .run, .normal,none⟩) (s.cxN cxN) fun p s1=>Q p.1 (s1.cxN s.cx)):W (Ap envS (runF envS n) 69 [a0,a1]) s Q:=
 W.call (by kernel_rfl) (by kernel_rfl) XO (by kernel_rfl) rfl rfl (by simp) (h _ (by kernel_rfl) (by kernel_rfl))
theorem Is_:Try.f69.results.toList=[.tmp 4]:=by kernel_rfl
def Lu:List Item:=skim 64 [.code WA]
def K4:List Item:=skim 64 Lu.tail
theorem Zx:skim 64 Lu.tail=K4:=by kernel_rfl
def Lw:List Item:=skim 64 K4.tail
theorem Ml_:skim 64 K4.tail=Lw:=by kernel_rfl
def Sc (E:Env)(call round:Ac)(tm:T Value):M (T Value):=
 mv (some (.int .i64 0)) fun v4=>
 setF 4 v4 tm fun tm1=>
 M.pure tm1
theorem Ca_:RegEq 69 10 Mg Lu Sc:=⟨by kernel_rfl,fun _ _ _ _ _ _ _ _ _=>by kernel_rfl⟩
def SA (E:Env)(call round:Ac)(tm:T Value):M (T Value):=
 mv (T.get tm 0) fun v5=>
 M.bind (oS (some v5) fun a=>kNil a) fun v6=>
 M.bind (oS (some v6) fun a=>kFld E 73 a 2) fun v7=>
 mv (T.get tm 1) fun v8=>
 M.bind (M.on (some (.func (.func 83) #[] #[])) fun f=>M.on (seqO [(some v7),(some v8)]) fun l=>A5 call round f l) fun v9=>
 mv (some v9) fun v4=>
 setF 4 v4 tm fun tm1=>
 M.pure tm1
theorem HT_:RegEq 69 10 Mg K4 SA:=⟨by kernel_rfl,fun _ _ _ _ _ _ _ _ _=>by kernel_rfl⟩
theorem CE_: ∃k,Lw= .code .ret::k:=⟨Lw.tail,by kernel_rfl⟩
def DY:Nat:=Bh Try.f15
abbrev BV_:Nat:=16
def Tq:Code:=Try.f15.body.getD .skip
theorem T0:envS.fn.get 15=some Try.f15:=by kernel_rfl
theorem Ce_ {a0 a1:Value}{n:Nat}{s:St}{Q:Value→St→Prop}(h: ∀tm,T.get tm 0=some a0→T.get tm 1=some a1→W (runF envS n ⟨15,16,DY,tm,[.code Tq], .run, .normal,none⟩) (s.cxN cxN) fun p s1=>Q p.1 (s1.cxN s.cx)):W (Ap envS (runF envS n) 15 [a0,a1]) s Q:=
 W.call (by kernel_rfl) (by kernel_rfl) T0 (by kernel_rfl) rfl rfl (by simp) (h _ (by kernel_rfl) (by kernel_rfl))
theorem Hu_:Try.f15.results.toList=[.tmp 4]:=by kernel_rfl
def Mq:List Item:=skim 64 [.code Tq]
def KI:List Item:=skim 64 Mq.tail
theorem Y6:skim 64 Mq.tail=KI:=by kernel_rfl
def I5:List Item:=skim 64 KI.tail
theorem Zp:skim 64 KI.tail=I5:=by kernel_rfl
def HQ:List Item:=skim 64 (brF I5)
theorem DO_:skim 64 (brF I5)=HQ:=by kernel_rfl
def IL:List Item:=skim 64 HQ.tail
theorem Pj_:skim 64 HQ.tail=IL:=by kernel_rfl
def EW:List Item:=skim 64 IL.tail
theorem TN:skim 64 IL.tail=EW:=by kernel_rfl
def Oz:List Item:=skim 64 (brT EW)
theorem BC_:skim 64 (brT EW)=Oz:=by kernel_rfl
def Fy:List Item:=skim 64 (brF EW)
theorem Mk_:skim 64 (brF EW)=Fy:=by kernel_rfl
theorem Nu_:skim 64 Oz.tail=Fy:=by kernel_rfl
def O4:List Item:=skim 64 Fy.tail
theorem Lh_:skim 64 Fy.tail=O4:=by kernel_rfl
def Sa (E:Env)(call round:Ac)(tm:T Value):M (T Value):=
 mv (some (.int .i64 0)) fun v4=>
 setF 4 v4 tm fun tm1=>
 M.pure tm1
theorem YT:RegEq 15 16 DY Mq Sa:=⟨by kernel_rfl,fun _ _ _ _ _ _ _ _ _=>by kernel_rfl⟩
def Rk (E:Env)(call round:Ac)(tm:T Value):M (T Value):=
 mv (T.get tm 1) fun v5=>
 M.bind (oS (some v5) fun a=>oS (some (.int .i64 1)) fun b=>Cl.get (aBin E .lss 3 (.tmp 5) (.const (.int .i64 1))) a b) fun v6=>
 setF 6 v6 tm fun tm1=>
 M.pure tm1
theorem OA_:RegEq 15 16 DY KI Rk:=⟨by kernel_rfl,fun _ _ _ _ _ _ _ _ _=>by kernel_rfl⟩
theorem Os_:Bc I5=some 6:=by kernel_rfl
def Uh (E:Env)(call round:Ac)(tm:T Value):M (T Value):=
 mv (T.get tm 0) fun v7=>
 mv (T.get tm 1) fun v8=>
 M.bind (oS (some v7) fun a=>oS (some v8) fun b=>Cl.get (aBin E .rem 3 (.tmp 7) (.tmp 8)) a b) fun v9=>
 mv (some v9) fun v0=>
 setF 0 v0 tm fun tm1=>
 M.pure tm1
theorem Hm_:RegEq 15 16 DY HQ Uh:=⟨by kernel_rfl,fun _ _ _ _ _ _ _ _ _=>by kernel_rfl⟩
def Vx (E:Env)(call round:Ac)(tm:T Value):M (T Value):=
 mv (T.get tm 0) fun v10=>
 M.bind (oS (some v10) fun a=>oS (some (.int .i64 0)) fun b=>Cl.get (aBin E .lss 3 (.tmp 10) (.const (.int .i64 0))) a b) fun v11=>
 setF 11 v11 tm fun tm1=>
 M.pure tm1
theorem NH_:RegEq 15 16 DY IL Vx:=⟨by kernel_rfl,fun _ _ _ _ _ _ _ _ _=>by kernel_rfl⟩
theorem VN:Bc EW=some 11:=by kernel_rfl
def Tu (E:Env)(call round:Ac)(tm:T Value):M (T Value):=
 mv (T.get tm 0) fun v12=>
 mv (T.get tm 1) fun v13=>
 M.bind (oS (some v12) fun a=>oS (some v13) fun b=>Cl.get (aBin E .add 3 (.tmp 12) (.tmp 13)) a b) fun v14=>
 mv (some v14) fun v0=>
 setF 0 v0 tm fun tm1=>
 M.pure tm1
theorem Kh_:RegEq 15 16 DY Oz Tu:=⟨by kernel_rfl,fun _ _ _ _ _ _ _ _ _=>by kernel_rfl⟩
def WD (E:Env)(call round:Ac)(tm:T Value):M (T Value):=
 mv (T.get tm 0) fun v15=>
 mv (some v15) fun v4=>
 setF 4 v4 tm fun tm1=>
 M.pure tm1
theorem IF_:RegEq 15 16 DY Fy WD:=⟨by kernel_rfl,fun _ _ _ _ _ _ _ _ _=>by kernel_rfl⟩
theorem Ia_: ∃k,O4= .code .ret::k:=⟨O4.tail,by kernel_rfl⟩
def Ox:Nat:=Bh Try.f16
def Uc:Code:=Try.f16.body.getD .skip
theorem Xg:envS.fn.get 16=some Try.f16:=by kernel_rfl
theorem Lw_ {a0:Value}{n:Nat}{s:St}{Q:Value→St→Prop}(h: ∀tm,T.get tm 0=some a0→W (runF envS n ⟨16,6,Ox,tm,[.code Uc], .run, .normal,none⟩) (s.cxN cxN) fun p s1=>Q p.1 (s1.cxN s.cx)):W (Ap envS (runF envS n) 16 [a0]) s Q:=
 W.call (by kernel_rfl) (by kernel_rfl) Xg (by kernel_rfl) rfl rfl (by simp) (h _ (by kernel_rfl))
theorem Pz_:Try.f16.results.toList=[.tmp 2]:=by kernel_rfl
def MD:List Item:=skim 64 [.code Uc]
def J2:List Item:=skim 64 MD.tail
theorem Ek_:skim 64 MD.tail=J2:=by kernel_rfl
def Mk:List Item:=skim 64 J2.tail
theorem OK_:skim 64 J2.tail=Mk:=by kernel_rfl
def QF (E:Env)(call round:Ac)(tm:T Value):M (T Value):=
 mv (some (.slice none 0 0)) fun v2=>
 setF 2 v2 tm fun tm1=>
 M.pure tm1
theorem Ya:RegEq 16 6 Ox MD QF:=⟨by kernel_rfl,fun _ _ _ _ _ _ _ _ _=>by kernel_rfl⟩
def UY (E:Env)(call round:Ac)(tm:T Value):M (T Value):=
 M.bind (oS (seqP []) fun ps=>CV E 26 0 ps) fun v3=>
 mv (T.get tm 0) fun v4=>
 M.bind (oS (seqO [(some v3),(some v4)]) fun l=>A7 E .append [26,26] l) fun v5=>
 mv (some v5) fun v2=>
 setF 2 v2 tm fun tm1=>
 M.pure tm1
theorem It_:RegEq 16 6 Ox J2 UY:=⟨by kernel_rfl,fun _ _ _ _ _ _ _ _ _=>by kernel_rfl⟩
theorem YB: ∃k,Mk= .code .ret::k:=⟨Mk.tail,by kernel_rfl⟩
def Mr:Nat:=Bh Try.f50
def Qe:Code:=Try.f50.body.getD .skip
theorem VT:envS.fn.get 50=some Try.f50:=by kernel_rfl
theorem Y8 {a0 a1:Value}{n:Nat}{s:St}{Q:Value→St→Prop}(h: ∀tm,T.get tm 0=some a0→T.get tm 1=some a1→W (runF envS n ⟨50,10,Mr,tm,[.code Qe], .run, .normal,none⟩) (s.cxN cxN) fun p s1=>Q p.1 (s1.cxN s.cx)):W (Ap envS (runF envS n) 50 [a0,a1]) s Q:=
 W.call (by kernel_rfl) (by kernel_rfl) VT (by kernel_rfl) rfl rfl (by simp) (h _ (by kernel_rfl) (by kernel_rfl))
theorem JC_:Try.f50.results.toList=[.tmp 4]:=by kernel_rfl
def Oa:List Item:=skim 64 [.code Qe]
def Jc:List Item:=skim 64 Oa.tail
theorem Fs_:skim 64 Oa.tail=Jc:=by kernel_rfl
def OM:List Item:=skim 64 Jc.tail
theorem Ot_:skim 64 Jc.tail=OM:=by kernel_rfl
def Rz (E:Env)(call round:Ac)(tm:T Value):M (T Value):=
 mv (some (.bool false)) fun v4=>
 setF 4 v4 tm fun tm1=>
 M.pure tm1
theorem Qa_:RegEq 50 10 Mr Oa Rz:=⟨by kernel_rfl,fun _ _ _ _ _ _ _ _ _=>by kernel_rfl⟩
def Qv (E:Env)(call round:Ac)(tm:T Value):M (T Value):=
 mv (T.get tm 0) fun v5=>
 M.bind (oS (some v5) fun a=>Ch E 26 9 a) fun v6=>
 mv (T.get tm 1) fun v7=>
 M.bind (oS (some v7) fun a=>Ch E 26 9 a) fun v8=>
 M.bind (oS (some v6) fun a=>oS (some v8) fun b=>Cl.get (aBin E .eql 9 (.tmp 6) (.tmp 8)) a b) fun v9=>
 mv (some v9) fun v4=>
 setF 4 v4 tm fun tm1=>
 M.pure tm1
theorem Pe_:RegEq 50 10 Mr Jc Qv:=⟨by kernel_rfl,fun _ _ _ _ _ _ _ _ _=>by kernel_rfl⟩
theorem Ky_: ∃k,OM= .code .ret::k:=⟨OM.tail,by kernel_rfl⟩
section
variable {s:St}{E:Env}{t t2:Nat}
theorem W.appV (hbd:s.lim≤s.next){sz by' n len b:Nat}{z l old:List Value}{v x:Value}{F:Nat→Prop}{Q:Value→St→Prop}{g:Bool}(ht:appT E t t2=some (sz,by',g,z))(hm:MkS s sz len old v b)(hx:SrcG s sz by' g z x n l F)(hs0:0<sz)(hs1:sz<1024)
  (hb:(len+n)*(by'+1)≤16777216) (hl:l.length=n*sz) (h1:l.all oneCell=true)
  (q: ∀s2 v2 b2,(b2=b∧n=0∨s.next≤b2)→MkS s2 sz (len+n) (old++l) v2 b2→Ext (fun x=>F x∨MkF sz len b x) (MkF sz len b) s s2→Q v2 s2):W (B8 E t t2 v x) s Q:=by
 by_cases hn:n=0
 ·rcases hm with⟨rfl,rfl,rfl⟩|⟨hm,h0⟩
  ·subst hn
   have hl0:l=[]:=List.eq_nil_of_length_eq_zero (by rw[hl,Nat.zero_mul])
   subst hl0
   obtain⟨i,i2,e,ie,g1,g2,g3,g4,g5,g6,g7,g8⟩:=Hw ht
   obtain⟨hN,s1,e1,m1,n1,x1⟩:=hx ie g5 g6 g8
   subst g5;subst g6
   refine W.bind (W.ti g1 (W.bind (W.ti g2 ?_)))
   rw[g3,g7]
   refine W.bind (W.ti g4 (W.bind (W.of (hN s) (W.bind ?_))))
   refine W.of e1 ?_
   show W (M.if (Nat.ble (Nat.add 0 0) (0%capU)) (DK ie.size none 0 0 0 []) _) s1 Q
   rw[show Nat.ble (Nat.add 0 0) (0%capU)=true from Nat.ble_eq_true_of_le (Nat.zero_le _)]
   show W (M.pure (.slice none 0 0)) s1 Q
   exact W.pure (q s1 _ b (.inl ⟨rfl,rfl⟩) (.inl ⟨rfl,rfl,rfl⟩) (x1.weak hbd (fun _ _ h=> .inl h) fun _ _ h=>h.elim))
  ·refine W.appE hbd ht (.inr ⟨hm,h0⟩) hx hs0 hs1 hb hl h1 fun s2 v2 b2 hb2 e2 x2=>q s2 v2 b2 (hb2.elim (fun h=> .inl ⟨h,hn⟩) .inr) ?_ x2
   rcases e2 with⟨_,h,_⟩|⟨h,h'⟩
   ·omega
   ·exact .inr ⟨h,h'⟩
 ·exact W.appU hbd ht hm hx (by omega) hs0 hs1 hb hl h1 fun s2 v2 b2 hb2 mk x2=>q s2 v2 b2 (.inr hb2) mk x2
end
def Fg (n0:Nat)(m a:OpLog):Prop:=(∀x∈m.rd,n0≤x→ ¬(a.lo≤x∧x<a.hi))∧(∀x∈m.wr,n0≤x→ ¬(a.lo≤x∧x<a.hi))∧(∀x∈a.wr,x∉m.rd∧x∉m.wr)∧(∀x∈m.wr,x∉a.rd)
def Dc (n0 b:Nat)(m:OpLog):List OpLog→Nat→Prop
 |[],_=>True
 |a::l,i=>(b.testBit i=true∨Fg n0 m a)∧Dc n0 b m l (i+1)
def allP (n0:Nat)(all:List OpLog):List OpLog→List Nat→Nat→Prop
 |[],_,_=>True
 |m::l,b::bef,j=>Dc n0 b m (all.take j) 0∧allP n0 all l bef (j+1)
 |_::_,[],_=>False
theorem V7 {x:Nat}: ∀{l:List Nat} {m:Nat},(BU l m).testBit x=true→x∈l∨m.testBit x=true
 |[],m,h=> .inr h
 |a::l,m,h=>by
  have e:BU (a::l) m=BU l (m|||2^a):=by
   show fN (Nat.lor m (Nat.shiftLeft (nat_lit 1) a)) (BU l)=_
   rw[A4]
   show BU l (m|||(1<<<a))=_
   rw[Nat.one_shiftLeft]
  rw[e]at h
  rcases V7 h with h|h
  ·exact .inl (by simp[h])
  ·rw[Nat.testBit_or,M6,Bool.or_eq_true]at h
   rcases h with h|h
   ·exact .inr h
   ·have:x=a:=by
     have:=of_decide_eq_true h
     omega
    exact .inl (by simp[this])
theorem R7 {a b:Nat}(h: ∀x,¬(a.testBit x=true∧b.testBit x=true)):Nat.beq (Nat.land a b) (nat_lit 0)=true:=by
 have e:a&&&b=0:=by
  refine Nat.eq_of_testBit_eq fun x=> ?_
  rw[Nat.testBit_and,Nat.zero_testBit]
  cases h1:a.testBit x with
  |false=>rfl
  |true=>
   cases h2:b.testBit x with
   |false=>rfl
   |true=>exact absurd ⟨h1,h2⟩ (h x)
 show Nat.beq (a&&&b) 0=true
 rw[e]
 rfl
theorem Fa {x:Nat}{l:List Nat}(h:(BU l 0).testBit x=true):x∈l:=by
 rcases V7 h with h|h
 ·exact h
 ·rw[Nat.zero_testBit]at h;cases h
theorem NO_ {a m:OpLog}(h1: ∀x∈a.wr,x∉m.rd∧x∉m.wr)(h2: ∀x∈m.wr,x∉a.rd):Dm (BD a) (BD m)=true:=by
 unfold Dm
 rw[Bool.and_eq_true,Ip,Ip]
 refine⟨R7 fun x ⟨p,q⟩=> ?_,R7 fun x ⟨p,q⟩=>h2 x (Fa p) (Fa q)⟩
 have q':(BU m.rd 0|||BU m.wr 0).testBit x=true:=q
 rw[Nat.testBit_or,Bool.or_eq_true]at q'
 rcases q' with q|q
 ·exact(h1 x (Fa p)).1 (Fa q)
 ·exact(h1 x (Fa p)).2 (Fa q)
theorem Wb {n0 b:Nat}{m:OpLog}(news:List Nat)(hn: ∀x∈news,n0≤x∧(x∈m.rd∨x∈m.wr)): ∀(acc:List OpLog) (i:Nat),Dc n0 b m acc i→Dz b news acc i=true
 |[],_,_=>rfl
 |a::acc,i,h=>by
  show((b.testBit i|| !CG a.lo a.hi news)&&Dz b news acc (Nat.succ i))=true
  rw[Bool.and_eq_true]
  refine⟨?_,Wb news hn acc (i+1) h.2⟩
  rcases h.1 with h|h
  ·rw[h];rfl
  ·rw[WW _ _ _ fun x hx=> ?_]
   ·simp
   ·obtain⟨h1,h2⟩:=hn x hx
    rcases h2 with h2|h2
    ·exact h.1 x h2 h1
    ·exact h.2.1 x h2 h1
theorem X1 {n0 b:Nat}{m:OpLog}: ∀(acc:List OpLog) (i:Nat),Dc n0 b m acc i→Er b (BD m) (acc.map BD) i=true
 |[],_,_=>rfl
 |a::acc,i,h=>by
  show((b.testBit i||Dm (BD a) (BD m))&&Er b (BD m) (acc.map BD) (Nat.succ i))=true
  rw[Bool.and_eq_true]
  refine⟨?_,X1 acc (i+1) h.2⟩
  rcases h.1 with h|h
  ·rw[h];rfl
  ·rw[NO_ h.2.2.1 h.2.2.2];simp
theorem XC {n0:Nat}{all:List OpLog}: ∀(l:List OpLog) (bef:List Nat) (j:Nat),allP n0 all l bef j→Ey n0 all l bef j=true
 |[],_,_,_=>rfl
 |_::_,[],_,h=>h.elim
 |m::l,b::bef,j,h=>by
  show(E5 b (Bz n0 m.rd (Bz n0 m.wr [])) (all.take j)&&Ey n0 all l bef (Nat.succ j))=true
  rw[Bool.and_eq_true]
  refine⟨?_,XC l bef (j+1) h.2⟩
  have hn: ∀x∈Bz n0 m.rd (Bz n0 m.wr []),n0≤x∧(x∈m.rd∨x∈m.wr):=fun x hx=>by
   rcases MV _ _ _ x hx with h|h
   ·exact⟨h.2, .inl h.1⟩
   ·rcases MV _ _ _ x h with h|h
    ·exact⟨h.2, .inr h.1⟩
    ·cases h
  have hj:=Wb _ hn _ _ h.1
  unfold E5
  generalize Bz n0 m.rd (Bz n0 m.wr [])=z at hj
  cases z with
  |nil=>rfl
  |cons x z=>exact hj
theorem XR {n0:Nat}{all:List OpLog}: ∀(l:List OpLog) (bef:List Nat) (j:Nat),allP n0 all l bef j→He (all.map BD) (l.map BD) bef j=true
 |[],_,_,_=>rfl
 |_::_,[],_,h=>h.elim
 |m::l,b::bef,j,h=>by
  show(Er b (BD m) ((all.map BD).take j) 0&&He (all.map BD) (l.map BD) bef (Nat.succ j))=true
  rw[Bool.and_eq_true,←List.map_take]
  exact⟨X1 _ _ h.1,XR l bef (j+1) h.2⟩
theorem HG {n0:Nat}{l:List OpLog}{bef:List Nat}(h:allP n0 l l bef 0):B3 n0 l bef=true:=by
 unfold B3
 rw[XC l bef 0 h,MR,XR l bef 0 h]
 simp
section
variable {α β:Type}{s:St}
theorem W.dopG {m:M α}{f:α×OpLog→M β}{mem:T Cell}{next:Nat}{Q:β→St→Prop}
  (h:W m (oSt mem next) fun v s1=> ∃F G,Ext F G (oSt mem next) s1∧ ∀rd wr,(∀x∈rd,x<next∧F x)→(∀x∈wr,x<next∧G x)→W (f (v,⟨next,s1.next,rd,wr⟩)) (dSt s1.mem s1.next) Q):W (M.bind (apartO m) f) (dSt mem next) Q:=by
 obtain⟨a,s1,e,F,G,x,q⟩:=h
 obtain⟨mem1,next1,lim1,rd1,wr1,cx1⟩:=s1
 have hcx:cx1= .no:=x.cx
 obtain⟨d1,p1,p2⟩:=x.rd
 obtain⟨d2,p3,p4⟩:=x.wr
 have e1:rd1=d1:=by simpa [oSt]using p1
 have e2:wr1=d2:=by simpa [oSt]using p3
 subst hcx
 refine W.bind (W.of (a:=(a,⟨next,next1,rd1,wr1⟩)) (s':=dSt mem1 next1) ?_ (q rd1 wr1 (fun y hy=>p2 y (by rw[←e1];exact hy)) fun y hy=>p4 y (by rw[←e2];exact hy)))
 have e':m ⟨mem,next,next,[],[], .no⟩= .some a ⟨mem1,next1,lim1,rd1,wr1, .no⟩:=e
 show Am.apartO m ⟨mem,next,0,[],[], .no⟩=_
 unfold Am.apartO
 simp only[e']
 rfl
theorem Zh (lim:Nat)(l:List OpLog)(base:List Nat): ∃d,wrsL lim l base=d++base∧ ∀x∈d,x<lim∧ ∃m∈l,x∈m.wr:=by
 induction l with
 |nil=>exact⟨[],rfl,fun _ h=>by cases h⟩
 |cons m l ih=>
  obtain⟨d,e,q⟩:=ih
  obtain⟨d2,e2,q2⟩:=Wk lim m.wr (wrsL lim l base)
  refine⟨d2++d, ?_,fun x hx=> ?_⟩
  ·show addL lim m.wr (wrsL lim l base)=_
   rw[e2,e,List.append_assoc]
  ·rcases List.mem_append.1 hx with hx|hx
   ·exact⟨(q2 x hx).1,m,by simp,(q2 x hx).2⟩
   ·obtain⟨h1,m',h2,h3⟩:=q x hx
    exact⟨h1,m',by simp[h2],h3⟩
theorem Ext.drawG {F G:Nat→Prop}{mem':T Cell}{next':Nat}{l:List OpLog}(h1:s.next≤next')(h2: ∀x,x<s.next→ ¬G x→T.get mem' x=T.get s.mem x)(hw: ∀m∈l,∀x∈m.wr,x<s.lim→G x)(hr: ∀m∈l,∀x∈m.rd,x<s.lim→F x):
  Ext F G s ⟨mem',next',s.lim,rdsL s.lim l s.rd,wrsL s.lim l s.wr,s.cx⟩:=by
 obtain⟨d,e,q⟩:=U1 s.lim l s.rd
 obtain⟨d2,e2,q2⟩:=Zh s.lim l s.wr
 exact⟨h1,rfl,rfl,fun x hx hg=>h2 x hx hg,⟨d,e,fun x hx=>by obtain⟨a,m,b,c⟩:=q x hx;exact⟨a,hr m b x c a⟩⟩,⟨d2,e2,fun x hx=>by obtain⟨a,m,b,c⟩:=q2 x hx;exact⟨a,hw m b x c a⟩⟩⟩
end
theorem Ext.on {G F' G':Nat→Prop}{s s1 s2:St}(h:Ext Any G s s1)(k:Ext F' G' s1 s2)(hb:s.lim≤s.next)(hG: ∀x,x<s.next→G' x→G x):Ext Any G s s2:=h.trans k hb (fun _ _ _=>trivial) hG
theorem Ext.gw {G G':Nat→Prop}{s s1:St}(h:Ext Any G s s1)(hb:s.lim≤s.next)(hG: ∀x,x<s.next→G x→G' x):Ext Any G' s s1:=h.weak hb (fun _ _ h=>h) hG
theorem In1 {b x:Nat}:In b 0 1 x↔x=b:=⟨fun h=>by have:=h.1;have:=h.2;omega,fun h=>⟨by omega,by omega⟩⟩
theorem Y5:fldN envS 75 0=some (0,1,false):=by kernel_rfl
theorem Eb:fldN envS 75 1=some (1,1,false):=by kernel_rfl
theorem UI:fldN envS 75 2=some (2,1,false):=by kernel_rfl
theorem HC_:fldN envS 75 3=some (3,1,true):=by kernel_rfl
theorem Jn:fldN envS 75 4=some (4,1,false):=by kernel_rfl
theorem Ph:fldN envS 75 5=some (5,1,false):=by kernel_rfl
theorem LJ:fldN envS 75 6=some (6,1,false):=by kernel_rfl
theorem Qf_:fldN envS 73 2=some (0,1,false):=by kernel_rfl
theorem Ek:fldN envS 79 0=some (0,1,false):=by kernel_rfl
theorem Ds:fldN envS 79 1=some (1,1,false):=by kernel_rfl
theorem Ec:tyS envS 4=some (1,false):=by kernel_rfl
theorem Fh:tyS envS 3=some (1,false):=by kernel_rfl
theorem DO:tyS envS 68=some (1,false):=by kernel_rfl
theorem EZ:tyS envS 9=some (1,false):=by kernel_rfl
theorem Cq:tyS envS 67=some (1,false):=by kernel_rfl
theorem Ei:tyS envS 24=some (1,false):=by kernel_rfl
theorem Ua:NY envS 67=some [.pointer none]:=by kernel_rfl
theorem RG:ptrT envS 24=true:=by kernel_rfl
theorem GX:ptrT envS 67=true:=by kernel_rfl
theorem AF_:mapU envS 68=true:=by kernel_rfl
theorem LZ (s:St):mapT envS 68 s= .some (9,67) s:=by kernel_rfl
theorem Fd_ (s:St):zeroOf envS 67 s= .some (.pointer none) s:=by kernel_rfl
theorem LX:envS.P.underlying 9=some .string:=by kernel_rfl
theorem NL_ (k:Nat)(s:St):Cl.get (aBin envS .eql 67 (.tmp k) (.const (.pointer none))) (.pointer none) (.pointer none) s= .some (.bool true) s:=by kernel_rfl
theorem HC (k:Nat)(s:St)(Q:Value→St→Prop):W (Cl.get (aBin envS .eql 67 (.tmp k) (.const (.pointer none))) (.pointer none) (.pointer none)) s Q=Q (.bool true) s:=Bi (NL_ k s)
theorem Qp {s:St}{call round:Ac}{f:Nat}{cap:Array Value}{l:List Value}(Q:Value→St→Prop):W (A5 call round (.func (.func f) #[] cap) l) s Q=W (call f (l++cap.toList)) s Q:=by
 show W (call f ([]++(l++cap.toList))) s Q=_
 rw[List.nil_append]
theorem W.extF {E:Env}{s:St}{ih:AF→M (Value×FrameMode)}{f:Nat}{m:List Value→M Value}{args:List Value}{Q:Value→St→Prop}(h0:E.orc.get f=none)(ho:E.ext.get f=some m)(h:W (m args) s Q):W (Ap E ih f args) s Q:=by
 unfold Ap
 rw[h0,ho]
 exact h
section
variable {D n:Nat}{s:St}{Q:Value→St→Prop}
theorem GB (hb:s.lim≤s.next)(h0:Own s D 0 (.bool true))(hn:20≤n)(q: ∀s1,s1.mem=s.mem→s1.next=s.next→Ext Any Non s s1→Q (.bool false) s1):W (Ap envS (runF envS n) 40 [.pointer (some ⟨D,0,none⟩)]) s Q:=by
 refine Js_ fun tm h=> ?_
 refine OJ_.w rfl (by omega) ?_
 simp only[Ux,Aa,W_mv,Ab]
 refine NX_.w EM_ (by omega) ?_
 simp only[VZ,Ad,W_oS,W_on,Aa,W_mv,Ab,T.get_set,reduceIte,Ax,AE,Au,Az,Aw,Aq,reduceCtorEq, ↓reduceIte,h,Em RG,Bd Y5 (by decide)]
 refine W.load1 Ec (h0.same (s':=s.cxN cxN) rfl rfl).at' ?_
 simp only[FB,Bool.not_true]
 refine W.end' (rs:=[2]) (vs:=[.bool false]) FV_ (.inl NI_) (by omega) Vy CV_ rfl (by simp[T.get_set]) ?_
 exact q _ rfl rfl ((Ext.refl (F:=Any) (G:=Non) (s.cxN cxN)).thenRd hb _).cx'
theorem Md {o:Bool}(hb:s.lim≤s.next)(h0:Own s D 0 (.bool true))(h6:Own s D 6 (.bool o))(hn:60≤n)(q: ∀s1,s1.mem=s.mem→s1.next=s.next→Ext Any Non s s1→Q (.int .i64 (if o then 10 else 0)) s1):W (Ap envS (runF envS n) 36 [.pointer (some ⟨D,0,none⟩)]) s Q:=by
 have hb0:(s.cxN cxN).lim≤(s.cxN cxN).next:=hb
 refine Au_ fun tm h=> ?_
 refine Lv_.w rfl (by omega) ?_
 simp only[Xo,Aa,W_mv,Ab]
 refine Mw_.w Qh_ (by omega) ?_
 simp only[X0,Ad,W_on,Aa,W_mv,Ab,T.get_set,Aj,Ah,Ag,Al,reduceIte,reduceCtorEq, ↓reduceIte,h]
 refine GB hb0 (h0.same rfl rfl) (by omega) fun s1 m1 n1 x1=> ?_
 try simp only[Ad,W_oS,W_on,Aa,W_mv,Ab,AV,T.get_set,Aj,Ah,A1,AX,Ag,Al,reduceIte,Ax,AP,AZ,A0,AE,Au,Az,AW,Aw,Aq,Nat.reduceEqDiff,reduceCtorEq, ↓reduceIte]
 refine W.cond (v:=false) Im_ Jr_ (by simp[T.get_set]) (by omega) (fun h=>by cases h) fun _=> ?_
 refine EO_.w FY_ (by omega) ?_
 simp only[Xx,Ad,W_oS,Aa,W_mv,Ab,T.get_set,reduceIte,Aq,reduceCtorEq, ↓reduceIte,h,Bd LJ (by decide)]
 have y1:=x1.thenRd hb0 (D+(0+6))
 refine W.load1 Ec ((h6.same (s':=s.cxN cxN) rfl rfl).same m1 n1).at' ?_
 try simp only[Ad,W_oS,W_on,Aa,W_mv,Ab,AV,T.get_set,Aj,Ah,A1,AX,Ag,Al,reduceIte,Ax,AP,AZ,A0,AE,Au,Az,AW,Aw,Aq,Nat.reduceEqDiff,reduceCtorEq, ↓reduceIte]
 cases o with
 |true=>
  refine W.cond (v:=true) SP Qj (by simp[T.get_set]) (by omega) (fun _=> ?_) fun h=>by cases h
  refine AN_.w Li_ (by omega) ?_
  simp only[Xk,Aa,W_mv,Ab]
  refine W.end' (rs:=[2]) (vs:=[.int .i64 10]) Db_ (.inl KD_) (by omega) Pr Ur y1.cx (by simp[T.get_set]) ?_
  exact q _ m1 n1 y1.cx'
 |false=>
  refine W.cond (v:=false) SP Qj (by simp[T.get_set]) (by omega) (fun h=>by cases h) fun _=> ?_
  refine Ge_.w PA_ (by omega) ?_
  simp only[Ts,Aa,W_mv,Ab]
  refine W.end' (rs:=[2]) (vs:=[.int .i64 0]) FD_ (.inl Eg_) (by omega) Pr Ur y1.cx (by simp[T.get_set]) ?_
  exact q _ m1 n1 y1.cx'
theorem Zw {o:Nat}{x:Int}(hb:s.lim≤s.next)(h3:Own s D o (.int .i64 x))(hn:20≤n)(q: ∀w s1,s1.next=s.next→Ext Any (fun y=>y=D+o) s s1→Own s1 D o (.int .i64 (wrap64 (x+1)))→Q w s1):W (Ap envS (runF envS n) 69 [.pointer (some ⟨D,o,none⟩), .int .i64 1]) s Q:=by
 have hb0:(s.cxN cxN).lim≤(s.cxN cxN).next:=hb
 refine ZW fun tm h h1=> ?_
 refine Ca_.w rfl (by omega) ?_
 simp only[Sc,Aa,W_mv,Ab]
 refine HT_.w Zx (by omega) ?_
 simp only[SA,Ad,W_oS,W_on,Aa,W_mv,Ab,T.get_set,Aj,Ah,Ag,Al,reduceIte,Aq,Nat.reduceEqDiff,reduceCtorEq, ↓reduceIte,h,h1,Bd Qf_ (by decide)]
 refine W.extF (by kernel_rfl) (m:=G1) (by kernel_rfl) ?_
 show W (M.bind (Am.rdV ⟨D,o,none⟩) fun v=>match v with
  | .int .i64 x=>fI (wrap64 (addI x 1)) fun n=>M.bind (Am.wrV ⟨D,o,none⟩ (.int .i64 n)) fun _=>M.pure (Value.int .i64 n)
  |_=>M.fail) (s.cxN cxN) _
 have h3':Own (s.cxN cxN) D o (.int .i64 x):=h3.same rfl rfl
 refine W.bind (W.rdV h3'.at' ?_)
 show W (fI (wrap64 (addI x 1)) _) _ _
 rw[B2,JA]
 refine W.bind (W.wrV (h3'.same (s':=(s.cxN cxN).rdN (D+o)) rfl rfl) rfl (W.pure ?_))
 have z0:=(Ext.refl (F:=Any) (G:=fun y=>y=D+o) (s.cxN cxN)).on (Ext.rdN (F:=Any) (G:=fun y=>y=D+o) (s.cxN cxN) (D+o) fun _=>trivial) hb0 fun _ _ h=>h
 have z1:=z0.on (Ext.rdN (F:=Any) (G:=fun y=>y=D+o) _ (D+o) fun _=>trivial) hb0 fun _ _ h=>h
 have z2:=z1.on (Ext.wrN (F:=Any) (G:=fun y=>y=D+o) _ (D+o) (.C D (.int .i64 (wrap64 (x+1)))) rfl) hb0 fun _ _ h=>h
 have hw:Own ((((s.cxN cxN).rdN (D+o)).rdN (D+o)).wrN (D+o) (.C D (.int .i64 (wrap64 (x+1))))) D o (.int .i64 (wrap64 (x+1))):=⟨h3.1,by
  show T.get (T.set s.mem (D+o) _) (D+o)=_
  rw[T.get_set,if_pos rfl]⟩
 have nz:((((s.cxN cxN).rdN (D+o)).rdN (D+o)).wrN (D+o) (.C D (.int .i64 (wrap64 (x+1))))).next=s.next:=rfl
 generalize (((s.cxN cxN).rdN (D+o)).rdN (D+o)).wrN (D+o) (.C D (.int .i64 (wrap64 (x+1))))=s2 at *
 try simp only[Ad,W_oS,W_on,Aa,W_mv,Ab,AV,T.get_set,Aj,Ah,A1,AX,Ag,Al,reduceIte,Ax,AP,AZ,A0,AE,Au,Az,AW,Aw,Aq,Nat.reduceEqDiff,reduceCtorEq, ↓reduceIte]
 refine W.end' (rs:=[4]) (vs:=[.int .i64 (wrap64 (x+1))]) Ml_ (.inl CE_) (by omega) XO Is_ z2.cx (by simp[T.get_set]) ?_
 exact q _ _ nz z2.cx' (hw.same rfl rfl)
theorem SG {f2:Nat}{cap:Array Value}{fused out:Bool}{left steps:Int}(hb:s.lim≤s.next)(h3:Own s D 3 (.int .i64 steps))(h4:Own s D 4 (.bool fused))(h5:Own s D 5 (.int .i64 left))(h6:Own s D 6 (.bool out))(hn:60≤n)
  (q1:(fused=true∧left=0)→ ∀s1,s1.next=s.next→Ext Any (fun y=>y=D+6) s s1→Own s1 D 6 (.bool true)→Q (.int .i64 10) s1)
  (q2: ¬(fused=true∧left=0)→ ∀n' s1,n≤n'+20→s1.cx=cxN→s1.next=s.next→Ext Any (fun y=>y=D+3∨y=D+5) s (s1.cxN s.cx)→Own s1 D 3 (.int .i64 (wrap64 (steps+1)))→Own s1 D 5 (.int .i64 (if fused then wrap64 (left-1)else left))→W (Ap envS (runF envS n') f2 cap.toList) s1 fun _ s2=>s2.cx=cxN∧Q (.int .i64 0) (s2.cxN s.cx)):
  W (Ap envS (runF envS n) 38 [.pointer (some ⟨D,0,none⟩), .func (.func f2) #[] cap]) s Q:=by
 have hb0:(s.cxN cxN).lim≤(s.cxN cxN).next:=hb
 refine IY_ fun tm h h1=> ?_
 refine KP_.w rfl (by omega) ?_
 simp only[V1,Aa,W_mv,Ab]
 refine GR_.w He_ (by omega) ?_
 simp only[T2,Ad,W_oS,W_on,Aa,W_mv,Ab,T.get_set,reduceIte,Aq,reduceCtorEq, ↓reduceIte,h,Bd Jn (by decide)]
 refine W.load1 Ec (h4.same (s':=s.cxN cxN) rfl rfl).at' ?_
 have y1:=(Ext.refl (F:=Any) (G:=Non) (s.cxN cxN)).thenRd hb0 (D+(0+4))
 have work: ∀(n':Nat) (tm':T Value) (td':List Item) (s':St),n≤n'+10→skim 64 td'=Fz→s'.next=s.next→Ext Any (fun y=>y=D+5) (s.cxN cxN) s'→Own s' D 5 (.int .i64 (if fused then wrap64 (left-1)else left))→T.get tm' 0=some (.pointer (some ⟨D,0,none⟩))→T.get tm' 1=some (.func (.func f2) #[] cap)→ ¬(fused=true∧left=0)→W (runF envS n' ⟨38,Mi_,CQ,tm',td', .run, .normal,none⟩) s' fun p s1=>Q p.1 (s1.cxN s.cx):=by
  intro n' tm' td' s' hn' hT' hnx x' h5' g0 g1 hc
  have h3':Own s' D 3 (.int .i64 steps):=(h3.same (s':=s.cxN cxN) rfl rfl).ext x' fun hq=>by omega
  refine Qn_.w hT' (by omega) ?_
  simp only[UB,Ad,W_oS,W_on,Aa,W_mv,Aj,Ah,Ag,Al,Aq,g0,Bd HC_ (by decide)]
  refine Zw (x'.bnd hb0) h3' (by omega) fun w s2 n2 x2 o2=> ?_
  have z2:Ext Any (fun y=>y=D+3∨y=D+5) (s.cxN cxN) s2:=(x'.gw hb0 fun _ _ h=> .inr h).on x2 hb0 fun y _ hq=> .inl (by omega)
  try simp only[Ad,W_oS,W_on,Aa,W_mv,Ab,AV,T.get_set,Aj,Ah,A1,AX,Ag,Al,reduceIte,Ax,AP,AZ,A0,AE,Au,Az,AW,Aw,Aq,Nat.reduceEqDiff,reduceCtorEq, ↓reduceIte]
  refine Pn_.w Fq_ (by omega) ?_
  simp only[P9,Ad,W_on,Aa,W_mv,Ah,g1]
  rw[Qp]
  refine W.mono (q2 hc (n'-1-1) s2 (by omega) z2.cx (by omega) z2.cx' o2 (h5'.ext x2 fun hq=>by omega)) fun w2 s3 hq=> ?_
  obtain⟨hcx,hq⟩:=hq
  try simp only[Ad,W_oS,W_on,Aa,W_mv,Ab,AV,T.get_set,Aj,Ah,A1,AX,Ag,Al,reduceIte,Ax,AP,AZ,A0,AE,Au,Az,AW,Aw,Aq,Nat.reduceEqDiff,reduceCtorEq, ↓reduceIte]
  refine JK_.w ZL (by omega) ?_
  simp only[WJ,Aa,W_mv,Ab]
  exact W.end' (rs:=[4]) (vs:=[.int .i64 0]) MW_ (.inl IT_) (by omega) LV TE hcx (by simp[T.get_set]) hq
 cases fused with
 |false=>
  simp only[Aa,reduceIte,Ax,A0,Au,AW,Aw, ↓reduceIte,Bool.false_eq_true]
  refine W.cond (v:=false) OH NK (by simp[T.get_set]) (by omega) (fun h=>by cases h) fun _=> ?_
  refine Vz.w Rl (by omega) ?_
  simp only[My,Ad,W_oS,Aa,W_mv,Ab,T.get_set,reduceIte,Aq,reduceCtorEq, ↓reduceIte,h,Bd Jn (by decide)]
  refine W.load1 Ec (h4.same (s':=(s.cxN cxN).rdN (D+(0+4))) rfl rfl).at' ?_
  have y2:=y1.thenRd hb0 (D+(0+4))
  try simp only[Ad,W_oS,W_on,Aa,W_mv,Ab,AV,T.get_set,Aj,Ah,A1,AX,Ag,Al,reduceIte,Ax,AP,AZ,A0,AE,Au,Az,AW,Aw,Aq,Nat.reduceEqDiff,reduceCtorEq, ↓reduceIte]
  refine W.cond (v:=false) Xt Rx (by simp[T.get_set]) (by omega) (fun h=>by cases h) fun _=> ?_
  exact work _ _ _ _ (by omega) ZH rfl (y2.gw hb0 fun _ _ h=>h.elim) (h5.same rfl rfl) (by simp[T.get_set,h]) (by simp[T.get_set,h1]) (by simp)
 |true=>
  simp only[W_oS,Aa,reduceIte,Ax,AP,Au,Az,Aw,Aq, ↓reduceIte,Bd Ph (by decide)]
  refine W.load1 Fh (h5.same (s':=(s.cxN cxN).rdN (D+(0+4))) rfl rfl).at' ?_
  have y2:=y1.thenRd hb0 (D+(0+5))
  simp only[Dq]
  by_cases hl:left=0
  ·refine W.cond (v:=true) OH NK (by simp[T.get_set,hl]) (by omega) (fun _=> ?_) fun h=>by cases h
   refine PR_.w Hc_ (by omega) ?_
   simp only[Xm,Ad,W_oS,Aa,W_mv,T.get_set,reduceIte,Aq,reduceCtorEq, ↓reduceIte,h,Bd LJ (by decide)]
   refine W.store1 Ec rfl (h6.same (s':=((s.cxN cxN).rdN (D+(0+4))).rdN (D+(0+5))) rfl rfl) fun s3 n3 x3 o3=> ?_
   have y3:Ext Any (fun y=>y=D+6) (s.cxN cxN) s3:=(y2.gw hb0 fun _ _ h=>h.elim).on x3 hb0 fun y _ hq=>by have:=In1.1 (show In (D+6) 0 1 y from⟨by have:=hq.1;omega,by have:=hq.2;omega⟩);omega
   try simp only[Ad,W_oS,W_on,Aa,W_mv,Ab,AV,T.get_set,Aj,Ah,A1,AX,Ag,Al,reduceIte,Ax,AP,AZ,A0,AE,Au,Az,AW,Aw,Aq,Nat.reduceEqDiff,reduceCtorEq, ↓reduceIte]
   refine OY_.w Of_ (by omega) ?_
   simp only[Xl,Aa,W_mv,Ab]
   refine W.end' (rs:=[4]) (vs:=[.int .i64 10]) BA_ (.inl Hf_) (by omega) LV TE y3.cx (by simp[T.get_set]) ?_
   exact q1 ⟨rfl,hl⟩ _ n3 y3.cx' (o3.same rfl rfl)
  ·refine W.cond (v:=false) OH NK (by simp[T.get_set,hl]) (by omega) (fun h=>by cases h) fun _=> ?_
   refine Vz.w Rl (by omega) ?_
   simp only[My,Ad,W_oS,Aa,W_mv,Ab,T.get_set,reduceIte,Aq,reduceCtorEq, ↓reduceIte,h,Bd Jn (by decide)]
   refine W.load1 Ec (h4.same rfl rfl).at' ?_
   have y3:=y2.thenRd hb0 (D+(0+4))
   try simp only[Ad,W_oS,W_on,Aa,W_mv,Ab,AV,T.get_set,Aj,Ah,A1,AX,Ag,Al,reduceIte,Ax,AP,AZ,A0,AE,Au,Az,AW,Aw,Aq,Nat.reduceEqDiff,reduceCtorEq, ↓reduceIte]
   refine W.cond (v:=true) Xt Rx (by simp[T.get_set]) (by omega) (fun _=> ?_) fun h=>by cases h
   refine EN_.w Bo_ (by omega) ?_
   simp only[Tk,Ad,W_oS,Aa,W_mv,T.get_set,reduceIte,Aq,reduceCtorEq, ↓reduceIte,h,Bd Ph (by decide)]
   refine W.load1 Fh (h5.same rfl rfl).at' ?_
   have y4:=y3.thenRd hb0 (D+(0+5))
   simp only[Oo]
   refine W.store1 Fh rfl (h5.same rfl rfl) fun s5 n5 x5 o5=> ?_
   have y5:Ext Any (fun y=>y=D+5) (s.cxN cxN) s5:=(y4.gw hb0 fun _ _ h=>h.elim).on x5 hb0 fun y _ hq=>by have h1:=hq.1;have h2:=hq.2;omega
   try simp only[Ad,W_oS,W_on,Aa,W_mv,Ab,AV,T.get_set,Aj,Ah,A1,AX,Ag,Al,reduceIte,Ax,AP,AZ,A0,AE,Au,Az,AW,Aw,Aq,Nat.reduceEqDiff,reduceCtorEq, ↓reduceIte]
   exact work _ _ _ _ (by omega) EL_ n5 y5 o5 (by simp[T.get_set,h]) (by simp[T.get_set,h1]) (by simp[hl])
end
section
variable {E:Env}{s:St}{t:Nat}
theorem JO_ {a b:Bool}{xo yo:Operand}(h:E.P.underlying t=some .bool):Cl.get (aBin E .eql t xo yo) (.bool a) (.bool b) s= .some (.bool (a==b)) s:=by
 show Bg E .eql t xo yo (.bool a) (.bool b) s=_
 unfold Bg
 show M.on (semP E.P (do pure (.bool (←Op.equalIn (9999+1) t (.bool a) (.bool b))))) pV s=_
 have e:semP E.P (Op.equalIn (9999+1) t (.bool a) (.bool b))=some (a==b):=by
  unfold Op.equalIn
  rw[Dk,MQ h]
  rfl
 rw[Dk,e]
 rfl
theorem LH_ {a b:Bool}{xo yo:Operand}(h:E.P.underlying t=some .bool)(Q:Value→St→Prop):W (Cl.get (aBin E .eql t xo yo) (.bool a) (.bool b)) s Q=Q (.bool (a==b)) s:=Bi (JO_ h)
end
theorem Nf (v:Value):tupV [v]=v:=rfl
theorem ZF:envS.P.underlying 4=some .bool:=by kernel_rfl
theorem Ii:Fs envS 9=true:=by kernel_rfl
structure NmOk (a:ByteArray):Prop where
 size:a.size=1
 ne:(a.data.toList==([]:List UInt8))=false
 ok: ∃c:Nat,Utf8.decode a 0=(c,1)∧ ∀(m:Nat) (mem:T Cell) (next lim:Nat) (rd wr:List Nat) (cx:Ctx),Ap envS (runF envS (m+30)) 68 [.int .i32 (c:Nat)] ⟨mem,next,lim,rd,wr,cx⟩= .some (.bool false) ⟨mem,next,lim,rd,wr,cx⟩
theorem nm_a:NmOk ⟨#[97]⟩:=⟨rfl,rfl,97,by kernel_rfl,fun _ _ _ _ _ _ _=>by kernel_rfl⟩
theorem nm_b:NmOk ⟨#[98]⟩:=⟨rfl,rfl,98,by kernel_rfl,fun _ _ _ _ _ _ _=>by kernel_rfl⟩
section
variable {n:Nat}{s:St}{a:ByteArray}{Q:Value→St→Prop}
theorem W.tyStr {Q:Value→St→Prop}(q: ∀s1,s1.next=s.next+1→Ext Non Non s s1→Obj s1 s.next (.sit a 0)→Q (.chan (some s.next)) s1):W (C3 envS 9 (.string a)) s Q:=by
 obtain⟨i,hi,hu⟩:=Vd Ii
 unfold C3
 refine W.bind (W.ti hi ?_)
 rw[hu]
 exact W.bind (W.newO fun s1 n1 x1 o1=>W.pure (q s1 n1 x1 o1))
theorem Dt_ (hb:s.lim≤s.next)(ha:NmOk a)(hn:60≤n)(q: ∀s1,Ext Any Non s s1→Q (.int .i64 (-1)) s1):W (Ap envS (runF envS n) 89 [.string a, .func (.func 68) #[] #[], .bool true]) s Q:=by
 obtain⟨c,hc,hF⟩:=ha.ok
 have hb0:(s.cxN cxN).lim≤(s.cxN cxN).next:=hb
 refine Iw_ fun tm h h1 h2=> ?_
 refine II_.w rfl (by omega) ?_
 simp only[QH,Aa,W_mv,Ab]
 refine AV_.w AP_ (by omega) ?_
 simp only[TT,Ad,W_oS,Aa,W_mv,Ab,T.get_set,reduceIte,reduceCtorEq, ↓reduceIte,h]
 refine W.tyStr fun s1 n1 x1 o1=> ?_
 have ea:(s.cxN cxN).next=s.next:=rfl
 rw[ea]at o1 n1 ⊢
 have y1:=(Ext.refl (F:=Any) (G:=Non) (s.cxN cxN)).on x1 hb0 fun _ _ h=>h
 try simp only[Ad,W_oS,W_on,Aa,W_mv,Ab,AV,T.get_set,Aj,Ah,A1,AX,Ag,Al,reduceIte,Ax,AP,AZ,A0,AE,Au,Az,AW,Aw,Aq,Nat.reduceEqDiff,reduceCtorEq, ↓reduceIte]
 refine UP.w AY_ (by omega) ?_
 simp only[PA,Ad,W_oS,Aa,Ab,T.get_set,reduceIte, ↓reduceIte]
 refine W.bind (W.rdC o1.2 o1.1 ?_)
 show W (fN 0 fun pos=>sitN s.next a pos) (s1.rdN s.next) _
 rw[A4]
 unfold sitN
 rw[ha.size,hc]
 have o1':Obj (s1.rdN s.next) s.next (.sit a 0):=o1.same rfl rfl
 refine W.bind (W.wrC (s:=s1.rdN s.next) o1'.1 ?_)
 show W (fN 0 fun pos=>fN (Utf8.decode a pos).1 fun c=>M.pure (Value.tuple #[.bool true, .int .i64 (.ofNat pos), .int .i32 (.ofNat c)])) ((s1.rdN s.next).wrN s.next (.O (.sit a (0+1)))) _
 rw[A4,A4,hc,Aa]
 have z2:=Ext.wrO (s:=s1) s.next (.O (.sit a (0+1)))
 have o2:Obj ((s1.rdN s.next).wrN s.next (.O (.sit a (0+1)))) s.next (.sit a (0+1)):=Obj.wrO o1
 generalize (s1.rdN s.next).wrN s.next (.O (.sit a (0+1)))=s2 at *
 have y2:=y1.on z2 hb0 fun x hx hq=>by have:x<s.next:=hx;omega
 rw[D2 (k:=0) rfl]
 try simp only[Ad]
 refine W.cond (v:=true) S1 UO (by simp[T.get_set]) (by omega) (fun _=> ?_) fun h=>by cases h
 refine Mo_.w EC_ (by omega) ?_
 simp only[X5,Ad,W_oS,Aa,W_mv,Ab,T.get_set,reduceIte,Nat.reduceEqDiff, ↓reduceIte]
 rw[D2 (k:=1) rfl,D2 (k:=2) rfl]
 try simp only[Ad,W_oS,W_on,Aa,W_mv,Ab,AV,T.get_set,Aj,Ah,A1,AX,Ag,Al,reduceIte,Ax,AP,AZ,A0,AE,Au,Az,AW,Aw,Aq,Nat.reduceEqDiff,reduceCtorEq, ↓reduceIte]
 refine Gj_.w Ff_ (by omega) ?_
 simp only[Sj,Ad,W_oS,W_on,Aa,W_mv,Ab,T.get_set,Aj,Ah,Ag,Al,reduceIte,Nat.reduceEqDiff, ↓reduceIte,h1,h2]
 obtain⟨mem2,next2,lim2,rd2,wr2,cx2⟩:=s2
 obtain⟨m,hm⟩: ∃m,n-1-1-1-1-1-1=m+30:=⟨n-6-30,by omega⟩
 rw[show n-1-1-1-1-1-1=m+30 from hm]
 refine W.of (hF m mem2 next2 lim2 rd2 wr2 cx2) ?_
 rw[LH_ ZF]
 generalize (⟨mem2,next2,lim2,rd2,wr2,cx2⟩:St)=s2 at *
 refine W.cond (v:=false) Dp_ CA_ (by simp[T.get_set]) (by omega) (fun h=>by cases h) fun _=> ?_
 refine UP.w Kc_ (by omega) ?_
 simp only[PA,Ad,W_oS,Aa,Ab,T.get_set,reduceIte,Nat.reduceEqDiff, ↓reduceIte]
 refine W.bind (W.rdC o2.2 o2.1 ?_)
 show W (fN (0+1) fun pos=>sitN s.next a pos) (s2.rdN s.next) _
 rw[A4]
 unfold sitN
 rw[ha.size]
 show W (M.pure (Value.tuple #[.bool false])) (s2.rdN s.next) _
 rw[Aa,D2 (k:=0) rfl]
 have y3:=y2.thenRd hb0 s.next
 try simp only[Ad,W_oS,W_on,Aa,W_mv,Ab,AV,T.get_set,Aj,Ah,A1,AX,Ag,Al,reduceIte,Ax,AP,AZ,A0,AE,Au,Az,AW,Aw,Aq,Nat.reduceEqDiff,reduceCtorEq, ↓reduceIte]
 refine W.cond (v:=false) S1 UO (by simp[T.get_set]) (by omega) (fun h=>by cases h) fun _=> ?_
 refine HJ_.w KO_ (by omega) ?_
 simp only[Wh,Aa,W_mv,Ab]
 refine W.end' (rs:=[6]) (vs:=[.int .i64 (-1)]) YU (.inl HL_) (by omega) Q0 MJ_ y3.cx (by simp[T.get_set]) ?_
 exact q _ y3.cx'
theorem GZ_ (hb:s.lim≤s.next)(ha:NmOk a)(hn:100≤n)(q: ∀s1,Ext Any Non s s1→Q (.bool true) s1):W (Ap envS (runF envS n) 37 [.string a]) s Q:=by
 have hb0:(s.cxN cxN).lim≤(s.cxN cxN).next:=hb
 refine HD_ fun tm h=> ?_
 refine AZ_.w rfl (by omega) ?_
 simp only[Tw,Aa,W_mv,Ab]
 refine Eu_.w JS_ (by omega) ?_
 simp only[Ud,Ad,W_on,Aa,W_mv,Ab,T.get_set,Aj,Ah,Ag,Al,reduceIte,reduceCtorEq, ↓reduceIte,h]
 refine FA_ fun tmc c0 c1=> ?_
 refine Al_.w rfl (by omega) ?_
 simp only[S3,Aa,W_mv,Ab]
 refine Ct_.w De_ (by omega) ?_
 simp only[SI,Ad,W_oS,W_on,Aa,W_mv,Ab,T.get_set,Aj,Ah,Ag,Al,reduceIte,Nat.reduceEqDiff,reduceCtorEq, ↓reduceIte,c0,c1]
 refine Px_ fun tmi i0 i1=> ?_
 refine FH_.w rfl (by omega) ?_
 simp only[VS,Aa,W_mv,Ab]
 refine PV_.w Ap_ (by omega) ?_
 simp only[U5,Ad,W_on,Aa,W_mv,Ab,T.get_set,Aj,Ah,Ag,Al,reduceIte,Nat.reduceEqDiff,reduceCtorEq, ↓reduceIte,i0,i1]
 refine Dt_ hb0 ha (by omega) fun s1 x1=> ?_
 try simp only[Ad,W_oS,W_on,Aa,W_mv,Ab,AV,T.get_set,Aj,Ah,A1,AX,Ag,Al,reduceIte,Ax,AP,AZ,A0,AE,Au,Az,AW,Aw,Aq,Nat.reduceEqDiff,reduceCtorEq, ↓reduceIte]
 refine W.end' (rs:=[4]) (vs:=[.int .i64 (-1)]) Ey_ (.inl Lc_) (by omega) Sp Kn_ x1.cx (by simp[T.get_set]) ?_
 show W _ (s1.cxN cxN) _
 simp only[GJ,Nf]
 refine W.end' (rs:=[4]) (vs:=[.bool false]) IS_ (.inl Jw_) (by omega) WV Ks_ rfl (by simp[T.get_set]) ?_
 show W _ ((s1.cxN cxN).cxN cxN) _
 try simp only[Nf]
 refine AH_.w JY_ (by omega) ?_
 have e1:(!(a.data.toList==({data:= #[]}:ByteArray).data.toList))=true:=by
  show(!(a.data.toList==([]:List UInt8)))=true
  rw[ha.ne];rfl
 have e2:decide (((1:Nat):Int)≤60)=true:=rfl
 simp only[Qa,Ad,W_oS,W_on,Aa,W_mv,Ab,T.get_set,Aj,Ah,Ag,reduceIte,Ax,AP,Au,Az,Aw,reduceCtorEq, ↓reduceIte,Hn_,h,Yj,e1,XG Ii,ha.size,e2,FB,Bool.not_false]
 refine W.end' (rs:=[2]) (vs:=[.bool true]) Bl_ (.inl Bw_) (by omega) V6 IE_ rfl (by simp[T.get_set]) ?_
 exact q _ (show Ext Any Non s (s1.cxN s.cx)from⟨x1.nxt,x1.lim,rfl,x1.mem,x1.rd,x1.wr⟩)
end
theorem BT:slN envS 26=some 1:=by kernel_rfl
theorem Kl:appT envS 26 26=some (1,1,false,[.int .u8 0]):=by kernel_rfl
theorem BR:tyS envS 26=some (1,false):=by kernel_rfl
theorem JX (E:Env)(t t2:Nat)(s x:Value)(st:St)(Q:Value→St→Prop):W (A7 E .append [t,t2] [s,x]) st Q=W (B8 E t t2 s x) st Q:=rfl
theorem TS {l:List Nat}(h: ∀x∈l,False):l=[]:=by
 cases l with
 |nil=>rfl
 |cons y _=>exact(h y (by simp)).elim
theorem MkS.one {s:St}{sz n:Nat}{l:List Value}{v:Value}{b:Nat}(h:MkS s sz n l v b):oneCell v=true:=by
 rcases h with⟨rfl,_⟩|⟨h,_⟩
 ·rfl
 ·rw[h.val];rfl
theorem NJ (l m:List Nat):u8l (l++m)=u8l l++u8l m:=by unfold u8l;rw[List.map_append]
theorem ZI:Uu=[]:=by kernel_rfl
section
variable {n:Nat}{s:St}
theorem UX {C K blk lbk:Nat}{lv bv:Value}{lb l:List Nat}{tm:T Value}{td:List Item}{Q:Value×FrameMode→St→Prop}(hb:s.lim≤s.next)(h6:Own s K 0 (.pointer (some ⟨blk,0,none⟩)))(h4:Own s C 0 bv)(hl:Own s blk 1 lv)(hm:MkS s 1 lb.length (u8l lb) lv lbk)(hB:Bs s bv l)(hz:lb.length+l.length≤5000000)
  (hK: ¬MkF 1 lb.length lbk K) (hbl: ¬MkF 1 lb.length lbk (blk+1)) (t0:T.get tm 0=some (.pointer (some ⟨K,0,none⟩))) (t3:T.get tm 3=some (.pointer (some ⟨C,0,none⟩))) (hT:skim 64 td=EE) (hn:20≤n) (hcx:s.cx=cxN)
  (q: ∀s1 v b,Ext Any (fun x=>x=blk+1∨MkF 1 lb.length lbk x) s s1→Own s1 blk 1 v→MkS s1 1 (lb.length+l.length) (u8l (lb++l)) v b→(b=lbk∧l.length=0∨s.next≤b)→Q (.tuple #[], .run) s1):
  W (runF envS n ⟨39,EH_,DX,tm,td, .run, .normal,none⟩) s Q:=by
 refine OW_.w hT (by omega) ?_
 simp only[T9,t0,t3,AY]
 refine W.dload Cq ((h6.same (s':=dSt s.mem s.next) rfl rfl).at') fun rd0 hr0=> ?_
 refine W.dload Cq ((h6.same (s':=dSt s.mem s.next) rfl rfl).at') fun rd1 hr1=> ?_
 try simp only[AY]
 rw[W_dq fun s Q=>Aq (s:=s) _ Q]
 dsimp only
 try simp only[AY]
 rw[W_dq fun s Q=>Bd (s:=s) Ds (by decide) Q]
 dsimp only
 try simp only[AY]
 refine W.dload BR ((hl.same (s':=dSt s.mem s.next) rfl rfl).at') fun rd4 hr4=> ?_
 refine W.dload BR ((h4.same (s':=dSt s.mem s.next) rfl rfl).at') fun rd5 hr5=> ?_
 try simp only[AY,Aj,Ah,Ag]
 refine W.dopG ?_
 rw[JX]
 refine W.appV (s:=oSt s.mem s.next) (Nat.le_refl _) Kl (hm.same rfl rfl) (hB.same (s':=oSt s.mem s.next) rfl rfl).src.g (by decide) (by decide) (by omega) (by rw[Ca,Nat.mul_one]) (Fk l) fun s2 v2 b2 hb2 mk2 x2=>⟨_,_,x2,fun rd6 wr6 hr6 hw6=> ?_⟩
 have n2:s.next≤s2.next:=x2.nxt
 try simp only[AY]
 rw[W_dq fun s Q=>Aq (s:=s) _ Q]
 dsimp only
 try simp only[AY]
 rw[W_dq fun s Q=>Bd (s:=s) Ds (by decide) Q,Aa]
 refine⟨HG ?_, ?_⟩
 ·simp only[List.reverse_cons,List.reverse_nil,List.nil_append,List.cons_append,allP,Dc,List.take,Fg]
  have lts: ∀x,s.next≤x→ ¬x<s.next:=fun x h=>by omega
  have e0: ∀x,x∈rd0→x=K:=fun x h=>by have:=hr0 x h;omega
  have e6: ∀x,x∈rd6→x<s.next:=fun x h=>(hr6 x h).1
  have w6: ∀x,x∈wr6→x<s.next:=fun x h=>(hw6 x h).1
  have g6: ∀x,x∈wr6→ ¬x∈rd0:=fun x h1 h2=>hK (by have h3:=(hw6 x h1).2;rw[e0 x h2]at h3;exact h3)
  have a6: ∀x,x∈rd6→s.next≤x→False:=fun x h1 h2=>by have:=e6 x h1;omega
  have b6: ∀x,x∈wr6→s.next≤x→False:=fun x h1 h2=>by have:=w6 x h1;omega
  simp+contextual [lts,g6]
  exact⟨.inl rfl, .inl rfl, .inl rfl⟩
 ·refine W.cast (BW_ _ _ _ _ _ _ _ _ _ _ _ _ _ _) ?_
  simp only[Ad,W_oS,Aa]
  generalize hs':(⟨(dSt s2.mem s2.next).mem,(dSt s2.mem s2.next).next,s.lim,_,_,s.cx⟩:St)=s7
  have m7:s7.mem=s2.mem:=by rw[←hs'];rfl
  have n7:s7.next=s2.next:=by rw[←hs'];rfl
  have x7:Ext Any (fun x=>MkF 1 lb.length lbk x) s s7:=by
   rw[←hs']
   refine Ext.drawG (by show s.next≤s2.next;omega) (fun x hx hg=>x2.mem x hx hg) ?_ fun _ _ _ _ _=>trivial
   simp only[List.mem_cons,List.not_mem_nil,or_false]
   rintro m (rfl|rfl|rfl|rfl|rfl|rfl|rfl|rfl|rfl) x hx hxl<;>first|(cases hx;done)|exact(hw6 x hx).2
  have hl7:Own s7 blk 1 lv:=hl.ext x7 hbl
  refine W.store1 BR mk2.one (hl7.same rfl rfl) fun s8 n8 x8 o8=> ?_
  try simp only[Ad,W_oS,W_on,Aa,W_mv,Ab,AV,T.get_set,Aj,Ah,A1,AX,Ag,Al,reduceIte,Ax,AP,AZ,A0,AE,Au,Az,AW,Aw,Aq,Nat.reduceEqDiff,reduceCtorEq, ↓reduceIte]
  have y8:Ext Any (fun x=>x=blk+1∨MkF 1 lb.length lbk x) s s8:=(x7.gw hb fun _ _ h=> .inr h).on x8 hb fun y _ hq=> .inl (by have h1:=hq.1;have h2:=hq.2;omega)
  refine W.end' (rs:=[]) (vs:=[]) Bv_ (.inr ZI) (by omega) SO MP_ (y8.cx.trans hcx) rfl ?_
  have mk8:MkS s8 1 (lb.length+l.length) (u8l (lb++l)) v2 b2:=by
   rw[NJ]
   refine(mk2.same m7 n7).ext x8 fun x hx hq=> ?_
   have h1:=hq.1
   have h2:=hq.2
   have hxe:x=blk+1:=by omega
   subst hxe
   rcases hb2 with h|h
   ·rw[h.1,h.2,Nat.add_zero]at hx
    exact hbl hx
   ·have h3:=hx.2.1
    have h4:=hl.1
    have h5:(oSt s.mem s.next).next≤b2:=h
    have h6:s.next≤b2:=h5
    omega
  exact q s8 v2 b2 y8 o8 mk8 hb2
end
def Bb (fs:List FileS)(a:ByteArray):Option Nat:=(fs.map FileS.name).findIdx? fun b=>a==b
def Br (fs:List FileS)(a:ByteArray):Value:=match Bb fs a with
 |none=> .pointer none
 |some j=>match fs[j]? with
  |some f=> .pointer (some ⟨f.blk,0,none⟩)
  |none=> .pointer none
theorem MC (fs:List FileS):(fs.map FileS.ent).map (·.key)=(fs.map FileS.name).map Value.string:=by rw[List.map_map,List.map_map];rfl
theorem FJ {fs:List FileS}{a:ByteArray}{j:Nat}(h:Bb fs a=some j):j<fs.length:=by
 have:=(List.findIdx?_eq_some_iff_getElem.1 h).1
 simpa using this
theorem Hn {s:St}{M mx:Nat}{fs:List FileS}{a:ByteArray}{Q:Value→St→Prop}(ho:Obj s M (.map (fs.map FileS.ent) mx))(q:Q (Br fs a) (s.rdN M)):W (Cn envS 68 false (.map (some M)) (.string a)) s Q:=by
 unfold Br at q
 cases hj:Bb fs a with
 |none=>
  rw[hj]at q
  exact W.lookS0 LZ Fd_ LX (MC fs) hj ho q
 |some j=>
  rw[hj]at q
  have hlt:=FJ hj
  simp only[List.getElem?_eq_getElem hlt]at q
  exact W.lookS1 (j:=j) (e:=fs[j].ent) LZ LX (MC fs) hj (by rw[List.getElem?_map,List.getElem?_eq_getElem hlt];rfl) ho q
def DkS.used (k:DkS):Nat:=(k.fs.map fun f=>f.sb.length+f.lb.length).sum
theorem DkI.lens {s:St}{col:Nat→Nat}{D M:Nat}{k:DkS}(h:DkI s col D M k): ∀(i:Nat) (e:MapEntry) (n:Nat),(k.fs.map FileS.ent)[i]?=some e→(k.fs.map fun f=>f.sb.length+f.lb.length)[i]?=some n→FL s e n:=by
 intro i e n h1 h2
 rw[List.getElem?_map]at h1 h2
 obtain⟨f,hf,rfl⟩:=Option.map_eq_some_iff.1 h1
 rw[hf]at h2
 cases h2
 obtain⟨hi,rfl⟩:=List.getElem?_eq_some_iff.1 hf
 have g:=h.fl i hi
 obtain⟨p1,c1,e1⟩:=g.ms.sl
 obtain⟨p2,c2,e2⟩:=g.ml.sl
 have o0:=g.o0
 have o1:=g.o1
 rw[e1]at o0
 rw[e2]at o1
 exact⟨_,p1,_,c1,p2,_,c2,rfl,o0.at',o1.at',rfl⟩
structure After (s s1:St)(col col':Nat→Nat)(D M:Nat)(k:DkS):Prop where
 inv:DkI s1 col' D M k
 agree: ∀x,x<s.next→col' x=col x
 ext:Ext Any (fun x=>col x<1000) s s1
def Ea (k:DkS)(a:ByteArray)(blk:Nat)(v:Value)(b:Nat)(l:List Nat):List FileS:=match Bb k.fs a with
 |some j=>match k.fs[j]? with
  |some f=>k.fs.set j {f with lv:=v,lbk:=b,lb:=f.lb++l}
  |none=>k.fs
 |none=>k.fs++[⟨a,k.mx,blk, .slice none 0 0,0,[],v,b,l⟩]
def DN (k:DkS)(a:ByteArray):Nat:=match Bb k.fs a with|some _=>k.mx|none=>k.mx+1
theorem QT (a b:Int){E:Env}{s:St}{xo yo:Operand}{t:Nat}(Q:Value→St→Prop):W (Cl.get (aBin E .add t xo yo) (.int .i64 a) (.int .i64 b)) s Q=Q (.int .i64 (wrap64 (a+b))) s:=Bi (US _ a b)
theorem Uv {e:MapEntry}: ∀{es:List MapEntry} {lo n:Nat},BH es lo n=true→lo≤n→e.born=n→BH (es++[e]) lo (n+1)=true
 |[],lo,n,_,hle,he=>by
  show(Nat.ble lo e.born&&Nat.blt e.born (n+1)&&BH [] (e.born+1) (n+1))=true
  rw[he,Nat.ble_eq_true_of_le hle,BN (by omega)]
  rfl
 |x::es,lo,n,h,hle,he=>by
  unfold BH at h
  rw[Bool.and_eq_true,Bool.and_eq_true]at h
  have h2:x.born<n:=Nat.le_of_ble_eq_true h.1.2
  show(Nat.ble lo x.born&&Nat.blt x.born (n+1)&&BH (es++[e]) (x.born+1) (n+1))=true
  rw[h.1.1,BN (by omega),Uv h.2 (by omega) he]
  rfl
theorem XE {α:Type}(x y:α): ∀l:List α,(l++[x]).set l.length y=l++[y]
 |[]=>rfl
 |z::l=>by
  show z::(l++[x]).set l.length y=z::(l++[y])
  rw[XE x y l]
theorem Qk_ {l:List Nat}{i:Nat}(h:i<l.length):l[i]≤l.sum:=by
 have e:l=l.take i++l[i]::l.drop (i+1):=by rw[List.getElem_cons_drop,List.take_append_drop]
 have:l.sum=(l.take i).sum+(l[i]+(l.drop (i+1)).sum):=by
  conv=>lhs;rw[e]
  rw[List.sum_append,List.sum_cons]
 omega
theorem DkS.used_at {k:DkS}{j:Nat}(h:j<k.fs.length):k.fs[j].sb.length+k.fs[j].lb.length≤k.used:=by
 unfold DkS.used
 have:=Qk_ (l:=k.fs.map fun f=>f.sb.length+f.lb.length) (i:=j) (by simpa using h)
 simpa using this
theorem DkI.file {F G:Nat→Prop}{s s':St}{col col':Nat→Nat}{D M j:Nat}{k:DkS}{f':FileS}(h:DkI s col D M k)(hj:j<k.fs.length)(x:Ext F G s s')(hG: ∀y,y<s.next→G y→2+3*j≤col y∧col y≤2+3*j+2)(ec: ∀y,y<s.next→col' y=col y)(hf:FileI s' col' (2+3*j) f')(he:f'.ent=k.fs[j].ent):DkI s' col' D M {k with fs:=k.fs.set j f'}:=by
 have c: ∀o,o<7→D+o<s.next→ ¬G (D+o):=fun o ho hn g=>by
  have h1:=hG _ hn g
  have h2:=h.kd (D+o) (by omega) (by omega)
  omega
 have em:(k.fs.set j f').map FileS.ent=k.fs.map FileS.ent:=by
  rw[List.map_set,he]
  apply List.ext_getElem
  ·simp
  ·intro i h1 h2
   rw[List.getElem_set]
   by_cases c:j=i
   ·subst c;simp
   ·simp[c]
 have b6:=h.d6.1
 refine⟨h.d0.ext x (c 0 (by decide) h.d0.1),h.d1.ext x (c 1 (by decide) h.d1.1),h.d2.ext x (c 2 (by decide) h.d2.1),h.d3.ext x (c 3 (by decide) h.d3.1),h.d4.ext x (c 4 (by decide) h.d4.1),h.d5.ext x (c 5 (by decide) h.d5.1),h.d6.ext x (c 6 (by decide) h.d6.1),fun y h1 h2=>(ec y (by omega)).trans (h.kd y h1 h2), ?_,(ec M h.om.1).trans h.km, ?_,fun i hi=> ?_⟩
 ·show Obj s' M (.map ((k.fs.set j f').map FileS.ent) k.mx)
  rw[em]
  exact h.om.ext x fun g=>by
   have h1:=hG _ h.om.1 g
   have h2:=h.km
   omega
 ·show BH ((k.fs.set j f').map FileS.ent) 0 k.mx=true
  rw[em]
  exact h.bo
 ·show FileI s' col' (2+3*i) (k.fs.set j f')[i]
  by_cases q:i=j
  ·subst q
   rw[List.getElem_set_self]
   exact hf
  ·have hi':i<k.fs.length:=by simpa using hi
   rw[List.getElem_set_ne (by omega)]
   refine((h.fl i hi').col ec).ext x fun y hy g=> ?_
   have h1:=hG y hy g
   rw[ec y hy]
   omega
theorem DkI.newF {s s':St}{F:Nat→Prop}{col col':Nat→Nat}{D M:Nat}{k:DkS}{f:FileS}(h:DkI s col D M k)(x:Ext F (fun y=>y=M) s s')(ec: ∀y,y<s.next→col' y=col y)(hM:Obj s' M (.map (k.fs.map FileS.ent++[f.ent]) (k.mx+1)))(hb:f.born=k.mx)(hf:FileI s' col' (2+3*k.fs.length) f):DkI s' col' D M {k with fs:=k.fs++[f],mx:=k.mx+1}:=by
 have c: ∀o,o<7→ ¬D+o=M:=fun o ho e=>by
  have h2:=h.kd (D+o) (by omega) (by omega)
  rw[e,h.km]at h2
  omega
 have b6:=h.d6.1
 refine⟨h.d0.ext x (c 0 (by decide)),h.d1.ext x (c 1 (by decide)),h.d2.ext x (c 2 (by decide)),h.d3.ext x (c 3 (by decide)),h.d4.ext x (c 4 (by decide)),h.d5.ext x (c 5 (by decide)),h.d6.ext x (c 6 (by decide)),fun y h1 h2=>(ec y (by omega)).trans (h.kd y h1 h2), ?_,(ec M h.om.1).trans h.km, ?_,fun i hi=> ?_⟩
 ·show Obj s' M (.map ((k.fs++[f]).map FileS.ent) (k.mx+1))
  rw[List.map_append]
  exact hM
 ·show BH ((k.fs++[f]).map FileS.ent) 0 (k.mx+1)=true
  rw[List.map_append]
  exact Uv h.bo (Nat.zero_le _) hb
 ·show FileI s' col' (2+3*i) (k.fs++[f])[i]
  have hi':i<k.fs.length+1:=by simpa using hi
  rcases Nat.lt_or_ge i k.fs.length with q|q
  ·rw[List.getElem_append_left q]
   refine((h.fl i q).col ec).ext x fun y hy g=> ?_
   rw[ec y hy,g,h.km]
   omega
  ·have:i=k.fs.length:=by omega
   subst this
   rw[List.getElem_append_right (Nat.le_refl _)]
   simp only[Nat.sub_self,List.getElem_cons_zero]
   exact hf
theorem FileI.loose {G:Nat→Prop}{s s':St}{F:Nat→Prop}{col:Nat→Nat}{c b:Nat}{v:Value}{m:List Nat}{f:FileS}(h:FileI s col c f)(x:Ext F (fun y=>y=f.blk+1∨MkF 1 f.lb.length f.lbk y) s s')(ho:Own s' f.blk 1 v)(hm:MkS s' 1 m.length (u8l m) v b)(hb:b=f.lbk∧m.length=f.lb.length∨s.next≤b):FileI s' (paint col s.next (c+2)) c {f with lv:=v,lbk:=b,lb:=m}:=by
 have b0:=h.o0.1
 have b1:=h.o1.1
 refine⟨h.o0.ext x fun g=> ?_,ho,fun y h1 h2=>(BB (by have h3:y<f.blk+2:=h2;omega)).trans (h.k y h1 h2),h.ms.ext x fun y hy g=> ?_,fun y hy=>(BB (h.ms.lt y hy)).trans (h.ks y hy),hm,fun y hy=> ?_⟩
 ·rcases g with g|g
  ·omega
  ·have h1:=h.kl _ g
   have h2:=h.k (f.blk+0) (by omega) (by omega)
   omega
 ·have h1:=h.ks y hy
  rcases g with g|g
  ·have h2:=h.k y (by omega) (by omega)
   omega
  ·have h2:=h.kl y g
   omega
 ·have hy':MkF 1 m.length b y:=hy
  rcases hb with⟨h1,h2⟩|h1
  ·rw[h1,h2]at hy'
   exact(BB (h.ml.lt y hy')).trans (h.kl y hy')
  ·exact DV (by have:=hy'.2.1;omega)
theorem DH_:K1 envS 79 []=some [.slice none 0 0, .slice none 0 0]:=by kernel_rfl
section
variable {n D M C K:Nat}{s:St}{k:DkS}{col:Nat→Nat}{a:ByteArray}{bv:Value}{l:List Nat}
theorem YD {Q:Value→St→Prop}(hb:s.lim≤s.next)(hI:DkI s col D M k)(hlen:k.fs.length≤300)(hB:Bs s bv l)(hC:Own s C 0 (.pointer (some ⟨D,0,none⟩)))(hC2:Own s (C+2) 0 (.string a))(hC4:Own s (C+4) 0 bv)(hK:Own s K 0 (Br k.fs a))(kC: ∀x,C≤x→x<C+6→1000≤col x)(kK:1000≤col K)(hBc: ∀x,BsF bv x→x≠K∧1000≤col x)(hKC:K<C∨C+6≤K)(hz:k.used+l.length≤4000000)(hn:100≤n)
  (q: ∀s1 col' blk v b,DkI s1 col' D M {k with fs:=Ea k a blk v b l,mx:=DN k a}→(∀x,x<s.next→col' x=col x)→Ext Any (fun x=>col x<1000∨x=K) s s1→Q (.tuple #[]) s1):
  W (Ap envS (runF envS n) 39 [.pointer (some ⟨K,0,none⟩), .pointer (some ⟨C,0,none⟩), .pointer (some ⟨C+2,0,none⟩), .pointer (some ⟨C+4,0,none⟩)]) s Q:=by
 have hb0:(s.cxN cxN).lim≤(s.cxN cxN).next:=hb
 refine PM_ fun tm t0 t1 t2 t3=> ?_
 refine Pi_.w rfl (by omega) ?_
 simp only[S8,Ad,W_oS,Aa,Ab,t0]
 refine W.load1 Cq (hK.same (s':=s.cxN cxN) rfl rfl).at' ?_
 have y1:=(Ext.refl (F:=Any) (G:=Non) (s.cxN cxN)).thenRd hb0 (K+0)
 have hI1:DkI ((s.cxN cxN).rdN (K+0)) col D M k:=hI.same rfl rfl
 have o1:Own ((s.cxN cxN).rdN (K+0)) K 0 (Br k.fs a):=hK.same rfl rfl
 have c0:Own ((s.cxN cxN).rdN (K+0)) C 0 (.pointer (some ⟨D,0,none⟩)):=hC.same rfl rfl
 have c2:Own ((s.cxN cxN).rdN (K+0)) (C+2) 0 (.string a):=hC2.same rfl rfl
 have c4:Own ((s.cxN cxN).rdN (K+0)) (C+4) 0 bv:=hC4.same rfl rfl
 have hB1:Bs ((s.cxN cxN).rdN (K+0)) bv l:=hB.same rfl rfl
 have hn1:((s.cxN cxN).rdN (K+0)).next=s.next:=rfl
 generalize (s.cxN cxN).rdN (K+0)=s1 at *
 cases hj:Bb k.fs a with
 |some j=>
  have hlt:=FJ hj
  have hv:Br k.fs a= .pointer (some ⟨k.fs[j].blk,0,none⟩):=by
   unfold Br
   rw[hj]
   simp only[List.getElem?_eq_getElem hlt]
  have hadd: ∀blk v b,Ea k a blk v b l=k.fs.set j {k.fs[j]with lv:=v,lbk:=b,lb:=k.fs[j].lb++l}:=fun blk v b=>by
   unfold Ea
   rw[hj]
   simp only[List.getElem?_eq_getElem hlt]
  have hmx:DN k a=k.mx:=by unfold DN;rw[hj]
  rw[hv]at o1 ⊢
  have g:=hI1.fl j hlt
  have hused:=DkS.used_at hlt
  simp only[Em GX]
  refine W.cond (v:=false) UJ Rv (by simp[T.get_set]) (by omega) (fun h=>by cases h) fun _=> ?_
  refine UX (C:=C+4) (K:=K) (y1.bnd hb0) o1 c4 g.o1 g.ml hB1 (by omega) (fun h=>by have:=g.kl _ h;omega) (fun h=>by have h1:=g.kl _ h;have h2:=g.k _ (show k.fs[j].blk≤k.fs[j].blk+1 by omega) (by omega);omega) (by simp[T.get_set,t0]) (by simp[T.get_set,t3]) NG_ (by omega) y1.cx fun s2 v b x2 o2 mk2 hb2=> ?_
  have hf:FileI s2 (paint col s1.next (2+3*j+2)) (2+3*j) {k.fs[j]with lv:=v,lbk:=b,lb:=k.fs[j].lb++l}:=g.loose (G:=Non) x2 o2 (by rw[List.length_append];exact mk2) (hb2.imp (fun h=>⟨h.1,by rw[List.length_append,h.2,Nat.add_zero]⟩) fun h=>h)
  have hD:=hI1.file hlt x2 (fun y hy h=>by
   rcases h with rfl|h
   ·have:=g.k _ (show k.fs[j].blk≤k.fs[j].blk+1 by omega) (by omega)
    omega
   ·have:=g.kl y h
    omega) (fun y hy=>BB hy) hf rfl
  refine q (s2.cxN s.cx) (paint col s1.next (2+3*j+2)) 0 v b ?_ (fun x hx=>BB (by omega)) ((y1.gw hb0 fun _ _ h=>h.elim).on x2 hb0 fun y hy h=> .inl ?_).cx'
  ·rw[hadd,hmx]
   exact hD.same rfl rfl
  ·rcases h with rfl|h
   ·have:=g.k _ (show k.fs[j].blk≤k.fs[j].blk+1 by omega) (by omega)
    omega
   ·have:=g.kl y h
    omega
 |none=>
  have hv:Br k.fs a= .pointer none:=by unfold Br;rw[hj]
  have hadd: ∀blk v b,Ea k a blk v b l=k.fs++[⟨a,k.mx,blk, .slice none 0 0,0,[],v,b,l⟩]:=fun blk v b=>by unfold Ea;rw[hj]
  have hmx:DN k a=k.mx+1:=by unfold DN;rw[hj]
  rw[hv]at o1 ⊢
  simp only[HC]
  refine W.cond (v:=true) UJ Rv (by simp[T.get_set]) (by omega) (fun _=> ?_) fun h=>by cases h
  refine Qr_.w Kz_ (by omega) ?_
  simp only[RP,Ad,W_oS,Aa,T.get_set,AX,reduceIte,reduceCtorEq, ↓reduceIte,Qx DH_,t0]
  refine W.box fun s2 n2 x2 r2=> ?_
  rw[RM]at n2 r2
  have n2':s2.next=s.next+3:=by rw[n2,hn1];rfl
  rw[hn1]at r2 ⊢
  have y2:=y1.on x2 hb0 fun _ _ h=>h
  try simp only[Ad,W_oS,W_on,Aa,W_mv,Ab,AV,T.get_set,Aj,Ah,A1,AX,Ag,Al,reduceIte,Ax,AP,AZ,A0,AE,Au,Az,AW,Aw,Aq,Nat.reduceEqDiff,reduceCtorEq, ↓reduceIte]
  refine W.store1 Cq rfl (o1.ext0 x2) fun s3 n3 x3 o3=> ?_
  have x3':Ext Any (fun y=>y=K) s2 s3:=x3.weak (y2.bnd hb0) (fun _ _ _=>trivial) fun y _ hq=>by have h1:=hq.1;have h2:=hq.2;omega
  have y3:Ext Any (fun x=>col x<1000∨x=K) (s.cxN cxN) s3:=(y2.gw hb0 fun _ _ h=>h.elim).on x3' hb0 fun y _ h=> .inr h
  have hKs:K<s.next:=by have:=o1.1;omega
  have hI3:DkI s3 col D M k:=(hI1.ext0 x2 hlen).ext x3' hlen fun y _ h=>by subst h;exact kK
  have r3:Ba s3 s.next 0 [.slice none 0 0, .slice none 0 0]:=r2.ext x3' fun i hi h=>by omega
  have c03:=(c0.ext0 x2).ext x3' fun h=>by omega
  have c23:=(c2.ext0 x2).ext x3' fun h=>by omega
  have c43:=(c4.ext0 x2).ext x3' fun h=>by omega
  have hB3:Bs s3 bv l:=(hB1.ext0 x2).ext x3' fun x hx h=>(hBc x hx).1 h
  have n3':s3.next=s.next+3:=by omega
  try simp only[Ad,W_oS,W_on,Aa,W_mv,Ab,AV,T.get_set,Aj,Ah,A1,AX,Ag,Al,reduceIte,Ax,AP,AZ,A0,AE,Au,Az,AW,Aw,Aq,Nat.reduceEqDiff,reduceCtorEq, ↓reduceIte]
  refine AJ_.w HF_ (by omega) ?_
  simp only[SR,T.get_set,Nat.reduceEqDiff,reduceIte,t0,t1,t2,AY]
  refine W.dload Ei ((c03.same (s':=dSt s3.mem s3.next) rfl rfl).at') fun rd0 hr0=> ?_
  try simp only[AY]
  rw[W_dq fun s Q=>Aq (s:=s) _ Q]
  dsimp only
  try simp only[AY]
  rw[W_dq fun s Q=>Bd (s:=s) Eb (by decide) Q]
  dsimp only
  try simp only[AY]
  refine W.dload DO ((hI3.d1.same (s':=dSt s3.mem s3.next) rfl rfl).at') fun rd3 hr3=> ?_
  refine W.dload EZ ((c23.same (s':=dSt s3.mem s3.next) rfl rfl).at') fun rd4 hr4=> ?_
  refine W.dload Cq ((o3.same (s':=dSt s3.mem s3.next) rfl rfl).at') fun rd5 hr5=> ?_
  rw[Aa]
  refine⟨Fo (by simp) (by simp), ?_⟩
  refine W.cast (Ga_ _ _ _ _ _ _ _ _ _ _ _) ?_
  simp only[Ad,W_on,Aa]
  generalize hs':(⟨(dSt s3.mem s3.next).mem,(dSt s3.mem s3.next).next,s3.lim,_,_,s3.cx⟩:St)=s4
  have x4:Ext Any Non s3 s4:=by
   rw[←hs']
   exact Ext.draw (F:=Any) (Nat.le_refl _) (fun _ _=>rfl) (by simp) fun _ _ _ _ _=>trivial
  have y4:=y3.on x4 hb0 fun _ _ h=>h.elim
  have hI4:=hI3.ext0 x4 hlen
  have n4:s4.next=s3.next:=by rw[←hs'];rfl
  refine W.mapUpS0 LZ LX (MC k.fs) hj hI4.om fun s5 n5 x5 o5=> ?_
  have y5:=y4.on x5 hb0 fun y _ h=> .inl (by rw[h];have:=hI4.km;omega)
  try simp only[Ad,W_oS,W_on,Aa,W_mv,Ab,AV,T.get_set,Aj,Ah,A1,AX,Ag,Al,reduceIte,Ax,AP,AZ,A0,AE,Au,Az,AW,Aw,Aq,Nat.reduceEqDiff,reduceCtorEq, ↓reduceIte]
  have hMs:M<s.next:=hI.om.1
  have r5:Ba s5 s.next 0 [.slice none 0 0, .slice none 0 0]:=(Ba.ext0 r3 x4).ext x5 fun i hi h=>by omega
  have hf5:FileI s5 (paint col s.next (2+3*k.fs.length)) (2+3*k.fs.length) ⟨a,k.mx,s.next, .slice none 0 0,0,[], .slice none 0 0,0,[]⟩:=
   ⟨r5 0 _ rfl,r5 1 _ rfl,fun y h1 _=>DV h1, .inl ⟨rfl,rfl,rfl⟩,fun y hy=>absurd hy.1 (Nat.lt_irrefl 0), .inl ⟨rfl,rfl,rfl⟩,fun y hy=>absurd hy.1 (Nat.lt_irrefl 0)⟩
  have hI4':DkI s4 (paint col s.next (2+3*k.fs.length)) D M k:=⟨hI4.d0,hI4.d1,hI4.d2,hI4.d3,hI4.d4,hI4.d5,hI4.d6,fun x h1 h2=>(BB (by have:=hI.d6.1;omega)).trans (hI4.kd x h1 h2),hI4.om,(BB hMs).trans hI4.km,hI4.bo,fun i hi=>by
   have g1:=(hI1.fl i hi).col (col':=paint col s.next (2+3*k.fs.length)) fun x hx=>BB (by omega)
   have g2:=g1.ext x2 fun _ _ h=>h.elim
   have g3:=g2.ext x3' fun y hy h=>by
    rw[h,BB hKs]
    omega
   exact g3.ext x4 fun _ _ h=>h.elim⟩
  have hI5:=hI4'.newF (f:=⟨a,k.mx,s.next, .slice none 0 0,0,[], .slice none 0 0,0,[]⟩) x5 (fun _ _=>rfl) o5 rfl hf5
  have hlt5:k.fs.length<(k.fs++[(⟨a,k.mx,s.next, .slice none 0 0,0,[], .slice none 0 0,0,[]⟩:FileS)]).length:=by simp
  have g5:FileI s5 (paint col s.next (2+3*k.fs.length)) (2+3*k.fs.length) ⟨a,k.mx,s.next, .slice none 0 0,0,[], .slice none 0 0,0,[]⟩:=hf5
  have o5K:Own s5 K 0 (.pointer (some ⟨s.next,0,none⟩)):=(Own.ext0 o3 x4).ext x5 fun h=>by
   have h1:K=M:=by omega
   have h2:=hI.km
   rw[←h1]at h2
   omega
  have c45:Own s5 (C+4) 0 bv:=(Own.ext0 c43 x4).ext x5 fun h=>by
   have h1:C+4=M:=by omega
   have h2:=kC (C+4) (by omega) (by omega)
   rw[h1,hI.km]at h2
   omega
  have hB5:Bs s5 bv l:=(Bs.ext0 hB3 x4).ext x5 fun x hx h=>by
   have h1:=(hBc x hx).2
   rw[h,hI.km]at h1
   omega
  refine UX (C:=C+4) (K:=K) (lb:=[]) (lbk:=0) (blk:=s.next) (y5.bnd hb0) o5K c45 g5.o1 g5.ml hB5 (by simp;omega) (fun h=>absurd h.1 (Nat.lt_irrefl 0)) (fun h=>absurd h.1 (Nat.lt_irrefl 0)) (by simp[T.get_set,t0]) (by simp[T.get_set,t3]) NA_ (by omega) y5.cx fun s6 v b x6 o6 mk6 hb6=> ?_
  have hf6:=g5.loose (G:=Non) (m:=[]++l) x6 o6 (by rw[List.nil_append];simpa using mk6) (hb6.imp (fun h=>⟨h.1,by rw[List.nil_append,h.2];rfl⟩) fun h=>h)
  rw[List.nil_append]at hf6
  have hD:=hI5.file (j:=k.fs.length) hlt5 x6 (fun y hy h=>by
   rcases h with rfl|h
   ·rw[DV (by omega)]
    omega
   ·exact absurd h.1 (Nat.lt_irrefl 0)) (fun y hy=>BB hy) hf6 (by
   show _=((k.fs++[(⟨a,k.mx,s.next, .slice none 0 0,0,[], .slice none 0 0,0,[]⟩:FileS)])[k.fs.length]'hlt5).ent
   rw[List.getElem_append_right (Nat.le_refl _)]
   simp only[Nat.sub_self,List.getElem_cons_zero]
   rfl)
  have y6:=y5.on x6 hb0 fun y hy h=>by
   rcases h with rfl|h
   ·have h1:s.next+1<s.next:=hy
    omega
   ·exact absurd h.1 (Nat.lt_irrefl 0)
  refine q (s6.cxN s.cx) (paint (paint col s.next (2+3*k.fs.length)) s5.next (2+3*k.fs.length+2)) s.next v b ?_ (fun x hx=>(BB (by have:=y5.nxt;have e:(s.cxN cxN).next=s.next:=rfl;omega)).trans (BB hx)) y6.cx'
  rw[hadd,hmx]
  have: ∀f':FileS,(k.fs++[(⟨a,k.mx,s.next, .slice none 0 0,0,[], .slice none 0 0,0,[]⟩:FileS)]).set k.fs.length f'=k.fs++[f']:=fun f'=>XE _ _ _
  have hD':=hD.same (s':=s6.cxN s.cx) rfl rfl
  simp only[this]at hD'
  exact hD'
end
end Go.Proofs.Ytjfhmacppabehaa.Am
end
