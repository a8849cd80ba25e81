import Derived.Test.YtofanlcjeohcjaaIAg14
import Derived.Test.YtofanlcjeohcjaaIAg07
import Derived.KernelRfl
noncomputable section
namespace Go.Proofs.Ytofanlcjeohcjaa.Am
open Go.RowKit
def Q1:Nat:=Bw Try.f105
def UI:Code:=Try.f105.body.getD .skip
theorem DF_:envS.fn.get 105=some Try.f105:=by kernel_rfl
theorem GK_ {a0:Value}{n:Nat}{s:St}{Q:Value→St→Prop}(h: ∀tm,T.get tm 0=some a0→W (runF envS n ⟨105,5,Q1,tm,[.code UI], .run, .normal,none⟩) (s.cxN cxN) fun p s1=>Q p.1 (s1.cxN s.cx)):W (AJ envS (runF envS n) 105 [a0]) s Q:=
 W.call (by kernel_rfl) (by kernel_rfl) DF_ (by kernel_rfl) rfl rfl (by simp) (h _ (by kernel_rfl))
theorem Aci_:Try.f105.results.toList=[.tmp 2]:=by kernel_rfl
def Sd:List Item:=skim 64 [.code UI]
def KC:List Item:=skim 64 Sd.tail
theorem OB_:skim 64 Sd.tail=KC:=by kernel_rfl
def Q6:List Item:=skim 64 KC.tail
theorem AdD_:skim 64 KC.tail=Q6:=by kernel_rfl
def Zq (E:Env)(call round:Ag)(tm:T Value):M (T Value):=
 mv (some (.int .u32 0)) fun v2=>
 setF 2 v2 tm fun tm1=>
 M.pure tm1
theorem Wt_:RegEq 105 5 Q1 Sd Zq:=⟨by kernel_rfl,fun _ _ _ _ _ _ _ _ _=>by kernel_rfl⟩
def Vy (E:Env)(call round:Ag)(tm:T Value):M (T Value):=
 mv (T.get tm 0) fun v3=>
 M.bind (M.on (some (.func (.func 130) #[] #[])) fun f=>M.on (seqO [(some (.int .u32 0)),(some v3)]) fun l=>Bh call round f l) fun v4=>
 mv (some v4) fun v2=>
 setF 2 v2 tm fun tm1=>
 M.pure tm1
theorem Aeu_:RegEq 105 5 Q1 KC Vy:=⟨by kernel_rfl,fun _ _ _ _ _ _ _ _ _=>by kernel_rfl⟩
theorem Mq_: ∃k,Q6= .code .ret::k:=⟨Q6.tail,by kernel_rfl⟩
def KG:Nat:=Bw Try.f64
def DU_:Code:=Try.f64.body.getD .skip
theorem ZO:envS.fn.get 64=some Try.f64:=by kernel_rfl
theorem Np_ {a0:Value}{n:Nat}{s:St}{Q:Value→St→Prop}(h: ∀tm,T.get tm 0=some a0→W (runF envS n ⟨64,21,KG,tm,[.code DU_], .run, .normal,none⟩) (s.cxN cxN) fun p s1=>Q p.1 (s1.cxN s.cx)):W (AJ envS (runF envS n) 64 [a0]) s Q:=
 W.call (by kernel_rfl) (by kernel_rfl) ZO (by kernel_rfl) rfl rfl (by simp) (h _ (by kernel_rfl))
theorem UY_:Try.f64.results.toList=[.tmp 2]:=by kernel_rfl
def Tn:List Item:=skim 64 [.code DU_]
def K2:List Item:=skim 64 Tn.tail
theorem Sl_:skim 64 Tn.tail=K2:=by kernel_rfl
def M9:List Item:=skim 64 K2.tail
theorem Lm_:skim 64 K2.tail=M9:=by kernel_rfl
def RY:List Item:=skim 64 M9.tail
theorem Zf_:skim 64 M9.tail=RY:=by kernel_rfl
def Bj_ (E:Env)(call round:Ag)(tm:T Value):M (T Value):=
 mv (some (.slice none 0 0)) fun v2=>
 setF 2 v2 tm fun tm1=>
 M.pure tm1
theorem Or_:RegEq 64 21 KG Tn Bj_:=⟨by kernel_rfl,fun _ _ _ _ _ _ _ _ _=>by kernel_rfl⟩
def BN_ (E:Env)(call round:Ag)(tm:T Value):M (T Value):=
 mv (T.get tm 0) fun v4=>
 M.bind (M.on (some (.func (.func 105) #[] #[])) fun f=>M.on (seqO [(some v4)]) fun l=>Bh call round f l) fun v5=>
 mv (some v5) fun v3=>
 setF 3 v3 tm fun tm1=>
 M.pure tm1
theorem AaS_:RegEq 64 21 KG K2 BN_:=⟨by kernel_rfl,fun _ _ _ _ _ _ _ _ _=>by kernel_rfl⟩
def Xq (E:Env)(call round:Ag)(tm:T Value):M (T Value):=
 mv (T.get tm 0) fun v6=>
 mv (T.get tm 3) fun v7=>
 M.bind (oS (some v7) fun a=>B4 E 51 5 a) fun v8=>
 mv (T.get tm 3) fun v9=>
 M.bind (oS (some v9) fun a=>oS (some (.int .u64 8)) fun b=>Cl.get (aBin E .shr 51 (.tmp 9) (.const (.int .u64 8))) a b) fun v10=>
 M.bind (oS (some v10) fun a=>B4 E 51 5 a) fun v11=>
 mv (T.get tm 3) fun v12=>
 M.bind (oS (some v12) fun a=>oS (some (.int .u64 16)) fun b=>Cl.get (aBin E .shr 51 (.tmp 12) (.const (.int .u64 16))) a b) fun v13=>
 M.bind (oS (some v13) fun a=>B4 E 51 5 a) fun v14=>
 mv (T.get tm 3) fun v15=>
 M.bind (oS (some v15) fun a=>oS (some (.int .u64 24)) fun b=>Cl.get (aBin E .shr 51 (.tmp 15) (.const (.int .u64 24))) a b) fun v16=>
 M.bind (oS (some v16) fun a=>B4 E 51 5 a) fun v17=>
 M.bind (oS (seqP [(0,(some v8)),(1,(some v11)),(2,(some v14)),(3,(some v17))]) fun ps=>B7 E 22 4 ps) fun v18=>
 M.bind (oS (seqP [(0,(some v6)),(1,(some v18))]) fun ps=>B7 E 43 2 ps) fun v19=>
 M.bind (M.on (some (.func (.func 63) #[] #[])) fun f=>M.on (seqO [(some v19)]) fun l=>Bh call round f l) fun v20=>
 mv (some v20) fun v2=>
 setF 2 v2 tm fun tm1=>
 M.pure tm1
theorem Aae_:RegEq 64 21 KG M9 Xq:=⟨by kernel_rfl,fun _ _ _ _ _ _ _ _ _=>by kernel_rfl⟩
theorem Aam_: ∃k,RY= .code .ret::k:=⟨RY.tail,by kernel_rfl⟩
def HP:Nat:=Bw Try.f81
def W5:Code:=Try.f81.body.getD .skip
theorem Li:envS.fn.get 81=some Try.f81:=by kernel_rfl
theorem UF_ {a0:Value}{n:Nat}{s:St}{Q:Value→St→Prop}(h: ∀tm,T.get tm 0=some a0→W (runF envS n ⟨81,23,HP,tm,[.code W5], .run, .normal,none⟩) (s.cxN cxN) fun p s1=>Q p.1 (s1.cxN s.cx)):W (AJ envS (runF envS n) 81 [a0]) s Q:=
 W.call (by kernel_rfl) (by kernel_rfl) Li (by kernel_rfl) rfl rfl (by simp) (h _ (by kernel_rfl))
theorem RC:Try.f81.results.toList=[.tmp 2, .tmp 3]:=by kernel_rfl
def Tr:List Item:=skim 64 [.code W5]
def Kz:List Item:=skim 64 Tr.tail
theorem Wd_:skim 64 Tr.tail=Kz:=by kernel_rfl
def M5:List Item:=skim 64 Kz.tail
theorem Ju_:skim 64 Kz.tail=M5:=by kernel_rfl
def GU:List Item:=skim 64 M5.tail
theorem PA:skim 64 M5.tail=GU:=by kernel_rfl
def NN:List Item:=skim 64 (brT GU)
theorem DI_:skim 64 (brT GU)=NN:=by kernel_rfl
def MU:List Item:=skim 64 (brF GU)
theorem GU_:skim 64 (brF GU)=MU:=by kernel_rfl
def R3:List Item:=skim 64 NN.tail
theorem ED_:skim 64 NN.tail=R3:=by kernel_rfl
def Ty:List Item:=skim 64 MU.tail
theorem Wk_:skim 64 MU.tail=Ty:=by kernel_rfl
def US (E:Env)(call round:Ag)(tm:T Value):M (T Value):=
 mv (some (.slice none 0 0)) fun v2=>
 setF 2 v2 tm fun tm1=>
 mv (some (.int .i64 0)) fun v3=>
 setF 3 v3 tm1 fun tm2=>
 M.pure tm2
theorem He_:RegEq 81 23 HP Tr US:=⟨by kernel_rfl,fun _ _ _ _ _ _ _ _ _=>by kernel_rfl⟩
def AE_ (E:Env)(call round:Ag)(tm:T Value):M (T Value):=
 mv (T.get tm 0) fun v5=>
 M.bind (oS (seqO [(some v5)]) fun l=>A7 E .len [22] l) fun v6=>
 M.bind (oS (some v6) fun a=>oS (some (.int .i64 4)) fun b=>Cl.get (aBin E .sub 3 (.tmp 6) (.const (.int .i64 4))) a b) fun v7=>
 mv (some v7) fun v4=>
 setF 4 v4 tm fun tm1=>
 M.pure tm1
theorem Pr_:RegEq 81 23 HP Kz AE_:=⟨by kernel_rfl,fun _ _ _ _ _ _ _ _ _=>by kernel_rfl⟩
def RQ (E:Env)(call round:Ag)(tm:T Value):M (T Value):=
 mv (T.get tm 4) fun v8=>
 M.bind (oS (some v8) fun a=>oS (some (.int .i64 0)) fun b=>Cl.get (aBin E .lss 3 (.tmp 8) (.const (.int .i64 0))) a b) fun v9=>
 mv (some v9) fun v10=>
 M.bind (M.chk (isK v10) (M.if (isB v10 false) (oS (T.get tm 0) fun a=>M.pure a) (M.pure undef))) fun v11=>
 M.bind (M.chk (isK v10) (M.if (isB v10 false) (oS (T.get tm 4) fun a=>M.pure a) (M.pure undef))) fun v12=>
 M.bind (M.chk (isK v10) (M.if (isB v10 false) (M.on (some v11) fun a=>M.on (some none) fun b=>M.on (onO (some v12) fun v=>some (some v)) fun c=>BW E 22 a b c) (M.pure undef))) fun v13=>
 M.bind (M.chk (isK v10) (M.if (isB v10 false) (M.on (some (.func (.func 64) #[] #[])) fun f=>M.on (seqO [(some v13)]) fun l=>Bh call round f l) (M.pure undef))) fun v14=>
 M.bind (M.chk (isK v10) (M.if (isB v10 false) (oS (T.get tm 0) fun a=>M.pure a) (M.pure undef))) fun v15=>
 M.bind (M.chk (isK v10) (M.if (isB v10 false) (M.on (some (.func (.func 116) #[] #[])) fun f=>M.on (seqO [(some v14),(some v15)]) fun l=>Bh call round f l) (M.pure undef))) fun v16=>
 M.bind (M.chk (isK v10) (M.if (isB v10 false) (oS (some v16) fun a=>kUn E.P .not a) (M.pure undef))) fun v17=>
 M.bind (M.on (some v10) fun a=>M.on (some (.bool true)) fun b=>M.on (some v17) fun c=>Bv a b c) fun v18=>
 setF 18 v18 tm fun tm1=>
 M.pure tm1
theorem QA_:RegEq 81 23 HP M5 RQ:=⟨by kernel_rfl,fun _ _ _ _ _ _ _ _ _=>by kernel_rfl⟩
theorem Ti:Bg GU=some 18:=by kernel_rfl
def Sy (E:Env)(call round:Ag)(tm:T Value):M (T Value):=
 mv (some (.slice none 0 0)) fun v2=>
 setF 2 v2 tm fun tm1=>
 mv (some (.int .i64 4)) fun v3=>
 setF 3 v3 tm1 fun tm2=>
 M.pure tm2
theorem Yg:RegEq 81 23 HP NN Sy:=⟨by kernel_rfl,fun _ _ _ _ _ _ _ _ _=>by kernel_rfl⟩
def AU_ (E:Env)(call round:Ag)(tm:T Value):M (T Value):=
 mv (T.get tm 0) fun v19=>
 mv (T.get tm 4) fun v20=>
 M.bind (M.on (some v19) fun a=>M.on (some none) fun b=>M.on (onO (some v20) fun v=>some (some v)) fun c=>BW E 22 a b c) fun v21=>
 M.bind (M.on (some (.func (.func 117) #[] #[])) fun f=>M.on (seqO [(some v21)]) fun l=>Bh call round f l) fun v22=>
 mv (some v22) fun v2=>
 setF 2 v2 tm fun tm1=>
 mv (some (.int .i64 0)) fun v3=>
 setF 3 v3 tm1 fun tm2=>
 M.pure tm2
theorem Aaw_:RegEq 81 23 HP MU AU_:=⟨by kernel_rfl,fun _ _ _ _ _ _ _ _ _=>by kernel_rfl⟩
theorem Cw_: ∃k,R3= .code .ret::k:=⟨R3.tail,by kernel_rfl⟩
theorem WJ_: ∃k,Ty= .code .ret::k:=⟨Ty.tail,by kernel_rfl⟩
def Cj:Nat:=Bw Try.f63
abbrev Kx:Nat:=36
def VX:Code:=Try.f63.body.getD .skip
theorem FQ_:envS.fn.get 63=some Try.f63:=by kernel_rfl
theorem Sr_ {a0:Value}{n:Nat}{s:St}{Q:Value→St→Prop}(h: ∀tm,T.get tm 0=some a0→W (runF envS n ⟨63,36,Cj,tm,[.code VX], .run, .normal,none⟩) (s.cxN cxN) fun p s1=>Q p.1 (s1.cxN s.cx)):W (AJ envS (runF envS n) 63 [a0]) s Q:=
 W.call (by kernel_rfl) (by kernel_rfl) FQ_ (by kernel_rfl) rfl rfl (by simp) (h _ (by kernel_rfl))
theorem Kc_:Try.f63.results.toList=[.tmp 2]:=by kernel_rfl
def RG:List Item:=skim 64 [.code VX]
def NB:List Item:=skim 64 RG.tail
theorem Uh_:skim 64 RG.tail=NB:=by kernel_rfl
def LV:List Item:=skim 64 NB.tail
theorem WN_:skim 64 NB.tail=LV:=by kernel_rfl
def GD:List Item:=skim 64 LV.tail
theorem Wx_:skim 64 LV.tail=GD:=by kernel_rfl
def G8:List Item:=skim 64 GD.tail
theorem Dg_:skim 64 GD.tail=G8:=by kernel_rfl
def N6:List Item:=skim 64 (brT G8)
theorem Gt_:skim 64 (brT G8)=N6:=by kernel_rfl
def JP:List Item:=skim 64 (brF G8)
theorem Ol_:skim 64 (brF G8)=JP:=by kernel_rfl
def NH:List Item:=skim 64 N6.tail
theorem Yk_:skim 64 N6.tail=NH:=by kernel_rfl
def ON:List Item:=skim 64 JP.tail
theorem Op_:skim 64 JP.tail=ON:=by kernel_rfl
def Mr:List Item:=skim 64 NH.tail
theorem AaF_:skim 64 NH.tail=Mr:=by kernel_rfl
def HW:List Item:=skim 64 ON.tail
theorem AfD_:skim 64 ON.tail=HW:=by kernel_rfl
def On:List Item:=skim 64 Mr.tail
theorem ZM_:skim 64 Mr.tail=On:=by kernel_rfl
def Hx:List Item:=skim 64 HW.tail
theorem Wx:skim 64 HW.tail=Hx:=by kernel_rfl
def Ql:List Item:=skim 64 (brF On)
theorem SP_:skim 64 (brF On)=Ql:=by kernel_rfl
def Nr:List Item:=skim 64 (brT Hx)
theorem AeS_:skim 64 (brT Hx)=Nr:=by kernel_rfl
def IY:List Item:=skim 64 (brF Hx)
theorem YB_:skim 64 (brF Hx)=IY:=by kernel_rfl
theorem SS_:skim 64 Ql.tail=GD:=by kernel_rfl
def KZ:List Item:=skim 64 Nr.tail
theorem NI_:skim 64 Nr.tail=KZ:=by kernel_rfl
def Pm:List Item:=skim 64 IY.tail
theorem XE_:skim 64 IY.tail=Pm:=by kernel_rfl
def PL:List Item:=skim 64 KZ.tail
theorem VA_:skim 64 KZ.tail=PL:=by kernel_rfl
theorem Lh_:skim 64 PL.tail=HW:=by kernel_rfl
def Xi (E:Env)(call round:Ag)(tm:T Value):M (T Value):=
 mv (some (.slice none 0 0)) fun v2=>
 setF 2 v2 tm fun tm1=>
 M.pure tm1
theorem Jm_:RegEq 63 36 Cj RG Xi:=⟨by kernel_rfl,fun _ _ _ _ _ _ _ _ _=>by kernel_rfl⟩
def U5 (E:Env)(call round:Ag)(tm:T Value):M (T Value):=
 mv (some (.int .i64 0)) fun v3=>
 setF 3 v3 tm fun tm1=>
 M.pure tm1
theorem AaJ_:RegEq 63 36 Cj NB U5:=⟨by kernel_rfl,fun _ _ _ _ _ _ _ _ _=>by kernel_rfl⟩
def Vc (E:Env)(call round:Ag)(tm:T Value):M (T Value):=
 mv (T.get tm 0) fun v9=>
 setF 9 v9 tm fun tm1=>
 M.bind (oS (seqO [(some v9)]) fun l=>A7 E .len [43] l) fun v10=>
 setF 10 v10 tm1 fun tm2=>
 mv (some (.int .i64 0)) fun v11=>
 setF 11 v11 tm2 fun tm3=>
 M.pure tm3
theorem Qt_:RegEq 63 36 Cj LV Vc:=⟨by kernel_rfl,fun _ _ _ _ _ _ _ _ _=>by kernel_rfl⟩
def OZ (E:Env)(call round:Ag)(tm:T Value):M (T Value):=
 M.bind (oS (T.get tm 11) fun a=>oS (T.get tm 10) fun b=>Cl.get (aBin E .lss 3 (.tmp 11) (.tmp 10)) a b) fun v12=>
 setF 12 v12 tm fun tm1=>
 M.pure tm1
theorem Zg:RegEq 63 36 Cj GD OZ:=⟨by kernel_rfl,fun _ _ _ _ _ _ _ _ _=>by kernel_rfl⟩
theorem XR:Bg G8=some 12:=by kernel_rfl
def YE (E:Env)(call round:Ag)(tm:T Value):M (T Value):=
 M.bind (oS (T.get tm 9) fun a=>oS (T.get tm 11) fun b=>Bo E 43 a b) fun v13=>
 M.bind (oS (some v13) fun a=>AE E 22 a) fun v14=>
 mv (some v14) fun v5=>
 setF 5 v5 tm fun tm1=>
 M.pure tm1
theorem TW_:RegEq 63 36 Cj N6 YE:=⟨by kernel_rfl,fun _ _ _ _ _ _ _ _ _=>by kernel_rfl⟩
def Z0 (E:Env)(call round:Ag)(tm:T Value):M (T Value):=
 mv (T.get tm 3) fun v23=>
 M.bind (M.on (some (.func (.func 106) #[] #[])) fun f=>M.on (seqO [(some (.slice none 0 0)),(some v23)]) fun l=>Bh call round f l) fun v24=>
 mv (some v24) fun v6=>
 setF 6 v6 tm fun tm1=>
 M.pure tm1
theorem Nf_:RegEq 63 36 Cj JP Z0:=⟨by kernel_rfl,fun _ _ _ _ _ _ _ _ _=>by kernel_rfl⟩
def VG (E:Env)(call round:Ag)(tm:T Value):M (T Value):=
 mv (T.get tm 3) fun v15=>
 mv (T.get tm 5) fun v16=>
 M.bind (oS (seqO [(some v16)]) fun l=>A7 E .len [22] l) fun v17=>
 M.bind (oS (some v15) fun a=>oS (some v17) fun b=>Cl.get (aBin E .add 3 (.tmp 15) (.tmp 17)) a b) fun v18=>
 mv (some v18) fun v3=>
 setF 3 v3 tm fun tm1=>
 M.pure tm1
theorem Qi_:RegEq 63 36 Cj NH VG:=⟨by kernel_rfl,fun _ _ _ _ _ _ _ _ _=>by kernel_rfl⟩
def BA_ (E:Env)(call round:Ag)(tm:T Value):M (T Value):=
 mv (T.get tm 0) fun v25=>
 setF 25 v25 tm fun tm1=>
 M.bind (oS (seqO [(some v25)]) fun l=>A7 E .len [43] l) fun v26=>
 setF 26 v26 tm1 fun tm2=>
 mv (some (.int .i64 0)) fun v27=>
 setF 27 v27 tm2 fun tm3=>
 M.pure tm3
theorem Ri_:RegEq 63 36 Cj ON BA_:=⟨by kernel_rfl,fun _ _ _ _ _ _ _ _ _=>by kernel_rfl⟩
def DR_ (E:Env)(call round:Ag)(tm:T Value):M (T Value):=
 mv (T.get tm 3) fun v19=>
 M.bind (oS (some v19) fun a=>oS (some (.int .i64 0)) fun b=>Cl.get (aBin E .lss 3 (.tmp 19) (.const (.int .i64 0))) a b) fun v20=>
 setF 20 v20 tm fun tm1=>
 M.pure tm1
theorem Id_:RegEq 63 36 Cj Mr DR_:=⟨by kernel_rfl,fun _ _ _ _ _ _ _ _ _=>by kernel_rfl⟩
def RR (E:Env)(call round:Ag)(tm:T Value):M (T Value):=
 M.bind (oS (T.get tm 27) fun a=>oS (T.get tm 26) fun b=>Cl.get (aBin E .lss 3 (.tmp 27) (.tmp 26)) a b) fun v28=>
 setF 28 v28 tm fun tm1=>
 M.pure tm1
theorem BC_:RegEq 63 36 Cj HW RR:=⟨by kernel_rfl,fun _ _ _ _ _ _ _ _ _=>by kernel_rfl⟩
theorem Os_:Bg On=some 20:=by kernel_rfl
theorem YL:Bg Hx=some 28:=by kernel_rfl
def FN_ (E:Env)(call round:Ag)(tm:T Value):M (T Value):=
 M.bind (oS (T.get tm 11) fun a=>oS (some (.int .i64 1)) fun b=>Cl.get (aBin E .add 3 (.tmp 11) (.const (.int .i64 1))) a b) fun v22=>
 mv (some v22) fun v11=>
 setF 11 v11 tm fun tm1=>
 M.pure tm1
theorem AeE_:RegEq 63 36 Cj Ql FN_:=⟨by kernel_rfl,fun _ _ _ _ _ _ _ _ _=>by kernel_rfl⟩
def Zo (E:Env)(call round:Ag)(tm:T Value):M (T Value):=
 M.bind (oS (T.get tm 25) fun a=>oS (T.get tm 27) fun b=>Bo E 43 a b) fun v29=>
 M.bind (oS (some v29) fun a=>AE E 22 a) fun v30=>
 mv (some v30) fun v8=>
 setF 8 v8 tm fun tm1=>
 M.pure tm1
theorem Ta_:RegEq 63 36 Cj Nr Zo:=⟨by kernel_rfl,fun _ _ _ _ _ _ _ _ _=>by kernel_rfl⟩
def CC_ (E:Env)(call round:Ag)(tm:T Value):M (T Value):=
 mv (T.get tm 6) fun v35=>
 mv (some v35) fun v2=>
 setF 2 v2 tm fun tm1=>
 M.pure tm1
theorem Aca_:RegEq 63 36 Cj IY CC_:=⟨by kernel_rfl,fun _ _ _ _ _ _ _ _ _=>by kernel_rfl⟩
def Wa (E:Env)(call round:Ag)(tm:T Value):M (T Value):=
 mv (T.get tm 6) fun v31=>
 mv (T.get tm 8) fun v32=>
 M.bind (oS (seqO [(some v31),(some v32)]) fun l=>A7 E .append [22,22] l) fun v33=>
 mv (some v33) fun v6=>
 setF 6 v6 tm fun tm1=>
 M.pure tm1
theorem Sa_:RegEq 63 36 Cj KZ Wa:=⟨by kernel_rfl,fun _ _ _ _ _ _ _ _ _=>by kernel_rfl⟩
theorem AaH_: ∃k,Pm= .code .ret::k:=⟨Pm.tail,by kernel_rfl⟩
def CD_ (E:Env)(call round:Ag)(tm:T Value):M (T Value):=
 M.bind (oS (T.get tm 27) fun a=>oS (some (.int .i64 1)) fun b=>Cl.get (aBin E .add 3 (.tmp 27) (.const (.int .i64 1))) a b) fun v34=>
 mv (some v34) fun v27=>
 setF 27 v27 tm fun tm1=>
 M.pure tm1
theorem Vp_:RegEq 63 36 Cj PL CD_:=⟨by kernel_rfl,fun _ _ _ _ _ _ _ _ _=>by kernel_rfl⟩
def FM:Nat:=Bw Try.f106
def WT:Code:=Try.f106.body.getD .skip
theorem FO_:envS.fn.get 106=some Try.f106:=by kernel_rfl
theorem HU_ {a0 a1:Value}{n:Nat}{s:St}{Q:Value→St→Prop}(h: ∀tm,T.get tm 0=some a0→T.get tm 1=some a1→W (runF envS n ⟨106,27,FM,tm,[.code WT], .run, .normal,none⟩) (s.cxN cxN) fun p s1=>Q p.1 (s1.cxN s.cx)):W (AJ envS (runF envS n) 106 [a0,a1]) s Q:=
 W.call (by kernel_rfl) (by kernel_rfl) FO_ (by kernel_rfl) rfl rfl (by simp) (h _ (by kernel_rfl) (by kernel_rfl))
theorem ZT_:Try.f106.results.toList=[.tmp 4]:=by kernel_rfl
def Pq:List Item:=skim 64 [.code WT]
def NP:List Item:=skim 64 Pq.tail
theorem Qb_:skim 64 Pq.tail=NP:=by kernel_rfl
def LT:List Item:=skim 64 NP.tail
theorem Zm_:skim 64 NP.tail=LT:=by kernel_rfl
def Od:List Item:=skim 64 (brF LT)
theorem Abs_:skim 64 (brF LT)=Od:=by kernel_rfl
def J6:List Item:=skim 64 Od.tail
theorem TT_:skim 64 Od.tail=J6:=by kernel_rfl
def Ix:List Item:=skim 64 J6.tail
theorem IF_:skim 64 J6.tail=Ix:=by kernel_rfl
def Q4:List Item:=skim 64 (brT Ix)
theorem Od_:skim 64 (brT Ix)=Q4:=by kernel_rfl
def Mf:List Item:=skim 64 (brF Ix)
theorem AeZ_:skim 64 Q4.tail=Mf:=by kernel_rfl
def SV:List Item:=skim 64 Mf.tail
theorem AbD_:skim 64 Mf.tail=SV:=by kernel_rfl
def Cy_ (E:Env)(call round:Ag)(tm:T Value):M (T Value):=
 mv (some (.slice none 0 0)) fun v4=>
 setF 4 v4 tm fun tm1=>
 M.pure tm1
theorem MF_:RegEq 106 27 FM Pq Cy_:=⟨by kernel_rfl,fun _ _ _ _ _ _ _ _ _=>by kernel_rfl⟩
def FI_ (E:Env)(call round:Ag)(tm:T Value):M (T Value):=
 mv (T.get tm 1) fun v5=>
 M.bind (oS (some v5) fun a=>oS (some (.int .i64 0)) fun b=>Cl.get (aBin E .lss 3 (.tmp 5) (.const (.int .i64 0))) a b) fun v6=>
 setF 6 v6 tm fun tm1=>
 M.pure tm1
theorem Gu_:RegEq 106 27 FM NP FI_:=⟨by kernel_rfl,fun _ _ _ _ _ _ _ _ _=>by kernel_rfl⟩
theorem Uf_:Bg LT=some 6:=by kernel_rfl
def V5 (E:Env)(call round:Ag)(tm:T Value):M (T Value):=
 mv (T.get tm 1) fun v8=>
 mv (T.get tm 0) fun v9=>
 M.bind (oS (seqO [(some v9)]) fun l=>A7 E .cap [22] l) fun v10=>
 mv (T.get tm 0) fun v11=>
 M.bind (oS (seqO [(some v11)]) fun l=>A7 E .len [22] l) fun v12=>
 M.bind (oS (some v10) fun a=>oS (some v12) fun b=>Cl.get (aBin E .sub 3 (.tmp 10) (.tmp 12)) a b) fun v13=>
 M.bind (oS (some v8) fun a=>oS (some v13) fun b=>Cl.get (aBin E .sub 3 (.tmp 8) (.tmp 13)) a b) fun v14=>
 mv (some v14) fun v1=>
 setF 1 v1 tm fun tm1=>
 M.pure tm1
theorem AaI_:RegEq 106 27 FM Od V5:=⟨by kernel_rfl,fun _ _ _ _ _ _ _ _ _=>by kernel_rfl⟩
def YA (E:Env)(call round:Ag)(tm:T Value):M (T Value):=
 mv (T.get tm 1) fun v15=>
 M.bind (oS (some v15) fun a=>oS (some (.int .i64 0)) fun b=>Cl.get (aBin E .gtr 3 (.tmp 15) (.const (.int .i64 0))) a b) fun v16=>
 setF 16 v16 tm fun tm1=>
 M.pure tm1
theorem JH_:RegEq 106 27 FM J6 YA:=⟨by kernel_rfl,fun _ _ _ _ _ _ _ _ _=>by kernel_rfl⟩
theorem Sv_:Bg Ix=some 16:=by kernel_rfl
def Uq (E:Env)(call round:Ag)(tm:T Value):M (T Value):=
 mv (T.get tm 0) fun v17=>
 mv (T.get tm 0) fun v18=>
 M.bind (oS (seqO [(some v18)]) fun l=>A7 E .cap [22] l) fun v19=>
 M.bind (M.on (some v17) fun a=>M.on (some none) fun b=>M.on (onO (some v19) fun v=>some (some v)) fun c=>BW E 22 a b c) fun v20=>
 mv (T.get tm 1) fun v21=>
 M.bind (oS (seqO [(some v20),(some v21)]) fun l=>A7 E .append [22,3] l) fun v22=>
 mv (T.get tm 0) fun v23=>
 M.bind (oS (seqO [(some v23)]) fun l=>A7 E .len [22] l) fun v24=>
 M.bind (M.on (some v22) fun a=>M.on (some none) fun b=>M.on (onO (some v24) fun v=>some (some v)) fun c=>BW E 22 a b c) fun v25=>
 mv (some v25) fun v0=>
 setF 0 v0 tm fun tm1=>
 M.pure tm1
theorem XF_:RegEq 106 27 FM Q4 Uq:=⟨by kernel_rfl,fun _ _ _ _ _ _ _ _ _=>by kernel_rfl⟩
def AQ_ (E:Env)(call round:Ag)(tm:T Value):M (T Value):=
 mv (T.get tm 0) fun v26=>
 mv (some v26) fun v4=>
 setF 4 v4 tm fun tm1=>
 M.pure tm1
theorem AcS_:RegEq 106 27 FM Mf AQ_:=⟨by kernel_rfl,fun _ _ _ _ _ _ _ _ _=>by kernel_rfl⟩
theorem YK_: ∃k,SV= .code .ret::k:=⟨SV.tail,by kernel_rfl⟩
def De:Nat:=Bw Try.f116
abbrev IR_:Nat:=26
def VM:Code:=Try.f116.body.getD .skip
theorem Lk:envS.fn.get 116=some Try.f116:=by kernel_rfl
theorem LB_ {a0 a1:Value}{n:Nat}{s:St}{Q:Value→St→Prop}(h: ∀tm,T.get tm 0=some a0→T.get tm 1=some a1→W (runF envS n ⟨116,26,De,tm,[.code VM], .run, .normal,none⟩) (s.cxN cxN) fun p s1=>Q p.1 (s1.cxN s.cx)):W (AJ envS (runF envS n) 116 [a0,a1]) s Q:=
 W.call (by kernel_rfl) (by kernel_rfl) Lk (by kernel_rfl) rfl rfl (by simp) (h _ (by kernel_rfl) (by kernel_rfl))
theorem RE:Try.f116.results.toList=[.tmp 4]:=by kernel_rfl
def Tc:List Item:=skim 64 [.code VM]
def Lt:List Item:=skim 64 Tc.tail
theorem Pu_:skim 64 Tc.tail=Lt:=by kernel_rfl
def Ih:List Item:=skim 64 Lt.tail
theorem VO:skim 64 Lt.tail=Ih:=by kernel_rfl
def Kf:List Item:=skim 64 (brT Ih)
theorem VX_:skim 64 (brT Ih)=Kf:=by kernel_rfl
def Mk:List Item:=skim 64 (brF Ih)
theorem Yt_:skim 64 (brF Ih)=Mk:=by kernel_rfl
def QD:List Item:=skim 64 Kf.tail
theorem MT_:skim 64 Kf.tail=QD:=by kernel_rfl
def GR:List Item:=skim 64 Mk.tail
theorem RZ_:skim 64 Mk.tail=GR:=by kernel_rfl
def GY:List Item:=skim 64 GR.tail
theorem FM_:skim 64 GR.tail=GY:=by kernel_rfl
def N9:List Item:=skim 64 (brT GY)
theorem VN_:skim 64 (brT GY)=N9:=by kernel_rfl
def KV:List Item:=skim 64 (brF GY)
theorem IS_:skim 64 (brF GY)=KV:=by kernel_rfl
def J4:List Item:=skim 64 N9.tail
theorem Mt_:skim 64 N9.tail=J4:=by kernel_rfl
def PM:List Item:=skim 64 KV.tail
theorem WI_:skim 64 KV.tail=PM:=by kernel_rfl
def F3:List Item:=skim 64 J4.tail
theorem Ag_:skim 64 J4.tail=F3:=by kernel_rfl
def N1:List Item:=skim 64 (brT F3)
theorem SJ_:skim 64 (brT F3)=N1:=by kernel_rfl
def Qd:List Item:=skim 64 (brF F3)
theorem Ux_:skim 64 (brF F3)=Qd:=by kernel_rfl
def TC:List Item:=skim 64 N1.tail
theorem KF_:skim 64 N1.tail=TC:=by kernel_rfl
theorem Lk_:skim 64 Qd.tail=GR:=by kernel_rfl
def Z1 (E:Env)(call round:Ag)(tm:T Value):M (T Value):=
 mv (some (.bool false)) fun v4=>
 setF 4 v4 tm fun tm1=>
 M.pure tm1
theorem QV_:RegEq 116 26 De Tc Z1:=⟨by kernel_rfl,fun _ _ _ _ _ _ _ _ _=>by kernel_rfl⟩
def Wv (E:Env)(call round:Ag)(tm:T Value):M (T Value):=
 mv (T.get tm 0) fun v6=>
 M.bind (oS (seqO [(some v6)]) fun l=>A7 E .len [22] l) fun v7=>
 mv (T.get tm 1) fun v8=>
 M.bind (oS (seqO [(some v8)]) fun l=>A7 E .len [22] l) fun v9=>
 M.bind (oS (some v7) fun a=>oS (some v9) fun b=>Cl.get (aBin E .neq 3 (.tmp 7) (.tmp 9)) a b) fun v10=>
 setF 10 v10 tm fun tm1=>
 M.pure tm1
theorem Vh_:RegEq 116 26 De Lt Wv:=⟨by kernel_rfl,fun _ _ _ _ _ _ _ _ _=>by kernel_rfl⟩
theorem Ci_:Bg Ih=some 10:=by kernel_rfl
def Cn_ (E:Env)(call round:Ag)(tm:T Value):M (T Value):=
 mv (some (.bool false)) fun v4=>
 setF 4 v4 tm fun tm1=>
 M.pure tm1
theorem Aac_:RegEq 116 26 De Kf Cn_:=⟨by kernel_rfl,fun _ _ _ _ _ _ _ _ _=>by kernel_rfl⟩
def Av_ (E:Env)(call round:Ag)(tm:T Value):M (T Value):=
 mv (T.get tm 0) fun v11=>
 M.bind (oS (seqO [(some v11)]) fun l=>A7 E .len [22] l) fun v12=>
 setF 12 v12 tm fun tm1=>
 mv (some (.int .i64 0)) fun v13=>
 setF 13 v13 tm1 fun tm2=>
 M.pure tm2
theorem AcO_:RegEq 116 26 De Mk Av_:=⟨by kernel_rfl,fun _ _ _ _ _ _ _ _ _=>by kernel_rfl⟩
theorem ZW_: ∃k,QD= .code .ret::k:=⟨QD.tail,by kernel_rfl⟩
def RV (E:Env)(call round:Ag)(tm:T Value):M (T Value):=
 M.bind (oS (T.get tm 13) fun a=>oS (T.get tm 12) fun b=>Cl.get (aBin E .lss 3 (.tmp 13) (.tmp 12)) a b) fun v14=>
 setF 14 v14 tm fun tm1=>
 M.pure tm1
theorem Wo:RegEq 116 26 De GR RV:=⟨by kernel_rfl,fun _ _ _ _ _ _ _ _ _=>by kernel_rfl⟩
theorem CW_:Bg GY=some 14:=by kernel_rfl
def Dy_ (E:Env)(call round:Ag)(tm:T Value):M (T Value):=
 mv (T.get tm 13) fun v15=>
 mv (some v15) fun v5=>
 setF 5 v5 tm fun tm1=>
 M.pure tm1
theorem Uo_:RegEq 116 26 De N9 Dy_:=⟨by kernel_rfl,fun _ _ _ _ _ _ _ _ _=>by kernel_rfl⟩
def CQ_ (E:Env)(call round:Ag)(tm:T Value):M (T Value):=
 mv (some (.bool true)) fun v4=>
 setF 4 v4 tm fun tm1=>
 M.pure tm1
theorem UA_:RegEq 116 26 De KV CQ_:=⟨by kernel_rfl,fun _ _ _ _ _ _ _ _ _=>by kernel_rfl⟩
def BY_ (E:Env)(call round:Ag)(tm:T Value):M ((Rho×T Value)×List OpLog):=
 M.bind (apartO (oS (T.get tm 0) fun a=>M.pure a)) fun p0=>
 M.bind (apartO (oS (T.get tm 5) fun a=>M.pure a)) fun p1=>
 M.bind (apartO (oS (some p0.1) fun a=>oS (some p1.1) fun b=>Bo E 22 a b)) fun p2=>
 M.bind (apartO (oS (some p2.1) fun a=>AE E 5 a)) fun p3=>
 M.bind (apartO (oS (T.get tm 1) fun a=>M.pure a)) fun p4=>
 M.bind (apartO (oS (T.get tm 5) fun a=>M.pure a)) fun p5=>
 M.bind (apartO (oS (some p4.1) fun a=>oS (some p5.1) fun b=>Bo E 22 a b)) fun p6=>
 M.bind (apartO (oS (some p6.1) fun a=>AE E 5 a)) fun p7=>
 M.pure (([p7.1,p6.1,p5.1,p4.1,p3.1,p2.1,p1.1,p0.1],tm),[p7.2,p6.2,p5.2,p4.2,p3.2,p2.2,p1.2,p0.2])
theorem KH_:DrawEq 116 26 De J4 [0,0,3,7,0,0,48,112,255] BY_:=⟨by kernel_rfl,by kernel_rfl,fun _ _ _ _ _ _ _ _ _=>by kernel_rfl⟩
theorem Tn_ (E:Env)(call round:Ag)(x16 x17 x18 x19 x20 x21 x22 x23:Value)(tm:T Value)(s:St):BP call round (Ct E De 26 (hdC J4)) [x23,x22,x21,x20,x19,x18,x17,x16] tm s=(M.bind (oS (some x19) fun a=>oS (some x23) fun b=>Cl.get (aBin E .neq 5 (.tmp 19) (.tmp 23)) a b) fun v24=>setT 24 v24 tm fun tm1=>M.pure tm1) s:=by kernel_rfl
theorem AeV_: ∃k,PM= .code .ret::k:=⟨PM.tail,by kernel_rfl⟩
theorem Wz:Bg F3=some 24:=by kernel_rfl
def ZI (E:Env)(call round:Ag)(tm:T Value):M (T Value):=
 mv (some (.bool false)) fun v4=>
 setF 4 v4 tm fun tm1=>
 M.pure tm1
theorem XH_:RegEq 116 26 De N1 ZI:=⟨by kernel_rfl,fun _ _ _ _ _ _ _ _ _=>by kernel_rfl⟩
def Bl_ (E:Env)(call round:Ag)(tm:T Value):M (T Value):=
 M.bind (oS (T.get tm 13) fun a=>oS (some (.int .i64 1)) fun b=>Cl.get (aBin E .add 3 (.tmp 13) (.const (.int .i64 1))) a b) fun v25=>
 mv (some v25) fun v13=>
 setF 13 v13 tm fun tm1=>
 M.pure tm1
theorem Aeh_:RegEq 116 26 De Qd Bl_:=⟨by kernel_rfl,fun _ _ _ _ _ _ _ _ _=>by kernel_rfl⟩
theorem Kq_: ∃k,TC= .code .ret::k:=⟨TC.tail,by kernel_rfl⟩
def OT:Nat:=Bw Try.f117
def EW_:Code:=Try.f117.body.getD .skip
theorem Sb:envS.fn.get 117=some Try.f117:=by kernel_rfl
theorem Ml_ {a0:Value}{n:Nat}{s:St}{Q:Value→St→Prop}(h: ∀tm,T.get tm 0=some a0→W (runF envS n ⟨117,8,OT,tm,[.code EW_], .run, .normal,none⟩) (s.cxN cxN) fun p s1=>Q p.1 (s1.cxN s.cx)):W (AJ envS (runF envS n) 117 [a0]) s Q:=
 W.call (by kernel_rfl) (by kernel_rfl) Sb (by kernel_rfl) rfl rfl (by simp) (h _ (by kernel_rfl))
theorem Eq_:Try.f117.results.toList=[.tmp 2]:=by kernel_rfl
def PR:List Item:=skim 64 [.code EW_]
def MF:List Item:=skim 64 PR.tail
theorem OF_:skim 64 PR.tail=MF:=by kernel_rfl
def Nn:List Item:=skim 64 MF.tail
theorem Up_:skim 64 MF.tail=Nn:=by kernel_rfl
def KS:List Item:=skim 64 (brF Nn)
theorem Le_:skim 64 (brF Nn)=KS:=by kernel_rfl
def PQ:List Item:=skim 64 KS.tail
theorem CR_:skim 64 KS.tail=PQ:=by kernel_rfl
def VY (E:Env)(call round:Ag)(tm:T Value):M (T Value):=
 mv (some (.slice none 0 0)) fun v2=>
 setF 2 v2 tm fun tm1=>
 M.pure tm1
theorem Ld_:RegEq 117 8 OT PR VY:=⟨by kernel_rfl,fun _ _ _ _ _ _ _ _ _=>by kernel_rfl⟩
def YY (E:Env)(call round:Ag)(tm:T Value):M (T Value):=
 mv (T.get tm 0) fun v3=>
 M.bind (oS (some v3) fun a=>oS (some (.slice none 0 0)) fun b=>Cl.get (aBin E .eql 22 (.tmp 3) (.const (.slice none 0 0))) a b) fun v4=>
 setF 4 v4 tm fun tm1=>
 M.pure tm1
theorem AfF_:RegEq 117 8 OT MF YY:=⟨by kernel_rfl,fun _ _ _ _ _ _ _ _ _=>by kernel_rfl⟩
theorem ZG_:Bg Nn=some 4:=by kernel_rfl
def UT (E:Env)(call round:Ag)(tm:T Value):M (T Value):=
 M.bind (oS (seqP []) fun ps=>B7 E 22 0 ps) fun v5=>
 mv (T.get tm 0) fun v6=>
 M.bind (oS (seqO [(some v5),(some v6)]) fun l=>A7 E .append [22,22] l) fun v7=>
 mv (some v7) fun v2=>
 setF 2 v2 tm fun tm1=>
 M.pure tm1
theorem Xa_:RegEq 117 8 OT KS UT:=⟨by kernel_rfl,fun _ _ _ _ _ _ _ _ _=>by kernel_rfl⟩
theorem Dw_: ∃k,PQ= .code .ret::k:=⟨PQ.tail,by kernel_rfl⟩
section
variable {s:St}
def Bn (s:St)(v:Value)(l:List Nat):Prop:= ∃b o c,v= .slice (some ⟨b,o,none⟩) l.length c∧l.length≤c%capU∧Cq c 1=true∧Row s b o (u8l l)
theorem Bn.bs {v:Value}{l:List Nat}(h:Bn s v l):Bs s v l:= .inr h
theorem Bn.ext {F G:Nat→Prop}{s s':St}{v:Value}{l:List Nat}(h:Bn s v l)(e:Ext F G s s')(hG: ∀x,BsF v x→ ¬G x):Bn s' v l:=by
 rcases h.bs.ext e hG with⟨rfl,_⟩|h'
 ·obtain⟨_,_,_,e,_⟩:=h;cases e
 ·exact h'
theorem Bn.ext0 {F:Nat→Prop}{s s':St}{v:Value}{l:List Nat}(h:Bn s v l)(e:Ext F Non s s'):Bn s' v l:=h.ext e fun _ _=>id
def Byt (l:List Nat):Prop:= ∀x∈l,x<256
theorem S8: ∀{l:List Nat},Byt l→u8s (u8l l)=some l
 |[],_=>rfl
 |n::l,h=>by
  have e:=S8 (l:=l) fun x hx=>h x (by simp[hx])
  show(match Value.int .u8 (.ofNat n),u8s (u8l l)with| .int .u8 (.ofNat n),some ns=>bif Nat.blt n 256 then some (n::ns)else none|_,_=>none)=_
  rw[e]
  simp -implicitDefEqProofs only[Cb (h n (by simp)),cond_true]
theorem W.rdB {b o:Nat}{l:List Nat}{Q:List Value→St→Prop}(h:Row s b o (u8l l))(q: ∀s1,s1.mem=s.mem→s1.next=s.next→Ext (In b o l.length) Non s s1→Q (u8l l) s1):W (Am.rdL l.length ⟨b,o,none⟩) s Q:=by
 have hl:l.length=(u8l l).length:=(By l).symm
 rw[hl]
 refine W.rdL h fun s1 e1 e2 e3=>q s1 e1 e2 ?_
 rw[By]at e3
 exact e3
theorem W.more {sum:Nat}{v:Value}{l:List Nat}{Q:Value→St→Prop}(h:Bn s v l)(hl:Byt l)(hz:l.length≤4611686018427387904)(hs:sum<4294967296)
  (q: ∀s1,s1.mem=s.mem→s1.next=s.next→Ext (BsF v) Non s s1→Q (.int .u32 (CW sum l:Nat)) s1):W (DQ [.int .u32 (sum:Nat),v]) s Q:=by
 obtain⟨b,o,c,rfl,h1,h2,h3⟩:=h
 refine W.chk (by rw[Cb hs];simpa using hz) (W.bind (W.rdB h3 fun s1 e1 e2 e3=>W.on (S8 hl) ?_))
 rw[Lv]
 exact W.pure (q s1 e1 e2 e3)
end
theorem Cg_ {n:Nat}{s:St}{v:Value}{l:List Nat}{Q:Value→St→Prop}(hn:10≤n)(h:Bn s v l)(hl:Byt l)(hz:l.length≤4611686018427387904)
  (q: ∀s1,s1.mem=s.mem→s1.next=s.next→Ext (BsF v) Non s s1→Q (.int .u32 (CW 0 l:Nat)) s1):W (AJ envS (runF envS n) 105 [v]) s Q:=by
 refine GK_ fun tm h0=> ?_
 refine Wt_.w rfl (by omega) ?_
 simp -implicitDefEqProofs only[Zq,Aa,W_mv,Ab]
 refine Aeu_.w OB_ (by omega) ?_
 simp -implicitDefEqProofs only[Vy,Ac,W_on,Aa,W_mv,Ab,T.get_set,Af,Ae,Ad,Ai,reduceIte,reduceCtorEq, ↓reduceIte,h0]
 refine W.orc (m:=DQ) (by kernel_rfl) ?_
 change W (DQ [.int .u32 ((0:Nat):Int),v]) _ _
 refine W.more (s:=s.cxN cxN) h hl hz (by decide) fun s1 e1 e2 e3=> ?_
 refine W.end' (rs:=[2]) (vs:=[.int .u32 (CW 0 l:Nat)]) AdD_ (.inl Mq_) (by omega) DF_ Aci_ e3.cx (by simp[T.get_set]) ?_
 refine q _ e1 e2 ⟨e3.nxt,e3.lim,rfl,e3.mem,e3.rd,e3.wr⟩
theorem BD:slN envS 22=some 1:=by kernel_rfl
theorem K8:slN envS 43=some 1:=by kernel_rfl
theorem EN:elT envS 22=some (1,1,[.int .u8 0]):=by kernel_rfl
theorem KB:appT envS 22 22=some (1,1,false,[.int .u8 0]):=by kernel_rfl
theorem AdA_:appT envS 22 3=some (1,1,true,[.int .u8 0]):=by kernel_rfl
theorem CL:tyS envS 22=some (1,false):=by kernel_rfl
theorem I6:tyS envS 5=some (1,false):=by kernel_rfl
theorem IJ (n:Nat):rep n [Value.int .u8 0]=List.replicate n (Value.int .u8 0):=by
 induction n with
 |zero=>rfl
 |succ n ih=>
  show [Value.int .u8 0]++rep n [Value.int .u8 0]=_
  rw[ih];rfl
structure Room (s s':St)(N:Nat)(v:Value)(b:Nat):Prop where
 val:v= .slice (some ⟨b,0,none⟩) 0 (capU*((b+N*1)*1024+1)+N)
 new:s.next≤b
 own:Ay s' b 0 (List.replicate N (.int .u8 0))
theorem Ho_ {n N:Nat}{s:St}{Q:Value→St→Prop}(hbd:s.lim≤s.next)(hn:20≤n)(hN:0<N)(hN2:N≤1000000)
  (q: ∀s1 v b,Room s s1 N v b→Ext Non Non s s1→Q v s1):W (AJ envS (runF envS n) 106 [.slice none 0 0, .int .i64 (N:Nat)]) s Q:=by
 refine HU_ fun tm h0 h1=> ?_
 refine MF_.w rfl (by omega) ?_
 simp -implicitDefEqProofs only[Cy_,Aa,W_mv,Ab]
 refine Gu_.w Qb_ (by omega) ?_
 simp -implicitDefEqProofs only[FI_,Ac,W_oS,Aa,W_mv,Ab,T.get_set,reduceIte,Nat.reduceEqDiff, ↓reduceIte,AC,h1]
 refine W.cond (v:=false) Zm_ Uf_ (by simp[T.get_set]) (by omega) (fun h=>by cases h) fun _=> ?_
 refine AaI_.w Abs_ (by omega) ?_
 simp -implicitDefEqProofs only[V5,Ac,W_oS,Aa,W_mv,Ab,T.get_set,Af,Ae,Ad,reduceIte,Nat.reduceEqDiff,reduceCtorEq, ↓reduceIte,AL,h0,h1,Zv BD,Cc BD]
 refine JH_.w TT_ (by omega) ?_
 have e1:wrap64 ((N:Int)-wrap64 (((0:Nat):Int)-((0:Nat):Int)))=(N:Nat):=by
  rw[Bq (n:=((0:Nat):Int)-((0:Nat):Int)) (by simp) (by simp),Bq]<;>simp<;>omega
 simp -implicitDefEqProofs only[YA,Ac,W_oS,Aa,W_mv,Ab,T.get_set,reduceIte, ↓reduceIte,AK,e1]
 refine W.cond (v:=true) IF_ Sv_ (by simp[T.get_set,hN]) (by omega) (fun _=> ?_) fun h=>by cases h
 refine XF_.w Od_ (by omega) ?_
 simp -implicitDefEqProofs only[Uq,Ac,W_oS,W_on,Aa,W_mv,Ab,T.get_set,Af,Ae,Ad,reduceIte,Nat.reduceEqDiff,reduceCtorEq, ↓reduceIte,h0,Zv BD,VT_ (lo:=none) (hi:=some (.int .i64 ((0:Nat):Int))) BD rfl rfl,Em]
 refine W.appNil (s:=s.cxN cxN) hbd (n:=N) (l:=rep N [.int .u8 0]) AdA_ (AfR_ (by omega)) hN (by decide) (by decide) (by omega) (by rw[IJ];simp) (by rw[IJ];simp[oneCell]) fun s2 v b hf x2=> ?_
 obtain⟨rfl,hnew,hown,hlen,htok,hlt⟩:=hf
 have hc:=SQ (q:=(b+N*1)*1024+1) (BY (n:=N) (by omega))
 simp -implicitDefEqProofs only[Cc BD,XQ (l:=0) (h:=0) (lo:=none) (hi:=some (.int .i64 ((0:Nat):Int))) BD rfl rfl (Nat.le_refl _) (Nat.zero_le _) (Jl (m:=b+N*1) (BY (n:=N) (by omega)) (by decide)),reduceIte, ↓reduceIte,hc,hN]
 refine AcS_.w AeZ_ (by omega) ?_
 simp -implicitDefEqProofs only[AQ_,Aa,W_mv,Ab,T.get_set,reduceIte, ↓reduceIte]
 refine W.end' (rs:=[4]) (vs:=[.slice (some ⟨b,0,none⟩) 0 (capU*((b+N*1)*1024+1)+N)]) AbD_ (.inl YK_) (by omega) FO_ ZT_ x2.cx (by simp[T.get_set]) ?_
 exact q _ _ b ⟨rfl,hnew,fun i v e=>(hown i v (by rw[IJ];exact e)).same rfl rfl⟩ ⟨x2.nxt,x2.lim,rfl,x2.mem,x2.rd,x2.wr⟩
def tot (l:List (Value×List Nat)):Nat:=(l.map fun p=>p.2.length).sum
theorem AdM_ {l:List (Value×List Nat)}{i:Nat}{p:Value×List Nat}(h:l[i]?=some p):tot (l.take (i+1))=tot (l.take i)+p.2.length:=by
 unfold tot
 rw[List.take_add_one,h]
 simp
theorem Bk_ {l:List (Value×List Nat)}(i:Nat):tot (l.take i)≤tot l:=by
 unfold tot
 have:(l.map fun p=>p.2.length).sum=((l.take i).map fun p=>p.2.length).sum+((l.drop i).map fun p=>p.2.length).sum:=by
  rw[←List.sum_append,←List.map_append,List.take_append_drop]
 omega
def Gd (b o:Nat)(l:List (Value×List Nat)):Nat→Prop:=fun x=>In b o l.length x∨ ∃p∈l,BsF p.1 x
structure Parts (s:St)(b o:Nat)(l:List (Value×List Nat)):Prop where
 row:Row s b o (l.map (·.1))
 bs: ∀p∈l,Bs s p.1 p.2
theorem Parts.same {s s':St}{b o:Nat}{l:List (Value×List Nat)}(h:Parts s b o l)(hm:s'.mem=s.mem)(hn:s'.next=s.next):Parts s' b o l:=
 ⟨fun i v e=>(h.row i v e).same hm hn,fun p hp=>(h.bs p hp).same hm hn⟩
theorem Parts.ext0 {F:Nat→Prop}{s s':St}{b o:Nat}{l:List (Value×List Nat)}(h:Parts s b o l)(e:Ext F Non s s'):Parts s' b o l:=⟨h.row.ext0 e,fun p hp=>(h.bs p hp).ext0 e⟩
section
variable {b o c:Nat}{parts:List (Value×List Nat)}
theorem Parts.get {s:St}(h:Parts s b o parts){i:Nat}(hi:i<parts.length):At s b (o+i*1) parts[i].1∧Bs s parts[i].1 parts[i].2:=by
 refine⟨?_,h.bs _ (List.getElem_mem hi)⟩
 rw[Nat.mul_one]
 exact h.row i _ (by simp[hi])
theorem DK_ {i:Nat}(hi:i<parts.length):tot (parts.take (i+1))=tot (parts.take i)+parts[i].2.length:=AdM_ (List.getElem?_eq_getElem hi)
theorem HX_ (ht:tot parts≤1000000)(hlen:parts.length≤4611686018427387904){F:Nat→Prop}(hF: ∀x,Gd b o parts x→F x){Q:Value×FrameMode→St→Prop}{s0:St}(hb0:s0.lim≤s0.next)(hp:Parts s0 b o parts): ∀(k i n:Nat) (tm:T Value) (s:St) (td:List Item),i+k=parts.length→7*k+7≤n→skim 64 td=GD→Ext F Non s0 s→s.mem=s0.mem→s.next=s0.next→
  T.get tm 0=some (.slice (some ⟨b,o,none⟩) parts.length c)→T.get tm 9=some (.slice (some ⟨b,o,none⟩) parts.length c)→T.get tm 10=some (.int .i64 (parts.length:Nat))→T.get tm 11=some (.int .i64 (i:Nat))→T.get tm 3=some (.int .i64 (tot (parts.take i):Nat))→
  (∀n' tm' s1 td',n≤n'+7*k+2→skim 64 td'=JP→Ext F Non s0 s1→s1.mem=s0.mem→s1.next=s0.next→T.get tm' 0=some (.slice (some ⟨b,o,none⟩) parts.length c)→T.get tm' 3=some (.int .i64 (tot parts:Nat))→W (runF envS n' ⟨63,Kx,Cj,tm',td', .run, .normal,none⟩) s1 Q)→
  W (runF envS n ⟨63,Kx,Cj,tm,td, .run, .normal,none⟩) s Q:=by
 intro k
 induction k with
 |zero=>
  intro i n tm s td hi hn hT hx hm hnx h0 h9 h10 h11 h3 q
  refine Zg.w hT (by omega) ?_
  simp -implicitDefEqProofs only[OZ,Ac,W_oS,Aa,Ab,AC,h10,h11]
  refine W.cond (v:=false) Dg_ XR (by simp[T.get_set];omega) (by omega) (fun h=>by cases h) fun _=> ?_
  have e:tot (parts.take i)=tot parts:=by rw[show i=parts.length by omega,List.take_length]
  rw[e]at h3
  exact q _ _ _ _ (by omega) Ol_ hx hm hnx (by simp[T.get_set,h0]) (by simp[T.get_set,h3])
 |succ k ih=>
  intro i n tm s td hi hn hT hx hm hnx h0 h9 h10 h11 h3 q
  have hil:i<parts.length:=by omega
  obtain⟨g1,g2⟩:=hp.get hil
  have hlt:=DK_ hil
  have htl:=Bk_ (l:=parts) (i+1)
  refine Zg.w hT (by omega) ?_
  simp -implicitDefEqProofs only[OZ,Ac,W_oS,Aa,Ab,AC,h10,h11]
  refine W.cond (v:=true) Dg_ XR (by simp[T.get_set];omega) (by omega) (fun _=> ?_) fun h=>by cases h
  refine TW_.w Gt_ (by omega) ?_
  simp -implicitDefEqProofs only[YE,Ac,W_oS,Aa,W_mv,Ab,T.get_set,reduceIte,Nat.reduceEqDiff, ↓reduceIte,h9,h11,BC K8 hil]
  refine W.load1 CL (g1.same hm hnx) ?_
  refine Qi_.w Yk_ (by omega) ?_
  have ew:wrap64 ((tot (parts.take i):Nat)+(parts[i].2.length:Nat):Int)=(tot (parts.take (i+1)):Nat):=by
   rw[Bq (by omega) (by omega),hlt];simp
  have ei:wrap64 ((i:Nat)+1:Int)=((i+1:Nat):Int):=by
   have:parts.length≤4611686018427387904:=hlen
   rw[Bq (by omega) (by omega)];simp
  have hx1:Ext F Non s0 (s.rdN (b+(o+i*1))):=hx.trans (Ext.rdN (F:=F) s _ fun _=>hF _ (.inl ⟨by omega,by omega⟩)) hb0 (fun _ _ h=>h) fun _ _ h=>h
  simp -implicitDefEqProofs only[VG,Ac,W_oS,Aa,W_mv,Ab,T.get_set,Af,Ae,Ad,reduceIte,Nat.reduceEqDiff, ↓reduceIte,AD,h3,Bs.len (s:=s.rdN (b+(o+i*1))) (g2.same hm hnx) BD,ew]
  refine Id_.w AaF_ (by omega) ?_
  simp -implicitDefEqProofs only[DR_,Ac,W_oS,Aa,W_mv,Ab,T.get_set,reduceIte, ↓reduceIte,AC]
  refine W.cond (v:=false) ZM_ Os_ (by simp[T.get_set]) (by omega) (fun h=>by cases h) fun _=> ?_
  refine AeE_.w SP_ (by omega) ?_
  simp -implicitDefEqProofs only[FN_,Ac,W_oS,Aa,W_mv,Ab,T.get_set,reduceIte,Nat.reduceEqDiff, ↓reduceIte,AD,h11,ei]
  exact ih (i+1) _ _ _ _ (by omega) (by omega) SS_ hx1 hm hnx (by simp[T.get_set,h0]) (by simp[T.get_set,h9]) (by simp[T.get_set,h10]) (by simp[T.get_set]) (by simp[T.get_set]) fun n' tm' s1 td' e=>q n' tm' s1 td' (by omega)
end
section
variable {b o c:Nat}{parts:List (Value×List Nat)}
def fl (l:List (Value×List Nat)):List Nat:=(l.map (·.2)).flatten
theorem Mo (l:List (Value×List Nat)):(fl l).length=tot l:=by
 unfold fl tot
 rw[List.length_flatten,List.map_map]
 rfl
theorem Ru_ {l:List (Value×List Nat)}{i:Nat}(h:i<l.length):fl (l.take (i+1))=fl (l.take i)++l[i].2:=by
 unfold fl
 rw[List.take_add_one,List.getElem?_eq_getElem h,List.map_append,List.flatten_append]
 simp
theorem Aap_ (ht:tot parts≤1000000)(hlen:parts.length≤4611686018427387904){F:Nat→Prop}(hF: ∀x,Gd b o parts x→F x){Q:Value×FrameMode→St→Prop}{s0:St}(hb0:s0.lim≤s0.next)(hp:Parts s0 b o parts){nb cc:Nat}(hnb:s0.next≤nb)(hcc:cc%capU=tot parts): ∀(k i n:Nat) (tm:T Value) (s:St) (td:List Item),i+k=parts.length→6*k+6≤n→skim 64 td=HW→Ext F Non s0 s→Bk s nb 0 (tot parts)→Ay s nb 0 (u8l (fl (parts.take i)))→
  T.get tm 25=some (.slice (some ⟨b,o,none⟩) parts.length c)→T.get tm 26=some (.int .i64 (parts.length:Nat))→T.get tm 27=some (.int .i64 (i:Nat))→T.get tm 6=some (.slice (some ⟨nb,0,none⟩) (tot (parts.take i)) cc)→
  (∀n' tm' s1 td',n≤n'+6*k+2→skim 64 td'=IY→Ext F Non s0 s1→Ay s1 nb 0 (u8l (fl parts))→T.get tm' 6=some (.slice (some ⟨nb,0,none⟩) (tot parts) cc)→W (runF envS n' ⟨63,Kx,Cj,tm',td', .run, .normal,none⟩) s1 Q)→
  W (runF envS n ⟨63,Kx,Cj,tm,td, .run, .normal,none⟩) s Q:=by
 intro k
 induction k with
 |zero=>
  intro i n tm s td hi hn hT hx hown hrow h25 h26 h27 h6 q
  refine BC_.w hT (by omega) ?_
  simp -implicitDefEqProofs only[RR,Ac,W_oS,Aa,Ab,AC,h26,h27]
  refine W.cond (v:=false) Wx YL (by simp[T.get_set];omega) (by omega) (fun h=>by cases h) fun _=> ?_
  have e:parts.take i=parts:=by rw[show i=parts.length by omega,List.take_length]
  rw[e]at h6 hrow
  exact q _ _ _ _ (by omega) YB_ hx hrow (by simp[T.get_set,h6])
 |succ k ih=>
  intro i n tm s td hi hn hT hx hown hrow h25 h26 h27 h6 q
  have hil:i<parts.length:=by omega
  obtain⟨g1,g2⟩:=(hp.ext0 hx).get hil
  have hlt:=DK_ hil
  have htl:=Bk_ (l:=parts) (i+1)
  refine BC_.w hT (by omega) ?_
  simp -implicitDefEqProofs only[RR,Ac,W_oS,Aa,Ab,AC,h26,h27]
  refine W.cond (v:=true) Wx YL (by simp[T.get_set];omega) (by omega) (fun _=> ?_) fun h=>by cases h
  refine Ta_.w AeS_ (by omega) ?_
  simp -implicitDefEqProofs only[Zo,Ac,W_oS,Aa,W_mv,Ab,T.get_set,reduceIte,Nat.reduceEqDiff, ↓reduceIte,h25,h27,BC K8 hil]
  refine W.load1 CL g1 ?_
  have hx1:Ext F Non s0 (s.rdN (b+(o+i*1))):=hx.trans (Ext.rdN (F:=F) s _ fun _=>hF _ (.inl ⟨by omega,by omega⟩)) hb0 (fun _ _ h=>h) fun _ _ h=>h
  refine Sa_.w NI_ (by omega) ?_
  simp -implicitDefEqProofs only[Wa,Ac,W_oS,Aa,W_mv,Ab,T.get_set,Af,Ae,Ad,reduceIte,Nat.reduceEqDiff, ↓reduceIte,h6,Em]
  refine W.appIn (s:=s.rdN (b+(o+i*1))) KB (g2.same (s':=s.rdN (b+(o+i*1))) rfl rfl).src.g (by rw[hcc];omega) (by rw[By,Nat.mul_one]) (CE _) (fun j hj=> ?_) fun s2 n2 x2 r2=> ?_
  ·obtain⟨u,hu⟩:=hown (tot (parts.take i)+j) (by omega)
   exact⟨u,by rw[show 0+tot (parts.take i)*1+j=0+(tot (parts.take i)+j) by omega];exact hu⟩
  have ei:wrap64 ((i:Nat)+1:Int)=((i+1:Nat):Int):=by
   rw[Bq (by omega) (by omega)];simp
  have hx2:Ext F Non s0 s2:=hx1.step x2 hb0 (fun l hl h=>by
   rcases h with h|h
   ·exact hF _ (.inr ⟨_,List.getElem_mem hil,h⟩)
   ·exact absurd h.1 (by omega)) fun l h=>by have:=h.1;omega
  have el:parts[i].2.length*1=(u8l parts[i].2).length:=by rw[By,Nat.mul_one]
  rw[el]at x2
  have hown2:Bk s2 nb 0 (tot parts):=Bk.ext (s:=s.rdN (b+(o+i*1))) (fun j hj=>let ⟨u,hu⟩:=hown j hj;⟨u,hu.same rfl rfl⟩) x2 r2
  have hrow2:Ay s2 nb 0 (u8l (fl (parts.take (i+1)))):=by
   rw[Ru_ hil]
   unfold u8l
   rw[List.map_append]
   refine Ay.append (Ay.ext (s:=s.rdN (b+(o+i*1))) (fun j v e=>(hrow j v e).same rfl rfl) x2 fun j hj=> ?_) ?_
   ·rw[By,Mo]at hj
    intro h
    have:=h.1
    omega
   ·rw[By,Mo]
    rw[Nat.mul_one]at r2
    exact r2
  refine Vp_.w VA_ (by omega) ?_
  simp -implicitDefEqProofs only[CD_,Ac,W_oS,Aa,W_mv,Ab,T.get_set,reduceIte,Nat.reduceEqDiff, ↓reduceIte,AD,h27,ei]
  exact ih (i+1) _ _ _ _ (by omega) (by omega) Lh_ hx2 hown2 hrow2 (by simp[T.get_set,h25]) (by simp[T.get_set,h26]) (by simp[T.get_set]) (by simp[T.get_set,hlt]) fun n' tm' s1 td' e=>q n' tm' s1 td' (by omega)
end
structure New (s s':St)(v:Value)(l:List Nat):Prop where
 bn:Bn s' v l
 new: ∀x,BsF v x→s.next≤x
theorem Ext.cx' {F G:Nat→Prop}{s s1:St}{c:Ctx}(x:Ext F G (s.cxN c) s1):Ext F G s (s1.cxN s.cx):=⟨x.nxt,x.lim,rfl,x.mem,x.rd,x.wr⟩
theorem Bn.same {s s':St}{v:Value}{l:List Nat}(h:Bn s v l)(hm:s'.mem=s.mem)(hn:s'.next=s.next):Bn s' v l:=by
 obtain⟨b,o,c,h0,h1,h2,h3⟩:=h
 exact⟨b,o,c,h0,h1,h2,fun i v e=>(h3 i v e).same hm hn⟩
theorem NH_ {n:Nat}{s:St}{b o c:Nat}{parts:List (Value×List Nat)}{Q:Value→St→Prop}(hbd:s.lim≤s.next)(hp:Parts s b o parts)(h0:0<tot parts)(ht:tot parts≤1000000)(hlen:parts.length≤4611686018427387904)(hn:13*parts.length+60≤n)
  (q: ∀s1 v,Ext (Gd b o parts) Non s s1→New s s1 v (fl parts)→Q v s1):W (AJ envS (runF envS n) 63 [.slice (some ⟨b,o,none⟩) parts.length c]) s Q:=by
 refine Sr_ fun tm hk0=> ?_
 have hpc:Parts (s.cxN cxN) b o parts:=hp.same rfl rfl
 refine Jm_.w rfl (by omega) ?_
 simp -implicitDefEqProofs only[Xi,Aa,W_mv,Ab]
 refine AaJ_.w Uh_ (by omega) ?_
 simp -implicitDefEqProofs only[U5,Aa,W_mv,Ab]
 refine Qt_.w WN_ (by omega) ?_
 simp -implicitDefEqProofs only[Vc,Ac,W_oS,Aa,W_mv,Ab,T.get_set,Af,Ae,Ad,reduceIte,reduceCtorEq, ↓reduceIte,hk0,Cc K8]
 refine HX_ (c:=c) ht hlen (F:=Gd b o parts) (fun _ h=>h) (s0:=s.cxN cxN) hbd hpc parts.length 0 _ _ _ _ (by omega) (by omega) Wx_ (Ext.refl _) rfl rfl (by simp[T.get_set,hk0]) (by simp[T.get_set]) (by simp[T.get_set]) (by simp[T.get_set]) (by simp[T.get_set,tot]) fun n1 tm1 s1 td1 hn1 hT1 hx1 hm1 hnx1 g0 g3=> ?_
 refine Nf_.w hT1 (by omega) ?_
 simp -implicitDefEqProofs only[Z0,Ac,W_on,Aa,W_mv,Ab,Af,Ae,Ad,Ai,g3]
 have hb1:s1.lim≤s1.next:=hx1.bnd hbd
 refine Ho_ hb1 (by omega) h0 ht fun s2 v nb hr x2=> ?_
 obtain⟨rfl,hnew,hown⟩:=hr
 have hx2:Ext (Gd b o parts) Non (s.cxN cxN) s2:=hx1.step x2 hbd (fun _ _ h=>h.elim) fun _ h=>h.elim
 have hnb:s.next≤nb:=by
  have:s1.next=s.next:=hnx1
  omega
 have hcc:=SQ (q:=(nb+tot parts*1)*1024+1) (BY (n:=tot parts) (by omega))
 have hok:=Jl (m:=nb+tot parts*1) (sz:=1) (BY (n:=tot parts) (by omega)) (by decide)
 generalize hC:capU*((nb+tot parts*1)*1024+1)+tot parts=C at *
 refine Ri_.w Op_ (by omega) ?_
 simp -implicitDefEqProofs only[BA_,Ac,W_oS,Aa,W_mv,Ab,T.get_set,Af,Ae,Ad,reduceIte,reduceCtorEq, ↓reduceIte,g0,Cc K8]
 refine Aap_ (c:=c) ht hlen (F:=Gd b o parts) (fun _ h=>h) (s0:=s.cxN cxN) hbd hpc (nb:=nb) (cc:=C) hnb hcc parts.length 0 _ _ _ _ (by omega) (by omega) AfD_ hx2 (by have:=hown.owned;rwa [List.length_replicate]at this) (fun i v e=>by simp[fl]at e) (by simp[T.get_set]) (by simp[T.get_set]) (by simp[T.get_set]) (by simp[T.get_set,tot]) fun n3 tm3 s3 td3 hn3 hT3 hx3 hrow g6=> ?_
 refine Aca_.w hT3 (by omega) ?_
 simp -implicitDefEqProofs only[CC_,Aa,W_mv,Ab,g6]
 refine W.end' (rs:=[2]) (vs:=[.slice (some ⟨nb,0,none⟩) (tot parts) C]) XE_ (.inl AaH_) (by omega) FQ_ Kc_ hx3.cx (by simp[T.get_set]) ?_
 refine q _ _ hx3.cx' ⟨⟨nb,0,C,by rw[Mo];rfl,by rw[Mo,hcc];exact Nat.le_refl _,hok,hrow.row⟩,fun x hx=> ?_⟩
 have:nb+0≤x:=hx.1
 omega
theorem TE_:elT envS 43=some (1,24,[.slice none 0 0]):=by kernel_rfl
theorem TZ:hasT envS 51=true:=by kernel_rfl
theorem JJ:intK envS 5=some .u8:=by kernel_rfl
def le4 (n:Nat):List Nat:=[n%256,n>>>8%256,n>>>16%256,n>>>24%256]
def gput (l:List Nat):List Nat:=l++le4 (CW 0 l)
theorem Byt.le4 (n:Nat):Byt (le4 n):=fun x hx=>by
 simp -implicitDefEqProofs only[Am.le4,List.mem_cons,List.not_mem_nil,or_false]at hx
 omega
theorem Byt.gput {l:List Nat}(h:Byt l):Byt (gput l):=fun x hx=>by
 rcases List.mem_append.1 hx with hx|hx
 ·exact h x hx
 ·exact Byt.le4 _ x hx
theorem Nb_ {n:Nat}{s:St}{v:Value}{l:List Nat}{Q:Value→St→Prop}(hbd:s.lim≤s.next)(hn:120≤n)(h:Bn s v l)(hl:Byt l)(hz:l.length≤900000)
  (q: ∀s1 w,Ext (BsF v) Non s s1→New s s1 w (gput l)→Q w s1):W (AJ envS (runF envS n) 64 [v]) s Q:=by
 refine Np_ fun tm h0=> ?_
 have hc:Bn (s.cxN cxN) v l:=h.same rfl rfl
 refine Or_.w rfl (by omega) ?_
 simp -implicitDefEqProofs only[Bj_,Aa,W_mv,Ab]
 refine AaS_.w Sl_ (by omega) ?_
 simp -implicitDefEqProofs only[BN_,Ac,W_on,Aa,W_mv,Ab,T.get_set,Af,Ae,Ad,Ai,reduceIte,reduceCtorEq, ↓reduceIte,h0]
 refine Cg_ (by omega) hc hl (by omega) fun s1 m1 n1 x1=> ?_
 refine Aae_.w Lm_ (by omega) ?_
 generalize hS:CW 0 l=S
 simp -implicitDefEqProofs only[Xq,Ac,W_oS,W_on,Aa,W_mv,Ab,T.get_set,Af,Ae,Ao,Al,Ad,Ai,reduceIte,reduceCtorEq, ↓reduceIte,h0]
 simp -implicitDefEqProofs only[Fx TZ JJ,wrap_u8,Kl (k:= .u32) (by decide),Bd_ (k:= .u32) (by decide),Zd (k:= .u32) (by decide)]
 have hb1:s1.lim≤s1.next:=x1.bnd hbd
 refine W.buildS hb1 (r:=u8l (le4 S)) EN (by decide) rfl (BY (by decide)) fun s2 n2 x2 r2=> ?_
 have hb2:s2.lim≤s2.next:=x2.bnd hb1
 obtain⟨b,o,c,rfl,hv⟩:=hc
 refine W.buildS hb2 (r:=[.slice (some ⟨b,o,none⟩) l.length c, .slice (some ⟨s1.next,0,none⟩) 4 4]) TE_ (by decide) rfl (BY (by decide)) fun s3 n3 x3 r3=> ?_
 have hb3:s3.lim≤s3.next:=x3.bnd hb2
 have hx1:Ext (BsF (.slice (some ⟨b,o,none⟩) l.length c)) Non (s.cxN cxN) s1:=x1
 have hx2:=hx1.step x2 hbd (fun _ _ h=>h.elim) fun _ h=>h.elim
 have hx3:=hx2.step x3 hbd (fun _ _ h=>h.elim) fun _ h=>h.elim
 have hBv:Bs s3 (.slice (some ⟨b,o,none⟩) l.length c) l:=(Bn.bs ⟨b,o,c,rfl,hv⟩).ext0 hx3
 have hB4:Bs s3 (.slice (some ⟨s1.next,0,none⟩) 4 4) (le4 S):=(Ay.bn r2 (BY (by simp[le4]))).ext0 x3
 have hlt:tot [((.slice (some ⟨b,o,none⟩) l.length c:Value),l),(.slice (some ⟨s1.next,0,none⟩) 4 4,le4 S)]=l.length+4:=by simp[tot,le4]
 refine NH_ (parts:=[(.slice (some ⟨b,o,none⟩) l.length c,l),(.slice (some ⟨s1.next,0,none⟩) 4 4,le4 S)]) hb3 ⟨r3.row,fun p hp=> ?_⟩ (by rw[hlt];omega) (by rw[hlt];omega) (by simp) (by simp;omega) fun s4 w x4 hw=> ?_
 ·rcases List.mem_cons.1 hp with rfl|hp
  ·exact hBv
  ·rcases List.mem_cons.1 hp with rfl|hp
   ·exact hB4
   ·cases hp
 have hx4:=hx3.step x4 hbd (fun x hx h=>by
  have hn1:s.next≤s1.next:=x1.nxt
  have hn2:s1.next≤s2.next:=x2.nxt
  have hxl:x<s.lim:=hx
  rcases h with h|⟨p,hp,h⟩
  ·have:=h.1;omega
  ·rcases List.mem_cons.1 hp with rfl|hp
   ·exact h
   ·rcases List.mem_cons.1 hp with rfl|hp
    ·have:s1.next+0≤x:=h.1
     omega
    ·cases hp) fun _ h=>h.elim
 refine W.end' (rs:=[2]) (vs:=[w]) Zf_ (.inl Aam_) (by omega) ZO UY_ hx4.cx (by simp[T.get_set]) ?_
 refine q _ _ hx4.cx' ⟨?_,fun x hx=> ?_⟩
 ·have:=hw.bn.same (s':=s4.cxN s.cx) rfl rfl
  show Bn (s4.cxN s.cx) w (gput l)
  unfold gput
  rw[hS]
  simpa [fl]using this
 ·have h1:=hw.new x hx
  have h2:s.next≤s3.next:=hx3.nxt
  omega
theorem Bs.at {s:St}{v:Value}{l:List Nat}(h:Bs s v l){i:Nat}(hi:i<l.length): ∃b o c,v= .slice (some ⟨b,o,none⟩) l.length c∧At s b (o+i*1) (u8 l[i])∧(∀x,x=b+(o+i*1)→BsF v x):=by
 rcases h with⟨rfl,rfl⟩|⟨b,o,c,rfl,_,_,h3⟩
 ·simp at hi
 ·refine⟨b,o,c,rfl, ?_,fun x hx=>⟨by omega,by omega⟩⟩
  rw[Nat.mul_one]
  exact h3.at (List.getElem?_eq_getElem hi)
section
variable {va vb:Value}{la lb:List Nat}
theorem Mz_ {F:Nat→Prop}(hFa: ∀x,BsF va x→F x)(hFb: ∀x,BsF vb x→F x){Q:Value×FrameMode→St→Prop}{s0:St}(hb0:s0.lim≤s0.next)(ha:Bs s0 va la)(hb:Bs s0 vb lb)(hlen:la.length=lb.length)(hz:la.length≤4611686018427387904)(hcx:s0.cx= .cx none (some []))(q: ∀s1,Ext F Non s0 s1→s1.mem=s0.mem→s1.next=s0.next→Q (.bool (decide (la=lb)), .run) s1):
  ∀(k i n:Nat) (tm:T Value) (s:St) (td:List Item),i+k=la.length→7*k+20≤n→skim 64 td=GR→Ext F Non s0 s→s.mem=s0.mem→s.next=s0.next→la.take i=lb.take i→
  T.get tm 0=some va→T.get tm 1=some vb→T.get tm 12=some (.int .i64 (la.length:Nat))→T.get tm 13=some (.int .i64 (i:Nat))→
  W (runF envS n ⟨116,IR_,De,tm,td, .run, .normal,none⟩) s Q:=by
 intro k
 induction k with
 |zero=>
  intro i n tm s td hi hn hT hx hm hnx heq h0 h1 h12 h13
  refine Wo.w hT (by omega) ?_
  simp -implicitDefEqProofs only[RV,Ac,W_oS,Aa,Ab,AC,h12,h13]
  refine W.cond (v:=false) FM_ CW_ (by simp[T.get_set];omega) (by omega) (fun h=>by cases h) fun _=> ?_
  refine UA_.w IS_ (by omega) ?_
  simp -implicitDefEqProofs only[CQ_,Aa,W_mv,Ab]
  have e:la=lb:=by
   rw[show i=la.length by omega,List.take_length,hlen,List.take_length]at heq
   exact heq
  refine W.end' (rs:=[4]) (vs:=[.bool true]) WI_ (.inl AeV_) (by omega) Lk RE (hx.cx.trans hcx) (by simp[T.get_set]) ?_
  have:=q s hx hm hnx
  rw[decide_eq_true e]at this
  exact this
 |succ k ih=>
  intro i n tm s td hi hn hT hx hm hnx heq h0 h1 h12 h13
  have hia:i<la.length:=by omega
  have hib:i<lb.length:=by omega
  obtain⟨ba,oa,ca,rfl,ga,fa⟩:=ha.at hia
  obtain⟨bb,ob,cb,rfl,gb,fb⟩:=hb.at hib
  refine Wo.w hT (by omega) ?_
  simp -implicitDefEqProofs only[RV,Ac,W_oS,Aa,Ab,AC,h12,h13]
  refine W.cond (v:=true) FM_ CW_ (by simp[T.get_set];omega) (by omega) (fun _=> ?_) fun h=>by cases h
  refine Uo_.w VN_ (by omega) ?_
  simp -implicitDefEqProofs only[Dy_,Aa,W_mv,Ab,T.get_set,reduceIte,Nat.reduceEqDiff, ↓reduceIte,h13]
  refine KH_.w Mt_ (by omega) ?_
  simp -implicitDefEqProofs only[BY_,T.get_set,Nat.reduceEqDiff, ↓reduceIte,h0,h1,CF,Bm]
  rw[W_dq fun s Q=>BC (s:=s) BD hia Q]
  refine W.dload I6 (ga.same hm hnx) fun rd1 hr1=> ?_
  simp -implicitDefEqProofs only[Bm]
  rw[W_dq fun s Q=>BC (s:=s) BD hib Q]
  refine W.dload I6 (gb.same hm hnx) fun rd2 hr2=> ?_
  rw[Aa]
  refine⟨Dj (by simp) (by simp), ?_⟩
  refine W.cast (Tn_ _ _ _ _ _ _ _ _ _ _ _ _ _) ?_
  simp -implicitDefEqProofs only[Ac,W_oS,Aa,Ap,Uk_]
  generalize hs':(⟨(dSt s.mem s.next).mem,(dSt s.mem s.next).next,s.lim,_,_,s.cx⟩:St)=s'
  have hx':Ext F Non s0 s':=by
   rw[←hs']
   refine hx.trans (Ext.draw (F:=F) (Nat.le_refl _) (fun _ _=>rfl) (by simp) (by
    simp -implicitDefEqProofs only[List.mem_cons,List.not_mem_nil,or_false]
    rintro m (rfl|rfl|rfl|rfl|rfl|rfl|rfl|rfl) x hx _<;>first|(exact hFa _ (fa _ (hr1 _ hx)))|(exact hFb _ (fb _ (hr2 _ hx)))|(cases hx))) hb0 (fun _ _ h=>h) fun _ _ h=>h
  have hm':s'.mem=s0.mem:=by rw[←hs'];exact hm
  have hn':s'.next=s0.next:=by rw[←hs'];exact hnx
  by_cases he:la[i]=lb[i]
  ·refine W.cond (v:=false) Ag_ Wz (by simp[T.get_set,he]) (by omega) (fun h=>by cases h) fun _=> ?_
   refine Aeh_.w Ux_ (by omega) ?_
   have ei:wrap64 ((i:Nat)+1:Int)=((i+1:Nat):Int):=by
    rw[Bq (by omega) (by omega)];simp
   simp -implicitDefEqProofs only[Bl_,Ac,W_oS,Aa,W_mv,Ab,T.get_set,reduceIte,Nat.reduceEqDiff, ↓reduceIte,AD,h13,ei]
   refine ih (i+1) _ _ _ _ (by omega) (by omega) Lk_ hx' hm' hn' ?_ (by simp[T.get_set,h0]) (by simp[T.get_set,h1]) (by simp[T.get_set,h12]) (by simp[T.get_set])
   rw[List.take_add_one,List.take_add_one,heq,List.getElem?_eq_getElem hia,List.getElem?_eq_getElem hib,he]
  ·refine W.cond (v:=true) Ag_ Wz (by simp[T.get_set,he]) (by omega) (fun _=> ?_) fun h=>by cases h
   refine XH_.w SJ_ (by omega) ?_
   simp -implicitDefEqProofs only[ZI,Aa,W_mv,Ab]
   have e:la≠lb:=by
    intro e
    subst e
    exact he rfl
   refine W.end' (rs:=[4]) (vs:=[.bool false]) KF_ (.inl Kq_) (by omega) Lk RE (hx'.cx.trans hcx) (by simp[T.get_set]) ?_
   have:=q s' hx' hm' hn'
   rw[decide_eq_false e]at this
   exact this
theorem AaY_ {n:Nat}{s:St}{Q:Value→St→Prop}(hbd:s.lim≤s.next)(ha:Bs s va la)(hb:Bs s vb lb)(hz:la.length≤4611686018427387904)(hn:7*la.length+40≤n)
  (q: ∀s1,Ext (fun x=>BsF va x∨BsF vb x) Non s s1→s1.mem=s.mem→s1.next=s.next→Q (.bool (decide (la=lb))) s1):W (AJ envS (runF envS n) 116 [va,vb]) s Q:=by
 refine LB_ fun tm h0 h1=> ?_
 have ha':Bs (s.cxN cxN) va la:=ha.same rfl rfl
 have hb':Bs (s.cxN cxN) vb lb:=hb.same rfl rfl
 refine QV_.w rfl (by omega) ?_
 simp -implicitDefEqProofs only[Z1,Aa,W_mv,Ab]
 refine Vh_.w Pu_ (by omega) ?_
 simp -implicitDefEqProofs only[Wv,Ac,W_oS,Aa,W_mv,Ab,T.get_set,Af,Ae,Ad,reduceIte,Nat.reduceEqDiff,reduceCtorEq, ↓reduceIte,AM,h0,h1,ha'.len BD,hb'.len BD]
 by_cases hlen:la.length=lb.length
 ·refine W.cond (v:=false) VO Ci_ (by simp[T.get_set,hlen]) (by omega) (fun h=>by cases h) fun _=> ?_
  refine AcO_.w Yt_ (by omega) ?_
  simp -implicitDefEqProofs only[Av_,Ac,W_oS,Aa,W_mv,Ab,T.get_set,Af,Ae,Ad,reduceIte,reduceCtorEq, ↓reduceIte,h0,ha'.len BD]
  exact Mz_ (s0:=s.cxN cxN) (F:=fun x=>BsF va x∨BsF vb x) (fun _ h=> .inl h) (fun _ h=> .inr h) hbd ha' hb' hlen hz rfl (fun s1 x1 m1 n1=>q _ x1.cx' m1 n1) la.length 0 _ _ _ _ (by omega) (by omega) RZ_ (Ext.refl _) rfl rfl (by simp) (by simp[T.get_set,h0]) (by simp[T.get_set,h1]) (by simp[T.get_set]) (by simp[T.get_set])
 ·refine W.cond (v:=true) VO Ci_ (by simp[T.get_set];omega) (by omega) (fun _=> ?_) fun h=>by cases h
  refine Aac_.w VX_ (by omega) ?_
  simp -implicitDefEqProofs only[Cn_,Aa,W_mv,Ab]
  have e:la≠lb:=fun e=>hlen (by rw[e])
  refine W.end' (rs:=[4]) (vs:=[.bool false]) MT_ (.inl ZW_) (by omega) Lk RE rfl (by simp[T.get_set]) ?_
  have:=q _ (Ext.refl s) rfl rfl
  rw[decide_eq_false e]at this
  exact this
end
theorem Fresh1.toNew {s s':St}{v:Value}{b:Nat}{l:List Nat}(h:Fresh1 s s' 1 l.length (u8l l) v b)(hl:l.length<capU):New s s' v l:=by
 obtain⟨rfl,hnew,hown,_,_,_⟩:=h
 refine⟨⟨b,0,_,rfl,by rw[SQ hl];exact Nat.le_refl _,Jl hl (by decide),hown.row⟩,fun x hx=> ?_⟩
 have:b+0≤x:=hx.1
 omega
theorem Jy_ {n:Nat}{s:St}{v:Value}{l:List Nat}{Q:Value→St→Prop}(hbd:s.lim≤s.next)(h:Bn s v l)(hz:l.length≤1000000)(hn:30≤n)
  (q: ∀s1 w,Ext (BsF v) Non s s1→New s s1 w l→Q w s1):W (AJ envS (runF envS n) 117 [v]) s Q:=by
 refine Ml_ fun tm h0=> ?_
 have hc:Bn (s.cxN cxN) v l:=h.same rfl rfl
 refine Ld_.w rfl (by omega) ?_
 simp -implicitDefEqProofs only[VY,Aa,W_mv,Ab]
 refine AfF_.w OF_ (by omega) ?_
 obtain⟨b,o,c,rfl,hv⟩:=hc
 simp -implicitDefEqProofs only[YY,Ac,W_oS,Aa,W_mv,Ab,T.get_set,reduceIte,reduceCtorEq, ↓reduceIte,h0,Df_ BD]
 refine W.cond (v:=false) Up_ ZG_ (by simp[T.get_set]) (by omega) (fun h=>by cases h) fun _=> ?_
 refine Xa_.w Le_ (by omega) ?_
 simp -implicitDefEqProofs only[UT,Ac,W_oS,Aa,W_mv,Ab,T.get_set,Af,Ae,Al,Ad,reduceIte,reduceCtorEq, ↓reduceIte,h0]
 refine W.buildS (s:=s.cxN cxN) hbd (r:=[]) EN (by decide) rfl (BY (by decide)) fun s1 n1 x1 r1=> ?_
 have hb1:s1.lim≤s1.next:=x1.bnd hbd
 have hx1:Ext (BsF (.slice (some ⟨b,o,none⟩) l.length c)) Non (s.cxN cxN) s1:=x1.weak hbd (fun _ _ h=>h.elim) fun _ _ h=>h
 have hv1:Bs s1 (.slice (some ⟨b,o,none⟩) l.length c) l:=(Bn.bs ⟨b,o,c,rfl,hv⟩).ext0 hx1
 rw[Em]
 by_cases hl:0<l.length
 ·refine W.appEmp hb1 KB hv1.src.g hl (by decide) (by decide) (by omega) (by rw[By,Nat.mul_one]) (CE _) fun s2 w nb hf x2=> ?_
  have hx2:=hx1.step x2 hbd (fun _ _ h=>h) fun _ h=>h.elim
  refine W.end' (rs:=[2]) (vs:=[w]) CR_ (.inl Dw_) (by omega) Sb Eq_ hx2.cx (by simp[T.get_set]) ?_
  have hN:=hf.toNew (BY (by omega))
  refine q _ _ hx2.cx' ⟨hN.bn.same rfl rfl,fun x hx=> ?_⟩
  have h1:=hN.new x hx
  have h2:s.next≤s1.next:=hx1.nxt
  omega
 ·have h0l:l=[]:=List.eq_nil_of_length_eq_zero (by omega)
  subst h0l
  refine W.appIn (s:=s1) (n:=0) (len:=0) (c:=0) (l:=[]) KB hv1.src.g (by simp) rfl rfl (fun i hi=>absurd hi (by omega)) fun s2 n2 x2 r2=> ?_
  have hx2:=hx1.step x2 hbd (fun _ _ h=>by
   rcases h with h|h
   ·exact h
   ·have h3:=h.1;have h4:=h.2;omega) fun l h=>by have h3:=h.1;have h4:=h.2;omega
  refine W.end' (rs:=[2]) (vs:=[.slice (some ⟨s.next,0,none⟩) (0+0) 0]) CR_ (.inl Dw_) (by omega) Sb Eq_ hx2.cx (by simp[T.get_set];rfl) ?_
  refine q _ _ hx2.cx' ⟨⟨s.next,0,0,rfl,by simp,NL (by unfold capU;decide),fun i v e=>by simp at e⟩,fun x hx=> ?_⟩
  have h3:s.next+0≤x:=hx.1
  have h4:x<s.next+0+(0+0):=hx.2
  omega
theorem W.cut {E:Env}{t:Nat}{s:St}{v:Value}{l:List Nat}{i j:Nat}{lo hi:Option Value}{Q:Value→St→Prop}(h:Bn s v l)(ht:slN E t=some 1)(hlo:bndV lo 0=some i)(hhi:bndV hi l.length=some j)(hij:i≤j)(hj:j≤l.length)
  (q: ∀v',Bn s v' ((l.take j).drop i)→(∀x,BsF v' x→BsF v x)→Q v' s):W (BW E t v lo hi) s Q:=by
 obtain⟨b,o,c,rfl,h1,h2,h3⟩:=h
 rw[XQ ht hlo hhi hij (by omega) h2]
 obtain⟨o',e1,e2,e3,e4,e5⟩:=Bs.sub' hij hj h1 h2 h3
 rw[e1]
 refine q _ ⟨b,o',c-i,rfl,e2,e3,e4⟩ fun x hx=> ?_
 have hlen:((l.take j).drop i).length=j-i:=by rw[List.length_drop,List.length_take];omega
 have h6:b+o'≤x:=hx.1
 have h7:x<b+o'+((l.take j).drop i).length:=hx.2
 rw[hlen]at h7
 rcases e5 with rfl|e5
 ·exact⟨by omega,by omega⟩
 ·rw[hlen]at e5;omega
def GOk (l:List Nat):Prop:=4≤l.length∧gput (l.take (l.length-4))=l
instance (l:List Nat):Decidable (GOk l):=by unfold GOk;infer_instance
theorem Yw (l:List Nat):(gput l).length=l.length+4:=by simp[gput,le4]
theorem QF_ {n:Nat}{s:St}{v:Value}{l:List Nat}{Q:Value→St→Prop}(hbd:s.lim≤s.next)(h:Bn s v l)(hb:Byt l)(hz:l.length≤900000)(hn:7*l.length+200≤n)
  (q1:GOk l→ ∀s1 w,Ext (BsF v) Non s s1→New s s1 w (l.take (l.length-4))→Q (.tuple #[w, .int .i64 0]) s1) (q2: ¬GOk l→ ∀s1,Ext (BsF v) Non s s1→Q (.tuple #[.slice none 0 0, .int .i64 4]) s1):W (AJ envS (runF envS n) 81 [v]) s Q:=by
 refine UF_ fun tm h0=> ?_
 have hc:Bn (s.cxN cxN) v l:=h.same rfl rfl
 refine He_.w rfl (by omega) ?_
 simp -implicitDefEqProofs only[US,Aa,W_mv,Ab]
 refine Pr_.w Wd_ (by omega) ?_
 simp -implicitDefEqProofs only[AE_,Ac,W_oS,Aa,W_mv,Ab,T.get_set,Af,Ae,Ad,reduceIte,reduceCtorEq, ↓reduceIte,AL,h0,hc.bs.len BD]
 refine QA_.w Ju_ (by omega) ?_
 by_cases h4:4≤l.length
 ·have ek:wrap64 ((l.length:Nat)-4:Int)=((l.length-4:Nat):Int):=by
   rw[Bq (by omega) (by omega)];omega
  have ed:decide (((l.length-4:Nat):Int)<0)=false:=by simp
  simp -implicitDefEqProofs only[RQ,Ac,W_oS,W_on,Aa,W_mv,Ab,T.get_set,Af,Ae,Ad,Ai,reduceIte,Ah,Ak,Aq,Ar,Aj,reduceCtorEq, ↓reduceIte,AC,h0,ek,ed]
  have hcut:(l.take (l.length-4)).drop 0=l.take (l.length-4):=rfl
  refine W.cut hc BD (i:=0) (j:=l.length-4) rfl rfl (Nat.zero_le _) (by omega) fun v1 hv1 hF1=> ?_
  rw[hcut]at hv1
  have hB1:Byt (l.take (l.length-4)):=fun x hx=>hb x (List.mem_of_mem_take hx)
  have hl1:(l.take (l.length-4)).length=l.length-4:=by rw[List.length_take];omega
  refine Nb_ (s:=s.cxN cxN) hbd (by omega) hv1 hB1 (by omega) fun s1 w1 x1 hw1=> ?_
  have hb1:s1.lim≤s1.next:=x1.bnd hbd
  have hx1:Ext (BsF v) Non (s.cxN cxN) s1:=x1.weak hbd (fun x _ hx=>hF1 x hx) fun _ _ h=>h
  refine AaY_ hb1 hw1.bn.bs (hc.ext0 hx1).bs (by rw[Yw];omega) (by rw[Yw];omega) fun s2 x2 m2 n2=> ?_
  have hx2:Ext (BsF v) Non (s.cxN cxN) s2:=hx1.step x2 hbd (fun x hx h=>by
   rcases h with h|h
   ·have h5:s.next≤x:=hw1.new x h
    have h6:x<s.lim:=hx
    omega
   ·exact h) fun _ h=>h.elim
  have hb2:s2.lim≤s2.next:=hx2.bnd hbd
  simp -implicitDefEqProofs only[DO]
  by_cases hg:gput (l.take (l.length-4))=l
  ·refine W.cond (v:=false) PA Ti (by simp[T.get_set,hg]) (by omega) (fun h=>by cases h) fun _=> ?_
   refine Aaw_.w GU_ (by omega) ?_
   simp -implicitDefEqProofs only[AU_,Ac,W_on,Aa,W_mv,Ab,T.get_set,Af,Ae,Ad,Ai,reduceIte,Nat.reduceEqDiff,reduceCtorEq, ↓reduceIte,h0]
   refine W.cut (hc.ext0 hx2) BD (i:=0) (j:=l.length-4) rfl rfl (Nat.zero_le _) (by omega) fun v3 hv3 hF3=> ?_
   rw[hcut]at hv3
   refine Jy_ hb2 hv3 (by omega) (by omega) fun s3 w x3 hw3=> ?_
   have hx3:Ext (BsF v) Non (s.cxN cxN) s3:=hx2.step x3 hbd (fun x _ hx=>hF3 x hx) fun _ h=>h.elim
   refine W.end' (rs:=[2,3]) (vs:=[w, .int .i64 0]) Wk_ (.inl WJ_) (by omega) Li RC hx3.cx (by simp[T.get_set]) ?_
   refine q1 ⟨h4,hg⟩ _ w hx3.cx' ⟨hw3.bn.same rfl rfl,fun x hx=> ?_⟩
   have h5:=hw3.new x hx
   have h6:s.next≤s2.next:=hx2.nxt
   omega
  ·refine W.cond (v:=true) PA Ti (by simp[T.get_set,hg]) (by omega) (fun _=> ?_) fun h=>by cases h
   refine Yg.w DI_ (by omega) ?_
   simp -implicitDefEqProofs only[Sy,Aa,W_mv,Ab]
   refine W.end' (rs:=[2,3]) (vs:=[.slice none 0 0, .int .i64 4]) ED_ (.inl Cw_) (by omega) Li RC hx2.cx (by simp[T.get_set]) ?_
   exact q2 (fun h=>hg h.2) _ hx2.cx'
 ·have ed:decide (wrap64 ((l.length:Nat)-4:Int)<0)=true:=by
   rw[Bq (by omega) (by omega)];simp;omega
  simp -implicitDefEqProofs only[RQ,Ac,W_oS,W_on,Aa,W_mv,Ab,T.get_set,Af,Ae,Ad,reduceIte,Ah,As,Aq,Aw,Aj,reduceCtorEq, ↓reduceIte,AC,h0,ed]
  refine W.cond (v:=true) PA Ti (by simp[T.get_set]) (by omega) (fun _=> ?_) fun h=>by cases h
  refine Yg.w DI_ (by omega) ?_
  simp -implicitDefEqProofs only[Sy,Aa,W_mv,Ab]
  refine W.end' (rs:=[2,3]) (vs:=[.slice none 0 0, .int .i64 4]) ED_ (.inl Cw_) (by omega) Li RC rfl (by simp[T.get_set]) ?_
  exact q2 (fun h=>h4 h.1) _ (Ext.refl s)
def Pp:Nat:=Bw Try.f110
def DB_:Code:=Try.f110.body.getD .skip
theorem EU_:envS.fn.get 110=some Try.f110:=by kernel_rfl
theorem AfN_ {n:Nat}{s:St}{Q:Value→St→Prop}(h: ∀tm,W (runF envS n ⟨110,4,Pp,tm,[.code DB_], .run, .normal,none⟩) (s.cxN cxN) fun p s1=>Q p.1 (s1.cxN s.cx)):W (AJ envS (runF envS n) 110 []) s Q:=
 W.call (by kernel_rfl) (by kernel_rfl) EU_ (by kernel_rfl) rfl rfl (by simp) (h _)
theorem Sc_:Try.f110.results.toList=[.tmp 0]:=by kernel_rfl
def Q8:List Item:=skim 64 [.code DB_]
def LX:List Item:=skim 64 Q8.tail
theorem TU_:skim 64 Q8.tail=LX:=by kernel_rfl
def SJ:List Item:=skim 64 LX.tail
theorem Ka_:skim 64 LX.tail=SJ:=by kernel_rfl
def Fk_ (E:Env)(call round:Ag)(tm:T Value):M (T Value):=
 mv (some (.pointer none)) fun v0=>
 setF 0 v0 tm fun tm1=>
 M.pure tm1
theorem YU_:RegEq 110 4 Pp Q8 Fk_:=⟨by kernel_rfl,fun _ _ _ _ _ _ _ _ _=>by kernel_rfl⟩
def YU (E:Env)(call round:Ag)(tm:T Value):M (T Value):=
 M.bind (M.on (some (.func (.func 133) #[] #[])) fun f=>M.on (seqO []) fun l=>Bh call round f l) fun v1=>
 M.bind (oS (seqP [(0,(some (.bool true))),(1,(some v1))]) fun ps=>Cv E 167 ps) fun v2=>
 M.bind (oS (some v2) fun a=>kBox a) fun v3=>
 mv (some v3) fun v0=>
 setF 0 v0 tm fun tm1=>
 M.pure tm1
theorem RN_:RegEq 110 4 Pp LX YU:=⟨by kernel_rfl,fun _ _ _ _ _ _ _ _ _=>by kernel_rfl⟩
theorem Io_: ∃k,SJ= .code .ret::k:=⟨SJ.tail,by kernel_rfl⟩
def PJ:Nat:=Bw Try.f133
def Ge_:Code:=Try.f133.body.getD .skip
theorem U4:envS.fn.get 133=some Try.f133:=by kernel_rfl
theorem Md_ {n:Nat}{s:St}{Q:Value→St→Prop}(h: ∀tm,W (runF envS n ⟨133,2,PJ,tm,[.code Ge_], .run, .normal,none⟩) (s.cxN cxN) fun p s1=>Q p.1 (s1.cxN s.cx)):W (AJ envS (runF envS n) 133 []) s Q:=
 W.call (by kernel_rfl) (by kernel_rfl) U4 (by kernel_rfl) rfl rfl (by simp) (h _)
theorem Adz_:Try.f133.results.toList=[.cell 0 163]:=by kernel_rfl
def S9:List Item:=skim 64 [.code Ge_]
def OX:List Item:=skim 64 S9.tail
theorem Xg_:skim 64 S9.tail=OX:=by kernel_rfl
def T1:List Item:=skim 64 OX.tail
theorem Zc_:skim 64 OX.tail=T1:=by kernel_rfl
def Ei_ (E:Env)(call round:Ag)(tm:T Value):M (T Value):=
 M.bind (BN E 163) fun v0=>
 setF 0 v0 tm fun tm1=>
 M.pure tm1
theorem Acd_:RegEq 133 2 PJ S9 Ei_:=⟨by kernel_rfl,fun _ _ _ _ _ _ _ _ _=>by kernel_rfl⟩
def Gn_ (E:Env)(call round:Ag)(tm:T Value):M (T Value):=
 M.bind (oS (seqP [(0,(some (.int .u32 1779033703))),(1,(some (.int .u32 3144134277))),(2,(some (.int .u32 1013904242))),(3,(some (.int .u32 2773480762))),(4,(some (.int .u32 1359893119))),(5,(some (.int .u32 2600822924))),(6,(some (.int .u32 528734635))),(7,(some (.int .u32 1541459225)))]) fun ps=>Cv E 163 ps) fun v1=>
 M.bind (oS (T.get tm 0) fun a=>oS (some v1) fun b=>Bt E 163 a b) fun _=>
 M.pure tm
theorem Yh_:RegEq 133 2 PJ OX Gn_:=⟨by kernel_rfl,fun _ _ _ _ _ _ _ _ _=>by kernel_rfl⟩
theorem AcL_: ∃k,T1= .code .ret::k:=⟨T1.tail,by kernel_rfl⟩
def DA:Nat:=Bw Try.f111
abbrev AfO_:Nat:=57
def UC:Code:=Try.f111.body.getD .skip
theorem PD:envS.fn.get 111=some Try.f111:=by kernel_rfl
theorem Nh_ {a0 a1:Value}{n:Nat}{s:St}{Q:Value→St→Prop}(h: ∀tm,T.get tm 0=some a0→T.get tm 1=some a1→W (runF envS n ⟨111,57,DA,tm,[.code UC], .run, .normal,none⟩) (s.cxN cxN) fun p s1=>Q p.1 (s1.cxN s.cx)):W (AJ envS (runF envS n) 111 [a0,a1]) s Q:=
 W.call (by kernel_rfl) (by kernel_rfl) PD (by kernel_rfl) rfl rfl (by simp) (h _ (by kernel_rfl) (by kernel_rfl))
theorem X2:Try.f111.results.toList=[]:=by kernel_rfl
def Rk:List Item:=skim 64 [.code UC]
def KL:List Item:=skim 64 Rk.tail
theorem Aat_:skim 64 Rk.tail=KL:=by kernel_rfl
def Fz:List Item:=skim 64 (brF KL)
theorem LR_:skim 64 (brF KL)=Fz:=by kernel_rfl
def Gx:List Item:=skim 64 Fz.tail
theorem TY:skim 64 Fz.tail=Gx:=by kernel_rfl
def N0:List Item:=skim 64 (brT Gx)
theorem TX_:skim 64 (brT Gx)=N0:=by kernel_rfl
def GB_:List Item:=skim 64 (brF Gx)
theorem Um:skim 64 (brF Gx)=GB_:=by kernel_rfl
def KW:List Item:=skim 64 N0.tail
theorem MX_:skim 64 N0.tail=KW:=by kernel_rfl
def Lx:List Item:=skim 64 KW.tail
theorem Adq_:skim 64 KW.tail=Lx:=by kernel_rfl
def LS:List Item:=skim 64 Lx.tail
theorem Ki_:skim 64 Lx.tail=LS:=by kernel_rfl
def Oa:List Item:=skim 64 LS.tail
theorem UG_:skim 64 LS.tail=Oa:=by kernel_rfl
def Is:List Item:=skim 64 Oa.tail
theorem FD_:skim 64 Oa.tail=Is:=by kernel_rfl
def OF:List Item:=skim 64 (brT Is)
theorem Wi_:skim 64 (brT Is)=OF:=by kernel_rfl
theorem IG_:skim 64 (brF Is)=Fz:=by kernel_rfl
theorem Xd_:skim 64 OF.tail=Fz:=by kernel_rfl
def AN_ (E:Env)(call round:Ag)(tm:T Value):M (T Value):=
 mv (T.get tm 0) fun v6=>
 M.bind (oS (some v6) fun a=>oS (some (.pointer none)) fun b=>Cl.get (aBin E .eql 145 (.tmp 6) (.const (.pointer none))) a b) fun v7=>
 mv (some v7) fun v8=>
 M.bind (M.chk (isK v8) (M.if (isB v8 false) (oS (T.get tm 0) fun a=>M.pure a) (M.pure undef))) fun v9=>
 M.bind (M.chk (isK v8) (M.if (isB v8 false) (oS (some v9) fun a=>kNil a) (M.pure undef))) fun v10=>
 M.bind (M.chk (isK v8) (M.if (isB v8 false) (oS (some v10) fun a=>kFld E 167 a 0) (M.pure undef))) fun v11=>
 M.bind (M.chk (isK v8) (M.if (isB v8 false) (oS (some v11) fun a=>AE E 4 a) (M.pure undef))) fun v12=>
 M.bind (M.chk (isK v8) (M.if (isB v8 false) (oS (some v12) fun a=>kUn E.P .not a) (M.pure undef))) fun v13=>
 M.bind (M.on (some v8) fun a=>M.on (some (.bool true)) fun b=>M.on (some v13) fun c=>Bv a b c) fun v14=>
 setF 14 v14 tm fun tm1=>
 M.pure tm1
theorem PE_:RegEq 111 57 DA Rk AN_:=⟨by kernel_rfl,fun _ _ _ _ _ _ _ _ _=>by kernel_rfl⟩
theorem Qa_:Bg KL=some 14:=by kernel_rfl
def My (E:Env)(call round:Ag)(tm:T Value):M (T Value):=
 mv (T.get tm 1) fun v15=>
 M.bind (oS (seqO [(some v15)]) fun l=>A7 E .len [22] l) fun v16=>
 M.bind (oS (some v16) fun a=>oS (some (.int .i64 0)) fun b=>Cl.get (aBin E .gtr 3 (.tmp 16) (.const (.int .i64 0))) a b) fun v17=>
 setF 17 v17 tm fun tm1=>
 M.pure tm1
theorem Qn:RegEq 111 57 DA Fz My:=⟨by kernel_rfl,fun _ _ _ _ _ _ _ _ _=>by kernel_rfl⟩
theorem P0:Bg Gx=some 17:=by kernel_rfl
def X8 (E:Env)(call round:Ag)(tm:T Value):M (T Value):=
 mv (T.get tm 0) fun v18=>
 M.bind (oS (some v18) fun a=>kNil a) fun v19=>
 M.bind (oS (some v19) fun a=>kFld E 167 a 3) fun v20=>
 M.bind (oS (some v20) fun a=>AE E 3 a) fun v21=>
 M.bind (oS (some v21) fun a=>oS (some (.int .i64 64)) fun b=>Cl.get (aBin E .rem 3 (.tmp 21) (.const (.int .i64 64))) a b) fun v22=>
 mv (some v22) fun v4=>
 setF 4 v4 tm fun tm1=>
 M.pure tm1
theorem Lo_:RegEq 111 57 DA N0 X8:=⟨by kernel_rfl,fun _ _ _ _ _ _ _ _ _=>by kernel_rfl⟩
def ZC (E:Env)(call round:Ag)(tm:T Value):M (T Value):=
 mv (T.get tm 0) fun v23=>
 M.bind (oS (some v23) fun a=>kNil a) fun v24=>
 M.bind (oS (some v24) fun a=>kFld E 167 a 2) fun v25=>
 mv (T.get tm 4) fun v26=>
 M.bind (M.on (some v25) fun a=>M.on (onO (some v26) fun v=>some (some v)) fun b=>M.on (some none) fun c=>BW E 165 a b c) fun v27=>
 mv (T.get tm 1) fun v28=>
 M.bind (oS (seqO [(some v27),(some v28)]) fun l=>A7 E .copy [22,22] l) fun v29=>
 mv (some v29) fun v5=>
 setF 5 v5 tm fun tm1=>
 M.pure tm1
theorem GI_:RegEq 111 57 DA KW ZC:=⟨by kernel_rfl,fun _ _ _ _ _ _ _ _ _=>by kernel_rfl⟩
def WW (E:Env)(call round:Ag)(tm:T Value):M (T Value):=
 mv (T.get tm 1) fun v30=>
 mv (T.get tm 5) fun v31=>
 M.bind (M.on (some v30) fun a=>M.on (onO (some v31) fun v=>some (some v)) fun b=>M.on (some none) fun c=>BW E 22 a b c) fun v32=>
 mv (some v32) fun v1=>
 setF 1 v1 tm fun tm1=>
 M.pure tm1
theorem LX_:RegEq 111 57 DA Lx WW:=⟨by kernel_rfl,fun _ _ _ _ _ _ _ _ _=>by kernel_rfl⟩
def Ut (E:Env)(call round:Ag)(tm:T Value):M (T Value):=
 mv (T.get tm 0) fun v33=>
 M.bind (oS (some v33) fun a=>kNil a) fun v34=>
 M.bind (oS (some v34) fun a=>kFld E 167 a 3) fun v35=>
 M.bind (oS (some v35) fun a=>AE E 3 a) fun v36=>
 mv (T.get tm 5) fun v37=>
 M.bind (oS (some v36) fun a=>oS (some v37) fun b=>Cl.get (aBin E .add 3 (.tmp 36) (.tmp 37)) a b) fun v38=>
 M.bind (oS (some v33) fun a=>kNil a) fun v39=>
 M.bind (oS (some v39) fun a=>kFld E 167 a 3) fun v40=>
 M.bind (oS (some v40) fun a=>oS (some v38) fun b=>Bt E 3 a b) fun _=>
 M.pure tm
theorem NO_:RegEq 111 57 DA LS Ut:=⟨by kernel_rfl,fun _ _ _ _ _ _ _ _ _=>by kernel_rfl⟩
def Fz_ (E:Env)(call round:Ag)(tm:T Value):M (T Value):=
 mv (T.get tm 4) fun v41=>
 mv (T.get tm 5) fun v42=>
 M.bind (oS (some v41) fun a=>oS (some v42) fun b=>Cl.get (aBin E .add 3 (.tmp 41) (.tmp 42)) a b) fun v43=>
 M.bind (oS (some v43) fun a=>oS (some (.int .i64 64)) fun b=>Cl.get (aBin E .eql 3 (.tmp 43) (.const (.int .i64 64))) a b) fun v44=>
 setF 44 v44 tm fun tm1=>
 M.pure tm1
theorem AcT_:RegEq 111 57 DA Oa Fz_:=⟨by kernel_rfl,fun _ _ _ _ _ _ _ _ _=>by kernel_rfl⟩
theorem V8:Bg Is=some 44:=by kernel_rfl
def YF (E:Env)(call round:Ag)(tm:T Value):M ((Rho×T Value)×List OpLog):=
 M.bind (apartO (oS (T.get tm 0) fun a=>M.pure a)) fun p0=>
 M.bind (apartO (oS (T.get tm 0) fun a=>M.pure a)) fun p1=>
 M.bind (apartO (oS (some p1.1) fun a=>kNil a)) fun p2=>
 M.bind (apartO (oS (some p2.1) fun a=>kFld E 167 a 1)) fun p3=>
 M.bind (apartO (oS (some p3.1) fun a=>AE E 163 a)) fun p4=>
 M.bind (apartO (oS (T.get tm 0) fun a=>M.pure a)) fun p5=>
 M.bind (apartO (oS (some p5.1) fun a=>kNil a)) fun p6=>
 M.bind (apartO (oS (some p6.1) fun a=>kFld E 167 a 2)) fun p7=>
 M.bind (apartO (M.on (some p7.1) fun a=>M.on (some none) fun b=>M.on (some none) fun c=>BW E 165 a b c)) fun p8=>
 M.bind (apartO (M.on (some (.func (.func 134) #[] #[])) fun f=>M.on (seqO [(some p4.1),(some p8.1)]) fun l=>Bh call round f l)) fun p9=>
 M.bind (apartO (oS (some p0.1) fun a=>kNil a)) fun p10=>
 M.bind (apartO (oS (some p10.1) fun a=>kFld E 167 a 1)) fun p11=>
 M.pure (([p11.1,p10.1,p9.1,p8.1,p7.1,p6.1,p5.1,p4.1,p3.1,p2.1,p1.1,p0.1],tm),[p11.2,p10.2,p9.2,p8.2,p7.2,p6.2,p5.2,p4.2,p3.2,p2.2,p1.2,p0.2])
theorem Ov_:DrawEq 111 57 DA OF [0,0,2,6,14,0,32,96,224,510,1023,2047,4095] YF:=⟨by kernel_rfl,by kernel_rfl,fun _ _ _ _ _ _ _ _ _=>by kernel_rfl⟩
theorem Pt_ (E:Env)(call round:Ag)(x45 x46 x47 x48 x49 x50 x51 x52 x53 x54 x55 x56:Value)(tm:T Value)(s:St):BP call round (Ct E DA 57 (hdC OF)) [x56,x55,x54,x53,x52,x51,x50,x49,x48,x47,x46,x45] tm s=(M.bind (oS (some x56) fun a=>oS (some x54) fun b=>Bt E 163 a b) fun _=>M.pure tm) s:=by kernel_rfl
def B5:Nat:=Bw Try.f112
abbrev Gt:Nat:=74
def VP:Code:=Try.f112.body.getD .skip
theorem AR_:envS.fn.get 112=some Try.f112:=by kernel_rfl
theorem NQ_ {a0:Value}{n:Nat}{s:St}{Q:Value→St→Prop}(h: ∀tm,T.get tm 0=some a0→W (runF envS n ⟨112,74,B5,tm,[.code VP], .run, .normal,none⟩) (s.cxN cxN) fun p s1=>Q p.1 (s1.cxN s.cx)):W (AJ envS (runF envS n) 112 [a0]) s Q:=
 W.call (by kernel_rfl) (by kernel_rfl) AR_ (by kernel_rfl) rfl rfl (by simp) (h _ (by kernel_rfl))
theorem Is_:Try.f112.results.toList=[.cell 2 101]:=by kernel_rfl
def Qu:List Item:=skim 64 [.code VP]
def OC:List Item:=skim 64 Qu.tail
theorem Pz_:skim 64 Qu.tail=OC:=by kernel_rfl
def Kb:List Item:=skim 64 OC.tail
theorem Vg_:skim 64 OC.tail=Kb:=by kernel_rfl
def Ld:List Item:=skim 64 Kb.tail
theorem AfH_:skim 64 Kb.tail=Ld:=by kernel_rfl
def Kn:List Item:=skim 64 (brF Ld)
theorem Rn_:skim 64 (brF Ld)=Kn:=by kernel_rfl
def Jr:List Item:=skim 64 Kn.tail
theorem AeJ_:skim 64 Kn.tail=Jr:=by kernel_rfl
def Ln:List Item:=skim 64 Jr.tail
theorem LG_:skim 64 Jr.tail=Ln:=by kernel_rfl
def Mv:List Item:=skim 64 Ln.tail
theorem JG_:skim 64 Ln.tail=Mv:=by kernel_rfl
def Ho:List Item:=skim 64 Mv.tail
theorem AaZ_:skim 64 Mv.tail=Ho:=by kernel_rfl
def G3:List Item:=skim 64 Ho.tail
theorem V9:skim 64 Ho.tail=G3:=by kernel_rfl
def LD:List Item:=skim 64 (brT G3)
theorem Zn_:skim 64 (brT G3)=LD:=by kernel_rfl
def Jt:List Item:=skim 64 (brF G3)
theorem Rg_:skim 64 (brF G3)=Jt:=by kernel_rfl
def SP:List Item:=skim 64 LD.tail
theorem KQ_:skim 64 LD.tail=SP:=by kernel_rfl
def IP:List Item:=skim 64 Jt.tail
theorem IH_:skim 64 Jt.tail=IP:=by kernel_rfl
theorem LK_:skim 64 SP.tail=Ho:=by kernel_rfl
def GX:List Item:=skim 64 IP.tail
theorem ZS_:skim 64 IP.tail=GX:=by kernel_rfl
def Gv:List Item:=skim 64 GX.tail
theorem UQ:skim 64 GX.tail=Gv:=by kernel_rfl
def Kk:List Item:=skim 64 (brT Gv)
theorem Jz_:skim 64 (brT Gv)=Kk:=by kernel_rfl
def Jg:List Item:=skim 64 (brF Gv)
theorem PP_:skim 64 (brF Gv)=Jg:=by kernel_rfl
def Lw:List Item:=skim 64 Kk.tail
theorem HH_:skim 64 Kk.tail=Lw:=by kernel_rfl
def PS:List Item:=skim 64 Jg.tail
theorem WZ_:skim 64 Jg.tail=PS:=by kernel_rfl
def TR:List Item:=skim 64 Lw.tail
theorem Aet_:skim 64 Lw.tail=TR:=by kernel_rfl
theorem MR_:skim 64 TR.tail=GX:=by kernel_rfl
def Ae_ (E:Env)(call round:Ag)(tm:T Value):M (T Value):=
 M.bind (BN E 101) fun v2=>
 setF 2 v2 tm fun tm1=>
 M.pure tm1
theorem ON_:RegEq 112 74 B5 Qu Ae_:=⟨by kernel_rfl,fun _ _ _ _ _ _ _ _ _=>by kernel_rfl⟩
def ZQ (E:Env)(call round:Ag)(tm:T Value):M (T Value):=
 M.bind (BN E 101) fun v3=>
 setF 3 v3 tm fun tm1=>
 M.pure tm1
theorem To_:RegEq 112 74 B5 OC ZQ:=⟨by kernel_rfl,fun _ _ _ _ _ _ _ _ _=>by kernel_rfl⟩
def Zx (E:Env)(call round:Ag)(tm:T Value):M (T Value):=
 mv (T.get tm 0) fun v9=>
 M.bind (oS (some v9) fun a=>oS (some (.pointer none)) fun b=>Cl.get (aBin E .eql 145 (.tmp 9) (.const (.pointer none))) a b) fun v10=>
 mv (some v10) fun v11=>
 M.bind (M.chk (isK v11) (M.if (isB v11 false) (oS (T.get tm 0) fun a=>M.pure a) (M.pure undef))) fun v12=>
 M.bind (M.chk (isK v11) (M.if (isB v11 false) (oS (some v12) fun a=>kNil a) (M.pure undef))) fun v13=>
 M.bind (M.chk (isK v11) (M.if (isB v11 false) (oS (some v13) fun a=>kFld E 167 a 0) (M.pure undef))) fun v14=>
 M.bind (M.chk (isK v11) (M.if (isB v11 false) (oS (some v14) fun a=>AE E 4 a) (M.pure undef))) fun v15=>
 M.bind (M.chk (isK v11) (M.if (isB v11 false) (oS (some v15) fun a=>kUn E.P .not a) (M.pure undef))) fun v16=>
 M.bind (M.on (some v11) fun a=>M.on (some (.bool true)) fun b=>M.on (some v16) fun c=>Bv a b c) fun v17=>
 setF 17 v17 tm fun tm1=>
 M.pure tm1
theorem Oc_:RegEq 112 74 B5 Kb Zx:=⟨by kernel_rfl,fun _ _ _ _ _ _ _ _ _=>by kernel_rfl⟩
theorem AeO_:Bg Ld=some 17:=by kernel_rfl
def Au_ (E:Env)(call round:Ag)(tm:T Value):M (T Value):=
 mv (T.get tm 0) fun v19=>
 M.bind (oS (some v19) fun a=>kNil a) fun v20=>
 M.bind (oS (some v20) fun a=>AE E 167 a) fun v21=>
 M.bind (BN E 167) fun v4=>
 setF 4 v4 tm fun tm1=>
 M.bind (oS (some v4) fun a=>oS (some v21) fun b=>Bt E 167 a b) fun _=>
 M.pure tm1
theorem Zg_:RegEq 112 74 B5 Kn Au_:=⟨by kernel_rfl,fun _ _ _ _ _ _ _ _ _=>by kernel_rfl⟩
def Z9 (E:Env)(call round:Ag)(tm:T Value):M (T Value):=
 mv (T.get tm 0) fun v22=>
 M.bind (oS (some v22) fun a=>kNil a) fun v23=>
 M.bind (oS (some v23) fun a=>kFld E 167 a 3) fun v24=>
 M.bind (oS (some v24) fun a=>AE E 3 a) fun v25=>
 M.bind (oS (some v25) fun a=>oS (some (.int .i64 64)) fun b=>Cl.get (aBin E .rem 3 (.tmp 25) (.const (.int .i64 64))) a b) fun v26=>
 M.bind (oS (some (.int .i64 119)) fun a=>oS (some v26) fun b=>Cl.get (aBin E .sub 3 (.const (.int .i64 119)) (.tmp 26)) a b) fun v27=>
 M.bind (oS (some v27) fun a=>oS (some (.int .i64 64)) fun b=>Cl.get (aBin E .rem 3 (.tmp 27) (.const (.int .i64 64))) a b) fun v28=>
 M.bind (oS (some (.int .i64 1)) fun a=>oS (some v28) fun b=>Cl.get (aBin E .add 3 (.const (.int .i64 1)) (.tmp 28)) a b) fun v29=>
 M.bind (oS (some v29) fun a=>oS (some (.int .i64 80)) fun b=>EG E 22 a b) fun v30=>
 mv (some v30) fun v5=>
 setF 5 v5 tm fun tm1=>
 M.pure tm1
theorem YF_:RegEq 112 74 B5 Jr Z9:=⟨by kernel_rfl,fun _ _ _ _ _ _ _ _ _=>by kernel_rfl⟩
def Fm_ (E:Env)(call round:Ag)(tm:T Value):M (T Value):=
 mv (T.get tm 5) fun v31=>
 M.bind (oS (some v31) fun a=>oS (some (.int .i64 0)) fun b=>Bo E 22 a b) fun v32=>
 M.bind (oS (some v32) fun a=>oS (some (.int .u8 128)) fun b=>Bt E 5 a b) fun _=>
 M.pure tm
theorem QX_:RegEq 112 74 B5 Ln Fm_:=⟨by kernel_rfl,fun _ _ _ _ _ _ _ _ _=>by kernel_rfl⟩
def Ui (E:Env)(call round:Ag)(tm:T Value):M (T Value):=
 mv (some (.int .i64 56)) fun v6=>
 setF 6 v6 tm fun tm1=>
 M.pure tm1
theorem Adk_:RegEq 112 74 B5 Mv Ui:=⟨by kernel_rfl,fun _ _ _ _ _ _ _ _ _=>by kernel_rfl⟩
def Sz (E:Env)(call round:Ag)(tm:T Value):M (T Value):=
 mv (T.get tm 6) fun v33=>
 M.bind (oS (some v33) fun a=>oS (some (.int .i64 0)) fun b=>Cl.get (aBin E .geq 3 (.tmp 33) (.const (.int .i64 0))) a b) fun v34=>
 setF 34 v34 tm fun tm1=>
 M.pure tm1
theorem VC:RegEq 112 74 B5 Ho Sz:=⟨by kernel_rfl,fun _ _ _ _ _ _ _ _ _=>by kernel_rfl⟩
theorem CN_:Bg G3=some 34:=by kernel_rfl
def WN (E:Env)(call round:Ag)(tm:T Value):M (T Value):=
 mv (T.get tm 5) fun v37=>
 mv (T.get tm 0) fun v38=>
 M.bind (oS (some v38) fun a=>kNil a) fun v39=>
 M.bind (oS (some v39) fun a=>kFld E 167 a 3) fun v40=>
 M.bind (oS (some v40) fun a=>AE E 3 a) fun v41=>
 M.bind (oS (some (.int .i64 8)) fun a=>oS (some v41) fun b=>Cl.get (aBin E .mul 3 (.const (.int .i64 8)) (.tmp 41)) a b) fun v42=>
 mv (T.get tm 6) fun v43=>
 M.bind (oS (some v42) fun a=>oS (some v43) fun b=>Cl.get (aBin E .shr 3 (.tmp 42) (.tmp 43)) a b) fun v44=>
 M.bind (oS (some v44) fun a=>B4 E 3 5 a) fun v45=>
 M.bind (oS (seqP [(0,(some v45))]) fun ps=>B7 E 22 1 ps) fun v46=>
 M.bind (oS (seqO [(some v37),(some v46)]) fun l=>A7 E .append [22,22] l) fun v47=>
 mv (some v47) fun v5=>
 setF 5 v5 tm fun tm1=>
 M.pure tm1
theorem AaX_:RegEq 112 74 B5 LD WN:=⟨by kernel_rfl,fun _ _ _ _ _ _ _ _ _=>by kernel_rfl⟩
def Bt_ (E:Env)(call round:Ag)(tm:T Value):M (T Value):=
 mv (T.get tm 5) fun v48=>
 M.bind (M.on (some (.func (.func 111) #[] #[])) fun f=>M.on (seqO [(T.get tm 4),(some v48)]) fun l=>Bh call round f l) fun v49=>
 M.pure tm
theorem Su_:RegEq 112 74 B5 Jt Bt_:=⟨by kernel_rfl,fun _ _ _ _ _ _ _ _ _=>by kernel_rfl⟩
def Cd_ (E:Env)(call round:Ag)(tm:T Value):M (T Value):=
 mv (T.get tm 6) fun v35=>
 M.bind (oS (some v35) fun a=>oS (some (.int .i64 8)) fun b=>Cl.get (aBin E .sub 3 (.tmp 35) (.const (.int .i64 8))) a b) fun v36=>
 mv (some v36) fun v6=>
 setF 6 v6 tm fun tm1=>
 M.pure tm1
theorem Afq_:RegEq 112 74 B5 SP Cd_:=⟨by kernel_rfl,fun _ _ _ _ _ _ _ _ _=>by kernel_rfl⟩
def VD (E:Env)(call round:Ag)(tm:T Value):M (T Value):=
 M.bind (oS (T.get tm 4) fun a=>kFld E 167 a 1) fun v50=>
 M.bind (oS (some v50) fun a=>AE E 163 a) fun v51=>
 setF 51 v51 tm fun tm1=>
 mv (some (.int .i64 0)) fun v52=>
 setF 52 v52 tm1 fun tm2=>
 M.pure tm2
theorem VF_:RegEq 112 74 B5 IP VD:=⟨by kernel_rfl,fun _ _ _ _ _ _ _ _ _=>by kernel_rfl⟩
def SM (E:Env)(call round:Ag)(tm:T Value):M (T Value):=
 M.bind (oS (T.get tm 52) fun a=>oS (some (.int .i64 8)) fun b=>Cl.get (aBin E .lss 3 (.tmp 52) (.const (.int .i64 8))) a b) fun v53=>
 setF 53 v53 tm fun tm1=>
 M.pure tm1
theorem Xn:RegEq 112 74 B5 GX SM:=⟨by kernel_rfl,fun _ _ _ _ _ _ _ _ _=>by kernel_rfl⟩
theorem ZG:Bg Gv=some 53:=by kernel_rfl
def Bf_ (E:Env)(call round:Ag)(tm:T Value):M (T Value):=
 mv (T.get tm 52) fun v54=>
 M.bind (oS (T.get tm 51) fun a=>oS (T.get tm 52) fun b=>kIdx E 163 a b) fun v55=>
 mv (some v54) fun v7=>
 setF 7 v7 tm fun tm1=>
 mv (some v55) fun v8=>
 setF 8 v8 tm1 fun tm2=>
 M.pure tm2
theorem IA_:RegEq 112 74 B5 Kk Bf_:=⟨by kernel_rfl,fun _ _ _ _ _ _ _ _ _=>by kernel_rfl⟩
def FV_ (E:Env)(call round:Ag)(tm:T Value):M (T Value):=
 M.bind (oS (T.get tm 3) fun a=>AE E 101 a) fun v73=>
 M.bind (oS (T.get tm 2) fun a=>oS (some v73) fun b=>Bt E 101 a b) fun _=>
 M.pure tm
theorem XZ_:RegEq 112 74 B5 Jg FV_:=⟨by kernel_rfl,fun _ _ _ _ _ _ _ _ _=>by kernel_rfl⟩
def Xv (E:Env)(call round:Ag)(tm:T Value):M (T Value):=
 mv (T.get tm 7) fun v56=>
 M.bind (oS (some (.int .i64 4)) fun a=>oS (some v56) fun b=>Cl.get (aBin E .mul 3 (.const (.int .i64 4)) (.tmp 56)) a b) fun v57=>
 M.bind (M.on (T.get tm 3) fun a=>M.on (onO (some v57) fun v=>some (some v)) fun b=>M.on (some none) fun c=>BW E 101 a b c) fun v58=>
 mv (T.get tm 8) fun v59=>
 M.bind (oS (some v59) fun a=>oS (some (.int .u64 24)) fun b=>Cl.get (aBin E .shr 51 (.tmp 59) (.const (.int .u64 24))) a b) fun v60=>
 M.bind (oS (some v60) fun a=>B4 E 51 5 a) fun v61=>
 mv (T.get tm 8) fun v62=>
 M.bind (oS (some v62) fun a=>oS (some (.int .u64 16)) fun b=>Cl.get (aBin E .shr 51 (.tmp 62) (.const (.int .u64 16))) a b) fun v63=>
 M.bind (oS (some v63) fun a=>B4 E 51 5 a) fun v64=>
 mv (T.get tm 8) fun v65=>
 M.bind (oS (some v65) fun a=>oS (some (.int .u64 8)) fun b=>Cl.get (aBin E .shr 51 (.tmp 65) (.const (.int .u64 8))) a b) fun v66=>
 M.bind (oS (some v66) fun a=>B4 E 51 5 a) fun v67=>
 mv (T.get tm 8) fun v68=>
 M.bind (oS (some v68) fun a=>B4 E 51 5 a) fun v69=>
 M.bind (oS (seqP [(0,(some v61)),(1,(some v64)),(2,(some v67)),(3,(some v69))]) fun ps=>B7 E 22 4 ps) fun v70=>
 M.bind (oS (seqO [(some v58),(some v70)]) fun l=>A7 E .copy [22,22] l) fun v71=>
 M.pure tm
theorem SA_:RegEq 112 74 B5 Lw Xv:=⟨by kernel_rfl,fun _ _ _ _ _ _ _ _ _=>by kernel_rfl⟩
theorem AdK_: ∃k,PS= .code .ret::k:=⟨PS.tail,by kernel_rfl⟩
def AW_ (E:Env)(call round:Ag)(tm:T Value):M (T Value):=
 M.bind (oS (T.get tm 52) fun a=>oS (some (.int .i64 1)) fun b=>Cl.get (aBin E .add 3 (.tmp 52) (.const (.int .i64 1))) a b) fun v72=>
 mv (some v72) fun v52=>
 setF 52 v52 tm fun tm1=>
 M.pure tm1
theorem AaB_:RegEq 112 74 B5 TR AW_:=⟨by kernel_rfl,fun _ _ _ _ _ _ _ _ _=>by kernel_rfl⟩
def Jq:Nat:=Bw Try.f73
def UA:Code:=Try.f73.body.getD .skip
theorem BP_:envS.fn.get 73=some Try.f73:=by kernel_rfl
theorem GJ_ {a0:Value}{n:Nat}{s:St}{Q:Value→St→Prop}(h: ∀tm,T.get tm 0=some a0→W (runF envS n ⟨73,10,Jq,tm,[.code UA], .run, .normal,none⟩) (s.cxN cxN) fun p s1=>Q p.1 (s1.cxN s.cx)):W (AJ envS (runF envS n) 73 [a0]) s Q:=
 W.call (by kernel_rfl) (by kernel_rfl) BP_ (by kernel_rfl) rfl rfl (by simp) (h _ (by kernel_rfl))
theorem LE_:Try.f73.results.toList=[.cell 2 101]:=by kernel_rfl
def S7:List Item:=skim 64 [.code UA]
def Nv:List Item:=skim 64 S7.tail
theorem Jw_:skim 64 S7.tail=Nv:=by kernel_rfl
def ME:List Item:=skim 64 Nv.tail
theorem Ne_:skim 64 Nv.tail=ME:=by kernel_rfl
def Kv:List Item:=skim 64 ME.tail
theorem Ni_:skim 64 ME.tail=Kv:=by kernel_rfl
def Sg:List Item:=skim 64 Kv.tail
theorem UB_:skim 64 Kv.tail=Sg:=by kernel_rfl
def YX (E:Env)(call round:Ag)(tm:T Value):M (T Value):=
 M.bind (BN E 101) fun v2=>
 setF 2 v2 tm fun tm1=>
 M.pure tm1
theorem Adh_:RegEq 73 10 Jq S7 YX:=⟨by kernel_rfl,fun _ _ _ _ _ _ _ _ _=>by kernel_rfl⟩
def DE_ (E:Env)(call round:Ag)(tm:T Value):M (T Value):=
 M.bind (M.on (some (.func (.func 110) #[] #[])) fun f=>M.on (seqO []) fun l=>Bh call round f l) fun v4=>
 mv (some v4) fun v3=>
 setF 3 v3 tm fun tm1=>
 M.pure tm1
theorem Gw_:RegEq 73 10 Jq Nv DE_:=⟨by kernel_rfl,fun _ _ _ _ _ _ _ _ _=>by kernel_rfl⟩
def VN (E:Env)(call round:Ag)(tm:T Value):M (T Value):=
 mv (T.get tm 3) fun v5=>
 mv (T.get tm 0) fun v6=>
 M.bind (M.on (some (.func (.func 111) #[] #[])) fun f=>M.on (seqO [(some v5),(some v6)]) fun l=>Bh call round f l) fun v7=>
 M.pure tm
theorem Vk_:RegEq 73 10 Jq ME VN:=⟨by kernel_rfl,fun _ _ _ _ _ _ _ _ _=>by kernel_rfl⟩
def EC_ (E:Env)(call round:Ag)(tm:T Value):M (T Value):=
 mv (T.get tm 3) fun v8=>
 M.bind (M.on (some (.func (.func 112) #[] #[])) fun f=>M.on (seqO [(some v8)]) fun l=>Bh call round f l) fun v9=>
 M.bind (oS (T.get tm 2) fun a=>oS (some v9) fun b=>Bt E 101 a b) fun _=>
 M.pure tm
theorem VI_:RegEq 73 10 Jq Kv EC_:=⟨by kernel_rfl,fun _ _ _ _ _ _ _ _ _=>by kernel_rfl⟩
theorem Pd_: ∃k,Sg= .code .ret::k:=⟨Sg.tail,by kernel_rfl⟩
def NO:Nat:=Bw Try.f32
def XV:Code:=Try.f32.body.getD .skip
theorem XH:envS.fn.get 32=some Try.f32:=by kernel_rfl
theorem Afu_ {a0:Value}{n:Nat}{s:St}{Q:Value→St→Prop}(h: ∀tm,T.get tm 0=some a0→W (runF envS n ⟨32,9,NO,tm,[.code XV], .run, .normal,none⟩) (s.cxN cxN) fun p s1=>Q p.1 (s1.cxN s.cx)):W (AJ envS (runF envS n) 32 [a0]) s Q:=
 W.call (by kernel_rfl) (by kernel_rfl) XH (by kernel_rfl) rfl rfl (by simp) (h _ (by kernel_rfl))
theorem Tv_:Try.f32.results.toList=[.cell 2 26]:=by kernel_rfl
def R8:List Item:=skim 64 [.code XV]
def Kr:List Item:=skim 64 R8.tail
theorem Tk_:skim 64 R8.tail=Kr:=by kernel_rfl
def N7:List Item:=skim 64 Kr.tail
theorem Wy_:skim 64 Kr.tail=N7:=by kernel_rfl
def Qy:List Item:=skim 64 N7.tail
theorem LQ_:skim 64 N7.tail=Qy:=by kernel_rfl
def ZT (E:Env)(call round:Ag)(tm:T Value):M (T Value):=
 M.bind (BN E 26) fun v2=>
 setF 2 v2 tm fun tm1=>
 M.pure tm1
theorem ZE_:RegEq 32 9 NO R8 ZT:=⟨by kernel_rfl,fun _ _ _ _ _ _ _ _ _=>by kernel_rfl⟩
def FH_ (E:Env)(call round:Ag)(tm:T Value):M (T Value):=
 mv (T.get tm 0) fun v4=>
 M.bind (M.on (some (.func (.func 73) #[] #[])) fun f=>M.on (seqO [(some v4)]) fun l=>Bh call round f l) fun v5=>
 M.bind (BN E 101) fun v3=>
 setF 3 v3 tm fun tm1=>
 M.bind (oS (some v3) fun a=>oS (some v5) fun b=>Bt E 101 a b) fun _=>
 M.pure tm1
theorem Kd_:RegEq 32 9 NO Kr FH_:=⟨by kernel_rfl,fun _ _ _ _ _ _ _ _ _=>by kernel_rfl⟩
def DD_ (E:Env)(call round:Ag)(tm:T Value):M (T Value):=
 M.bind (M.on (T.get tm 3) fun a=>M.on (some none) fun b=>M.on (onO (some (.int .i64 16)) fun v=>some (some v)) fun c=>BW E 101 a b c) fun v6=>
 M.bind (oS (some v6) fun a=>Dn E 26 a) fun v7=>
 M.bind (oS (some v7) fun a=>AE E 26 a) fun v8=>
 M.bind (oS (T.get tm 2) fun a=>oS (some v8) fun b=>Bt E 26 a b) fun _=>
 M.pure tm
theorem HC_:RegEq 32 9 NO N7 DD_:=⟨by kernel_rfl,fun _ _ _ _ _ _ _ _ _=>by kernel_rfl⟩
theorem PD_: ∃k,Qy= .code .ret::k:=⟨Qy.tail,by kernel_rfl⟩
structure DS where
 st:Sha.St8
 w:List Nat
 n:Nat
def DS.k (d:DS)(b:List Nat):Nat:=Nat.min (64-d.n%64) b.length
def DS.w' (d:DS)(b:List Nat):List Nat:=d.w.take (d.n%64)++(b.take (d.k b)++d.w.drop (d.n%64+d.k b))
def DS.step (d:DS)(b:List Nat):DS:=⟨if d.n%64+d.k b=64 then Sha.next d.st (fun j=>(d.w' b).getD j 0)else d.st,d.w' b,d.n+d.k b⟩
def DS.write:Nat→DS→List Nat→DS
 |0,d,_=>d
 |f+1,d,b=>if b.length=0 then d else DS.write f (d.step b) (b.drop (d.k b))
structure Dig (s:St)(D:Nat)(d:DS):Prop where
 made:Own s D 0 (.bool true)
 st:Ay s D 1 (st8V d.st).toList
 w:Ay s D 9 (u8l d.w)
 n:Own s D 73 (.int .i64 (d.n:Nat))
 len:d.w.length=64
 byt:Byt d.w
 ok:d.st.Ok
theorem Dt (r:Sha.St8):(st8V r).toList.length=8:=rfl
theorem Dig.ext0 {F:Nat→Prop}{s s':St}{D:Nat}{d:DS}(h:Dig s D d)(e:Ext F Non s s'):Dig s' D d:=⟨h.made.ext0 e,h.st.ext0 e,h.w.ext0 e,h.n.ext0 e,h.len,h.byt,h.ok⟩
theorem Dig.same {s s':St}{D:Nat}{d:DS}(h:Dig s D d)(hm:s'.mem=s.mem)(hn:s'.next=s.next):Dig s' D d:=
 ⟨h.made.same hm hn,fun i v e=>(h.st i v e).same hm hn,fun i v e=>(h.w i v e).same hm hn,h.n.same hm hn,h.len,h.byt,h.ok⟩
theorem AaO_ {r:Sha.St8}(h:r.Ok):u32s (st8V r).toList=some [r.a,r.b,r.c,r.d,r.e,r.f,r.g,r.h]:=by
 have e: ∀(n:Nat) (l:List Value) (ns:List Nat),n<4294967296→u32s l=some ns→u32s (.int .u32 (n:Int)::l)=some (n::ns):=fun n l ns hn hl=>by
  show(match Value.int .u32 (.ofNat n),u32s l with| .int .u32 (.ofNat n),some ns=>bif Nat.blt n 4294967296 then some (n::ns)else none|_,_=>none)=_
  rw[hl]
  simp -implicitDefEqProofs only[Cb hn,cond_true]
 exact e _ _ _ h.a (e _ _ _ h.b (e _ _ _ h.c (e _ _ _ h.d (e _ _ _ h.e (e _ _ _ h.f (e _ _ _ h.g (e _ _ _ h.h rfl)))))))
theorem W.next {s:St}{r:Sha.St8}{b o c:Nat}{l:List Nat}{Q:Value→St→Prop}(hr:r.Ok)(h:Row s b o (u8l l))(hl:l.length=64)(hb:Byt l)
  (q: ∀s1,s1.mem=s.mem→s1.next=s.next→Ext (In b o 64) Non s s1→Q (.agg (st8V (Sha.next r fun j=>l.getD j 0))) s1):W (EA [.agg (st8V r), .slice (some ⟨b,o,none⟩) 64 c]) s Q:=by
 refine W.on (AaO_ hr) (W.chk (by decide) (W.bind ?_))
 have h2:l.length=(u8l l).length:=(By l).symm
 show W (Am.rdL 64 ⟨b,o,none⟩) s _
 rw[←hl]
 refine W.rdB h fun s1 e1 e2 e3=>W.on (S8 hb) ?_
 show W (JN r l st8M) s1 Q
 rw[Om,Ou]
 rw[hl]at e3
 exact W.pure (q s1 e1 e2 e3)
theorem Z8:fldN envS 167 0=some (0,1,false):=by kernel_rfl
theorem RI:fldN envS 167 1=some (1,8,true):=by kernel_rfl
theorem Du_:fldN envS 167 2=some (9,64,true):=by kernel_rfl
theorem Lb:fldN envS 167 3=some (73,1,false):=by kernel_rfl
theorem CZ_:ptrT envS 145=true:=by kernel_rfl
theorem YR:tyS envS 4=some (1,false):=by kernel_rfl
theorem JD:tyS envS 3=some (1,false):=by kernel_rfl
theorem Go_:arrN envS 165=some (64,1):=by kernel_rfl
theorem IN:tyS envS 163=some (8,true):=by kernel_rfl
theorem Bs.srcK {s:St}{v:Value}{l:List Nat}(h:Bs s v l){k:Nat}(hk:k≤l.length): ∃s1,srcL 1 v k s= .some (u8l (l.take k)) s1∧s1.mem=s.mem∧s1.next=s.next∧Ext (BsF v) Non s s1:=by
 rcases h with⟨rfl,rfl⟩|⟨b,o,c,rfl,_,_,h3⟩
 ·simp at hk
  subst hk
  exact⟨s,rfl,rfl,rfl,Ext.refl s⟩
 ·have h4:Row s b o (u8l (l.take k)):=by
   have:=h3.take (n:=k)
   rw[←List.map_take]at this
   exact this
  have hl:(l.take k).length=k:=by rw[List.length_take];omega
  obtain⟨a,s1,e,rfl,h1,h2,h5⟩:=W.rdB (Q:=fun a s1=>a=u8l (l.take k)∧s1.mem=s.mem∧s1.next=s.next∧Ext (In b o (l.take k).length) Non s s1) h4 fun s1 e1 e2 e3=>⟨rfl,e1,e2,e3⟩
  rw[hl]at e h5
  refine⟨s1, ?_,h1,h2, ?_⟩
  ·show Am.rdL (k*1) ⟨b,o,none⟩ s=_
   rw[Nat.mul_one]
   exact e
  ·refine⟨h5.nxt,h5.lim,h5.cx,h5.mem, ?_,h5.wr⟩
   obtain⟨d,p1,p2⟩:=h5.rd
   exact⟨d,p1,fun x hx=>⟨(p2 x hx).1,by have:=(p2 x hx).2;exact⟨this.1,by have:=this.2;omega⟩⟩⟩
theorem DS.k_le (d:DS)(b:List Nat):d.k b≤b.length∧d.n%64+d.k b≤64:=by
 unfold DS.k
 have h1:Nat.min (64-d.n%64) b.length≤64-d.n%64:=Nat.min_le_left _ _
 have h2:Nat.min (64-d.n%64) b.length≤b.length:=Nat.min_le_right _ _
 have h3:d.n%64<64:=Nat.mod_lt _ (by decide)
 exact⟨h2,by omega⟩
theorem DS.w'_len (d:DS)(b:List Nat)(h:d.w.length=64):(d.w' b).length=64:=by
 obtain⟨h1,h2⟩:=d.k_le b
 unfold DS.w'
 rw[List.length_append,List.length_append,List.length_take,List.length_take,List.length_drop,h]
 omega
theorem DS.w'_byt (d:DS)(b:List Nat)(h:Byt d.w)(hb:Byt b):Byt (d.w' b):=fun x hx=>by
 unfold DS.w' at hx
 rcases List.mem_append.1 hx with hx|hx
 ·exact h x (List.mem_of_mem_take hx)
 ·rcases List.mem_append.1 hx with hx|hx
  ·exact hb x (List.mem_of_mem_take hx)
  ·exact h x (List.mem_of_mem_drop hx)
theorem Dig.lay {F:Nat→Prop}{s s2:St}{D:Nat}{d:DS}{b:List Nat}(h:Dig s D d)(x:Ext F (In D (0+9+d.n%64*1) (d.k b*1)) s s2)(r:Ay s2 D (0+9+d.n%64*1) (u8l (b.take (d.k b))))(hb:Byt b):Dig s2 D ⟨d.st,d.w' b,d.n⟩:=by
 obtain⟨h1,h2⟩:=d.k_le b
 have hm:d.n%64<64:=Nat.mod_lt _ (by decide)
 have hkl:(b.take (d.k b)).length=d.k b:=by rw[List.length_take];omega
 refine⟨h.made.ext x fun q=>by have:=q.1;omega,h.st.ext x fun i hi q=> ?_, ?_,h.n.ext x fun q=>by have:=q.2;omega,d.w'_len b h.len,d.w'_byt b h.byt hb,h.ok⟩
 ·have h3:i<8:=hi
  have:=q.1;omega
 ·show Ay s2 D 9 (u8l (d.w' b))
  have e:u8l (d.w' b)=u8l (d.w.take (d.n%64))++(u8l (b.take (d.k b))++u8l (d.w.drop (d.n%64+d.k b))):=by
   unfold DS.w' u8l
   rw[List.map_append,List.map_append]
  have hl1:(u8l (d.w.take (d.n%64))).length=d.n%64:=by rw[By,List.length_take,h.len];omega
  have hw1:Ay s D 9 (u8l (d.w.take (d.n%64))):=by
   have:=h.w.take (n:=d.n%64)
   rw[←List.map_take]at this
   exact this
  have hw3:Ay s D (9+(d.n%64+d.k b)) (u8l (d.w.drop (d.n%64+d.k b))):=by
   have:=h.w.drop (n:=d.n%64+d.k b)
   rw[←List.map_drop]at this
   exact this
  rw[e]
  refine Ay.append (hw1.ext x fun i hi q=> ?_) (Ay.append ?_ ?_)
  ·rw[hl1]at hi
   have:=q.1;omega
  ·rw[hl1,show 9+d.n%64=0+9+d.n%64*1 by omega]
   exact r
  ·rw[hl1,By,hkl,Nat.add_assoc]
   refine hw3.ext x fun i hi q=> ?_
   have:=q.2;omega
end Go.Proofs.Ytofanlcjeohcjaa.Am
end
