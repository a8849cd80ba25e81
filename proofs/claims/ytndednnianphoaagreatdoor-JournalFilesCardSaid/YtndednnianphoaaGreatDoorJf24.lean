import Derived.Test.YtndednnianphoaaGreatDoorJf16
import Derived.Test.YtndednnianphoaaGreatDoorJf09
import Derived.KernelRfl
import Derived.Test.YtndednnianphoaaGreatDoorJf23
import Derived.Test.YtndednnianphoaaGreatDoorJf08
noncomputable section
namespace Go.Proofs.YtndednnianphoaaGreatDoor.Am
open Go.RowKit
def F6:Nat:=A8 Tryz.f7
def Xh:Code:=Tryz.f7.body.getD .skip
theorem WA:envS.fn.get 7=some Tryz.f7:=by kernel_rfl
theorem HX_ {n:Nat}{s:St}{Q:Value→St→Prop}(h: ∀tm,W (runF envS n ⟨7,30,F6,tm,[.code Xh], .run, .normal,none⟩) (s.cxN cxN) fun p s1=>Q p.1 (s1.cxN s.cx)):W (Ay envS (runF envS n) 7 []) s Q:=
 W.call (by kernel_rfl) (by kernel_rfl) WA (by kernel_rfl) rfl rfl (by simp) (h _)
theorem Yl_:Tryz.f7.results.toList=[.tmp 0, .tmp 1, .tmp 2]:=by kernel_rfl
def Rn:List Item:=skim 64 [.code Xh]
def NG:List Item:=skim 64 Rn.tail
theorem QG_:skim 64 Rn.tail=NG:=by kernel_rfl
def LZ:List Item:=skim 64 NG.tail
theorem YX_:skim 64 NG.tail=LZ:=by kernel_rfl
def Lo:List Item:=skim 64 LZ.tail
theorem Zg_:skim 64 LZ.tail=Lo:=by kernel_rfl
def Ow:List Item:=skim 64 (brF Lo)
theorem My_:skim 64 (brF Lo)=Ow:=by kernel_rfl
def Mw:List Item:=skim 64 Ow.tail
theorem Afu_:skim 64 Ow.tail=Mw:=by kernel_rfl
def O5:List Item:=skim 64 Mw.tail
theorem Vl_:skim 64 Mw.tail=O5:=by kernel_rfl
def Zj (E:Env)(call round:Ad)(tm:T Value):M (T Value):=
 mv (some (.pointer none)) fun v0=>
 setF 0 v0 tm fun tm1=>
 mv (some (.pointer none)) fun v1=>
 setF 1 v1 tm1 fun tm2=>
 mv (some (.bool false)) fun v2=>
 setF 2 v2 tm2 fun tm3=>
 M.pure tm3
theorem QD_:RegEq 7 30 F6 Rn Zj:=⟨by kernel_rfl,fun _ _ _ _ _ _ _ _ _=>by kernel_rfl⟩
def Vr (E:Env)(call round:Ad)(tm:T Value):M (T Value):=
 M.bind (M.on (some (.func (.func 23) #[] #[])) fun f=>M.on (seqO [(some (.int .i64 1048576))]) fun l=>AL call round f l) fun v8=>
 mv (some v8) fun v7=>
 M.bind (oS (some v7) fun a=>kExt 0 a) fun v9=>
 M.bind (oS (some v7) fun a=>kExt 1 a) fun v10=>
 mv (some v9) fun v3=>
 setF 3 v3 tm fun tm1=>
 mv (some v10) fun v4=>
 setF 4 v4 tm1 fun tm2=>
 M.pure tm2
theorem KS_:RegEq 7 30 F6 NG Vr:=⟨by kernel_rfl,fun _ _ _ _ _ _ _ _ _=>by kernel_rfl⟩
def UW (E:Env)(call round:Ad)(tm:T Value):M (T Value):=
 mv (T.get tm 4) fun v11=>
 M.bind (oS (some v11) fun a=>oS (some (.int .i64 0)) fun b=>Cl.get (aBin E .neq 29 (.tmp 11) (.const (.int .i64 0))) a b) fun v12=>
 mv (some v12) fun v13=>
 M.bind (M.chk (isK v13) (M.if (isB v13 false) (oS (T.get tm 3) fun a=>M.pure a) (M.pure undef))) fun v14=>
 M.bind (M.chk (isK v13) (M.if (isB v13 false) (oS (some v14) fun a=>oS (some (.pointer none)) fun b=>Cl.get (aBin E .eql 25 (.tmp 14) (.const (.pointer none))) a b) (M.pure undef))) fun v15=>
 M.bind (M.on (some v13) fun a=>M.on (some (.bool true)) fun b=>M.on (some v15) fun c=>Bj a b c) fun v16=>
 setF 16 v16 tm fun tm1=>
 M.pure tm1
theorem Aby_:RegEq 7 30 F6 LZ UW:=⟨by kernel_rfl,fun _ _ _ _ _ _ _ _ _=>by kernel_rfl⟩
theorem Aca_:A4 Lo=some 16:=by kernel_rfl
def Aj_ (E:Env)(call round:Ad)(tm:T Value):M (T Value):=
 mv (T.get tm 3) fun v18=>
 M.bind (M.on (some (.func (.func 13) #[] #[])) fun f=>M.on (seqO [(some v18)]) fun l=>AL call round f l) fun v19=>
 mv (some v19) fun v17=>
 M.bind (oS (some v17) fun a=>kExt 0 a) fun v20=>
 M.bind (oS (some v17) fun a=>kExt 1 a) fun v21=>
 mv (some v20) fun v5=>
 setF 5 v5 tm fun tm1=>
 mv (some v21) fun v6=>
 setF 6 v6 tm1 fun tm2=>
 M.pure tm2
theorem Yr_:RegEq 7 30 F6 Ow Aj_:=⟨by kernel_rfl,fun _ _ _ _ _ _ _ _ _=>by kernel_rfl⟩
def Bg_ (E:Env)(call round:Ad)(tm:T Value):M (T Value):=
 mv (T.get tm 3) fun v22=>
 mv (T.get tm 5) fun v23=>
 mv (T.get tm 6) fun v24=>
 M.bind (oS (some v24) fun a=>oS (some (.int .i64 0)) fun b=>Cl.get (aBin E .eql 29 (.tmp 24) (.const (.int .i64 0))) a b) fun v25=>
 mv (some v25) fun v26=>
 M.bind (M.chk (isK v26) (M.if (isB v26 true) (oS (T.get tm 5) fun a=>M.pure a) (M.pure undef))) fun v27=>
 M.bind (M.chk (isK v26) (M.if (isB v26 true) (oS (some v27) fun a=>oS (some (.pointer none)) fun b=>Cl.get (aBin E .neq 26 (.tmp 27) (.const (.pointer none))) a b) (M.pure undef))) fun v28=>
 M.bind (M.on (some v26) fun a=>M.on (some v28) fun b=>M.on (some (.bool false)) fun c=>Bj a b c) fun v29=>
 mv (some v22) fun v0=>
 setF 0 v0 tm fun tm1=>
 mv (some v23) fun v1=>
 setF 1 v1 tm1 fun tm2=>
 mv (some v29) fun v2=>
 setF 2 v2 tm2 fun tm3=>
 M.pure tm3
theorem Lk_:RegEq 7 30 F6 Mw Bg_:=⟨by kernel_rfl,fun _ _ _ _ _ _ _ _ _=>by kernel_rfl⟩
theorem PL_: ∃k,O5= .code .ret::k:=⟨O5.tail,by kernel_rfl⟩
def Ol:Nat:=A8 Tryz.f15
def Yb:Code:=Tryz.f15.body.getD .skip
theorem XU:envS.fn.get 15=some Tryz.f15:=by kernel_rfl
theorem Tk_ {a0 a1:Value}{n:Nat}{s:St}{Q:Value→St→Prop}(h: ∀tm,T.get tm 0=some a0→T.get tm 1=some a1→W (runF envS n ⟨15,19,Ol,tm,[.code Yb], .run, .normal,none⟩) (s.cxN cxN) fun p s1=>Q p.1 (s1.cxN s.cx)):W (Ay envS (runF envS n) 15 [a0,a1]) s Q:=
 W.call (by kernel_rfl) (by kernel_rfl) XU (by kernel_rfl) rfl rfl (by simp) (h _ (by kernel_rfl) (by kernel_rfl))
theorem AdG_:Tryz.f15.results.toList=[.tmp 4]:=by kernel_rfl
def Q2:List Item:=skim 64 [.code Yb]
def J3:List Item:=skim 64 Q2.tail
theorem ID_:skim 64 Q2.tail=J3:=by kernel_rfl
def MV:List Item:=skim 64 J3.tail
theorem AgE_:skim 64 J3.tail=MV:=by kernel_rfl
def ST:List Item:=skim 64 MV.tail
theorem RW_:skim 64 MV.tail=ST:=by kernel_rfl
def FQ_ (E:Env)(call round:Ad)(tm:T Value):M (T Value):=
 mv (some (.bool false)) fun v4=>
 setF 4 v4 tm fun tm1=>
 M.pure tm1
theorem Wv_:RegEq 15 19 Ol Q2 FQ_:=⟨by kernel_rfl,fun _ _ _ _ _ _ _ _ _=>by kernel_rfl⟩
def V8 (E:Env)(call round:Ad)(tm:T Value):M (T Value):=
 mv (T.get tm 0) fun v8=>
 M.bind (M.on (some (.func (.func 8) #[] #[])) fun f=>M.on (seqO [(some v8)]) fun l=>AL call round f l) fun v9=>
 mv (some v9) fun v7=>
 M.bind (oS (some v7) fun a=>kExt 0 a) fun v10=>
 M.bind (oS (some v7) fun a=>kExt 1 a) fun v11=>
 mv (some v10) fun v5=>
 setF 5 v5 tm fun tm1=>
 mv (some v11) fun v6=>
 setF 6 v6 tm1 fun tm2=>
 M.pure tm2
theorem XE_:RegEq 15 19 Ol J3 V8:=⟨by kernel_rfl,fun _ _ _ _ _ _ _ _ _=>by kernel_rfl⟩
def CI_ (E:Env)(call round:Ad)(tm:T Value):M (T Value):=
 mv (T.get tm 5) fun v12=>
 mv (T.get tm 1) fun v13=>
 M.bind (oS (some v12) fun a=>oS (some v13) fun b=>Cl.get (aBin E .eql 3 (.tmp 12) (.tmp 13)) a b) fun v14=>
 mv (some v14) fun v15=>
 M.bind (M.chk (isK v15) (M.if (isB v15 true) (oS (T.get tm 6) fun a=>M.pure a) (M.pure undef))) fun v16=>
 M.bind (M.chk (isK v15) (M.if (isB v15 true) (oS (some v16) fun a=>oS (some (.int .i64 0)) fun b=>Cl.get (aBin E .eql 29 (.tmp 16) (.const (.int .i64 0))) a b) (M.pure undef))) fun v17=>
 M.bind (M.on (some v15) fun a=>M.on (some v17) fun b=>M.on (some (.bool false)) fun c=>Bj a b c) fun v18=>
 mv (some v18) fun v4=>
 setF 4 v4 tm fun tm1=>
 M.pure tm1
theorem MN_:RegEq 15 19 Ol MV CI_:=⟨by kernel_rfl,fun _ _ _ _ _ _ _ _ _=>by kernel_rfl⟩
theorem AcP_: ∃k,ST= .code .ret::k:=⟨ST.tail,by kernel_rfl⟩
def NH:Nat:=A8 Tryz.f16
def Wg:Code:=Tryz.f16.body.getD .skip
theorem Gd_:envS.fn.get 16=some Tryz.f16:=by kernel_rfl
theorem Lz_ {a0 a1:Value}{n:Nat}{s:St}{Q:Value→St→Prop}(h: ∀tm,T.get tm 0=some a0→T.get tm 1=some a1→W (runF envS n ⟨16,19,NH,tm,[.code Wg], .run, .normal,none⟩) (s.cxN cxN) fun p s1=>Q p.1 (s1.cxN s.cx)):W (Ay envS (runF envS n) 16 [a0,a1]) s Q:=
 W.call (by kernel_rfl) (by kernel_rfl) Gd_ (by kernel_rfl) rfl rfl (by simp) (h _ (by kernel_rfl) (by kernel_rfl))
theorem Ky_:Tryz.f16.results.toList=[.tmp 4]:=by kernel_rfl
def P7:List Item:=skim 64 [.code Wg]
def KW:List Item:=skim 64 P7.tail
theorem IG_:skim 64 P7.tail=KW:=by kernel_rfl
def MN:List Item:=skim 64 KW.tail
theorem Ii_:skim 64 KW.tail=MN:=by kernel_rfl
def Qb:List Item:=skim 64 MN.tail
theorem OB_:skim 64 MN.tail=Qb:=by kernel_rfl
def Fg_ (E:Env)(call round:Ad)(tm:T Value):M (T Value):=
 mv (some (.bool false)) fun v4=>
 setF 4 v4 tm fun tm1=>
 M.pure tm1
theorem UH_:RegEq 16 19 NH P7 Fg_:=⟨by kernel_rfl,fun _ _ _ _ _ _ _ _ _=>by kernel_rfl⟩
def CH_ (E:Env)(call round:Ad)(tm:T Value):M (T Value):=
 mv (T.get tm 0) fun v8=>
 M.bind (M.on (some (.func (.func 9) #[] #[])) fun f=>M.on (seqO [(some v8)]) fun l=>AL call round f l) fun v9=>
 mv (some v9) fun v7=>
 M.bind (oS (some v7) fun a=>kExt 0 a) fun v10=>
 M.bind (oS (some v7) fun a=>kExt 1 a) fun v11=>
 mv (some v10) fun v5=>
 setF 5 v5 tm fun tm1=>
 mv (some v11) fun v6=>
 setF 6 v6 tm1 fun tm2=>
 M.pure tm2
theorem Abv_:RegEq 16 19 NH KW CH_:=⟨by kernel_rfl,fun _ _ _ _ _ _ _ _ _=>by kernel_rfl⟩
def Ca_ (E:Env)(call round:Ad)(tm:T Value):M (T Value):=
 mv (T.get tm 5) fun v12=>
 mv (T.get tm 1) fun v13=>
 M.bind (oS (some v12) fun a=>oS (some v13) fun b=>Cl.get (aBin E .eql 3 (.tmp 12) (.tmp 13)) a b) fun v14=>
 mv (some v14) fun v15=>
 M.bind (M.chk (isK v15) (M.if (isB v15 true) (oS (T.get tm 6) fun a=>M.pure a) (M.pure undef))) fun v16=>
 M.bind (M.chk (isK v15) (M.if (isB v15 true) (oS (some v16) fun a=>oS (some (.int .i64 0)) fun b=>Cl.get (aBin E .eql 29 (.tmp 16) (.const (.int .i64 0))) a b) (M.pure undef))) fun v17=>
 M.bind (M.on (some v15) fun a=>M.on (some v17) fun b=>M.on (some (.bool false)) fun c=>Bj a b c) fun v18=>
 mv (some v18) fun v4=>
 setF 4 v4 tm fun tm1=>
 M.pure tm1
theorem XO_:RegEq 16 19 NH MN Ca_:=⟨by kernel_rfl,fun _ _ _ _ _ _ _ _ _=>by kernel_rfl⟩
theorem HI_: ∃k,Qb= .code .ret::k:=⟨Qb.tail,by kernel_rfl⟩
def OE:Nat:=A8 Tryz.f14
def Fx_:Code:=Tryz.f14.body.getD .skip
theorem Gj_:envS.fn.get 14=some Tryz.f14:=by kernel_rfl
theorem OD_ {a0 a1 a2:Value}{n:Nat}{s:St}{Q:Value→St→Prop}(h: ∀tm,T.get tm 0=some a0→T.get tm 1=some a1→T.get tm 2=some a2→W (runF envS n ⟨14,22,OE,tm,[.code Fx_], .run, .normal,none⟩) (s.cxN cxN) fun p s1=>Q p.1 (s1.cxN s.cx)):W (Ay envS (runF envS n) 14 [a0,a1,a2]) s Q:=
 W.call (by kernel_rfl) (by kernel_rfl) Gj_ (by kernel_rfl) rfl rfl (by simp) (h _ (by kernel_rfl) (by kernel_rfl) (by kernel_rfl))
theorem XM_:Tryz.f14.results.toList=[.tmp 6]:=by kernel_rfl
def PK:List Item:=skim 64 [.code Fx_]
def JF:List Item:=skim 64 PK.tail
theorem AbQ_:skim 64 PK.tail=JF:=by kernel_rfl
def KF:List Item:=skim 64 JF.tail
theorem Ada_:skim 64 JF.tail=KF:=by kernel_rfl
def TL:List Item:=skim 64 KF.tail
theorem Zh_:skim 64 KF.tail=TL:=by kernel_rfl
def EI_ (E:Env)(call round:Ad)(tm:T Value):M (T Value):=
 mv (some (.bool false)) fun v6=>
 setF 6 v6 tm fun tm1=>
 M.pure tm1
theorem AdI_:RegEq 14 22 OE PK EI_:=⟨by kernel_rfl,fun _ _ _ _ _ _ _ _ _=>by kernel_rfl⟩
def Br_ (E:Env)(call round:Ad)(tm:T Value):M (T Value):=
 mv (T.get tm 0) fun v10=>
 M.bind (M.on (some (.func (.func 10) #[] #[])) fun f=>M.on (seqO [(some v10)]) fun l=>AL call round f l) fun v11=>
 mv (some v11) fun v9=>
 M.bind (oS (some v9) fun a=>kExt 0 a) fun v12=>
 M.bind (oS (some v9) fun a=>kExt 1 a) fun v13=>
 mv (some v12) fun v7=>
 setF 7 v7 tm fun tm1=>
 mv (some v13) fun v8=>
 setF 8 v8 tm1 fun tm2=>
 M.pure tm2
theorem LI_:RegEq 14 22 OE JF Br_:=⟨by kernel_rfl,fun _ _ _ _ _ _ _ _ _=>by kernel_rfl⟩
def X4 (E:Env)(call round:Ad)(tm:T Value):M (T Value):=
 mv (T.get tm 7) fun v14=>
 mv (T.get tm 1) fun v15=>
 M.bind (oS (some v14) fun a=>oS (some v15) fun b=>Cl.get (aBin E .eql 3 (.tmp 14) (.tmp 15)) a b) fun v16=>
 mv (some v16) fun v17=>
 M.bind (M.chk (isK v17) (M.if (isB v17 true) (oS (T.get tm 8) fun a=>M.pure a) (M.pure undef))) fun v18=>
 M.bind (M.chk (isK v17) (M.if (isB v17 true) (oS (T.get tm 2) fun a=>M.pure a) (M.pure undef))) fun v19=>
 M.bind (M.chk (isK v17) (M.if (isB v17 true) (oS (some v18) fun a=>oS (some v19) fun b=>Cl.get (aBin E .eql 3 (.tmp 18) (.tmp 19)) a b) (M.pure undef))) fun v20=>
 M.bind (M.on (some v17) fun a=>M.on (some v20) fun b=>M.on (some (.bool false)) fun c=>Bj a b c) fun v21=>
 mv (some v21) fun v6=>
 setF 6 v6 tm fun tm1=>
 M.pure tm1
theorem Wz_:RegEq 14 22 OE KF X4:=⟨by kernel_rfl,fun _ _ _ _ _ _ _ _ _=>by kernel_rfl⟩
theorem Ir_: ∃k,TL= .code .ret::k:=⟨TL.tail,by kernel_rfl⟩
def BI:Nat:=A8 Tryz.f4
abbrev P1:Nat:=172
def EV_:Code:=Tryz.f4.body.getD .skip
theorem S3:envS.fn.get 4=some Tryz.f4:=by kernel_rfl
theorem AbH_ {a0 a1:Value}{n:Nat}{s:St}{Q:Value→St→Prop}(h: ∀tm,T.get tm 0=some a0→T.get tm 1=some a1→W (runF envS n ⟨4,172,BI,tm,[.code EV_], .run, .normal,none⟩) (s.cxN cxN) fun p s1=>Q p.1 (s1.cxN s.cx)):W (Ay envS (runF envS n) 4 [a0,a1]) s Q:=
 W.call (by kernel_rfl) (by kernel_rfl) S3 (by kernel_rfl) rfl rfl (by simp) (h _ (by kernel_rfl) (by kernel_rfl))
theorem Y3:Tryz.f4.results.toList=[.tmp 4]:=by kernel_rfl
def TJ:List Item:=skim 64 [.code EV_]
def MJ:List Item:=skim 64 TJ.tail
theorem ZE_:skim 64 TJ.tail=MJ:=by kernel_rfl
def J7:List Item:=skim 64 MJ.tail
theorem AcU_:skim 64 MJ.tail=J7:=by kernel_rfl
def Ma:List Item:=skim 64 J7.tail
theorem IL_:skim 64 J7.tail=Ma:=by kernel_rfl
def GD:List Item:=skim 64 Ma.tail
theorem Ar_:skim 64 Ma.tail=GD:=by kernel_rfl
def Nu:List Item:=skim 64 (brT GD)
theorem Ll_:skim 64 (brT GD)=Nu:=by kernel_rfl
def L9:List Item:=skim 64 (brF GD)
theorem Acf_:skim 64 (brF GD)=L9:=by kernel_rfl
def O1:List Item:=skim 64 Nu.tail
theorem AfC_:skim 64 Nu.tail=O1:=by kernel_rfl
def Mg:List Item:=skim 64 L9.tail
theorem Nj_:skim 64 L9.tail=Mg:=by kernel_rfl
def Hx:List Item:=skim 64 Mg.tail
theorem Pk_:skim 64 Mg.tail=Hx:=by kernel_rfl
def HA:List Item:=skim 64 Hx.tail
theorem An_:skim 64 Hx.tail=HA:=by kernel_rfl
def Nn:List Item:=skim 64 (brT HA)
theorem HL_:skim 64 (brT HA)=Nn:=by kernel_rfl
def Iq:List Item:=skim 64 (brF HA)
theorem AaV_:skim 64 (brF HA)=Iq:=by kernel_rfl
def GH:List Item:=skim 64 Nn.tail
theorem UK:skim 64 Nn.tail=GH:=by kernel_rfl
def Hd:List Item:=skim 64 Iq.tail
theorem Py_:skim 64 Iq.tail=Hd:=by kernel_rfl
def JJ:List Item:=skim 64 (brT GH)
theorem Ri_:skim 64 (brT GH)=JJ:=by kernel_rfl
def Nw:List Item:=skim 64 (brF GH)
theorem PV_:skim 64 (brF GH)=Nw:=by kernel_rfl
def F1:List Item:=skim 64 Hd.tail
theorem BV_:skim 64 Hd.tail=F1:=by kernel_rfl
def KM:List Item:=skim 64 JJ.tail
theorem AbU_:skim 64 JJ.tail=KM:=by kernel_rfl
def Jr:List Item:=skim 64 Nw.tail
theorem TN_:skim 64 Nw.tail=Jr:=by kernel_rfl
def Ny:List Item:=skim 64 (brT F1)
theorem Xn_:skim 64 (brT F1)=Ny:=by kernel_rfl
def Ls:List Item:=skim 64 (brF F1)
theorem Mz_:skim 64 (brF F1)=Ls:=by kernel_rfl
def NE:List Item:=skim 64 KM.tail
theorem Mf_:skim 64 KM.tail=NE:=by kernel_rfl
def PU:List Item:=skim 64 Jr.tail
theorem PX_:skim 64 Jr.tail=PU:=by kernel_rfl
def JO:List Item:=skim 64 Ny.tail
theorem SY_:skim 64 Ny.tail=JO:=by kernel_rfl
def T7:List Item:=skim 64 Ls.tail
theorem AdC_:skim 64 Ls.tail=T7:=by kernel_rfl
def MB:List Item:=skim 64 (brF NE)
theorem RT_:skim 64 (brF NE)=MB:=by kernel_rfl
theorem Jk_:skim 64 (brF PU)=MB:=by kernel_rfl
def LR:List Item:=skim 64 JO.tail
theorem WD_:skim 64 JO.tail=LR:=by kernel_rfl
theorem AL_:skim 64 MB.tail=Hx:=by kernel_rfl
def Lw:List Item:=skim 64 LR.tail
theorem Ib_:skim 64 LR.tail=Lw:=by kernel_rfl
def Mi:List Item:=skim 64 (brF Lw)
theorem Zi_:skim 64 (brF Lw)=Mi:=by kernel_rfl
def Lu:List Item:=skim 64 Mi.tail
theorem Acd_:skim 64 Mi.tail=Lu:=by kernel_rfl
def Kx:List Item:=skim 64 Lu.tail
theorem Zc_:skim 64 Lu.tail=Kx:=by kernel_rfl
def LO:List Item:=skim 64 (brF Kx)
theorem AfN_:skim 64 (brF Kx)=LO:=by kernel_rfl
def KI:List Item:=skim 64 LO.tail
theorem TS_:skim 64 LO.tail=KI:=by kernel_rfl
def JH:List Item:=skim 64 KI.tail
theorem AeO_:skim 64 KI.tail=JH:=by kernel_rfl
def Np:List Item:=skim 64 JH.tail
theorem VU_:skim 64 JH.tail=Np:=by kernel_rfl
def O2:List Item:=skim 64 (brF Np)
theorem XD_:skim 64 (brF Np)=O2:=by kernel_rfl
theorem ZV_:skim 64 O2.tail=Hd:=by kernel_rfl
def Co_ (E:Env)(call round:Ad)(tm:T Value):M (T Value):=
 mv (some (.bool false)) fun v4=>
 setF 4 v4 tm fun tm1=>
 M.pure tm1
theorem Ny_:RegEq 4 172 BI TJ Co_:=⟨by kernel_rfl,fun _ _ _ _ _ _ _ _ _=>by kernel_rfl⟩
def AG_ (E:Env)(call round:Ad)(tm:T Value):M (T Value):=
 M.bind (M.on (some (.func (.func 6) #[] #[])) fun f=>M.on (seqO []) fun l=>AL call round f l) fun v22=>
 mv (some v22) fun v5=>
 setF 5 v5 tm fun tm1=>
 M.pure tm1
theorem Aaa_:RegEq 4 172 BI MJ AG_:=⟨by kernel_rfl,fun _ _ _ _ _ _ _ _ _=>by kernel_rfl⟩
def Dl_ (E:Env)(call round:Ad)(tm:T Value):M (T Value):=
 M.bind (M.on (some (.func (.func 7) #[] #[])) fun f=>M.on (seqO []) fun l=>AL call round f l) fun v24=>
 mv (some v24) fun v23=>
 M.bind (oS (some v23) fun a=>kExt 0 a) fun v25=>
 M.bind (oS (some v23) fun a=>kExt 1 a) fun v26=>
 M.bind (oS (some v23) fun a=>kExt 2 a) fun v27=>
 mv (some v25) fun v6=>
 setF 6 v6 tm fun tm1=>
 mv (some v26) fun v7=>
 setF 7 v7 tm1 fun tm2=>
 mv (some v27) fun v8=>
 setF 8 v8 tm2 fun tm3=>
 M.pure tm3
theorem AdY_:RegEq 4 172 BI J7 Dl_:=⟨by kernel_rfl,fun _ _ _ _ _ _ _ _ _=>by kernel_rfl⟩
def Ql (E:Env)(call round:Ad)(tm:T Value):M (T Value):=
 mv (T.get tm 0) fun v28=>
 M.bind (oS (seqO [(some v28)]) fun l=>Ba E .len [22] l) fun v29=>
 M.bind (oS (some v29) fun a=>oS (some (.int .i64 30)) fun b=>Cl.get (aBin E .gtr 3 (.tmp 29) (.const (.int .i64 30))) a b) fun v30=>
 mv (some v30) fun v31=>
 M.bind (M.chk (isK v31) (M.if (isB v31 false) (oS (T.get tm 8) fun a=>M.pure a) (M.pure undef))) fun v32=>
 M.bind (M.chk (isK v31) (M.if (isB v31 false) (oS (some v32) fun a=>kUn E.P .not a) (M.pure undef))) fun v33=>
 M.bind (M.on (some v31) fun a=>M.on (some (.bool true)) fun b=>M.on (some v33) fun c=>Bj a b c) fun v34=>
 setF 34 v34 tm fun tm1=>
 M.pure tm1
theorem OP_:RegEq 4 172 BI Ma Ql:=⟨by kernel_rfl,fun _ _ _ _ _ _ _ _ _=>by kernel_rfl⟩
theorem WT:A4 GD=some 34:=by kernel_rfl
def ZL (E:Env)(call round:Ad)(tm:T Value):M (T Value):=
 mv (T.get tm 5) fun v35=>
 mv (some v35) fun v36=>
 M.bind (M.chk (isK v36) (M.if (isB v36 true) (oS (T.get tm 8) fun a=>M.pure a) (M.pure undef))) fun v37=>
 M.bind (M.on (some v36) fun a=>M.on (some v37) fun b=>M.on (some (.bool false)) fun c=>Bj a b c) fun v38=>
 mv (some v38) fun v4=>
 setF 4 v4 tm fun tm1=>
 M.pure tm1
theorem RA_:RegEq 4 172 BI Nu ZL:=⟨by kernel_rfl,fun _ _ _ _ _ _ _ _ _=>by kernel_rfl⟩
def Bq_ (E:Env)(call round:Ad)(tm:T Value):M (T Value):=
 mv (some (.int .i64 0)) fun v9=>
 setF 9 v9 tm fun tm1=>
 mv (some (.int .i64 0)) fun v10=>
 setF 10 v10 tm1 fun tm2=>
 M.pure tm2
theorem ZO_:RegEq 4 172 BI L9 Bq_:=⟨by kernel_rfl,fun _ _ _ _ _ _ _ _ _=>by kernel_rfl⟩
theorem JE_: ∃k,O1= .code .ret::k:=⟨O1.tail,by kernel_rfl⟩
def VQ (E:Env)(call round:Ad)(tm:T Value):M (T Value):=
 mv (some (.int .i64 0)) fun v11=>
 setF 11 v11 tm fun tm1=>
 M.pure tm1
theorem YM_:RegEq 4 172 BI Mg VQ:=⟨by kernel_rfl,fun _ _ _ _ _ _ _ _ _=>by kernel_rfl⟩
def SJ (E:Env)(call round:Ad)(tm:T Value):M (T Value):=
 mv (T.get tm 11) fun v39=>
 mv (T.get tm 0) fun v40=>
 M.bind (oS (seqO [(some v40)]) fun l=>Ba E .len [22] l) fun v41=>
 M.bind (oS (some v39) fun a=>oS (some v41) fun b=>Cl.get (aBin E .lss 3 (.tmp 39) (.tmp 41)) a b) fun v42=>
 setF 42 v42 tm fun tm1=>
 M.pure tm1
theorem CZ_:RegEq 4 172 BI Hx SJ:=⟨by kernel_rfl,fun _ _ _ _ _ _ _ _ _=>by kernel_rfl⟩
theorem Yj:A4 HA=some 42:=by kernel_rfl
def Yl (E:Env)(call round:Ad)(tm:T Value):M (T Value):=
 mv (T.get tm 0) fun v45=>
 mv (T.get tm 11) fun v46=>
 M.bind (oS (some v45) fun a=>oS (some v46) fun b=>BD E 22 a b) fun v47=>
 M.bind (oS (some v47) fun a=>AC E 4 a) fun v48=>
 setF 48 v48 tm fun tm1=>
 M.pure tm1
theorem QN_:RegEq 4 172 BI Nn Yl:=⟨by kernel_rfl,fun _ _ _ _ _ _ _ _ _=>by kernel_rfl⟩
def Cg_ (E:Env)(call round:Ad)(tm:T Value):M (T Value):=
 mv (some (.int .i64 0)) fun v12=>
 setF 12 v12 tm fun tm1=>
 M.pure tm1
theorem MV_:RegEq 4 172 BI Iq Cg_:=⟨by kernel_rfl,fun _ _ _ _ _ _ _ _ _=>by kernel_rfl⟩
theorem Gh_:A4 GH=some 48:=by kernel_rfl
def Ui (E:Env)(call round:Ad)(tm:T Value):M (T Value):=
 mv (T.get tm 12) fun v61=>
 mv (T.get tm 1) fun v62=>
 M.bind (M.on (some (.func (.func 19) #[] #[])) fun f=>M.on (seqO [(some v62),(some (.int .i64 21))]) fun l=>AL call round f l) fun v63=>
 M.bind (oS (some v61) fun a=>oS (some v63) fun b=>Cl.get (aBin E .lss 3 (.tmp 61) (.tmp 63)) a b) fun v64=>
 setF 64 v64 tm fun tm1=>
 M.pure tm1
theorem WO:RegEq 4 172 BI Hd Ui:=⟨by kernel_rfl,fun _ _ _ _ _ _ _ _ _=>by kernel_rfl⟩
def WJ (E:Env)(call round:Ad)(tm:T Value):M (T Value):=
 mv (T.get tm 9) fun v49=>
 M.bind (oS (some v49) fun a=>oS (some (.int .i64 1)) fun b=>Cl.get (aBin E .add 3 (.tmp 49) (.const (.int .i64 1))) a b) fun v50=>
 mv (some v50) fun v9=>
 setF 9 v9 tm fun tm1=>
 M.pure tm1
theorem Je_:RegEq 4 172 BI JJ WJ:=⟨by kernel_rfl,fun _ _ _ _ _ _ _ _ _=>by kernel_rfl⟩
def FA_ (E:Env)(call round:Ad)(tm:T Value):M (T Value):=
 mv (T.get tm 10) fun v55=>
 M.bind (oS (some v55) fun a=>oS (some (.int .i64 1)) fun b=>Cl.get (aBin E .add 3 (.tmp 55) (.const (.int .i64 1))) a b) fun v56=>
 mv (some v56) fun v10=>
 setF 10 v10 tm fun tm1=>
 M.pure tm1
theorem TY_:RegEq 4 172 BI Nw FA_:=⟨by kernel_rfl,fun _ _ _ _ _ _ _ _ _=>by kernel_rfl⟩
theorem BW_:A4 F1=some 64:=by kernel_rfl
def Xm (E:Env)(call round:Ad)(tm:T Value):M (T Value):=
 mv (T.get tm 7) fun v51=>
 mv (T.get tm 9) fun v52=>
 M.bind (M.on (some (.func (.func 15) #[] #[])) fun f=>M.on (seqO [(some v51),(some v52)]) fun l=>AL call round f l) fun v53=>
 M.bind (oS (some v53) fun a=>kUn E.P .not a) fun v54=>
 setF 54 v54 tm fun tm1=>
 M.pure tm1
theorem Mg_:RegEq 4 172 BI KM Xm:=⟨by kernel_rfl,fun _ _ _ _ _ _ _ _ _=>by kernel_rfl⟩
def VL (E:Env)(call round:Ad)(tm:T Value):M (T Value):=
 mv (T.get tm 7) fun v57=>
 mv (T.get tm 10) fun v58=>
 M.bind (M.on (some (.func (.func 16) #[] #[])) fun f=>M.on (seqO [(some v57),(some v58)]) fun l=>AL call round f l) fun v59=>
 M.bind (oS (some v59) fun a=>kUn E.P .not a) fun v60=>
 setF 60 v60 tm fun tm1=>
 M.pure tm1
theorem LE_:RegEq 4 172 BI Jr VL:=⟨by kernel_rfl,fun _ _ _ _ _ _ _ _ _=>by kernel_rfl⟩
def DS_ (E:Env)(call round:Ad)(tm:T Value):M (T Value):=
 mv (T.get tm 6) fun v68=>
 M.bind (M.on (some (.func (.func 13) #[] #[])) fun f=>M.on (seqO [(some v68)]) fun l=>AL call round f l) fun v69=>
 mv (some v69) fun v67=>
 M.bind (oS (some v67) fun a=>kExt 0 a) fun v70=>
 M.bind (oS (some v67) fun a=>kExt 1 a) fun v71=>
 mv (some v70) fun v13=>
 setF 13 v13 tm fun tm1=>
 mv (some v71) fun v14=>
 setF 14 v14 tm1 fun tm2=>
 M.pure tm2
theorem Nb_:RegEq 4 172 BI Ny DS_:=⟨by kernel_rfl,fun _ _ _ _ _ _ _ _ _=>by kernel_rfl⟩
def Y7 (E:Env)(call round:Ad)(tm:T Value):M (T Value):=
 mv (T.get tm 5) fun v171=>
 mv (some v171) fun v4=>
 setF 4 v4 tm fun tm1=>
 M.pure tm1
theorem HV_:RegEq 4 172 BI Ls Y7:=⟨by kernel_rfl,fun _ _ _ _ _ _ _ _ _=>by kernel_rfl⟩
theorem Yp_:A4 NE=some 54:=by kernel_rfl
theorem NW_:A4 PU=some 60:=by kernel_rfl
def X9 (E:Env)(call round:Ad)(tm:T Value):M (T Value):=
 mv (T.get tm 6) fun v72=>
 M.bind (M.on (some (.func (.func 18) #[] #[])) fun f=>M.on (seqO [(some v72),(some (.string {data:= #[]}))]) fun l=>AL call round f l) fun v73=>
 mv (some v73) fun v15=>
 setF 15 v15 tm fun tm1=>
 M.pure tm1
theorem XK_:RegEq 4 172 BI JO X9:=⟨by kernel_rfl,fun _ _ _ _ _ _ _ _ _=>by kernel_rfl⟩
theorem JF_: ∃k,T7= .code .ret::k:=⟨T7.tail,by kernel_rfl⟩
def Sb (E:Env)(call round:Ad)(tm:T Value):M (T Value):=
 mv (T.get tm 11) fun v43=>
 M.bind (oS (some v43) fun a=>oS (some (.int .i64 1)) fun b=>Cl.get (aBin E .add 3 (.tmp 43) (.const (.int .i64 1))) a b) fun v44=>
 mv (some v44) fun v11=>
 setF 11 v11 tm fun tm1=>
 M.pure tm1
theorem VU:RegEq 4 172 BI MB Sb:=⟨by kernel_rfl,fun _ _ _ _ _ _ _ _ _=>by kernel_rfl⟩
def WB (E:Env)(call round:Ad)(tm:T Value):M (T Value):=
 mv (T.get tm 14) fun v74=>
 M.bind (oS (some v74) fun a=>oS (some (.int .i64 0)) fun b=>Cl.get (aBin E .neq 29 (.tmp 74) (.const (.int .i64 0))) a b) fun v75=>
 mv (some v75) fun v76=>
 M.bind (M.chk (isK v76) (M.if (isB v76 false) (oS (T.get tm 13) fun a=>M.pure a) (M.pure undef))) fun v77=>
 M.bind (M.chk (isK v76) (M.if (isB v76 false) (oS (some v77) fun a=>oS (some (.pointer none)) fun b=>Cl.get (aBin E .eql 26 (.tmp 77) (.const (.pointer none))) a b) (M.pure undef))) fun v78=>
 M.bind (M.on (some v76) fun a=>M.on (some (.bool true)) fun b=>M.on (some v78) fun c=>Bj a b c) fun v79=>
 mv (some v79) fun v80=>
 M.bind (M.chk (isK v80) (M.if (isB v80 false) (oS (T.get tm 13) fun a=>M.pure a) (M.pure undef))) fun v81=>
 M.bind (M.chk (isK v80) (M.if (isB v80 false) (oS (T.get tm 9) fun a=>M.pure a) (M.pure undef))) fun v82=>
 M.bind (M.chk (isK v80) (M.if (isB v80 false) (oS (T.get tm 10) fun a=>M.pure a) (M.pure undef))) fun v83=>
 M.bind (M.chk (isK v80) (M.if (isB v80 false) (M.on (some (.func (.func 14) #[] #[])) fun f=>M.on (seqO [(some v81),(some v82),(some v83)]) fun l=>AL call round f l) (M.pure undef))) fun v84=>
 M.bind (M.chk (isK v80) (M.if (isB v80 false) (oS (some v84) fun a=>kUn E.P .not a) (M.pure undef))) fun v85=>
 M.bind (M.on (some v80) fun a=>M.on (some (.bool true)) fun b=>M.on (some v85) fun c=>Bj a b c) fun v86=>
 mv (some v86) fun v87=>
 M.bind (M.chk (isK v87) (M.if (isB v87 false) (oS (T.get tm 15) fun a=>M.pure a) (M.pure undef))) fun v88=>
 M.bind (M.chk (isK v87) (M.if (isB v87 false) (oS (seqO [(some v88)]) fun l=>Ba E .len [41] l) (M.pure undef))) fun v89=>
 M.bind (M.chk (isK v87) (M.if (isB v87 false) (oS (some v89) fun a=>oS (some (.int .i64 1)) fun b=>Cl.get (aBin E .neq 3 (.tmp 89) (.const (.int .i64 1))) a b) (M.pure undef))) fun v90=>
 M.bind (M.on (some v87) fun a=>M.on (some (.bool true)) fun b=>M.on (some v90) fun c=>Bj a b c) fun v91=>
 mv (some v91) fun v92=>
 M.bind (M.chk (isK v92) (M.if (isB v92 false) (oS (T.get tm 6) fun a=>M.pure a) (M.pure undef))) fun v93=>
 M.bind (M.chk (isK v92) (M.if (isB v92 false) (oS (T.get tm 15) fun a=>M.pure a) (M.pure undef))) fun v94=>
 M.bind (M.chk (isK v92) (M.if (isB v92 false) (oS (some v94) fun a=>oS (some (.int .i64 0)) fun b=>BD E 41 a b) (M.pure undef))) fun v95=>
 M.bind (M.chk (isK v92) (M.if (isB v92 false) (oS (some v95) fun a=>AC E 9 a) (M.pure undef))) fun v96=>
 M.bind (M.chk (isK v92) (M.if (isB v92 false) (M.on (some (.func (.func 20) #[] #[])) fun f=>M.on (seqO [(some v93),(some v96)]) fun l=>AL call round f l) (M.pure undef))) fun v97=>
 M.bind (M.chk (isK v92) (M.if (isB v92 false) (oS (some v97) fun a=>oS (some (.int .i64 0)) fun b=>Cl.get (aBin E .neq 3 (.tmp 97) (.const (.int .i64 0))) a b) (M.pure undef))) fun v98=>
 M.bind (M.on (some v92) fun a=>M.on (some (.bool true)) fun b=>M.on (some v98) fun c=>Bj a b c) fun v99=>
 setF 99 v99 tm fun tm1=>
 M.pure tm1
theorem Adw_:RegEq 4 172 BI LR WB:=⟨by kernel_rfl,fun _ _ _ _ _ _ _ _ _=>by kernel_rfl⟩
theorem Mo_:A4 Lw=some 99:=by kernel_rfl
def Zf (E:Env)(call round:Ad)(tm:T Value):M (T Value):=
 mv (T.get tm 6) fun v101=>
 mv (T.get tm 15) fun v102=>
 M.bind (oS (some v102) fun a=>oS (some (.int .i64 0)) fun b=>BD E 41 a b) fun v103=>
 M.bind (oS (some v103) fun a=>AC E 9 a) fun v104=>
 M.bind (M.on (some (.func (.func 21) #[] #[])) fun f=>M.on (seqO [(some v101),(some v104)]) fun l=>AL call round f l) fun v105=>
 mv (some v105) fun v100=>
 M.bind (oS (some v100) fun a=>kExt 0 a) fun v106=>
 M.bind (oS (some v100) fun a=>kExt 1 a) fun v107=>
 mv (some v106) fun v16=>
 setF 16 v16 tm fun tm1=>
 mv (some v107) fun v17=>
 setF 17 v17 tm1 fun tm2=>
 M.pure tm2
theorem AeE_:RegEq 4 172 BI Mi Zf:=⟨by kernel_rfl,fun _ _ _ _ _ _ _ _ _=>by kernel_rfl⟩
def UJ (E:Env)(call round:Ad)(tm:T Value):M (T Value):=
 mv (T.get tm 17) fun v108=>
 M.bind (oS (some v108) fun a=>oS (some (.int .i64 0)) fun b=>Cl.get (aBin E .neq 29 (.tmp 108) (.const (.int .i64 0))) a b) fun v109=>
 mv (some v109) fun v110=>
 M.bind (M.chk (isK v110) (M.if (isB v110 false) (oS (T.get tm 16) fun a=>M.pure a) (M.pure undef))) fun v111=>
 M.bind (M.chk (isK v110) (M.if (isB v110 false) (oS (seqO [(some v111)]) fun l=>Ba E .len [23] l) (M.pure undef))) fun v112=>
 M.bind (M.chk (isK v110) (M.if (isB v110 false) (oS (some v112) fun a=>oS (some (.int .i64 18)) fun b=>Cl.get (aBin E .neq 3 (.tmp 112) (.const (.int .i64 18))) a b) (M.pure undef))) fun v113=>
 M.bind (M.on (some v110) fun a=>M.on (some (.bool true)) fun b=>M.on (some v113) fun c=>Bj a b c) fun v114=>
 setF 114 v114 tm fun tm1=>
 M.pure tm1
theorem Ng_:RegEq 4 172 BI Lu UJ:=⟨by kernel_rfl,fun _ _ _ _ _ _ _ _ _=>by kernel_rfl⟩
theorem Tu_:A4 Kx=some 114:=by kernel_rfl
def Cx_ (E:Env)(call round:Ad)(tm:T Value):M (T Value):=
 mv (T.get tm 16) fun v116=>
 M.bind (M.on (some v116) fun a=>M.on (some none) fun b=>M.on (onO (some (.int .i64 9)) fun v=>some (some v)) fun c=>B5 E 23 a b c) fun v117=>
 M.bind (M.on (some (.func (.func 22) #[] #[])) fun f=>M.on (seqO [(some v117)]) fun l=>AL call round f l) fun v118=>
 mv (some v118) fun v115=>
 M.bind (oS (some v115) fun a=>kExt 0 a) fun v119=>
 M.bind (oS (some v115) fun a=>kExt 1 a) fun v120=>
 mv (some v119) fun v18=>
 setF 18 v18 tm fun tm1=>
 mv (some v120) fun v19=>
 setF 19 v19 tm1 fun tm2=>
 M.pure tm2
theorem Xs_:RegEq 4 172 BI LO Cx_:=⟨by kernel_rfl,fun _ _ _ _ _ _ _ _ _=>by kernel_rfl⟩
def Wb (E:Env)(call round:Ad)(tm:T Value):M (T Value):=
 mv (T.get tm 16) fun v122=>
 M.bind (M.on (some v122) fun a=>M.on (onO (some (.int .i64 9)) fun v=>some (some v)) fun b=>M.on (some none) fun c=>B5 E 23 a b c) fun v123=>
 M.bind (M.on (some (.func (.func 22) #[] #[])) fun f=>M.on (seqO [(some v123)]) fun l=>AL call round f l) fun v124=>
 mv (some v124) fun v121=>
 M.bind (oS (some v121) fun a=>kExt 0 a) fun v125=>
 M.bind (oS (some v121) fun a=>kExt 1 a) fun v126=>
 mv (some v125) fun v20=>
 setF 20 v20 tm fun tm1=>
 mv (some v126) fun v21=>
 setF 21 v21 tm1 fun tm2=>
 M.pure tm2
theorem Lr_:RegEq 4 172 BI KI Wb:=⟨by kernel_rfl,fun _ _ _ _ _ _ _ _ _=>by kernel_rfl⟩
def Yk (E:Env)(call round:Ad)(tm:T Value):M (T Value):=
 mv (T.get tm 19) fun v127=>
 M.bind (oS (some v127) fun a=>oS (some (.int .i64 0)) fun b=>Cl.get (aBin E .neq 29 (.tmp 127) (.const (.int .i64 0))) a b) fun v128=>
 mv (some v128) fun v129=>
 M.bind (M.chk (isK v129) (M.if (isB v129 false) (oS (T.get tm 21) fun a=>M.pure a) (M.pure undef))) fun v130=>
 M.bind (M.chk (isK v129) (M.if (isB v129 false) (oS (some v130) fun a=>oS (some (.int .i64 0)) fun b=>Cl.get (aBin E .neq 29 (.tmp 130) (.const (.int .i64 0))) a b) (M.pure undef))) fun v131=>
 M.bind (M.on (some v129) fun a=>M.on (some (.bool true)) fun b=>M.on (some v131) fun c=>Bj a b c) fun v132=>
 mv (some v132) fun v133=>
 M.bind (M.chk (isK v133) (M.if (isB v133 false) (oS (T.get tm 18) fun a=>M.pure a) (M.pure undef))) fun v134=>
 M.bind (M.chk (isK v133) (M.if (isB v133 false) (oS (seqO [(some v134)]) fun l=>Ba E .len [23] l) (M.pure undef))) fun v135=>
 M.bind (M.chk (isK v133) (M.if (isB v133 false) (oS (some v135) fun a=>oS (some (.int .i64 5)) fun b=>Cl.get (aBin E .neq 3 (.tmp 135) (.const (.int .i64 5))) a b) (M.pure undef))) fun v136=>
 M.bind (M.on (some v133) fun a=>M.on (some (.bool true)) fun b=>M.on (some v136) fun c=>Bj a b c) fun v137=>
 mv (some v137) fun v138=>
 M.bind (M.chk (isK v138) (M.if (isB v138 false) (oS (T.get tm 20) fun a=>M.pure a) (M.pure undef))) fun v139=>
 M.bind (M.chk (isK v138) (M.if (isB v138 false) (oS (seqO [(some v139)]) fun l=>Ba E .len [23] l) (M.pure undef))) fun v140=>
 M.bind (M.chk (isK v138) (M.if (isB v138 false) (oS (some v140) fun a=>oS (some (.int .i64 5)) fun b=>Cl.get (aBin E .neq 3 (.tmp 140) (.const (.int .i64 5))) a b) (M.pure undef))) fun v141=>
 M.bind (M.on (some v138) fun a=>M.on (some (.bool true)) fun b=>M.on (some v141) fun c=>Bj a b c) fun v142=>
 mv (some v142) fun v143=>
 M.bind (M.chk (isK v143) (M.if (isB v143 false) (oS (T.get tm 18) fun a=>M.pure a) (M.pure undef))) fun v144=>
 M.bind (M.chk (isK v143) (M.if (isB v143 false) (oS (some v144) fun a=>oS (some (.int .i64 0)) fun b=>BD E 23 a b) (M.pure undef))) fun v145=>
 M.bind (M.chk (isK v143) (M.if (isB v143 false) (oS (some v145) fun a=>AC E 5 a) (M.pure undef))) fun v146=>
 M.bind (M.chk (isK v143) (M.if (isB v143 false) (oS (some v146) fun a=>oS (some (.int .u8 1)) fun b=>Cl.get (aBin E .neq 5 (.tmp 146) (.const (.int .u8 1))) a b) (M.pure undef))) fun v147=>
 M.bind (M.on (some v143) fun a=>M.on (some (.bool true)) fun b=>M.on (some v147) fun c=>Bj a b c) fun v148=>
 mv (some v148) fun v149=>
 M.bind (M.chk (isK v149) (M.if (isB v149 false) (oS (T.get tm 20) fun a=>M.pure a) (M.pure undef))) fun v150=>
 M.bind (M.chk (isK v149) (M.if (isB v149 false) (oS (some v150) fun a=>oS (some (.int .i64 0)) fun b=>BD E 23 a b) (M.pure undef))) fun v151=>
 M.bind (M.chk (isK v149) (M.if (isB v149 false) (oS (some v151) fun a=>AC E 5 a) (M.pure undef))) fun v152=>
 M.bind (M.chk (isK v149) (M.if (isB v149 false) (oS (some v152) fun a=>oS (some (.int .u8 2)) fun b=>Cl.get (aBin E .neq 5 (.tmp 152) (.const (.int .u8 2))) a b) (M.pure undef))) fun v153=>
 M.bind (M.on (some v149) fun a=>M.on (some (.bool true)) fun b=>M.on (some v153) fun c=>Bj a b c) fun v154=>
 mv (some v154) fun v155=>
 M.bind (M.chk (isK v155) (M.if (isB v155 false) (oS (T.get tm 18) fun a=>M.pure a) (M.pure undef))) fun v156=>
 M.bind (M.chk (isK v155) (M.if (isB v155 false) (oS (some v156) fun a=>oS (some (.int .i64 4)) fun b=>BD E 23 a b) (M.pure undef))) fun v157=>
 M.bind (M.chk (isK v155) (M.if (isB v155 false) (oS (some v157) fun a=>AC E 5 a) (M.pure undef))) fun v158=>
 M.bind (M.chk (isK v155) (M.if (isB v155 false) (oS (some v158) fun a=>BP E 5 3 a) (M.pure undef))) fun v159=>
 M.bind (M.chk (isK v155) (M.if (isB v155 false) (oS (T.get tm 9) fun a=>M.pure a) (M.pure undef))) fun v160=>
 M.bind (M.chk (isK v155) (M.if (isB v155 false) (oS (some v159) fun a=>oS (some v160) fun b=>Cl.get (aBin E .neq 3 (.tmp 159) (.tmp 160)) a b) (M.pure undef))) fun v161=>
 M.bind (M.on (some v155) fun a=>M.on (some (.bool true)) fun b=>M.on (some v161) fun c=>Bj a b c) fun v162=>
 mv (some v162) fun v163=>
 M.bind (M.chk (isK v163) (M.if (isB v163 false) (oS (T.get tm 20) fun a=>M.pure a) (M.pure undef))) fun v164=>
 M.bind (M.chk (isK v163) (M.if (isB v163 false) (oS (some v164) fun a=>oS (some (.int .i64 4)) fun b=>BD E 23 a b) (M.pure undef))) fun v165=>
 M.bind (M.chk (isK v163) (M.if (isB v163 false) (oS (some v165) fun a=>AC E 5 a) (M.pure undef))) fun v166=>
 M.bind (M.chk (isK v163) (M.if (isB v163 false) (oS (some v166) fun a=>BP E 5 3 a) (M.pure undef))) fun v167=>
 M.bind (M.chk (isK v163) (M.if (isB v163 false) (oS (T.get tm 10) fun a=>M.pure a) (M.pure undef))) fun v168=>
 M.bind (M.chk (isK v163) (M.if (isB v163 false) (oS (some v167) fun a=>oS (some v168) fun b=>Cl.get (aBin E .neq 3 (.tmp 167) (.tmp 168)) a b) (M.pure undef))) fun v169=>
 M.bind (M.on (some v163) fun a=>M.on (some (.bool true)) fun b=>M.on (some v169) fun c=>Bj a b c) fun v170=>
 setF 170 v170 tm fun tm1=>
 M.pure tm1
theorem AcW_:RegEq 4 172 BI JH Yk:=⟨by kernel_rfl,fun _ _ _ _ _ _ _ _ _=>by kernel_rfl⟩
theorem AfW_:A4 Np=some 170:=by kernel_rfl
def CR_ (E:Env)(call round:Ad)(tm:T Value):M (T Value):=
 mv (T.get tm 12) fun v65=>
 M.bind (oS (some v65) fun a=>oS (some (.int .i64 1)) fun b=>Cl.get (aBin E .add 3 (.tmp 65) (.const (.int .i64 1))) a b) fun v66=>
 mv (some v66) fun v12=>
 setF 12 v12 tm fun tm1=>
 M.pure tm1
theorem Sy_:RegEq 4 172 BI O2 CR_:=⟨by kernel_rfl,fun _ _ _ _ _ _ _ _ _=>by kernel_rfl⟩
theorem Sb_:envS.orc.get 6=some (Ss (.bool true)):=by kernel_rfl
theorem AfO_:ptrT envS 25=true:=by kernel_rfl
theorem JrI.same {s s':St}{col:Nat→Nat}{D M J:Nat}{fl:ByteArray}{R:List (Nat×Nat)}{a b:Nat}{u:Bool}{k:DkS}{g:FileS}(h:JrI s col D M J fl R a b u k g)(hm:s'.mem=s.mem)(hn:s'.next=s.next):JrI s' col D M J fl R a b u k g:=
 ⟨h.dk.same hm hn,h.fs,h.room,h.fu,h.ou,h.safe,h.jn.same hm hn,h.jc⟩
theorem JrI.ext {F G:Nat→Prop}{s s':St}{col:Nat→Nat}{D M J:Nat}{fl:ByteArray}{R:List (Nat×Nat)}{a b:Nat}{u:Bool}{k:DkS}{g:FileS}(h:JrI s col D M J fl R a b u k g)(x:Ext F G s s')(hG: ∀y,y<s.next→G y→1000≤col y∧(y<J∨J+5≤y)):JrI s' col D M J fl R a b u k g:=
 ⟨h.dk.ext x (by rw[h.fs];show 1≤300;decide) fun y hy g=>(hG y hy g).1,h.fs,h.room,h.fu,h.ou,h.safe,h.jn.ext x fun y hy g=>(hG y hy g).2,h.jc⟩
theorem JrA.same {s s':St}{col:Nat→Nat}{D M J:Nat}{fl:ByteArray}{R:List (Nat×Nat)}{a b:Nat}{u:Bool}(h:JrA s col D M J fl R a b u)(hm:s'.mem=s.mem)(hn:s'.next=s.next):JrA s' col D M J fl R a b u:=by
 obtain⟨k,g,h⟩:=h
 exact⟨k,g,h.same hm hn⟩
theorem JrA.ext0 {F:Nat→Prop}{s s':St}{col:Nat→Nat}{D M J:Nat}{fl:ByteArray}{R:List (Nat×Nat)}{a b:Nat}{u:Bool}(h:JrA s col D M J fl R a b u)(x:Ext F Non s s'):JrA s' col D M J fl R a b u:=by
 obtain⟨k,g,h⟩:=h
 exact⟨k,g,h.ext x fun _ _ q=>q.elim⟩
theorem HY_ {D M:Nat}{K:DkS}(h:K.fs=[]):SV D M K 1 0:=fun n s0 col0 Q0 hb hI hn q=>
 OL_ hb hI h (by omega) fun s1 x1=>q s1 _ s0.next (Nat.le_refl _) (.inl ⟨rfl,rfl,rfl⟩) x1
theorem XN_ {D M i:Nat}{K:DkS}{g:FileS}(h:K.fs=[g])(hg:g.name=nmJ i)(hi1:1≤i)(hi:i<40):SV D M K i 1:=fun n s0 col0 Q0 hb hI hn q=>
 AeJ_ hb hI h hg hi hi1 (by omega) fun s1 v b h1 h2 x1=>q s1 v b h1 h2 x1
section
variable {n D M J:Nat}{s:St}{col:Nat→Nat}{fl:ByteArray}{R:List (Nat×Nat)}{a b:Nat}{Q:Value→St→Prop}
theorem Aba_ (hb:s.lim≤s.next)(hn:600000≤n)(q: ∀s1 col D M J,s.next≤D→s.next≤J→(∀x,x<s.next→1000≤col x)→Ext Any Non s s1→JrA s1 col D M J (nmJ 1) [(1,0),(2,0)] 0 0 false→Q (.tuple #[.pointer (some ⟨D,0,none⟩), .pointer (some ⟨J,0,none⟩), .bool true]) s1):
  W (Ay envS (runF envS n) 7 []) s Q:=by
 have hb0:(s.cxN cxN).lim≤(s.cxN cxN).next:=hb
 refine HX_ fun tm=> ?_
 refine QD_.w rfl (by omega) ?_
 simp only[Zj,Aa,W_mv,Ab]
 refine KS_.w QG_ (by omega) ?_
 simp only[Vr,Ac,W_oS,W_on,Aa,W_mv,Ab,Ag,Af,Ae,Ah]
 refine AfY_ (room:=1048576) hb0 (by decide) (by omega) fun s1 x1 hI1=> ?_
 have ea:(s.cxN cxN).next=s.next:=rfl
 rw[ea]at hI1 ⊢
 try simp only[Ac,W_oS,W_on,Aa,W_mv,Ab,Ap,T.get_set,Ag,Af,Ar,Aq,Ae,Ah,reduceIte,Ak,As,Av,Aw,Ao,Aj,An,Au,Al,Ai,Nat.reduceEqDiff,reduceCtorEq, ↓reduceIte]
 rw[Bv (k:=0) rfl]
 try simp only[Ac,W_oS,W_on,Aa,W_mv,Ab,Ap,T.get_set,Ag,Af,Ar,Aq,Ae,Ah,reduceIte,Ak,As,Av,Aw,Ao,Aj,An,Au,Al,Ai,Nat.reduceEqDiff,reduceCtorEq, ↓reduceIte]
 rw[Bv (k:=1) rfl]
 try simp only[Ac,W_oS,W_on,Aa,W_mv,Ab,Ap,T.get_set,Ag,Af,Ar,Aq,Ae,Ah,reduceIte,Ak,As,Av,Aw,Ao,Aj,An,Au,Al,Ai,Nat.reduceEqDiff,reduceCtorEq, ↓reduceIte]
 refine Aby_.w YX_ (by omega) ?_
 simp only[UW,Ac,W_oS,W_on,Aa,W_mv,Ab,T.get_set,reduceIte,Ak,Ao,Aj,An,Al,Nat.reduceEqDiff,reduceCtorEq, ↓reduceIte,Bt,decide_true,Bool.not_true,C8 AfO_]
 refine W.cond (v:=false) Zg_ Aca_ (by simp[T.get_set]) (by omega) (fun h=>by cases h) fun _=> ?_
 refine Yr_.w My_ (by omega) ?_
 simp only[Aj_,Ac,W_oS,W_on,Aa,W_mv,Ab,T.get_set,Ag,Af,Ae,Ah,reduceIte,Nat.reduceEqDiff, ↓reduceIte]
 have hc: ∀x,x<s.next→newC s.next x=1000:=fun x hx=>by unfold newC;rw[if_pos hx]
 refine Vd (m:=1) (L:=[]) (u:=false) (x1.bnd hb0) hI1 trivial (fun p hp=>by cases hp) (fun _=>rfl) (Nat.le_refl _) (by decide) (by decide) rfl rfl rfl (by omega) (HY_ rfl) (fun h=>by cases h) fun s2 col2 J k g hag x2 hJ hJr=> ?_
 have n1:s.next≤s1.next:=x1.nxt
 have y2:Ext Any Non (s.cxN cxN) s2:=x1.on x2 hb0 fun x hx h=>by
  have hx:x<s.next:=hx
  have h:newC s.next x<1000:=h
  rw[hc x hx]at h
  omega
 try simp only[Ac,W_oS,W_on,Aa,W_mv,Ab,Ap,T.get_set,Ag,Af,Ar,Aq,Ae,Ah,reduceIte,Ak,As,Av,Aw,Ao,Aj,An,Au,Al,Ai,Nat.reduceEqDiff,reduceCtorEq, ↓reduceIte]
 rw[Bv (k:=0) rfl]
 try simp only[Ac,W_oS,W_on,Aa,W_mv,Ab,Ap,T.get_set,Ag,Af,Ar,Aq,Ae,Ah,reduceIte,Ak,As,Av,Aw,Ao,Aj,An,Au,Al,Ai,Nat.reduceEqDiff,reduceCtorEq, ↓reduceIte]
 rw[Bv (k:=1) rfl]
 try simp only[Ac,W_oS,W_on,Aa,W_mv,Ab,Ap,T.get_set,Ag,Af,Ar,Aq,Ae,Ah,reduceIte,Ak,As,Av,Aw,Ao,Aj,An,Au,Al,Ai,Nat.reduceEqDiff,reduceCtorEq, ↓reduceIte]
 refine Lk_.w Afu_ (by omega) ?_
 simp only[Bg_,Ac,W_oS,W_on,Aa,W_mv,Ab,T.get_set,reduceIte,Ak,As,Aj,An,Al,Nat.reduceEqDiff, ↓reduceIte,BW,decide_true,YC_ PX]
 refine W.end' (rs:=[0,1,2]) (vs:=[.pointer (some ⟨s.next+1,0,none⟩), .pointer (some ⟨J,0,none⟩), .bool true]) Vl_ (.inl PL_) (by omega) WA Yl_ y2.cx (by simp[T.get_set]) ?_
 refine q _ col2 (s.next+1) s.next J (by omega) (by omega) (fun x hx=> ?_) y2.cx' ⟨k,g,hJr.same rfl rfl⟩
 rw[hag x (by omega) (by rw[hc x hx];exact Nat.le_refl _),hc x hx]
 exact Nat.le_refl _
theorem NN_ {w:Nat}(hb:s.lim≤s.next)(h:JrA s col D M J fl R a b false)(hnm:NmOk fl)(hm2:a+1<256)(hR:R.length≤300)(hw:w=a+1)(hn:3000≤n)
  (q: ∀s1 col',(∀x,x<s.next→col' x=col x)→Ext Any (fun x=>col x<1000∨x=J+2) s s1→JrA s1 col' D M J fl (R++[(1,a+1)]) (a+1) b false→Q (.bool true) s1):
  W (Ay envS (runF envS n) 15 [.pointer (some ⟨J,0,none⟩), .int .i64 (w:Nat)]) s Q:=by
 subst hw
 have hb0:(s.cxN cxN).lim≤(s.cxN cxN).next:=hb
 refine Tk_ fun tm t0 t1=> ?_
 refine Wv_.w rfl (by omega) ?_
 simp only[FQ_,Aa,W_mv,Ab]
 refine XE_.w ID_ (by omega) ?_
 simp only[V8,Ac,W_oS,W_on,Aa,W_mv,Ab,T.get_set,Ag,Af,Ae,Ah,reduceIte,reduceCtorEq, ↓reduceIte,t0]
 refine AbT_ hb0 (h.same (s':=s.cxN cxN) rfl rfl) hnm hm2 hR (by omega) (fun hu=>by cases hu) fun s1 col1 hag x1 h1=> ?_
 try simp only[Ac,W_oS,W_on,Aa,W_mv,Ab,Ap,T.get_set,Ag,Af,Ar,Aq,Ae,Ah,reduceIte,Ak,As,Av,Aw,Ao,Aj,An,Au,Al,Ai,Nat.reduceEqDiff,reduceCtorEq, ↓reduceIte]
 rw[Bv (k:=0) rfl]
 try simp only[Ac,W_oS,W_on,Aa,W_mv,Ab,Ap,T.get_set,Ag,Af,Ar,Aq,Ae,Ah,reduceIte,Ak,As,Av,Aw,Ao,Aj,An,Au,Al,Ai,Nat.reduceEqDiff,reduceCtorEq, ↓reduceIte]
 rw[Bv (k:=1) rfl]
 try simp only[Ac,W_oS,W_on,Aa,W_mv,Ab,Ap,T.get_set,Ag,Af,Ar,Aq,Ae,Ah,reduceIte,Ak,As,Av,Aw,Ao,Aj,An,Au,Al,Ai,Nat.reduceEqDiff,reduceCtorEq, ↓reduceIte]
 refine MN_.w AgE_ (by omega) ?_
 simp only[CI_,Ac,W_oS,W_on,Aa,W_mv,Ab,T.get_set,reduceIte,Ak,As,Aj,An,Al,Nat.reduceEqDiff, ↓reduceIte,BW,t1,decide_true]
 refine W.end' (rs:=[4]) (vs:=[.bool true]) RW_ (.inl AcP_) (by omega) XU AdG_ x1.cx (by simp[T.get_set]) ?_
 exact q _ col1 hag x1.cx' (h1.same rfl rfl)
theorem Aco_ {w:Nat}(hb:s.lim≤s.next)(h:JrA s col D M J fl R a b false)(hnm:NmOk fl)(hm2:b+1<256)(hR:R.length≤300)(hw:w=b+1)(hn:3000≤n)
  (q: ∀s1 col',(∀x,x<s.next→col' x=col x)→Ext Any (fun x=>col x<1000∨x=J+3) s s1→JrA s1 col' D M J fl (R++[(2,b+1)]) a (b+1) false→Q (.bool true) s1):
  W (Ay envS (runF envS n) 16 [.pointer (some ⟨J,0,none⟩), .int .i64 (w:Nat)]) s Q:=by
 subst hw
 have hb0:(s.cxN cxN).lim≤(s.cxN cxN).next:=hb
 refine Lz_ fun tm t0 t1=> ?_
 refine UH_.w rfl (by omega) ?_
 simp only[Fg_,Aa,W_mv,Ab]
 refine Abv_.w IG_ (by omega) ?_
 simp only[CH_,Ac,W_oS,W_on,Aa,W_mv,Ab,T.get_set,Ag,Af,Ae,Ah,reduceIte,reduceCtorEq, ↓reduceIte,t0]
 refine AgB_ hb0 (h.same (s':=s.cxN cxN) rfl rfl) hnm hm2 hR (by omega) (fun hu=>by cases hu) fun s1 col1 hag x1 h1=> ?_
 try simp only[Ac,W_oS,W_on,Aa,W_mv,Ab,Ap,T.get_set,Ag,Af,Ar,Aq,Ae,Ah,reduceIte,Ak,As,Av,Aw,Ao,Aj,An,Au,Al,Ai,Nat.reduceEqDiff,reduceCtorEq, ↓reduceIte]
 rw[Bv (k:=0) rfl]
 try simp only[Ac,W_oS,W_on,Aa,W_mv,Ab,Ap,T.get_set,Ag,Af,Ar,Aq,Ae,Ah,reduceIte,Ak,As,Av,Aw,Ao,Aj,An,Au,Al,Ai,Nat.reduceEqDiff,reduceCtorEq, ↓reduceIte]
 rw[Bv (k:=1) rfl]
 try simp only[Ac,W_oS,W_on,Aa,W_mv,Ab,Ap,T.get_set,Ag,Af,Ar,Aq,Ae,Ah,reduceIte,Ak,As,Av,Aw,Ao,Aj,An,Au,Al,Ai,Nat.reduceEqDiff,reduceCtorEq, ↓reduceIte]
 refine XO_.w Ii_ (by omega) ?_
 simp only[Ca_,Ac,W_oS,W_on,Aa,W_mv,Ab,T.get_set,reduceIte,Ak,As,Aj,An,Al,Nat.reduceEqDiff, ↓reduceIte,BW,t1,decide_true]
 refine W.end' (rs:=[4]) (vs:=[.bool true]) OB_ (.inl HI_) (by omega) Gd_ Ky_ x1.cx (by simp[T.get_set]) ?_
 exact q _ col1 hag x1.cx' (h1.same rfl rfl)
theorem Aea_ {u:Bool}(hb:s.lim≤s.next)(h:JrA s col D M J fl R a b u)(hn:1000≤n)(q: ∀s1,Ext Any Non s s1→Q (.bool true) s1):
  W (Ay envS (runF envS n) 14 [.pointer (some ⟨J,0,none⟩), .int .i64 (a:Nat), .int .i64 (b:Nat)]) s Q:=by
 have hb0:(s.cxN cxN).lim≤(s.cxN cxN).next:=hb
 refine OD_ fun tm t0 t1 t2=> ?_
 refine AdI_.w rfl (by omega) ?_
 simp only[EI_,Aa,W_mv,Ab]
 refine LI_.w AbQ_ (by omega) ?_
 simp only[Br_,Ac,W_oS,W_on,Aa,W_mv,Ab,T.get_set,Ag,Af,Ae,Ah,reduceIte,reduceCtorEq, ↓reduceIte,t0]
 refine Vw_ hb0 (h.same (s':=s.cxN cxN) rfl rfl) (by omega) fun s1 x1=> ?_
 try simp only[Ac,W_oS,W_on,Aa,W_mv,Ab,Ap,T.get_set,Ag,Af,Ar,Aq,Ae,Ah,reduceIte,Ak,As,Av,Aw,Ao,Aj,An,Au,Al,Ai,Nat.reduceEqDiff,reduceCtorEq, ↓reduceIte]
 rw[Bv (k:=0) rfl]
 try simp only[Ac,W_oS,W_on,Aa,W_mv,Ab,Ap,T.get_set,Ag,Af,Ar,Aq,Ae,Ah,reduceIte,Ak,As,Av,Aw,Ao,Aj,An,Au,Al,Ai,Nat.reduceEqDiff,reduceCtorEq, ↓reduceIte]
 rw[Bv (k:=1) rfl]
 try simp only[Ac,W_oS,W_on,Aa,W_mv,Ab,Ap,T.get_set,Ag,Af,Ar,Aq,Ae,Ah,reduceIte,Ak,As,Av,Aw,Ao,Aj,An,Au,Al,Ai,Nat.reduceEqDiff,reduceCtorEq, ↓reduceIte]
 refine Wz_.w Ada_ (by omega) ?_
 simp only[X4,Ac,W_oS,W_on,Aa,W_mv,Ab,T.get_set,reduceIte,Ak,As,Aj,An,Al,Nat.reduceEqDiff, ↓reduceIte,BW,t1,t2,decide_true]
 refine W.end' (rs:=[6]) (vs:=[.bool true]) Zh_ (.inl Ir_) (by omega) Gj_ XM_ x1.cx (by simp[T.get_set]) ?_
 exact q _ x1.cx'
end
theorem Sv:slN envS 22=some 1:=by kernel_rfl
def BoR (s:St)(v:Value)(l:List Bool):Prop:=(v= .slice none 0 0∧l=[])∨ ∃b o c,v= .slice (some ⟨b,o,none⟩) l.length c∧Row s b o (l.map Value.bool)
theorem BoR.ext0 {F:Nat→Prop}{s s':St}{v:Value}{l:List Bool}(h:BoR s v l)(x:Ext F Non s s'):BoR s' v l:=by
 rcases h with h|⟨b,o,c,h1,h2⟩
 ·exact .inl h
 ·exact .inr ⟨b,o,c,h1,h2.ext0 x⟩
theorem BoR.same {s s':St}{v:Value}{l:List Bool}(h:BoR s v l)(hm:s'.mem=s.mem)(hn:s'.next=s.next):BoR s' v l:=by
 rcases h with h|⟨b,o,c,h1,h2⟩
 ·exact .inl h
 ·exact .inr ⟨b,o,c,h1,fun i v e=>(h2 i v e).same hm hn⟩
theorem BoR.len {s s':St}{v:Value}{l:List Bool}(h:BoR s v l)(Q:Value→St→Prop):W (Ba envS .len [22] [v]) s' Q=Q (.int .i64 (l.length:Nat)) s':=by
 rcases h with⟨rfl,rfl⟩|⟨b,o,c,rfl,_⟩
 ·exact CU (n:=0) Sv Q
 ·exact CU Sv Q
theorem BoR.at {s:St}{v:Value}{l:List Bool}{i:Nat}(h:BoR s v l)(hi:i<l.length): ∃b o c,v= .slice (some ⟨b,o,none⟩) l.length c∧At s b (o+i*1) (.bool l[i]):=by
 rcases h with⟨_,rfl⟩|⟨b,o,c,h1,h2⟩
 ·cases hi
 ·refine⟨b,o,c,h1, ?_⟩
  rw[Nat.mul_one]
  exact h2 i _ (by simp[hi])
theorem Sh: ∀(l:List Bool) (x:Bool) (s c:Nat),BO (l++[x]) s c=BO l s c++[if x then(1,s+nSes l+1)else(2,c+nCom l+1)]
 |[],true,s,c=>rfl
 |[],false,s,c=>rfl
 |true::l,x,s,c=>by
  show(1,s+1)::BO (l++[x]) (s+1) c=(1,s+1)::(BO l (s+1) c++_)
  rw[Sh l x (s+1) c]
  have e1:nSes (true::l)=nSes l+1:=by simp[nSes]
  have e2:nCom (true::l)=nCom l:=by simp[nCom]
  rw[e1,e2,show s+1+nSes l+1=s+(nSes l+1)+1 by omega]
 |false::l,x,s,c=>by
  show(2,c+1)::BO (l++[x]) s (c+1)=(2,c+1)::(BO l s (c+1)++_)
  rw[Sh l x s (c+1)]
  have e1:nSes (false::l)=nSes l:=by simp[nSes]
  have e2:nCom (false::l)=nCom l+1:=by simp[nCom]
  rw[e1,e2,show c+1+nCom l+1=c+(nCom l+1)+1 by omega]
theorem GA_ (l:List Bool)(x:Bool):nSes (l++[x])=nSes l+if x then 1 else 0:=by cases x<;>simp[nSes]
theorem Xn (l:List Bool)(x:Bool):nCom (l++[x])=nCom l+if x then 0 else 1:=by cases x<;>simp[nCom]
theorem BC_ (l:List Bool)(x:Bool):CD 0 0 (l++[x])=CD 0 0 l++[if x then(1,nSes l+1)else(2,nCom l+1)]:=by
 show(1,0)::(2,0)::BO (l++[x]) 0 0=(1,0)::(2,0)::(BO l 0 0++_)
 rw[Sh]
 simp
section
variable {n D M J:Nat}{s:St}{col:Nat→Nat}{va vb:Value}{l:List Bool}{bs:List Nat}
end
open Go.RowKit Go.ChangeShapes Go.WideShapes
theorem Pz_:envS.P=Tryz.prog:=by kernel_rfl
theorem Acx_:Tryz.prog.underlying 3=some (.int .i64):=by kernel_rfl
theorem Nx_:Tryz.prog.underlying 22=some (.slice 4):=by kernel_rfl
theorem LD_:Tryz.prog.underlying 4=some .bool:=by kernel_rfl
theorem Acj_:Tryz.prog.cellsOf 4=1:=by kernel_rfl
theorem Be.bool' {P:Program}{N F:Nat}{s:St}{t:TypeId}{us:List Value}(hu:P.underlying t=some .bool)(h:Be P N s (F+1) t us): ∃b,us=[.bool b]:=by
 unfold Be at h
 rw[hu]at h
 exact h
theorem RU_ {P:Program}{N F:Nat}{s:St}{t e:TypeId}{us:List Value}(ht:P.underlying t=some (.slice e))(he:P.underlying e=some .bool)(hc:P.cellsOf e=1)(h:Be P N s (F+2) t us): ∃v l,us=[v]∧BoR s v l∧l.length≤9223372036854775807∧l.length≤N:=by
 obtain⟨v,es,rfl,hE,hM,hN,ha⟩:=Be.slice ht (by rw[hc];decide) h
 have h1: ∀i,i<es.length→ ∃b:Bool,es[i]?=some [.bool b]:=fun i hi=>by
  obtain⟨_,hx⟩:=ha _ (List.getElem_mem hi)
  obtain⟨b,e1⟩:=hx.bool' he
  exact⟨b,by rw[List.getElem?_eq_getElem hi,e1]⟩
 obtain⟨l,hl,hp⟩:=DQ_ h1
 refine⟨v,l,rfl, ?_,by omega,by omega⟩
 rcases hE with⟨rfl,rfl⟩|⟨b,c,rfl,_,_,hr⟩
 ·exact .inl ⟨rfl,List.eq_nil_of_length_eq_zero hl⟩
 ·rw[hc]at hr
  refine .inr ⟨b,0,c,by rw[hl],fun i x e=> ?_⟩
  obtain⟨z,e1,rfl⟩: ∃z,l[i]?=some z∧Value.bool z=x:=by
   rw[List.getElem?_map]at e
   exact Option.map_eq_some_iff.1 e
  have:=hr i _ (hp i z e1) 0 _ rfl
  rw[Nat.mul_one]at this
  rw[Nat.zero_add]
  exact this
section
attribute [local irreducible] Be
theorem Abd_:aggT Tryz.prog 22=false:=by kernel_rfl
theorem ML_:aggT Tryz.prog 3=false:=by kernel_rfl
end
end Go.Proofs.YtndednnianphoaaGreatDoor.Am
end
