import Derived.Test.YtjfhmacppabehaaIDk15
import Derived.Test.YtjfhmacppabehaaIDk08
import Derived.KernelRfl
import Derived.Test.YtjfhmacppabehaaIDk18
import Derived.Test.YtjfhmacppabehaaIDk07
noncomputable section
namespace Go.Proofs.Ytjfhmacppabehaa.Am
open Go.RowKit
def Hi:Nat:=Bh Try.f8
def Tw:Code:=Try.f8.body.getD .skip
theorem Wa:envS.fn.get 8=some Try.f8:=by kernel_rfl
theorem Qy_ {a0:Value}{n:Nat}{s:St}{Q:Value→St→Prop}(h: ∀tm,T.get tm 0=some a0→W (runF envS n ⟨8,13,Hi,tm,[.code Tw], .run, .normal,none⟩) (s.cxN cxN) fun p s1=>Q p.1 (s1.cxN s.cx)):W (Av envS (runF envS n) 8 [a0]) s Q:=
 W.call (by kernel_rfl) (by kernel_rfl) Wa (by kernel_rfl) rfl rfl (by simp) (h _ (by kernel_rfl))
theorem Mo_:Try.f8.results.toList=[.tmp 2]:=by kernel_rfl
def NK:List Item:=skim 64 [.code Tw]
def KD:List Item:=skim 64 NK.tail
theorem Ju_:skim 64 NK.tail=KD:=by kernel_rfl
def KA:List Item:=skim 64 KD.tail
theorem LU_:skim 64 KD.tail=KA:=by kernel_rfl
def Lx:List Item:=skim 64 KA.tail
theorem Gi_:skim 64 KA.tail=Lx:=by kernel_rfl
def IU:List Item:=skim 64 (brF Lx)
theorem KN_:skim 64 (brF Lx)=IU:=by kernel_rfl
def Ph:List Item:=skim 64 IU.tail
theorem Hu_:skim 64 IU.tail=Ph:=by kernel_rfl
def Xw (E:Env)(call round:Ac)(tm:T Value):M (T Value):=
 mv (some (.pointer none)) fun v2=>
 setF 2 v2 tm fun tm1=>
 M.pure tm1
theorem Nm_:RegEq 8 13 Hi NK Xw:=⟨by kernel_rfl,fun _ _ _ _ _ _ _ _ _=>by kernel_rfl⟩
def Vr (E:Env)(call round:Ac)(tm:T Value):M (T Value):=
 mv (T.get tm 0) fun v6=>
 M.bind (M.on (some (.func (.func 21) #[] #[])) fun f=>M.on (seqO [(some v6)]) fun l=>A5 call round f l) fun v7=>
 mv (some v7) fun v5=>
 M.bind (oS (some v5) fun a=>kExt 0 a) fun v8=>
 M.bind (oS (some v5) fun a=>kExt 1 a) fun v9=>
 mv (some v8) fun v3=>
 setF 3 v3 tm fun tm1=>
 mv (some v9) fun v4=>
 setF 4 v4 tm1 fun tm2=>
 M.pure tm2
theorem Kn_:RegEq 8 13 Hi KD Vr:=⟨by kernel_rfl,fun _ _ _ _ _ _ _ _ _=>by kernel_rfl⟩
def Uu (E:Env)(call round:Ac)(tm:T Value):M (T Value):=
 mv (T.get tm 4) fun v10=>
 M.bind (oS (some v10) fun a=>oS (some (.int .i64 0)) fun b=>Cl.get (aBin E .neq 27 (.tmp 10) (.const (.int .i64 0))) a b) fun v11=>
 setF 11 v11 tm fun tm1=>
 M.pure tm1
theorem AT_:RegEq 8 13 Hi KA Uu:=⟨by kernel_rfl,fun _ _ _ _ _ _ _ _ _=>by kernel_rfl⟩
theorem LJ_:Bc Lx=some 11:=by kernel_rfl
def XY (E:Env)(call round:Ac)(tm:T Value):M (T Value):=
 mv (T.get tm 3) fun v12=>
 mv (some v12) fun v2=>
 setF 2 v2 tm fun tm1=>
 M.pure tm1
theorem LC_:RegEq 8 13 Hi IU XY:=⟨by kernel_rfl,fun _ _ _ _ _ _ _ _ _=>by kernel_rfl⟩
theorem EX_: ∃k,Ph= .code .ret::k:=⟨Ph.tail,by kernel_rfl⟩
def JG:Nat:=Bh Try.f19
def VD:Code:=Try.f19.body.getD .skip
theorem S8:envS.fn.get 19=some Try.f19:=by kernel_rfl
theorem Lr_ {a0 a1 a2:Value}{n:Nat}{s:St}{Q:Value→St→Prop}(h: ∀tm,T.get tm 0=some a0→T.get tm 1=some a1→T.get tm 2=some a2→W (runF envS n ⟨19,22,JG,tm,[.code VD], .run, .normal,none⟩) (s.cxN cxN) fun p s1=>Q p.1 (s1.cxN s.cx)):W (Av envS (runF envS n) 19 [a0,a1,a2]) s Q:=
 W.call (by kernel_rfl) (by kernel_rfl) S8 (by kernel_rfl) rfl rfl (by simp) (h _ (by kernel_rfl) (by kernel_rfl) (by kernel_rfl))
theorem Br_:Try.f19.results.toList=[.tmp 6]:=by kernel_rfl
def Nw:List Item:=skim 64 [.code VD]
def KK:List Item:=skim 64 Nw.tail
theorem GV_:skim 64 Nw.tail=KK:=by kernel_rfl
def JF:List Item:=skim 64 KK.tail
theorem Fa_:skim 64 KK.tail=JF:=by kernel_rfl
def P8:List Item:=skim 64 JF.tail
theorem KJ_:skim 64 JF.tail=P8:=by kernel_rfl
def RA (E:Env)(call round:Ac)(tm:T Value):M (T Value):=
 mv (some (.bool false)) fun v6=>
 setF 6 v6 tm fun tm1=>
 M.pure tm1
theorem Np_:RegEq 19 22 JG Nw RA:=⟨by kernel_rfl,fun _ _ _ _ _ _ _ _ _=>by kernel_rfl⟩
def VM (E:Env)(call round:Ac)(tm:T Value):M (T Value):=
 mv (T.get tm 0) fun v10=>
 mv (T.get tm 1) fun v11=>
 M.bind (M.on (some (.func (.func 12) #[] #[])) fun f=>M.on (seqO [(some v10),(some v11)]) fun l=>A5 call round f l) fun v12=>
 mv (some v12) fun v9=>
 M.bind (oS (some v9) fun a=>kExt 0 a) fun v13=>
 M.bind (oS (some v9) fun a=>kExt 1 a) fun v14=>
 mv (some v13) fun v7=>
 setF 7 v7 tm fun tm1=>
 mv (some v14) fun v8=>
 setF 8 v8 tm1 fun tm2=>
 M.pure tm2
theorem OD_:RegEq 19 22 JG KK VM:=⟨by kernel_rfl,fun _ _ _ _ _ _ _ _ _=>by kernel_rfl⟩
def TN (E:Env)(call round:Ac)(tm:T Value):M (T Value):=
 mv (T.get tm 8) fun v15=>
 M.bind (oS (some v15) fun a=>oS (some (.int .i64 0)) fun b=>Cl.get (aBin E .eql 27 (.tmp 15) (.const (.int .i64 0))) a b) fun v16=>
 mv (some v16) fun v17=>
 M.bind (M.chk (isK v17) (M.if (isB v17 true) (oS (T.get tm 7) fun a=>M.pure a) (M.pure undef))) fun v18=>
 M.bind (M.chk (isK v17) (M.if (isB v17 true) (oS (T.get tm 2) fun a=>M.pure a) (M.pure undef))) fun v19=>
 M.bind (M.chk (isK v17) (M.if (isB v17 true) (M.on (some (.func (.func 50) #[] #[])) fun f=>M.on (seqO [(some v18),(some v19)]) fun l=>A5 call round f l) (M.pure undef))) fun v20=>
 M.bind (M.on (some v17) fun a=>M.on (some v20) fun b=>M.on (some (.bool false)) fun c=>Bl a b c) fun v21=>
 mv (some v21) fun v6=>
 setF 6 v6 tm fun tm1=>
 M.pure tm1
theorem Bm_:RegEq 19 22 JG JF TN:=⟨by kernel_rfl,fun _ _ _ _ _ _ _ _ _=>by kernel_rfl⟩
theorem Jn_: ∃k,P8= .code .ret::k:=⟨P8.tail,by kernel_rfl⟩
def Bg:Nat:=Bh Try.f6
abbrev Da:Nat:=195
def Vh:Code:=Try.f6.body.getD .skip
theorem Ob:envS.fn.get 6=some Try.f6:=by kernel_rfl
theorem IG_ {a0 a1 a2:Value}{n:Nat}{s:St}{Q:Value→St→Prop}(h: ∀tm,T.get tm 0=some a0→T.get tm 1=some a1→T.get tm 2=some a2→W (runF envS n ⟨6,195,Bg,tm,[.code Vh], .run, .normal,none⟩) (s.cxN cxN) fun p s1=>Q p.1 (s1.cxN s.cx)):W (Av envS (runF envS n) 6 [a0,a1,a2]) s Q:=
 W.call (by kernel_rfl) (by kernel_rfl) Ob (by kernel_rfl) rfl rfl (by simp) (h _ (by kernel_rfl) (by kernel_rfl) (by kernel_rfl))
theorem Sk:Try.f6.results.toList=[.tmp 6]:=by kernel_rfl
def LU:List Item:=skim 64 [.code Vh]
def JT:List Item:=skim 64 LU.tail
theorem Jd_:skim 64 LU.tail=JT:=by kernel_rfl
def IR:List Item:=skim 64 JT.tail
theorem RX_:skim 64 JT.tail=IR:=by kernel_rfl
def Im:List Item:=skim 64 IR.tail
theorem OZ_:skim 64 IR.tail=Im:=by kernel_rfl
def Gr:List Item:=skim 64 Im.tail
theorem Nx_:skim 64 Im.tail=Gr:=by kernel_rfl
def FB:List Item:=skim 64 Gr.tail
theorem OW:skim 64 Gr.tail=FB:=by kernel_rfl
def IN:List Item:=skim 64 (brT FB)
theorem Eh_:skim 64 (brT FB)=IN:=by kernel_rfl
def Ha:List Item:=skim 64 (brF FB)
theorem VL:skim 64 (brF FB)=Ha:=by kernel_rfl
def Mi:List Item:=skim 64 IN.tail
theorem CU_:skim 64 IN.tail=Mi:=by kernel_rfl
def Ke:List Item:=skim 64 Ha.tail
theorem DV_:skim 64 Ha.tail=Ke:=by kernel_rfl
theorem GC_:skim 64 Mi.tail=Gr:=by kernel_rfl
def Gu:List Item:=skim 64 Ke.tail
theorem Ol:skim 64 Ke.tail=Gu:=by kernel_rfl
def GI:List Item:=skim 64 (brT Gu)
theorem Vb:skim 64 (brT Gu)=GI:=by kernel_rfl
def Lw:List Item:=skim 64 (brF Gu)
theorem IR_:skim 64 (brF Gu)=Lw:=by kernel_rfl
def LT:List Item:=skim 64 GI.tail
theorem HW_:skim 64 GI.tail=LT:=by kernel_rfl
def H4:List Item:=skim 64 Lw.tail
theorem Ro:skim 64 Lw.tail=H4:=by kernel_rfl
def JO:List Item:=skim 64 (brF H4)
theorem Ov_:skim 64 (brF H4)=JO:=by kernel_rfl
def LJ:List Item:=skim 64 JO.tail
theorem Y7:skim 64 JO.tail=LJ:=by kernel_rfl
def FM:List Item:=skim 64 LJ.tail
theorem Cy_:skim 64 LJ.tail=FM:=by kernel_rfl
def E4:List Item:=skim 64 FM.tail
theorem XJ:skim 64 FM.tail=E4:=by kernel_rfl
def KN:List Item:=skim 64 (brT E4)
theorem Es_:skim 64 (brT E4)=KN:=by kernel_rfl
def Gx:List Item:=skim 64 (brF E4)
theorem Fw_:skim 64 (brF E4)=Gx:=by kernel_rfl
def Iu:List Item:=skim 64 KN.tail
theorem Pk_:skim 64 KN.tail=Iu:=by kernel_rfl
def Kl:List Item:=skim 64 Gx.tail
theorem Kr_:skim 64 Gx.tail=Kl:=by kernel_rfl
def Fc:List Item:=skim 64 Iu.tail
theorem X7:skim 64 Iu.tail=Fc:=by kernel_rfl
def IL:List Item:=skim 64 (brF Kl)
theorem RQ_:skim 64 (brF Kl)=IL:=by kernel_rfl
def Kq:List Item:=skim 64 (brT Fc)
theorem RF_:skim 64 (brT Fc)=Kq:=by kernel_rfl
def Mb:List Item:=skim 64 (brF Fc)
theorem Jq_:skim 64 (brF Fc)=Mb:=by kernel_rfl
def K6:List Item:=skim 64 IL.tail
theorem Ak_:skim 64 IL.tail=K6:=by kernel_rfl
def Ek:List Item:=skim 64 Kq.tail
theorem M2:skim 64 Kq.tail=Ek:=by kernel_rfl
theorem NZ:skim 64 Mb.tail=Ek:=by kernel_rfl
def H9:List Item:=skim 64 K6.tail
theorem IS_:skim 64 K6.tail=H9:=by kernel_rfl
def Lo:List Item:=skim 64 Ek.tail
theorem Ex_:skim 64 Ek.tail=Lo:=by kernel_rfl
def Kx:List Item:=skim 64 (brF H9)
theorem Hk_:skim 64 (brF H9)=Kx:=by kernel_rfl
def Lr:List Item:=skim 64 Lo.tail
theorem RQ:skim 64 Lo.tail=Lr:=by kernel_rfl
def NW:List Item:=skim 64 Kx.tail
theorem Pb_:skim 64 Kx.tail=NW:=by kernel_rfl
def G3:List Item:=skim 64 (brF Lr)
theorem RI:skim 64 (brF Lr)=G3:=by kernel_rfl
def Fi:List Item:=skim 64 G3.tail
theorem M4:skim 64 G3.tail=Fi:=by kernel_rfl
def NR:List Item:=skim 64 (brT Fi)
theorem Pv_:skim 64 (brT Fi)=NR:=by kernel_rfl
def GL:List Item:=skim 64 (brF Fi)
theorem QT:skim 64 (brF Fi)=GL:=by kernel_rfl
theorem ZM:skim 64 NR.tail=GL:=by kernel_rfl
def FY:List Item:=skim 64 GL.tail
theorem Ma:skim 64 GL.tail=FY:=by kernel_rfl
def OA:List Item:=skim 64 (brT FY)
theorem My_:skim 64 (brT FY)=OA:=by kernel_rfl
def Jt:List Item:=skim 64 (brF FY)
theorem XG:skim 64 (brF FY)=Jt:=by kernel_rfl
theorem ZH:skim 64 OA.tail=Jt:=by kernel_rfl
theorem Mn:skim 64 Jt.tail=FM:=by kernel_rfl
def VI (E:Env)(call round:Ac)(tm:T Value):M (T Value):=
 mv (some (.bool false)) fun v6=>
 setF 6 v6 tm fun tm1=>
 M.pure tm1
theorem NW_:RegEq 6 195 Bg LU VI:=⟨by kernel_rfl,fun _ _ _ _ _ _ _ _ _=>by kernel_rfl⟩
def WT (E:Env)(call round:Ac)(tm:T Value):M (T Value):=
 M.bind (M.on (some (.func (.func 32) #[] #[])) fun f=>M.on (seqO []) fun l=>A5 call round f l) fun v17=>
 mv (some v17) fun v7=>
 setF 7 v7 tm fun tm1=>
 M.pure tm1
theorem Ca_:RegEq 6 195 Bg JT WT:=⟨by kernel_rfl,fun _ _ _ _ _ _ _ _ _=>by kernel_rfl⟩
def Ux (E:Env)(call round:Ac)(tm:T Value):M (T Value):=
 mv (some (.int .i64 0)) fun v8=>
 setF 8 v8 tm fun tm1=>
 M.pure tm1
theorem Oz_:RegEq 6 195 Bg IR Ux:=⟨by kernel_rfl,fun _ _ _ _ _ _ _ _ _=>by kernel_rfl⟩
def Yz (E:Env)(call round:Ac)(tm:T Value):M (T Value):=
 mv (some (.int .i64 0)) fun v9=>
 setF 9 v9 tm fun tm1=>
 M.pure tm1
theorem Zc:RegEq 6 195 Bg Im Yz:=⟨by kernel_rfl,fun _ _ _ _ _ _ _ _ _=>by kernel_rfl⟩
def I3 (E:Env)(call round:Ac)(tm:T Value):M (T Value):=
 mv (T.get tm 9) fun v18=>
 mv (T.get tm 0) fun v19=>
 M.bind (oS (seqO [(some v19)]) fun l=>A6 E .len [60] l) fun v20=>
 M.bind (oS (some v18) fun a=>oS (some v20) fun b=>Cl.get (aBin E .lss 3 (.tmp 18) (.tmp 20)) a b) fun v21=>
 mv (some v21) fun v22=>
 M.bind (M.chk (isK v22) (M.if (isB v22 true) (oS (T.get tm 9) fun a=>M.pure a) (M.pure undef))) fun v23=>
 M.bind (M.chk (isK v22) (M.if (isB v22 true) (oS (some v23) fun a=>oS (some (.int .i64 61)) fun b=>Cl.get (aBin E .lss 3 (.tmp 23) (.const (.int .i64 61))) a b) (M.pure undef))) fun v24=>
 M.bind (M.on (some v22) fun a=>M.on (some v24) fun b=>M.on (some (.bool false)) fun c=>Bl a b c) fun v25=>
 setF 25 v25 tm fun tm1=>
 M.pure tm1
theorem XB:RegEq 6 195 Bg Gr I3:=⟨by kernel_rfl,fun _ _ _ _ _ _ _ _ _=>by kernel_rfl⟩
theorem Od:Bc FB=some 25:=by kernel_rfl
def Sf (E:Env)(call round:Ac)(tm:T Value):M (T Value):=
 mv (T.get tm 8) fun v28=>
 mv (T.get tm 0) fun v29=>
 mv (T.get tm 9) fun v30=>
 M.bind (oS (some v29) fun a=>oS (some v30) fun b=>BN E 60 a b) fun v31=>
 M.bind (oS (some v31) fun a=>kFld E 62 a 0) fun v32=>
 M.bind (oS (some v32) fun a=>A1 E 26 a) fun v33=>
 M.bind (oS (seqO [(some v33)]) fun l=>A6 E .len [26] l) fun v34=>
 M.bind (oS (some v28) fun a=>oS (some v34) fun b=>Cl.get (aBin E .add 3 (.tmp 28) (.tmp 34)) a b) fun v35=>
 mv (some v35) fun v8=>
 setF 8 v8 tm fun tm1=>
 M.pure tm1
theorem IC_:RegEq 6 195 Bg IN Sf:=⟨by kernel_rfl,fun _ _ _ _ _ _ _ _ _=>by kernel_rfl⟩
def Wz (E:Env)(call round:Ac)(tm:T Value):M (T Value):=
 M.bind (M.on (some (.func (.func 8) #[] #[])) fun f=>M.on (seqO [(some (.int .i64 3000))]) fun l=>A5 call round f l) fun v36=>
 mv (some v36) fun v10=>
 setF 10 v10 tm fun tm1=>
 M.pure tm1
theorem OW_:RegEq 6 195 Bg Ha Wz:=⟨by kernel_rfl,fun _ _ _ _ _ _ _ _ _=>by kernel_rfl⟩
def SF (E:Env)(call round:Ac)(tm:T Value):M (T Value):=
 mv (T.get tm 9) fun v26=>
 M.bind (oS (some v26) fun a=>oS (some (.int .i64 1)) fun b=>Cl.get (aBin E .add 3 (.tmp 26) (.const (.int .i64 1))) a b) fun v27=>
 mv (some v27) fun v9=>
 setF 9 v9 tm fun tm1=>
 M.pure tm1
theorem II_:RegEq 6 195 Bg Mi SF:=⟨by kernel_rfl,fun _ _ _ _ _ _ _ _ _=>by kernel_rfl⟩
def IA (E:Env)(call round:Ac)(tm:T Value):M (T Value):=
 mv (T.get tm 0) fun v37=>
 M.bind (oS (seqO [(some v37)]) fun l=>A6 E .len [60] l) fun v38=>
 M.bind (oS (some v38) fun a=>oS (some (.int .i64 60)) fun b=>Cl.get (aBin E .gtr 3 (.tmp 38) (.const (.int .i64 60))) a b) fun v39=>
 mv (some v39) fun v40=>
 M.bind (M.chk (isK v40) (M.if (isB v40 false) (oS (T.get tm 8) fun a=>M.pure a) (M.pure undef))) fun v41=>
 M.bind (M.chk (isK v40) (M.if (isB v40 false) (oS (some v41) fun a=>oS (some (.int .i64 3000)) fun b=>Cl.get (aBin E .gtr 3 (.tmp 41) (.const (.int .i64 3000))) a b) (M.pure undef))) fun v42=>
 M.bind (M.on (some v40) fun a=>M.on (some (.bool true)) fun b=>M.on (some v42) fun c=>Bl a b c) fun v43=>
 mv (some v43) fun v44=>
 M.bind (M.chk (isK v44) (M.if (isB v44 false) (oS (T.get tm 10) fun a=>M.pure a) (M.pure undef))) fun v45=>
 M.bind (M.chk (isK v44) (M.if (isB v44 false) (oS (some v45) fun a=>oS (some (.pointer none)) fun b=>Cl.get (aBin E .eql 24 (.tmp 45) (.const (.pointer none))) a b) (M.pure undef))) fun v46=>
 M.bind (M.on (some v44) fun a=>M.on (some (.bool true)) fun b=>M.on (some v46) fun c=>Bl a b c) fun v47=>
 setF 47 v47 tm fun tm1=>
 M.pure tm1
theorem Mn_:RegEq 6 195 Bg Ke IA:=⟨by kernel_rfl,fun _ _ _ _ _ _ _ _ _=>by kernel_rfl⟩
theorem Pw:Bc Gu=some 47:=by kernel_rfl
def Tu (E:Env)(call round:Ac)(tm:T Value):M (T Value):=
 mv (T.get tm 7) fun v48=>
 mv (some v48) fun v49=>
 M.bind (M.chk (isK v49) (M.if (isB v49 true) (oS (T.get tm 10) fun a=>M.pure a) (M.pure undef))) fun v50=>
 M.bind (M.chk (isK v49) (M.if (isB v49 true) (oS (some v50) fun a=>oS (some (.pointer none)) fun b=>Cl.get (aBin E .neq 24 (.tmp 50) (.const (.pointer none))) a b) (M.pure undef))) fun v51=>
 M.bind (M.on (some v49) fun a=>M.on (some v51) fun b=>M.on (some (.bool false)) fun c=>Bl a b c) fun v52=>
 mv (some v52) fun v6=>
 setF 6 v6 tm fun tm1=>
 M.pure tm1
theorem MU_:RegEq 6 195 Bg GI Tu:=⟨by kernel_rfl,fun _ _ _ _ _ _ _ _ _=>by kernel_rfl⟩
def Wc (E:Env)(call round:Ac)(tm:T Value):M (T Value):=
 mv (T.get tm 10) fun v53=>
 M.bind (M.on (some (.func (.func 9) #[] #[])) fun f=>M.on (seqO [(some v53),(some (.string {data:= #[102]})),(some (.slice none 0 0))]) fun l=>A5 call round f l) fun v54=>
 M.bind (oS (some v54) fun a=>oS (some (.int .i64 0)) fun b=>Cl.get (aBin E .neq 27 (.tmp 54) (.const (.int .i64 0))) a b) fun v55=>
 mv (some v55) fun v56=>
 M.bind (M.chk (isK v56) (M.if (isB v56 false) (oS (T.get tm 1) fun a=>M.pure a) (M.pure undef))) fun v57=>
 M.bind (M.chk (isK v56) (M.if (isB v56 false) (oS (some v57) fun a=>oS (some (.int .i64 0)) fun b=>Cl.get (aBin E .geq 3 (.tmp 57) (.const (.int .i64 0))) a b) (M.pure undef))) fun v58=>
 M.bind (M.chk (isK v56) (M.if (isB v56 false) (oS (some v58) fun a=>M.pure a) (M.pure undef))) fun v59=>
 M.bind (M.chk (isK v59) (M.if (isB v59 true) (oS (T.get tm 10) fun a=>M.pure a) (M.pure undef))) fun v60=>
 M.bind (M.chk (isK v59) (M.if (isB v59 true) (oS (T.get tm 1) fun a=>M.pure a) (M.pure undef))) fun v61=>
 M.bind (M.chk (isK v59) (M.if (isB v59 true) (M.on (some (.func (.func 33) #[] #[])) fun f=>M.on (seqO [(some v60),(some v61)]) fun l=>A5 call round f l) (M.pure undef))) fun v62=>
 M.bind (M.chk (isK v59) (M.if (isB v59 true) (oS (some v62) fun a=>oS (some (.int .i64 0)) fun b=>Cl.get (aBin E .neq 27 (.tmp 62) (.const (.int .i64 0))) a b) (M.pure undef))) fun v63=>
 M.bind (M.chk (isK v56) (M.if (isB v56 false) (M.on (some v59) fun a=>M.on (some v63) fun b=>M.on (some (.bool false)) fun c=>Bl a b c) (M.pure undef))) fun v64=>
 M.bind (M.on (some v56) fun a=>M.on (some (.bool true)) fun b=>M.on (some v64) fun c=>Bl a b c) fun v65=>
 setF 65 v65 tm fun tm1=>
 M.pure tm1
theorem Hi_:RegEq 6 195 Bg Lw Wc:=⟨by kernel_rfl,fun _ _ _ _ _ _ _ _ _=>by kernel_rfl⟩
theorem ZG: ∃k,LT= .code .ret::k:=⟨LT.tail,by kernel_rfl⟩
theorem FC_:Bc H4=some 65:=by kernel_rfl
def Th (E:Env)(call round:Ac)(tm:T Value):M (T Value):=
 mv (some (.slice none 0 0)) fun v11=>
 setF 11 v11 tm fun tm1=>
 mv (some (.slice none 0 0)) fun v12=>
 setF 12 v12 tm1 fun tm2=>
 M.pure tm2
theorem NN_:RegEq 6 195 Bg JO Th:=⟨by kernel_rfl,fun _ _ _ _ _ _ _ _ _=>by kernel_rfl⟩
def S5 (E:Env)(call round:Ac)(tm:T Value):M (T Value):=
 mv (some (.int .i64 0)) fun v13=>
 setF 13 v13 tm fun tm1=>
 M.pure tm1
theorem BG_:RegEq 6 195 Bg LJ S5:=⟨by kernel_rfl,fun _ _ _ _ _ _ _ _ _=>by kernel_rfl⟩
def Nq (E:Env)(call round:Ac)(tm:T Value):M (T Value):=
 mv (T.get tm 13) fun v66=>
 mv (T.get tm 0) fun v67=>
 M.bind (oS (seqO [(some v67)]) fun l=>A6 E .len [60] l) fun v68=>
 M.bind (oS (some v66) fun a=>oS (some v68) fun b=>Cl.get (aBin E .lss 3 (.tmp 66) (.tmp 68)) a b) fun v69=>
 setF 69 v69 tm fun tm1=>
 M.pure tm1
theorem Wo:RegEq 6 195 Bg FM Nq:=⟨by kernel_rfl,fun _ _ _ _ _ _ _ _ _=>by kernel_rfl⟩
theorem SZ:Bc E4=some 69:=by kernel_rfl
def WY (E:Env)(call round:Ac)(tm:T Value):M (T Value):=
 mv (some (.int .i64 0)) fun v14=>
 setF 14 v14 tm fun tm1=>
 M.pure tm1
theorem Gj_:RegEq 6 195 Bg KN WY:=⟨by kernel_rfl,fun _ _ _ _ _ _ _ _ _=>by kernel_rfl⟩
def YU (E:Env)(call round:Ac)(tm:T Value):M (T Value):=
 mv (T.get tm 10) fun v139=>
 M.bind (M.on (some (.func (.func 30) #[] #[])) fun f=>M.on (seqO [(some v139),(some (.string {data:= #[102]}))]) fun l=>A5 call round f l) fun v140=>
 mv (T.get tm 11) fun v141=>
 M.bind (oS (seqO [(some v141)]) fun l=>A6 E .len [26] l) fun v142=>
 mv (T.get tm 12) fun v143=>
 M.bind (oS (seqO [(some v143)]) fun l=>A6 E .len [26] l) fun v144=>
 M.bind (oS (some v142) fun a=>oS (some v144) fun b=>Cl.get (aBin E .sub 3 (.tmp 142) (.tmp 144)) a b) fun v145=>
 M.bind (oS (some v140) fun a=>oS (some v145) fun b=>Cl.get (aBin E .neq 3 (.tmp 140) (.tmp 145)) a b) fun v146=>
 mv (some v146) fun v147=>
 M.bind (M.chk (isK v147) (M.if (isB v147 false) (oS (T.get tm 10) fun a=>M.pure a) (M.pure undef))) fun v148=>
 M.bind (M.chk (isK v147) (M.if (isB v147 false) (oS (T.get tm 2) fun a=>M.pure a) (M.pure undef))) fun v149=>
 M.bind (M.chk (isK v147) (M.if (isB v147 false) (oS (seqP [(0,(some v149))]) fun ps=>CE E 49 1 ps) (M.pure undef))) fun v150=>
 M.bind (M.chk (isK v147) (M.if (isB v147 false) (M.on (some (.func (.func 18) #[] #[])) fun f=>M.on (seqO [(some v148),(some v150)]) fun l=>A5 call round f l) (M.pure undef))) fun v151=>
 M.bind (M.chk (isK v147) (M.if (isB v147 false) (oS (some v151) fun a=>oS (some (.int .i64 0)) fun b=>Cl.get (aBin E .neq 27 (.tmp 151) (.const (.int .i64 0))) a b) (M.pure undef))) fun v152=>
 M.bind (M.on (some v147) fun a=>M.on (some (.bool true)) fun b=>M.on (some v152) fun c=>Bl a b c) fun v153=>
 setF 153 v153 tm fun tm1=>
 M.pure tm1
theorem Lq_:RegEq 6 195 Bg Gx YU:=⟨by kernel_rfl,fun _ _ _ _ _ _ _ _ _=>by kernel_rfl⟩
def Sw (E:Env)(call round:Ac)(tm:T Value):M (T Value):=
 mv (T.get tm 0) fun v72=>
 mv (T.get tm 13) fun v73=>
 M.bind (oS (some v72) fun a=>oS (some v73) fun b=>BN E 60 a b) fun v74=>
 M.bind (oS (some v74) fun a=>kFld E 62 a 1) fun v75=>
 M.bind (oS (some v75) fun a=>A1 E 4 a) fun v76=>
 setF 76 v76 tm fun tm1=>
 M.pure tm1
theorem PZ_:RegEq 6 195 Bg Iu Sw:=⟨by kernel_rfl,fun _ _ _ _ _ _ _ _ _=>by kernel_rfl⟩
theorem LO_:Bc Kl=some 153:=by kernel_rfl
theorem Vz:Bc Fc=some 76:=by kernel_rfl
def Y2 (E:Env)(call round:Ac)(tm:T Value):M (T Value):=
 mv (T.get tm 11) fun v154=>
 mv (T.get tm 12) fun v155=>
 M.bind (oS (seqO [(some v155)]) fun l=>A6 E .len [26] l) fun v156=>
 mv (T.get tm 2) fun v157=>
 mv (T.get tm 11) fun v158=>
 M.bind (oS (seqO [(some v158)]) fun l=>A6 E .len [26] l) fun v159=>
 mv (T.get tm 12) fun v160=>
 M.bind (oS (seqO [(some v160)]) fun l=>A6 E .len [26] l) fun v161=>
 M.bind (oS (some v159) fun a=>oS (some v161) fun b=>Cl.get (aBin E .sub 3 (.tmp 159) (.tmp 161)) a b) fun v162=>
 M.bind (oS (some v162) fun a=>oS (some (.int .i64 1)) fun b=>Cl.get (aBin E .add 3 (.tmp 162) (.const (.int .i64 1))) a b) fun v163=>
 M.bind (M.on (some (.func (.func 15) #[] #[])) fun f=>M.on (seqO [(some v157),(some v163)]) fun l=>A5 call round f l) fun v164=>
 M.bind (oS (some v156) fun a=>oS (some v164) fun b=>Cl.get (aBin E .add 3 (.tmp 156) (.tmp 164)) a b) fun v165=>
 M.bind (M.on (some v154) fun a=>M.on (some none) fun b=>M.on (onO (some v165) fun v=>some (some v)) fun c=>BR E 26 a b c) fun v166=>
 mv (some v166) fun v16=>
 setF 16 v16 tm fun tm1=>
 M.pure tm1
theorem EY_:RegEq 6 195 Bg IL Y2:=⟨by kernel_rfl,fun _ _ _ _ _ _ _ _ _=>by kernel_rfl⟩
def Xx (E:Env)(call round:Ac)(tm:T Value):M (T Value):=
 mv (T.get tm 10) fun v77=>
 M.bind (M.on (some (.func (.func 14) #[] #[])) fun f=>M.on (seqO [(some v77),(some (.string {data:= #[102]}))]) fun l=>A5 call round f l) fun v78=>
 mv (some v78) fun v14=>
 setF 14 v14 tm fun tm1=>
 M.pure tm1
theorem GT_:RegEq 6 195 Bg Kq Xx:=⟨by kernel_rfl,fun _ _ _ _ _ _ _ _ _=>by kernel_rfl⟩
def SJ (E:Env)(call round:Ac)(tm:T Value):M (T Value):=
 mv (T.get tm 10) fun v79=>
 mv (T.get tm 0) fun v80=>
 mv (T.get tm 13) fun v81=>
 M.bind (oS (some v80) fun a=>oS (some v81) fun b=>BN E 60 a b) fun v82=>
 M.bind (oS (some v82) fun a=>kFld E 62 a 0) fun v83=>
 M.bind (oS (some v83) fun a=>A1 E 26 a) fun v84=>
 M.bind (M.on (some (.func (.func 9) #[] #[])) fun f=>M.on (seqO [(some v79),(some (.string {data:= #[102]})),(some v84)]) fun l=>A5 call round f l) fun v85=>
 mv (some v85) fun v14=>
 setF 14 v14 tm fun tm1=>
 M.pure tm1
theorem HS_:RegEq 6 195 Bg Mb SJ:=⟨by kernel_rfl,fun _ _ _ _ _ _ _ _ _=>by kernel_rfl⟩
def Xj (E:Env)(call round:Ac)(tm:T Value):M (T Value):=
 mv (T.get tm 10) fun v167=>
 mv (T.get tm 16) fun v168=>
 M.bind (M.on (some (.func (.func 19) #[] #[])) fun f=>M.on (seqO [(some v167),(some (.string {data:= #[102]})),(some v168)]) fun l=>A5 call round f l) fun v169=>
 M.bind (oS (some v169) fun a=>kUn E.P .not a) fun v170=>
 mv (some v170) fun v171=>
 M.bind (M.chk (isK v171) (M.if (isB v171 false) (oS (T.get tm 10) fun a=>M.pure a) (M.pure undef))) fun v172=>
 M.bind (M.chk (isK v171) (M.if (isB v171 false) (M.on (some (.func (.func 34) #[] #[])) fun f=>M.on (seqO [(some v172)]) fun l=>A5 call round f l) (M.pure undef))) fun v173=>
 M.bind (M.chk (isK v171) (M.if (isB v171 false) (oS (some v173) fun a=>kUn E.P .not a) (M.pure undef))) fun v174=>
 M.bind (M.on (some v171) fun a=>M.on (some (.bool true)) fun b=>M.on (some v174) fun c=>Bl a b c) fun v175=>
 mv (some v175) fun v176=>
 M.bind (M.chk (isK v176) (M.if (isB v176 false) (oS (T.get tm 10) fun a=>M.pure a) (M.pure undef))) fun v177=>
 M.bind (M.chk (isK v176) (M.if (isB v176 false) (oS (T.get tm 2) fun a=>M.pure a) (M.pure undef))) fun v178=>
 M.bind (M.chk (isK v176) (M.if (isB v176 false) (oS (some v178) fun a=>oS (some (.int .i64 1)) fun b=>Cl.get (aBin E .add 3 (.tmp 178) (.const (.int .i64 1))) a b) (M.pure undef))) fun v179=>
 M.bind (M.chk (isK v176) (M.if (isB v176 false) (oS (seqP [(0,(some v179))]) fun ps=>CE E 49 1 ps) (M.pure undef))) fun v180=>
 M.bind (M.chk (isK v176) (M.if (isB v176 false) (M.on (some (.func (.func 18) #[] #[])) fun f=>M.on (seqO [(some v177),(some v180)]) fun l=>A5 call round f l) (M.pure undef))) fun v181=>
 M.bind (M.chk (isK v176) (M.if (isB v176 false) (oS (some v181) fun a=>oS (some (.int .i64 0)) fun b=>Cl.get (aBin E .neq 27 (.tmp 181) (.const (.int .i64 0))) a b) (M.pure undef))) fun v182=>
 M.bind (M.on (some v176) fun a=>M.on (some (.bool true)) fun b=>M.on (some v182) fun c=>Bl a b c) fun v183=>
 setF 183 v183 tm fun tm1=>
 M.pure tm1
theorem IK_:RegEq 6 195 Bg K6 Xj:=⟨by kernel_rfl,fun _ _ _ _ _ _ _ _ _=>by kernel_rfl⟩
def HT (E:Env)(call round:Ac)(tm:T Value):M (T Value):=
 mv (T.get tm 1) fun v86=>
 M.bind (oS (some v86) fun a=>oS (some (.int .i64 0)) fun b=>Cl.get (aBin E .geq 3 (.tmp 86) (.const (.int .i64 0))) a b) fun v87=>
 mv (some v87) fun v88=>
 M.bind (M.chk (isK v88) (M.if (isB v88 true) (oS (T.get tm 13) fun a=>M.pure a) (M.pure undef))) fun v89=>
 M.bind (M.chk (isK v88) (M.if (isB v88 true) (oS (T.get tm 1) fun a=>M.pure a) (M.pure undef))) fun v90=>
 M.bind (M.chk (isK v88) (M.if (isB v88 true) (oS (some v89) fun a=>oS (some v90) fun b=>Cl.get (aBin E .geq 3 (.tmp 89) (.tmp 90)) a b) (M.pure undef))) fun v91=>
 M.bind (M.on (some v88) fun a=>M.on (some v91) fun b=>M.on (some (.bool false)) fun c=>Bl a b c) fun v92=>
 mv (some v92) fun v15=>
 setF 15 v15 tm fun tm1=>
 M.pure tm1
theorem Ls_:RegEq 6 195 Bg Ek HT:=⟨by kernel_rfl,fun _ _ _ _ _ _ _ _ _=>by kernel_rfl⟩
theorem Dc_:Bc H9=some 183:=by kernel_rfl
def N5 (E:Env)(call round:Ac)(tm:T Value):M (T Value):=
 mv (T.get tm 14) fun v93=>
 M.bind (oS (some v93) fun a=>oS (some (.int .i64 10)) fun b=>Cl.get (aBin E .eql 27 (.tmp 93) (.const (.int .i64 10))) a b) fun v94=>
 mv (T.get tm 15) fun v95=>
 M.bind (oS (some v94) fun a=>oS (some v95) fun b=>Cl.get (aBin E .neq 4 (.tmp 94) (.tmp 95)) a b) fun v96=>
 mv (some v96) fun v97=>
 M.bind (M.chk (isK v97) (M.if (isB v97 false) (oS (T.get tm 14) fun a=>M.pure a) (M.pure undef))) fun v98=>
 M.bind (M.chk (isK v97) (M.if (isB v97 false) (oS (some v98) fun a=>oS (some (.int .i64 0)) fun b=>Cl.get (aBin E .neq 27 (.tmp 98) (.const (.int .i64 0))) a b) (M.pure undef))) fun v99=>
 M.bind (M.chk (isK v97) (M.if (isB v97 false) (oS (some v99) fun a=>M.pure a) (M.pure undef))) fun v100=>
 M.bind (M.chk (isK v100) (M.if (isB v100 true) (oS (T.get tm 15) fun a=>M.pure a) (M.pure undef))) fun v101=>
 M.bind (M.chk (isK v100) (M.if (isB v100 true) (oS (some v101) fun a=>kUn E.P .not a) (M.pure undef))) fun v102=>
 M.bind (M.chk (isK v97) (M.if (isB v97 false) (M.on (some v100) fun a=>M.on (some v102) fun b=>M.on (some (.bool false)) fun c=>Bl a b c) (M.pure undef))) fun v103=>
 M.bind (M.on (some v97) fun a=>M.on (some (.bool true)) fun b=>M.on (some v103) fun c=>Bl a b c) fun v104=>
 mv (some v104) fun v105=>
 M.bind (M.chk (isK v105) (M.if (isB v105 false) (oS (T.get tm 10) fun a=>M.pure a) (M.pure undef))) fun v106=>
 M.bind (M.chk (isK v105) (M.if (isB v105 false) (M.on (some (.func (.func 34) #[] #[])) fun f=>M.on (seqO [(some v106)]) fun l=>A5 call round f l) (M.pure undef))) fun v107=>
 M.bind (M.chk (isK v105) (M.if (isB v105 false) (oS (T.get tm 15) fun a=>M.pure a) (M.pure undef))) fun v108=>
 M.bind (M.chk (isK v105) (M.if (isB v105 false) (oS (some v107) fun a=>oS (some v108) fun b=>Cl.get (aBin E .eql 4 (.tmp 107) (.tmp 108)) a b) (M.pure undef))) fun v109=>
 M.bind (M.on (some v105) fun a=>M.on (some (.bool true)) fun b=>M.on (some v109) fun c=>Bl a b c) fun v110=>
 setF 110 v110 tm fun tm1=>
 M.pure tm1
theorem Fh_:RegEq 6 195 Bg Lo N5:=⟨by kernel_rfl,fun _ _ _ _ _ _ _ _ _=>by kernel_rfl⟩
def Tp (E:Env)(call round:Ac)(tm:T Value):M (T Value):=
 mv (T.get tm 7) fun v184=>
 mv (some v184) fun v185=>
 M.bind (M.chk (isK v185) (M.if (isB v185 true) (oS (T.get tm 10) fun a=>M.pure a) (M.pure undef))) fun v186=>
 M.bind (M.chk (isK v185) (M.if (isB v185 true) (oS (T.get tm 16) fun a=>M.pure a) (M.pure undef))) fun v187=>
 M.bind (M.chk (isK v185) (M.if (isB v185 true) (M.on (some (.func (.func 19) #[] #[])) fun f=>M.on (seqO [(some v186),(some (.string {data:= #[102]})),(some v187)]) fun l=>A5 call round f l) (M.pure undef))) fun v188=>
 M.bind (M.on (some v185) fun a=>M.on (some v188) fun b=>M.on (some (.bool false)) fun c=>Bl a b c) fun v189=>
 mv (some v189) fun v190=>
 M.bind (M.chk (isK v190) (M.if (isB v190 true) (oS (T.get tm 10) fun a=>M.pure a) (M.pure undef))) fun v191=>
 M.bind (M.chk (isK v190) (M.if (isB v190 true) (M.on (some (.func (.func 30) #[] #[])) fun f=>M.on (seqO [(some v191),(some (.string {data:= #[102]}))]) fun l=>A5 call round f l) (M.pure undef))) fun v192=>
 M.bind (M.chk (isK v190) (M.if (isB v190 true) (oS (some v192) fun a=>oS (some (.int .i64 0)) fun b=>Cl.get (aBin E .eql 3 (.tmp 192) (.const (.int .i64 0))) a b) (M.pure undef))) fun v193=>
 M.bind (M.on (some v190) fun a=>M.on (some v193) fun b=>M.on (some (.bool false)) fun c=>Bl a b c) fun v194=>
 mv (some v194) fun v6=>
 setF 6 v6 tm fun tm1=>
 M.pure tm1
theorem Km_:RegEq 6 195 Bg Kx Tp:=⟨by kernel_rfl,fun _ _ _ _ _ _ _ _ _=>by kernel_rfl⟩
theorem Su:Bc Lr=some 110:=by kernel_rfl
theorem CS_: ∃k,NW= .code .ret::k:=⟨NW.tail,by kernel_rfl⟩
def JM (E:Env)(call round:Ac)(tm:T Value):M (T Value):=
 mv (T.get tm 14) fun v111=>
 M.bind (oS (some v111) fun a=>oS (some (.int .i64 0)) fun b=>Cl.get (aBin E .eql 27 (.tmp 111) (.const (.int .i64 0))) a b) fun v112=>
 mv (some v112) fun v113=>
 M.bind (M.chk (isK v113) (M.if (isB v113 true) (oS (T.get tm 0) fun a=>M.pure a) (M.pure undef))) fun v114=>
 M.bind (M.chk (isK v113) (M.if (isB v113 true) (oS (T.get tm 13) fun a=>M.pure a) (M.pure undef))) fun v115=>
 M.bind (M.chk (isK v113) (M.if (isB v113 true) (oS (some v114) fun a=>oS (some v115) fun b=>BN E 60 a b) (M.pure undef))) fun v116=>
 M.bind (M.chk (isK v113) (M.if (isB v113 true) (oS (some v116) fun a=>kFld E 62 a 1) (M.pure undef))) fun v117=>
 M.bind (M.chk (isK v113) (M.if (isB v113 true) (oS (some v117) fun a=>A1 E 4 a) (M.pure undef))) fun v118=>
 M.bind (M.on (some v113) fun a=>M.on (some v118) fun b=>M.on (some (.bool false)) fun c=>Bl a b c) fun v119=>
 setF 119 v119 tm fun tm1=>
 M.pure tm1
theorem O7:RegEq 6 195 Bg G3 JM:=⟨by kernel_rfl,fun _ _ _ _ _ _ _ _ _=>by kernel_rfl⟩
theorem ME:Bc Fi=some 119:=by kernel_rfl
def Tl (E:Env)(call round:Ac)(tm:T Value):M (T Value):=
 mv (T.get tm 11) fun v120=>
 M.bind (M.on (some (.func (.func 16) #[] #[])) fun f=>M.on (seqO [(some v120)]) fun l=>A5 call round f l) fun v121=>
 mv (some v121) fun v12=>
 setF 12 v12 tm fun tm1=>
 M.pure tm1
theorem Az_:RegEq 6 195 Bg NR Tl:=⟨by kernel_rfl,fun _ _ _ _ _ _ _ _ _=>by kernel_rfl⟩
def IM (E:Env)(call round:Ac)(tm:T Value):M (T Value):=
 mv (T.get tm 14) fun v122=>
 M.bind (oS (some v122) fun a=>oS (some (.int .i64 0)) fun b=>Cl.get (aBin E .eql 27 (.tmp 122) (.const (.int .i64 0))) a b) fun v123=>
 mv (some v123) fun v124=>
 M.bind (M.chk (isK v124) (M.if (isB v124 true) (oS (T.get tm 0) fun a=>M.pure a) (M.pure undef))) fun v125=>
 M.bind (M.chk (isK v124) (M.if (isB v124 true) (oS (T.get tm 13) fun a=>M.pure a) (M.pure undef))) fun v126=>
 M.bind (M.chk (isK v124) (M.if (isB v124 true) (oS (some v125) fun a=>oS (some v126) fun b=>BN E 60 a b) (M.pure undef))) fun v127=>
 M.bind (M.chk (isK v124) (M.if (isB v124 true) (oS (some v127) fun a=>kFld E 62 a 1) (M.pure undef))) fun v128=>
 M.bind (M.chk (isK v124) (M.if (isB v124 true) (oS (some v128) fun a=>A1 E 4 a) (M.pure undef))) fun v129=>
 M.bind (M.chk (isK v124) (M.if (isB v124 true) (oS (some v129) fun a=>kUn E.P .not a) (M.pure undef))) fun v130=>
 M.bind (M.on (some v124) fun a=>M.on (some v130) fun b=>M.on (some (.bool false)) fun c=>Bl a b c) fun v131=>
 setF 131 v131 tm fun tm1=>
 M.pure tm1
theorem OQ:RegEq 6 195 Bg GL IM:=⟨by kernel_rfl,fun _ _ _ _ _ _ _ _ _=>by kernel_rfl⟩
theorem Ql:Bc FY=some 131:=by kernel_rfl
def Xr (E:Env)(call round:Ac)(tm:T Value):M (T Value):=
 mv (T.get tm 11) fun v132=>
 mv (T.get tm 0) fun v133=>
 mv (T.get tm 13) fun v134=>
 M.bind (oS (some v133) fun a=>oS (some v134) fun b=>BN E 60 a b) fun v135=>
 M.bind (oS (some v135) fun a=>kFld E 62 a 0) fun v136=>
 M.bind (oS (some v136) fun a=>A1 E 26 a) fun v137=>
 M.bind (oS (seqO [(some v132),(some v137)]) fun l=>A6 E .append [26,26] l) fun v138=>
 mv (some v138) fun v11=>
 setF 11 v11 tm fun tm1=>
 M.pure tm1
theorem KE_:RegEq 6 195 Bg OA Xr:=⟨by kernel_rfl,fun _ _ _ _ _ _ _ _ _=>by kernel_rfl⟩
def LC (E:Env)(call round:Ac)(tm:T Value):M (T Value):=
 mv (T.get tm 13) fun v70=>
 M.bind (oS (some v70) fun a=>oS (some (.int .i64 1)) fun b=>Cl.get (aBin E .add 3 (.tmp 70) (.const (.int .i64 1))) a b) fun v71=>
 mv (some v71) fun v13=>
 setF 13 v13 tm fun tm1=>
 M.pure tm1
theorem Px:RegEq 6 195 Bg Jt LC:=⟨by kernel_rfl,fun _ _ _ _ _ _ _ _ _=>by kernel_rfl⟩
section
variable {E:Env}{s:St}{t:Nat}{xo yo:Operand}
theorem QR_ (m n:Nat)(hn:1≤n):Cl.get (aBin E .rem t xo yo) (.int .i64 (.negSucc m)) (.int .i64 (n:Nat)) s= .some (.int .i64 ((Int.negSucc m).tmod (n:Nat))) s:=by
 show Bj E .rem t xo yo (.int .i64 (.negSucc m)) (.int .i64 (n:Nat)) s=_
 show M.on (semP E.P (do eqGuard .rem t xo yo (.int .i64 (.negSucc m)) (.int .i64 (n:Nat));binOp .rem t (.int .i64 (.negSucc m)) (.int .i64 (n:Nat)))) pV s=_
 have e:semP E.P (do eqGuard .rem t xo yo (.int .i64 (.negSucc m)) (.int .i64 (n:Nat));binOp .rem t (.int .i64 (.negSucc m)) (.int .i64 (n:Nat)))=some (.int .i64 ((Int.negSucc m).tmod (n:Nat))):=by
  show semP E.P (Op.intDiv .rem .i64 (.negSucc m) (n:Nat))=_
  unfold Op.intDiv
  rw[if_neg (by omega)]
  rfl
 rw[e]
 generalize (Int.negSucc m).tmod (n:Nat)=y
 have hp: ∀y:Int,pV (.int .i64 y) s= .some (.int .i64 y) s:=fun y=>by
  cases y with
  |ofNat k=>first|rfl|(cases k<;>rfl)
  |negSucc k=>first|rfl|(cases k<;>rfl)
 exact hp y
theorem Rq {x:Int}{n:Nat}(hn:1≤n)(Q:Value→St→Prop):W (Cl.get (aBin E .rem t xo yo) (.int .i64 x) (.int .i64 (n:Nat))) s Q=Q (.int .i64 (x.tmod (n:Nat))) s:=by
 cases x with
 |ofNat m=>exact Br (JE_ m n hn xo yo)
 |negSucc m=>exact Br (QR_ m n hn)
end
theorem Jk_ {x:Int}{m:Nat}(hm:1≤m):x%(m:Nat)=if x.tmod (m:Nat)<0 then x.tmod (m:Nat)+(m:Nat)else x.tmod (m:Nat):=by
 have b1:x.tmod (m:Nat)<(m:Nat):=Int.tmod_lt_of_pos x (by omega)
 have b2: -(m:Nat)<x.tmod (m:Nat):=by
  have:=Int.lt_tmod_of_pos x (b:=(m:Nat)) (by omega)
  omega
 have e:x=x.tmod (m:Nat)+(m:Nat)*x.tdiv (m:Nat):=(Int.tmod_add_mul_tdiv x (m:Nat)).symm
 have e1:x%(m:Nat)=x.tmod (m:Nat)%(m:Nat):=by
  conv=>lhs;rw[e]
  rw[Int.add_mul_emod_self_left]
 rw[e1]
 generalize x.tmod (m:Nat)=y at *
 by_cases h:y<0
 ·rw[if_pos h,←Int.add_emod_right,Int.emod_eq_of_lt (by omega) (by omega)]
 ·rw[if_neg h,Int.emod_eq_of_lt (by omega) (by omega)]
theorem Rh_ {n m:Nat}{x:Int}{s:St}{Q:Value→St→Prop}(hm:1≤m)(hm2:m≤1000000)(hn:20≤n)(q:Q (.int .i64 (x%(m:Nat))) s):W (Av envS (runF envS n) 15 [.int .i64 x, .int .i64 (m:Nat)]) s Q:=by
 refine Gt_ fun tm h0 h1=> ?_
 refine Iq_.w rfl (by omega) ?_
 simp only[VY,Aa,W_mv,Ab]
 refine MN_.w Fp_ (by omega) ?_
 simp only[Uo,Ad,W_oS,Aa,W_mv,Ab,T.get_set,reduceIte,Nat.reduceEqDiff, ↓reduceIte,BE,h1]
 refine W.cond (v:=false) BF_ Rw_ (by simp[T.get_set];omega) (by omega) (fun h=>by cases h) fun _=> ?_
 refine LY_.w Jx_ (by omega) ?_
 simp only[QJ,Ad,W_oS,Aa,W_mv,Ab,T.get_set,reduceIte,Nat.reduceEqDiff,reduceCtorEq, ↓reduceIte,h0,h1,Rq hm]
 have b1:x.tmod (m:Nat)<(m:Nat):=Int.tmod_lt_of_pos x (by omega)
 have b2: -(m:Nat)<x.tmod (m:Nat):=by
  have:=Int.lt_tmod_of_pos x (b:=(m:Nat)) (by omega)
  omega
 rw[Jk_ hm]at q
 generalize x.tmod (m:Nat)=y at *
 refine RU_.w Pz_ (by omega) ?_
 simp only[UZ,Ad,W_oS,Aa,W_mv,Ab,T.get_set,reduceIte, ↓reduceIte,BE]
 have fin: ∀(n1:Nat) (tm1:T Value) (td:List Item) (r:Int),10≤n1→r=(if y<0 then y+(m:Nat)else y)→skim 64 td=F9→T.get tm1 0=some (.int .i64 r)→W (runF envS n1 ⟨15,PH_,DU,tm1,td, .run, .normal,none⟩) (s.cxN cxN) fun p s1=>Q p.1 (s1.cxN s.cx):=fun n1 tm1 td r hn1 hr hT g0=>by
  refine Ne_.w hT (by omega) ?_
  simp only[Tx,Aa,W_mv,Ab,g0]
  refine W.end' (rs:=[4]) (vs:=[.int .i64 r]) On_ (.inl Nk_) (by omega) Wy Rc_ rfl (by simp[T.get_set]) ?_
  rw[hr]
  exact q
 by_cases hy:y<0
 ·refine W.cond (v:=true) Tg SL (by simp[T.get_set];exact hy) (by omega) (fun _=> ?_) fun h=>by cases h
  refine KZ_.w Ka_ (by omega) ?_
  simp only[QK,Ad,W_oS,Aa,W_mv,Ab,T.get_set,reduceIte,Nat.reduceEqDiff,reduceCtorEq, ↓reduceIte,BU,h1]
  rw[BO (by omega) (by omega)]
  exact fin _ _ _ _ (by omega) (by rw[if_pos hy]) HZ_ (by simp[T.get_set])
 ·refine W.cond (v:=false) Tg SL (by simp[T.get_set];omega) (by omega) (fun h=>by cases h) fun _=> ?_
  exact fin _ _ _ _ (by omega) (by rw[if_neg hy]) Df_ (by simp[T.get_set])
theorem CB_:Py envS 26=true:=by kernel_rfl
theorem BU_ (s:St):Ck envS 26 9 (.slice none 0 0) s= .some (.string (txt [])) s:=by kernel_rfl
theorem W.strA {v:Value}{l:List Nat}{s:St}{Q:Value→St→Prop}(h:Bs s v l)(q: ∀s1,s1.mem=s.mem→s1.next=s.next→Ext Any Non s s1→Q (.string (txt l)) s1):W (Ck envS 26 9 v) s Q:=by
 rcases h with⟨rfl,rfl⟩|⟨b,o,c,rfl,h1,h2,h3⟩
 ·exact W.of (BU_ s) (q s rfl rfl (Ext.refl _))
 ·exact W.str (.inr ⟨b,o,c,rfl,h1,h2,h3⟩) (.inr ⟨b,o,c,rfl⟩) CB_ Ji fun s1 m1 n1 x1=>q s1 m1 n1 ⟨x1.nxt,x1.lim,x1.cx,x1.mem,by obtain⟨d,e,h⟩:=x1.rd;exact⟨d,e,fun x hx=>⟨(h x hx).1,trivial⟩⟩,x1.wr⟩
theorem Jw_ {va vb:Value}{l:List Nat}{n:Nat}{s:St}{Q:Value→St→Prop}(hbd:s.lim≤s.next)(ha:Bs s va l)(hb:Bs s vb l)(hn:20≤n)
  (q: ∀s1,Ext Any Non s s1→Q (.bool true) s1):W (Av envS (runF envS n) 50 [va,vb]) s Q:=by
 refine AX_ fun tm h0 h1=> ?_
 have ha':Bs (s.cxN cxN) va l:=ha.same rfl rfl
 have hb':Bs (s.cxN cxN) vb l:=hb.same rfl rfl
 refine Zn.w rfl (by omega) ?_
 simp only[Xa,Aa,W_mv,Ab]
 refine CA_.w Aq_ (by omega) ?_
 simp only[UI,Ad,W_oS,Aa,W_mv,Ab,T.get_set,reduceIte,Nat.reduceEqDiff,reduceCtorEq, ↓reduceIte,h0,h1]
 refine W.strA ha' fun sa ma na xa=> ?_
 try simp only[Ad,W_oS,W_on,Aa,W_mv,Ab,AJ,T.get_set,Ah,Af,AH,AG,Ag,Al,reduceIte,Aq,Ay,AM,AD,AB,Ao,Ar,AC,Ap,An,Nat.reduceEqDiff,reduceCtorEq, ↓reduceIte]
 refine W.strA (hb'.same ma na) fun sb mb nb xb=> ?_
 have hx:Ext Any Non (s.cxN cxN) sb:=xa.on xb hbd fun _ _ h=>h
 simp only[Ud,beq_self_eq_true]
 refine W.end' (rs:=[4]) (vs:=[.bool true]) AP_ (.inl Or_) (by omega) UF Rn_ hx.cx (by simp[T.get_set]) ?_
 exact q _ hx.cx'
theorem EmS.bs {s:St}{l:List Nat}{v:Value}{b:Nat}(h:EmS s 1 l.length (u8l l) v b)(hn:l.length<capU):Bs s v l:=by
 rcases h with⟨rfl,h0,_⟩|h
 ·have:l=[]:=List.eq_nil_of_length_eq_zero h0
  subst this
  exact .inr ⟨b,0,0,rfl,Nat.zero_le _,by decide,fun i u e=>by simp[u8l]at e⟩
 ·exact MkS.bs (.inr h) hn
theorem MK_ {va:Value}{l:List Nat}{n:Nat}{s:St}{Q:Value→St→Prop}(hbd:s.lim≤s.next)(ha:Bs s va l)(hz:l.length≤1000000)(hn:20≤n)
  (q: ∀s1 v b,s.next≤b→EmS s1 1 l.length (u8l l) v b→Ext Any Non s s1→Q v s1):W (Av envS (runF envS n) 16 [va]) s Q:=by
 have hb0:(s.cxN cxN).lim≤(s.cxN cxN).next:=hbd
 refine ZC fun tm h0=> ?_
 have ha':Bs (s.cxN cxN) va l:=ha.same rfl rfl
 refine Za.w rfl (by omega) ?_
 simp only[Xd,Aa,W_mv,Ab]
 refine Zm.w Jc_ (by omega) ?_
 simp only[Tc,Ad,W_oS,Aa,W_mv,Ab,T.get_set,Ah,Af,AG,Ag,reduceIte,reduceCtorEq, ↓reduceIte,h0]
 refine W.buildS hb0 (r:=[]) Qk_ (by decide) rfl (D8 (by decide)) fun s1 n1 x1 r1=> ?_
 simp only[Hp]
 refine W.appE (s:=s1) (x1.bnd hb0) Hq (len:=0) (old:=[]) (b:=s.next) (.inl ⟨rfl,rfl,rfl⟩) (ha'.ext0 x1).src.g (by decide) (by decide) (by omega) (by rw[Cb,Nat.mul_one]) (Er _) fun s2 v2 b2 hb2 mk2 x2=> ?_
 have n1':s1.next=s.next+1:=n1
 have y2:Ext Any Non (s.cxN cxN) s2:=by
  have y1:Ext Any Non (s.cxN cxN) s1:=x1.weak hb0 (fun _ _ _=>trivial) fun _ _ h=>h
  exact y1.on x2 hb0 fun _ _ h=>absurd h.1 (Nat.lt_irrefl 0)
 try simp only[Ad,W_oS,W_on,Aa,W_mv,Ab,AJ,T.get_set,Ah,Af,AH,AG,Ag,Al,reduceIte,Aq,Ay,AM,AD,AB,Ao,Ar,AC,Ap,An,Nat.reduceEqDiff,reduceCtorEq, ↓reduceIte]
 rw[Nat.zero_add,List.nil_append]at mk2
 refine W.end' (rs:=[2]) (vs:=[v2]) Ze (.inl Nr_) (by omega) Rc Ly_ y2.cx (by simp[T.get_set]) ?_
 exact q _ v2 b2 (by omega) (mk2.same rfl rfl) y2.cx'
section
variable {n D M:Nat}{s:St}{k:DkS}{col:Nat→Nat}{a:ByteArray}{v:Value}{Q:Value→St→Prop}
theorem Vk (hb:s.lim≤s.next)(hI:DkI s col D M k)(hlen:k.fs.length≤300)(hz:k.used≤1000000)(hn:500≤n)(ho:k.out=false){j:Nat}(hj:j<k.fs.length)(hl:BB k.fs a=some j)(hv:Bs s v k.fs[j].all)
  (q: ∀s1,Ext Any Non s s1→Q (.bool true) s1):W (Av envS (runF envS n) 19 [.pointer (some ⟨D,0,none⟩), .string a,v]) s Q:=by
 have hb0:(s.cxN cxN).lim≤(s.cxN cxN).next:=hb
 refine Lr_ fun tm h0 h1 h2=> ?_
 refine Np_.w rfl (by omega) ?_
 simp only[RA,Aa,W_mv,Ab]
 refine OD_.w GV_ (by omega) ?_
 simp only[VM,Ad,W_oS,W_on,Aa,W_mv,Ab,T.get_set,Ah,Af,Ag,Al,reduceIte,Nat.reduceEqDiff,reduceCtorEq, ↓reduceIte,h0,h1]
 refine GA_ hb0 (hI.same rfl rfl) hlen hz (by omega) (fun h=>by rw[h]at ho;cases ho) (fun _ h=>by rw[h]at hl;cases hl) fun _ i hi hil s1 vr x1 hr _=> ?_
 have:i=j:=by rw[hl]at hi;cases hi;rfl
 subst this
 have y1:=x1
 try simp only[Ad,W_oS,W_on,Aa,W_mv,Ab,AJ,T.get_set,Ah,Af,AH,AG,Ag,Al,reduceIte,Aq,Ay,AM,AD,AB,Ao,Ar,AC,Ap,An,Nat.reduceEqDiff,reduceCtorEq, ↓reduceIte]
 rw[D9 (k:=0) rfl]
 try simp only[Ad,W_oS,W_on,Aa,W_mv,Ab,AJ,T.get_set,Ah,Af,AH,AG,Ag,Al,reduceIte,Aq,Ay,AM,AD,AB,Ao,Ar,AC,Ap,An,Nat.reduceEqDiff,reduceCtorEq, ↓reduceIte]
 rw[D9 (k:=1) rfl]
 try simp only[Ad,W_oS,W_on,Aa,W_mv,Ab,AJ,T.get_set,Ah,Af,AH,AG,Ag,Al,reduceIte,Aq,Ay,AM,AD,AB,Ao,Ar,AC,Ap,An,Nat.reduceEqDiff,reduceCtorEq, ↓reduceIte]
 refine Bm_.w Fa_ (by omega) ?_
 simp only[TN,Ad,W_oS,W_on,Aa,W_mv,Ab,T.get_set,Ah,Af,Ag,Al,reduceIte,Aq,Ay,Ao,Ar,Ap,Nat.reduceEqDiff, ↓reduceIte,Cj,h2,decide_true]
 refine Jw_ (y1.bnd hb0) hr ((hv.same (s':=s.cxN cxN) rfl rfl).ext0 x1) (by omega) fun s2 x2=> ?_
 have y2:=y1.on x2 hb0 fun _ _ h=>h
 try simp only[Ad,W_oS,W_on,Aa,W_mv,Ab,AJ,T.get_set,Ah,Af,AH,AG,Ag,Al,reduceIte,Aq,Ay,AM,AD,AB,Ao,Ar,AC,Ap,An,Nat.reduceEqDiff,reduceCtorEq, ↓reduceIte]
 refine W.end' (rs:=[6]) (vs:=[.bool true]) KJ_ (.inl Jn_) (by omega) S8 Br_ y2.cx (by simp[T.get_set]) ?_
 exact q _ y2.cx'
end
theorem Rm_ (m:Nat):Ih envS 75 [(0, .bool true),(1, .map (some m))]=some [.bool true, .map (some m), .int .i64 0, .int .i64 0, .bool false, .int .i64 0, .bool false]:=by kernel_rfl
def newC (N:Nat):Nat→Nat:=fun x=>if x<N then 1000 else if x=N then 1 else 0
section
variable {D n:Nat}{s:St}{Q:Value→St→Prop}
theorem Gm_ {r0:Int}{room:Nat}(hb:s.lim≤s.next)(h0:Own s D 0 (.bool true))(h2:Own s D 2 (.int .i64 r0))(hr:room≤16777216)(hn:60≤n)(q: ∀s1,s1.next=s.next→Ext Any (fun y=>y=D+2) s s1→Own s1 D 2 (.int .i64 (room:Nat))→Q (.int .i64 0) s1):W (Av envS (runF envS n) 51 [.pointer (some ⟨D,0,none⟩), .int .i64 (room:Nat)]) s Q:=by
 have hb0:(s.cxN cxN).lim≤(s.cxN cxN).next:=hb
 refine Nv_ fun tm t0 t1=> ?_
 refine Zh.w rfl (by omega) ?_
 simp only[Uy,Aa,W_mv,Ab]
 refine LM_.w Zz (by omega) ?_
 simp only[S6,Ad,W_on,Aa,W_mv,Ab,T.get_set,Ah,Af,Ag,Al,reduceIte,reduceCtorEq, ↓reduceIte,t0]
 refine EW hb0 (h0.same rfl rfl) (by omega) fun s1 m1 n1 x1=> ?_
 try simp only[Ad,W_oS,W_on,Aa,W_mv,Ab,AJ,T.get_set,Ah,Af,AH,AG,Ag,Al,reduceIte,Aq,Ay,AM,AD,AB,Ao,Ar,AC,Ap,An,Nat.reduceEqDiff,reduceCtorEq, ↓reduceIte]
 refine W.cond (v:=false) MP_ ZY (by simp[T.get_set]) (by omega) (fun h=>by cases h) fun _=> ?_
 refine FJ_.w Gv_ (by omega) ?_
 have e1:decide (((room:Nat):Int)<0)=false:=decide_eq_false (by omega)
 have e2:decide ((16777216:Int)<((room:Nat):Int))=false:=decide_eq_false (by omega)
 simp only[WC,Ad,W_oS,W_on,Aa,W_mv,Ab,T.get_set,reduceIte,Aq,AB,Ao,Ar,Ap,Nat.reduceEqDiff,reduceCtorEq, ↓reduceIte,BE,Ds,t1,e1,e2]
 refine W.cond (v:=false) FM_ Ci_ (by simp[T.get_set]) (by omega) (fun h=>by cases h) fun _=> ?_
 refine Qc_.w IH_ (by omega) ?_
 simp only[Vg,Ad,W_oS,Aa,W_mv,T.get_set,reduceIte,An,Nat.reduceEqDiff,reduceCtorEq, ↓reduceIte,t0,t1,Bb Rk (by decide)]
 have g2:Own s1 D 2 (.int .i64 r0):=(h2.same (s':=s.cxN cxN) rfl rfl).same m1 n1
 refine W.store1 Ev rfl g2 fun s2 n2 x2 o2=> ?_
 have y2:Ext Any (fun y=>y=D+2) (s.cxN cxN) s2:=(x1.gw hb0 fun _ _ h=>h.elim).on x2 hb0 fun y _ hq=>by have h1:=hq.1;have h2:=hq.2;omega
 try simp only[Ad,W_oS,W_on,Aa,W_mv,Ab,AJ,T.get_set,Ah,Af,AH,AG,Ag,Al,reduceIte,Aq,Ay,AM,AD,AB,Ao,Ar,AC,Ap,An,Nat.reduceEqDiff,reduceCtorEq, ↓reduceIte]
 refine Ou_.w Sa_ (by omega) ?_
 simp only[TE,Aa,W_mv,Ab]
 refine W.end' (rs:=[4]) (vs:=[.int .i64 0]) Sb_ (.inl GE_) (by omega) SV Mx_ y2.cx (by simp[T.get_set]) ?_
 exact q _ (n2.trans n1) y2.cx' (o2.same rfl rfl)
theorem Dy_ {room:Nat}(hb:s.lim≤s.next)(hr:room≤16777216)(hn:100≤n)(q: ∀s1,Ext Any Non s s1→DkI s1 (newC s.next) (s.next+1) s.next ⟨[],0,room,0,false,0,false⟩→Q (.tuple #[.pointer (some ⟨s.next+1,0,none⟩), .int .i64 0]) s1):W (Av envS (runF envS n) 21 [.int .i64 (room:Nat)]) s Q:=by
 have hb0:(s.cxN cxN).lim≤(s.cxN cxN).next:=hb
 refine QO_ fun tm t0=> ?_
 refine Jf_.w rfl (by omega) ?_
 simp only[R7,Aa,W_mv,Ab]
 refine QJ_.w Dv_ (by omega) ?_
 simp only[US,Ad,W_oS,Aa,W_mv,Ab,AH,AG,Ag]
 unfold C0
 refine W.bind (W.newO fun s1 n1 x1 o1=> ?_)
 have ea:(s.cxN cxN).next=s.next:=rfl
 rw[ea]at o1 n1 ⊢
 have y1:Ext Any Non (s.cxN cxN) s1:=x1.weak hb0 (fun _ _ _=>trivial) fun _ _ h=>h
 simp only[Aa,Q2 (Rm_ s.next)]
 refine W.box fun s2 n2 x2 r2=> ?_
 rw[UG]at n2 r2
 have n2':s2.next=s1.next+8:=n2
 rw[n1]at r2 n2' ⊢
 have y2:=y1.on x2 hb0 fun _ _ h=>h
 try simp only[Ad,W_oS,W_on,Aa,W_mv,Ab,AJ,T.get_set,Ah,Af,AH,AG,Ag,Al,reduceIte,Aq,Ay,AM,AD,AB,Ao,Ar,AC,Ap,An,Nat.reduceEqDiff,reduceCtorEq, ↓reduceIte]
 refine Ij_.w BQ_ (by omega) ?_
 simp only[Wl,Ad,W_on,Aa,W_mv,Ab,T.get_set,Ah,Af,Ag,Al,reduceIte,reduceCtorEq, ↓reduceIte,t0]
 refine Gm_ (y2.bnd hb0) (r2 0 _ rfl) (r2 2 _ rfl) hr (by omega) fun s3 n3 x3 o3=> ?_
 have y3:Ext Any Non (s.cxN cxN) s3:=y2.on x3 hb0 fun y hy h=>by have:y<s.next:=hy;omega
 try simp only[Ad,W_oS,W_on,Aa,W_mv,Ab,AJ,T.get_set,Ah,Af,AH,AG,Ag,Al,reduceIte,Aq,Ay,AM,AD,AB,Ao,Ar,AC,Ap,An,Nat.reduceEqDiff,reduceCtorEq, ↓reduceIte]
 refine GZ_.w QZ_ (by omega) ?_
 simp only[SG,Ad,W_oS,Aa,W_mv,Ab,T.get_set,reduceIte, ↓reduceIte,B0,decide_true,Bool.not_true]
 refine W.cond (v:=false) Ms_ KL_ (by simp[T.get_set]) (by omega) (fun h=>by cases h) fun _=> ?_
 refine NT_.w OK_ (by omega) ?_
 simp only[V4,Aa,W_mv,Ab,T.get_set,reduceIte,Nat.reduceEqDiff, ↓reduceIte]
 refine W.end' (rs:=[2,3]) (vs:=[.pointer (some ⟨s.next+1,0,none⟩), .int .i64 0]) HN_ (.inl FU_) (by omega) XQ HB_ y3.cx (by simp[T.get_set]) ?_
 refine q _ y3.cx' ?_
 have k: ∀i u,i≠2→Own s2 (s.next+1) i u→Own (s3.cxN s.cx) (s.next+1) i u:=fun i u hi h=>(h.ext x3 fun hq=>by omega).same rfl rfl
 have oM:Obj (s3.cxN s.cx) s.next (.map [] 0):=((Obj.ext (Obj.ext o1 x2 id) x3 fun hq=>by omega)).same rfl rfl
 exact⟨k 0 _ (by decide) (r2 0 _ rfl),k 1 _ (by decide) (r2 1 _ rfl),o3.same rfl rfl,k 3 _ (by decide) (r2 3 _ rfl),k 4 _ (by decide) (r2 4 _ rfl),k 5 _ (by decide) (r2 5 _ rfl),k 6 _ (by decide) (r2 6 _ rfl),fun x h1 h2=>by unfold newC;rw[if_neg (by omega),if_neg (by omega)],oM,by unfold newC;rw[if_neg (by omega),if_pos rfl],rfl,fun i hi=>absurd hi (Nat.not_lt_zero i)⟩
theorem Eu_ {room:Nat}(hb:s.lim≤s.next)(hr:room≤16777216)(hn:200≤n)(q: ∀s1,Ext Any Non s s1→DkI s1 (newC s.next) (s.next+1) s.next ⟨[],0,room,0,false,0,false⟩→Q (.pointer (some ⟨s.next+1,0,none⟩)) s1):W (Av envS (runF envS n) 8 [.int .i64 (room:Nat)]) s Q:=by
 have hb0:(s.cxN cxN).lim≤(s.cxN cxN).next:=hb
 refine Qy_ fun tm t0=> ?_
 refine Nm_.w rfl (by omega) ?_
 simp only[Xw,Aa,W_mv,Ab]
 refine Kn_.w Ju_ (by omega) ?_
 simp only[Vr,Ad,W_oS,W_on,Aa,W_mv,Ab,T.get_set,Ah,Af,Ag,Al,reduceIte,reduceCtorEq, ↓reduceIte,t0]
 refine Dy_ hb0 hr (by omega) fun s1 x1 hI=> ?_
 try simp only[Ad,W_oS,W_on,Aa,W_mv,Ab,AJ,T.get_set,Ah,Af,AH,AG,Ag,Al,reduceIte,Aq,Ay,AM,AD,AB,Ao,Ar,AC,Ap,An,Nat.reduceEqDiff,reduceCtorEq, ↓reduceIte]
 rw[D9 (k:=0) rfl]
 try simp only[Ad,W_oS,W_on,Aa,W_mv,Ab,AJ,T.get_set,Ah,Af,AH,AG,Ag,Al,reduceIte,Aq,Ay,AM,AD,AB,Ao,Ar,AC,Ap,An,Nat.reduceEqDiff,reduceCtorEq, ↓reduceIte]
 rw[D9 (k:=1) rfl]
 try simp only[Ad,W_oS,W_on,Aa,W_mv,Ab,AJ,T.get_set,Ah,Af,AH,AG,Ag,Al,reduceIte,Aq,Ay,AM,AD,AB,Ao,Ar,AC,Ap,An,Nat.reduceEqDiff,reduceCtorEq, ↓reduceIte]
 refine AT_.w LU_ (by omega) ?_
 simp only[Uu,Ad,W_oS,Aa,W_mv,Ab,T.get_set,reduceIte, ↓reduceIte,B0,decide_true,Bool.not_true]
 refine W.cond (v:=false) Gi_ LJ_ (by simp[T.get_set]) (by omega) (fun h=>by cases h) fun _=> ?_
 refine LC_.w KN_ (by omega) ?_
 simp only[XY,Aa,W_mv,Ab,T.get_set,reduceIte,Nat.reduceEqDiff, ↓reduceIte]
 refine W.end' (rs:=[2]) (vs:=[.pointer (some ⟨s.next+1,0,none⟩)]) Hu_ (.inl EX_) (by omega) Wa Mo_ x1.cx (by simp[T.get_set];rfl) ?_
 exact q _ x1.cx' (hI.same rfl rfl)
end
end Go.Proofs.Ytjfhmacppabehaa.Am
end
