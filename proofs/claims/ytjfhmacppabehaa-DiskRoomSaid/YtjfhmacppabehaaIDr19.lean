import Derived.Test.YtjfhmacppabehaaIDr15
import Derived.Test.YtjfhmacppabehaaIDr08
import Derived.KernelRfl
import Derived.Test.YtjfhmacppabehaaIDr18
import Derived.Test.YtjfhmacppabehaaIDr07
noncomputable section
namespace Go.Proofs.Ytjfhmacppabehaa.Am
open Go.RowKit
def GC:Nat:=Bq Try.f8
def Vn:Code:=Try.f8.body.getD .skip
theorem Tg:envS.fn.get 8=some Try.f8:=by kernel_rfl
theorem Hf_ {a0:Value}{n:Nat}{s:St}{Q:Value→St→Prop}(h: ∀tm,T.get tm 0=some a0→W (runF envS n ⟨8,13,GC,tm,[.code Vn], .run, .normal,none⟩) (s.cxN cxN) fun p s1=>Q p.1 (s1.cxN s.cx)):W (As envS (runF envS n) 8 [a0]) s Q:=
 W.call (by kernel_rfl) (by kernel_rfl) Tg (by kernel_rfl) rfl rfl (by simp) (h _ (by kernel_rfl))
theorem Kx_:Try.f8.results.toList=[.tmp 2]:=by kernel_rfl
def MK:List Item:=skim 64 [.code Vn]
def Iy:List Item:=skim 64 MK.tail
theorem Yi:skim 64 MK.tail=Iy:=by kernel_rfl
def Jp:List Item:=skim 64 Iy.tail
theorem Ap_:skim 64 Iy.tail=Jp:=by kernel_rfl
def HL:List Item:=skim 64 Jp.tail
theorem DH_:skim 64 Jp.tail=HL:=by kernel_rfl
def I5:List Item:=skim 64 (brF HL)
theorem JL_:skim 64 (brF HL)=I5:=by kernel_rfl
def Ny:List Item:=skim 64 I5.tail
theorem BU_:skim 64 I5.tail=Ny:=by kernel_rfl
def PJ (E:Env)(call round:Ac)(tm:T Value):M (T Value):=
 mv (some (.pointer none)) fun v2=>
 setF 2 v2 tm fun tm1=>
 M.pure tm1
theorem Ah_:RegEq 8 13 GC MK PJ:=⟨by kernel_rfl,fun _ _ _ _ _ _ _ _ _=>by kernel_rfl⟩
def RN (E:Env)(call round:Ac)(tm:T Value):M (T Value):=
 mv (T.get tm 0) fun v6=>
 M.bind (M.on (some (.func (.func 21) #[] #[])) fun f=>M.on (seqO [(some v6)]) fun l=>A9 call round f l) fun v7=>
 mv (some v7) fun v5=>
 M.bind (oS (some v5) fun a=>kExt 0 a) fun v8=>
 M.bind (oS (some v5) fun a=>kExt 1 a) fun v9=>
 mv (some v8) fun v3=>
 setF 3 v3 tm fun tm1=>
 mv (some v9) fun v4=>
 setF 4 v4 tm1 fun tm2=>
 M.pure tm2
theorem Mt_:RegEq 8 13 GC Iy RN:=⟨by kernel_rfl,fun _ _ _ _ _ _ _ _ _=>by kernel_rfl⟩
def RB (E:Env)(call round:Ac)(tm:T Value):M (T Value):=
 mv (T.get tm 4) fun v10=>
 M.bind (oS (some v10) fun a=>oS (some (.int .i64 0)) fun b=>Cl.get (aBin E .neq 27 (.tmp 10) (.const (.int .i64 0))) a b) fun v11=>
 setF 11 v11 tm fun tm1=>
 M.pure tm1
theorem Gi_:RegEq 8 13 GC Jp RB:=⟨by kernel_rfl,fun _ _ _ _ _ _ _ _ _=>by kernel_rfl⟩
theorem WT:Bb HL=some 11:=by kernel_rfl
def Qx (E:Env)(call round:Ac)(tm:T Value):M (T Value):=
 mv (T.get tm 3) fun v12=>
 mv (some v12) fun v2=>
 setF 2 v2 tm fun tm1=>
 M.pure tm1
theorem GU_:RegEq 8 13 GC I5 Qx:=⟨by kernel_rfl,fun _ _ _ _ _ _ _ _ _=>by kernel_rfl⟩
theorem ZK: ∃k,Ny= .code .ret::k:=⟨Ny.tail,by kernel_rfl⟩
def Bk:Nat:=Bq Try.f3
abbrev GB:Nat:=137
def V2:Code:=Try.f3.body.getD .skip
theorem Ih:envS.fn.get 3=some Try.f3:=by kernel_rfl
theorem GY_ {a0 a1:Value}{n:Nat}{s:St}{Q:Value→St→Prop}(h: ∀tm,T.get tm 0=some a0→T.get tm 1=some a1→W (runF envS n ⟨3,137,Bk,tm,[.code V2], .run, .normal,none⟩) (s.cxN cxN) fun p s1=>Q p.1 (s1.cxN s.cx)):W (As envS (runF envS n) 3 [a0,a1]) s Q:=
 W.call (by kernel_rfl) (by kernel_rfl) Ih (by kernel_rfl) rfl rfl (by simp) (h _ (by kernel_rfl) (by kernel_rfl))
theorem K4:Try.f3.results.toList=[.tmp 4]:=by kernel_rfl
def ML:List Item:=skim 64 [.code V2]
def JS:List Item:=skim 64 ML.tail
theorem Ys:skim 64 ML.tail=JS:=by kernel_rfl
def Jg:List Item:=skim 64 JS.tail
theorem DM_:skim 64 JS.tail=Jg:=by kernel_rfl
def Gb:List Item:=skim 64 Jg.tail
theorem Ik:skim 64 Jg.tail=Gb:=by kernel_rfl
def Gs:List Item:=skim 64 (brT Gb)
theorem OJ:skim 64 (brT Gb)=Gs:=by kernel_rfl
def JV:List Item:=skim 64 (brF Gb)
theorem HC_:skim 64 (brF Gb)=JV:=by kernel_rfl
def No:List Item:=skim 64 Gs.tail
theorem Yr:skim 64 Gs.tail=No:=by kernel_rfl
def Jn:List Item:=skim 64 JV.tail
theorem YT:skim 64 JV.tail=Jn:=by kernel_rfl
def Ji:List Item:=skim 64 Jn.tail
theorem Mq_:skim 64 Jn.tail=Ji:=by kernel_rfl
def J6:List Item:=skim 64 (brF Ji)
theorem ZW:skim 64 (brF Ji)=J6:=by kernel_rfl
def Kc:List Item:=skim 64 J6.tail
theorem Zl:skim 64 J6.tail=Kc:=by kernel_rfl
def JW:List Item:=skim 64 Kc.tail
theorem IL_:skim 64 Kc.tail=JW:=by kernel_rfl
def FN:List Item:=skim 64 JW.tail
theorem CW_:skim 64 JW.tail=FN:=by kernel_rfl
def FV:List Item:=skim 64 FN.tail
theorem Rf:skim 64 FN.tail=FV:=by kernel_rfl
def J3:List Item:=skim 64 (brT FV)
theorem JR_:skim 64 (brT FV)=J3:=by kernel_rfl
def Gn:List Item:=skim 64 (brF FV)
theorem JT_:skim 64 (brF FV)=Gn:=by kernel_rfl
def F6:List Item:=skim 64 J3.tail
theorem Qw:skim 64 J3.tail=F6:=by kernel_rfl
def J4:List Item:=skim 64 Gn.tail
theorem Wm:skim 64 Gn.tail=J4:=by kernel_rfl
def IY:List Item:=skim 64 (brT F6)
theorem AJ_:skim 64 (brT F6)=IY:=by kernel_rfl
def G4:List Item:=skim 64 (brF F6)
theorem It_:skim 64 (brF F6)=G4:=by kernel_rfl
def FS:List Item:=skim 64 J4.tail
theorem LH_:skim 64 J4.tail=FS:=by kernel_rfl
def M6:List Item:=skim 64 IY.tail
theorem XC:skim 64 IY.tail=M6:=by kernel_rfl
def IT:List Item:=skim 64 G4.tail
theorem BX_:skim 64 G4.tail=IT:=by kernel_rfl
def Fs:List Item:=skim 64 FS.tail
theorem Wa:skim 64 FS.tail=Fs:=by kernel_rfl
def JN:List Item:=skim 64 IT.tail
theorem SW:skim 64 IT.tail=JN:=by kernel_rfl
def KE:List Item:=skim 64 (brT Fs)
theorem XB:skim 64 (brT Fs)=KE:=by kernel_rfl
def Km:List Item:=skim 64 (brF Fs)
theorem Jm_:skim 64 (brF Fs)=Km:=by kernel_rfl
def JQ:List Item:=skim 64 (brF JN)
theorem ST:skim 64 (brF JN)=JQ:=by kernel_rfl
def HO:List Item:=skim 64 KE.tail
theorem Bw_:skim 64 KE.tail=HO:=by kernel_rfl
def Mq:List Item:=skim 64 Km.tail
theorem Dq_:skim 64 Km.tail=Mq:=by kernel_rfl
def FU:List Item:=skim 64 JQ.tail
theorem Sn:skim 64 JQ.tail=FU:=by kernel_rfl
def Jz:List Item:=skim 64 HO.tail
theorem Ff_:skim 64 HO.tail=Jz:=by kernel_rfl
def N1:List Item:=skim 64 (brT FU)
theorem AY_:skim 64 (brT FU)=N1:=by kernel_rfl
def FP:List Item:=skim 64 (brF FU)
theorem X3:skim 64 (brF FU)=FP:=by kernel_rfl
def I9:List Item:=skim 64 (brF Jz)
theorem FH_:skim 64 (brF Jz)=I9:=by kernel_rfl
theorem DU_:skim 64 N1.tail=FP:=by kernel_rfl
def KC:List Item:=skim 64 FP.tail
theorem Cj_:skim 64 FP.tail=KC:=by kernel_rfl
def Ib:List Item:=skim 64 I9.tail
theorem FE_:skim 64 I9.tail=Ib:=by kernel_rfl
def LG:List Item:=skim 64 (brF KC)
theorem Di_:skim 64 (brF KC)=LG:=by kernel_rfl
def Kf:List Item:=skim 64 Ib.tail
theorem YP:skim 64 Ib.tail=Kf:=by kernel_rfl
theorem Z2:skim 64 LG.tail=FN:=by kernel_rfl
def Oa:List Item:=skim 64 (brF Kf)
theorem Ji_:skim 64 (brF Kf)=Oa:=by kernel_rfl
theorem Au_:skim 64 Oa.tail=FS:=by kernel_rfl
def SV (E:Env)(call round:Ac)(tm:T Value):M (T Value):=
 mv (some (.bool false)) fun v4=>
 setF 4 v4 tm fun tm1=>
 M.pure tm1
theorem WU:RegEq 3 137 Bk ML SV:=⟨by kernel_rfl,fun _ _ _ _ _ _ _ _ _=>by kernel_rfl⟩
def Us (E:Env)(call round:Ac)(tm:T Value):M (T Value):=
 M.bind (M.on (some (.func (.func 7) #[] #[])) fun f=>M.on (seqO []) fun l=>A9 call round f l) fun v15=>
 mv (some v15) fun v5=>
 setF 5 v5 tm fun tm1=>
 M.pure tm1
theorem Kq_:RegEq 3 137 Bk JS Us:=⟨by kernel_rfl,fun _ _ _ _ _ _ _ _ _=>by kernel_rfl⟩
def G6 (E:Env)(call round:Ac)(tm:T Value):M (T Value):=
 mv (T.get tm 1) fun v16=>
 M.bind (oS (seqO [(some v16)]) fun l=>A6 E .len [22] l) fun v17=>
 M.bind (oS (some v17) fun a=>oS (some (.int .i64 20)) fun b=>Cl.get (aBin E .gtr 3 (.tmp 17) (.const (.int .i64 20))) a b) fun v18=>
 mv (some v18) fun v19=>
 M.bind (M.chk (isK v19) (M.if (isB v19 false) (oS (T.get tm 0) fun a=>M.pure a) (M.pure undef))) fun v20=>
 M.bind (M.chk (isK v19) (M.if (isB v19 false) (oS (some v20) fun a=>oS (some (.int .i64 0)) fun b=>Cl.get (aBin E .lss 3 (.tmp 20) (.const (.int .i64 0))) a b) (M.pure undef))) fun v21=>
 M.bind (M.on (some v19) fun a=>M.on (some (.bool true)) fun b=>M.on (some v21) fun c=>BC a b c) fun v22=>
 mv (some v22) fun v23=>
 M.bind (M.chk (isK v23) (M.if (isB v23 false) (oS (T.get tm 0) fun a=>M.pure a) (M.pure undef))) fun v24=>
 M.bind (M.chk (isK v23) (M.if (isB v23 false) (oS (some v24) fun a=>oS (some (.int .i64 3000)) fun b=>Cl.get (aBin E .gtr 3 (.tmp 24) (.const (.int .i64 3000))) a b) (M.pure undef))) fun v25=>
 M.bind (M.on (some v23) fun a=>M.on (some (.bool true)) fun b=>M.on (some v25) fun c=>BC a b c) fun v26=>
 setF 26 v26 tm fun tm1=>
 M.pure tm1
theorem Yz:RegEq 3 137 Bk Jg G6:=⟨by kernel_rfl,fun _ _ _ _ _ _ _ _ _=>by kernel_rfl⟩
theorem Ko:Bb Gb=some 26:=by kernel_rfl
def Q7 (E:Env)(call round:Ac)(tm:T Value):M (T Value):=
 mv (T.get tm 5) fun v27=>
 mv (some v27) fun v4=>
 setF 4 v4 tm fun tm1=>
 M.pure tm1
theorem Ep_:RegEq 3 137 Bk Gs Q7:=⟨by kernel_rfl,fun _ _ _ _ _ _ _ _ _=>by kernel_rfl⟩
def S3 (E:Env)(call round:Ac)(tm:T Value):M (T Value):=
 mv (T.get tm 0) fun v28=>
 M.bind (M.on (some (.func (.func 8) #[] #[])) fun f=>M.on (seqO [(some v28)]) fun l=>A9 call round f l) fun v29=>
 mv (some v29) fun v6=>
 setF 6 v6 tm fun tm1=>
 M.pure tm1
theorem Zc:RegEq 3 137 Bk JV S3:=⟨by kernel_rfl,fun _ _ _ _ _ _ _ _ _=>by kernel_rfl⟩
theorem Ml_: ∃k,No= .code .ret::k:=⟨No.tail,by kernel_rfl⟩
def Vj (E:Env)(call round:Ac)(tm:T Value):M (T Value):=
 mv (T.get tm 6) fun v30=>
 M.bind (oS (some v30) fun a=>oS (some (.pointer none)) fun b=>Cl.get (aBin E .eql 24 (.tmp 30) (.const (.pointer none))) a b) fun v31=>
 setF 31 v31 tm fun tm1=>
 M.pure tm1
theorem Hc_:RegEq 3 137 Bk Jn Vj:=⟨by kernel_rfl,fun _ _ _ _ _ _ _ _ _=>by kernel_rfl⟩
theorem Fa_:Bb Ji=some 31:=by kernel_rfl
def O8 (E:Env)(call round:Ac)(tm:T Value):M (T Value):=
 mv (some (.int .i64 0)) fun v7=>
 setF 7 v7 tm fun tm1=>
 M.pure tm1
theorem Hk_:RegEq 3 137 Bk J6 O8:=⟨by kernel_rfl,fun _ _ _ _ _ _ _ _ _=>by kernel_rfl⟩
def SF (E:Env)(call round:Ac)(tm:T Value):M (T Value):=
 mv (some (.string {data:= #[97,98,99,100,101,102,103,104,105,106,107,108,109,110,111,112,113,114,115,116]})) fun v8=>
 setF 8 v8 tm fun tm1=>
 M.pure tm1
theorem Jo_:RegEq 3 137 Bk Kc SF:=⟨by kernel_rfl,fun _ _ _ _ _ _ _ _ _=>by kernel_rfl⟩
def TF (E:Env)(call round:Ac)(tm:T Value):M (T Value):=
 mv (some (.int .i64 0)) fun v9=>
 setF 9 v9 tm fun tm1=>
 M.pure tm1
theorem BY_:RegEq 3 137 Bk JW TF:=⟨by kernel_rfl,fun _ _ _ _ _ _ _ _ _=>by kernel_rfl⟩
def Ox (E:Env)(call round:Ac)(tm:T Value):M (T Value):=
 mv (T.get tm 9) fun v32=>
 mv (T.get tm 1) fun v33=>
 M.bind (oS (seqO [(some v33)]) fun l=>A6 E .len [22] l) fun v34=>
 M.bind (oS (some v32) fun a=>oS (some v34) fun b=>Cl.get (aBin E .lss 3 (.tmp 32) (.tmp 34)) a b) fun v35=>
 setF 35 v35 tm fun tm1=>
 M.pure tm1
theorem Qd:RegEq 3 137 Bk FN Ox:=⟨by kernel_rfl,fun _ _ _ _ _ _ _ _ _=>by kernel_rfl⟩
theorem SP:Bb FV=some 35:=by kernel_rfl
def VM (E:Env)(call round:Ac)(tm:T Value):M (T Value):=
 mv (T.get tm 1) fun v38=>
 mv (T.get tm 9) fun v39=>
 M.bind (oS (some v38) fun a=>oS (some v39) fun b=>BS E 22 a b) fun v40=>
 M.bind (oS (some v40) fun a=>A3 E 26 a) fun v41=>
 M.bind (oS (seqO [(some v41)]) fun l=>A6 E .len [26] l) fun v42=>
 M.bind (oS (some v42) fun a=>oS (some (.int .i64 300)) fun b=>Cl.get (aBin E .gtr 3 (.tmp 42) (.const (.int .i64 300))) a b) fun v43=>
 setF 43 v43 tm fun tm1=>
 M.pure tm1
theorem Dx_:RegEq 3 137 Bk J3 VM:=⟨by kernel_rfl,fun _ _ _ _ _ _ _ _ _=>by kernel_rfl⟩
def OL (E:Env)(call round:Ac)(tm:T Value):M (T Value):=
 mv (T.get tm 6) fun v89=>
 M.bind (M.on (some (.func (.func 11) #[] #[])) fun f=>M.on (seqO [(some v89),(some (.string {data:= #[]}))]) fun l=>A9 call round f l) fun v90=>
 mv (some v90) fun v11=>
 setF 11 v11 tm fun tm1=>
 M.pure tm1
theorem Ei_:RegEq 3 137 Bk Gn OL:=⟨by kernel_rfl,fun _ _ _ _ _ _ _ _ _=>by kernel_rfl⟩
theorem Pu:Bb F6=some 43:=by kernel_rfl
def Qs (E:Env)(call round:Ac)(tm:T Value):M (T Value):=
 mv (some (.int .i64 0)) fun v12=>
 setF 12 v12 tm fun tm1=>
 M.pure tm1
theorem YJ:RegEq 3 137 Bk J4 Qs:=⟨by kernel_rfl,fun _ _ _ _ _ _ _ _ _=>by kernel_rfl⟩
def PS (E:Env)(call round:Ac)(tm:T Value):M (T Value):=
 mv (T.get tm 5) fun v44=>
 mv (some v44) fun v4=>
 setF 4 v4 tm fun tm1=>
 M.pure tm1
theorem Bx_:RegEq 3 137 Bk IY PS:=⟨by kernel_rfl,fun _ _ _ _ _ _ _ _ _=>by kernel_rfl⟩
def Tn (E:Env)(call round:Ac)(tm:T Value):M ((Rho×T Value)×List OpLog):=
 M.bind (apartO (oS (T.get tm 6) fun a=>M.pure a)) fun p0=>
 M.bind (apartO (oS (T.get tm 8) fun a=>M.pure a)) fun p1=>
 M.bind (apartO (oS (T.get tm 9) fun a=>M.pure a)) fun p2=>
 M.bind (apartO (oS (T.get tm 9) fun a=>M.pure a)) fun p3=>
 M.bind (apartO (oS (some p3.1) fun a=>oS (some (.int .i64 1)) fun b=>Cl.get (aBin E .add 3 (.tmp 48) (.const (.int .i64 1))) a b)) fun p4=>
 M.bind (apartO (M.on (some p1.1) fun a=>M.on (onO (some p2.1) fun v=>some (some v)) fun b=>M.on (onO (some p4.1) fun v=>some (some v)) fun c=>BK E 9 a b c)) fun p5=>
 M.bind (apartO (oS (T.get tm 1) fun a=>M.pure a)) fun p6=>
 M.bind (apartO (oS (T.get tm 9) fun a=>M.pure a)) fun p7=>
 M.bind (apartO (oS (some p6.1) fun a=>oS (some p7.1) fun b=>BS E 22 a b)) fun p8=>
 M.bind (apartO (oS (some p8.1) fun a=>A3 E 26 a)) fun p9=>
 M.bind (apartO (M.on (some (.func (.func 9) #[] #[])) fun f=>M.on (seqO [(some p0.1),(some p5.1),(some p9.1)]) fun l=>A9 call round f l)) fun p10=>
 M.pure (([p10.1,p9.1,p8.1,p7.1,p6.1,p5.1,p4.1,p3.1,p2.1,p1.1,p0.1],tm),[p10.2,p9.2,p8.2,p7.2,p6.2,p5.2,p4.2,p3.2,p2.2,p1.2,p0.2])
theorem Ho_:DrawEq 3 137 Bk G4 [0,0,0,0,8,30,0,0,192,448,1023,2047] Tn:=⟨by kernel_rfl,by kernel_rfl,fun _ _ _ _ _ _ _ _ _=>by kernel_rfl⟩
theorem Fs_ (E:Env)(call round:Ac)(x45 x46 x47 x48 x49 x50 x51 x52 x53 x54 x55:Value)(tm:T Value)(s:St):By call round (Cn E Bk 137 (hdC G4)) [x55,x54,x53,x52,x51,x50,x49,x48,x47,x46,x45] tm s=(M.bind (oS (some x55) fun a=>M.pure a) fun v10=>setT 10 v10 tm fun tm1=>M.pure tm1) s:=by kernel_rfl
def Lx (E:Env)(call round:Ac)(tm:T Value):M (T Value):=
 mv (T.get tm 12) fun v91=>
 mv (T.get tm 11) fun v92=>
 M.bind (oS (seqO [(some v92)]) fun l=>A6 E .len [30] l) fun v93=>
 M.bind (oS (some v91) fun a=>oS (some v93) fun b=>Cl.get (aBin E .lss 3 (.tmp 91) (.tmp 93)) a b) fun v94=>
 setF 94 v94 tm fun tm1=>
 M.pure tm1
theorem Vb:RegEq 3 137 Bk FS Lx:=⟨by kernel_rfl,fun _ _ _ _ _ _ _ _ _=>by kernel_rfl⟩
theorem Kr_: ∃k,M6= .code .ret::k:=⟨M6.tail,by kernel_rfl⟩
def Lc (E:Env)(call round:Ac)(tm:T Value):M (T Value):=
 mv (T.get tm 10) fun v56=>
 M.bind (oS (some v56) fun a=>oS (some (.int .i64 0)) fun b=>Cl.get (aBin E .eql 27 (.tmp 56) (.const (.int .i64 0))) a b) fun v57=>
 mv (T.get tm 7) fun v58=>
 mv (T.get tm 1) fun v59=>
 mv (T.get tm 9) fun v60=>
 M.bind (oS (some v59) fun a=>oS (some v60) fun b=>BS E 22 a b) fun v61=>
 M.bind (oS (some v61) fun a=>A3 E 26 a) fun v62=>
 M.bind (oS (seqO [(some v62)]) fun l=>A6 E .len [26] l) fun v63=>
 M.bind (oS (some v58) fun a=>oS (some v63) fun b=>Cl.get (aBin E .add 3 (.tmp 58) (.tmp 63)) a b) fun v64=>
 mv (T.get tm 0) fun v65=>
 M.bind (oS (some v64) fun a=>oS (some v65) fun b=>Cl.get (aBin E .leq 3 (.tmp 64) (.tmp 65)) a b) fun v66=>
 M.bind (oS (some v57) fun a=>oS (some v66) fun b=>Cl.get (aBin E .neq 4 (.tmp 57) (.tmp 66)) a b) fun v67=>
 mv (some v67) fun v68=>
 M.bind (M.chk (isK v68) (M.if (isB v68 false) (oS (T.get tm 10) fun a=>M.pure a) (M.pure undef))) fun v69=>
 M.bind (M.chk (isK v68) (M.if (isB v68 false) (oS (some v69) fun a=>oS (some (.int .i64 0)) fun b=>Cl.get (aBin E .neq 27 (.tmp 69) (.const (.int .i64 0))) a b) (M.pure undef))) fun v70=>
 M.bind (M.chk (isK v68) (M.if (isB v68 false) (oS (some v70) fun a=>M.pure a) (M.pure undef))) fun v71=>
 M.bind (M.chk (isK v71) (M.if (isB v71 true) (oS (T.get tm 10) fun a=>M.pure a) (M.pure undef))) fun v72=>
 M.bind (M.chk (isK v71) (M.if (isB v71 true) (oS (some v72) fun a=>oS (some (.int .i64 8)) fun b=>Cl.get (aBin E .neq 27 (.tmp 72) (.const (.int .i64 8))) a b) (M.pure undef))) fun v73=>
 M.bind (M.chk (isK v68) (M.if (isB v68 false) (M.on (some v71) fun a=>M.on (some v73) fun b=>M.on (some (.bool false)) fun c=>BC a b c) (M.pure undef))) fun v74=>
 M.bind (M.on (some v68) fun a=>M.on (some (.bool true)) fun b=>M.on (some v74) fun c=>BC a b c) fun v75=>
 setF 75 v75 tm fun tm1=>
 M.pure tm1
theorem Wq:RegEq 3 137 Bk IT Lc:=⟨by kernel_rfl,fun _ _ _ _ _ _ _ _ _=>by kernel_rfl⟩
theorem QM:Bb Fs=some 94:=by kernel_rfl
theorem Rp:Bb JN=some 75:=by kernel_rfl
def Sm (E:Env)(call round:Ac)(tm:T Value):M (T Value):=
 mv (T.get tm 6) fun v98=>
 mv (T.get tm 11) fun v99=>
 mv (T.get tm 12) fun v100=>
 M.bind (oS (some v99) fun a=>oS (some v100) fun b=>BS E 30 a b) fun v101=>
 M.bind (oS (some v101) fun a=>A3 E 9 a) fun v102=>
 M.bind (M.on (some (.func (.func 12) #[] #[])) fun f=>M.on (seqO [(some v98),(some v102)]) fun l=>A9 call round f l) fun v103=>
 mv (some v103) fun v97=>
 M.bind (oS (some v97) fun a=>kExt 0 a) fun v104=>
 M.bind (oS (some v97) fun a=>kExt 1 a) fun v105=>
 mv (some v104) fun v13=>
 setF 13 v13 tm fun tm1=>
 mv (some v105) fun v14=>
 setF 14 v14 tm1 fun tm2=>
 M.pure tm2
theorem ZU:RegEq 3 137 Bk KE Sm:=⟨by kernel_rfl,fun _ _ _ _ _ _ _ _ _=>by kernel_rfl⟩
def ON (E:Env)(call round:Ac)(tm:T Value):M (T Value):=
 mv (T.get tm 5) fun v125=>
 mv (some v125) fun v126=>
 M.bind (M.chk (isK v126) (M.if (isB v126 true) (oS (T.get tm 7) fun a=>M.pure a) (M.pure undef))) fun v127=>
 M.bind (M.chk (isK v126) (M.if (isB v126 true) (oS (some v127) fun a=>oS (some (.int .i64 0)) fun b=>Cl.get (aBin E .eql 3 (.tmp 127) (.const (.int .i64 0))) a b) (M.pure undef))) fun v128=>
 M.bind (M.on (some v126) fun a=>M.on (some v128) fun b=>M.on (some (.bool false)) fun c=>BC a b c) fun v129=>
 mv (some v129) fun v130=>
 M.bind (M.chk (isK v130) (M.if (isB v130 true) (oS (T.get tm 6) fun a=>M.pure a) (M.pure undef))) fun v131=>
 M.bind (M.chk (isK v130) (M.if (isB v130 true) (oS (T.get tm 0) fun a=>M.pure a) (M.pure undef))) fun v132=>
 M.bind (M.chk (isK v130) (M.if (isB v130 true) (oS (some v132) fun a=>oS (some v132) fun b=>Do E 26 a b) (M.pure undef))) fun v133=>
 M.bind (M.chk (isK v130) (M.if (isB v130 true) (M.on (some (.func (.func 9) #[] #[])) fun f=>M.on (seqO [(some v131),(some (.string {data:= #[122]})),(some v133)]) fun l=>A9 call round f l) (M.pure undef))) fun v134=>
 M.bind (M.chk (isK v130) (M.if (isB v130 true) (oS (some v134) fun a=>oS (some (.int .i64 0)) fun b=>Cl.get (aBin E .eql 27 (.tmp 134) (.const (.int .i64 0))) a b) (M.pure undef))) fun v135=>
 M.bind (M.on (some v130) fun a=>M.on (some v135) fun b=>M.on (some (.bool false)) fun c=>BC a b c) fun v136=>
 mv (some v136) fun v4=>
 setF 4 v4 tm fun tm1=>
 M.pure tm1
theorem KP_:RegEq 3 137 Bk Km ON:=⟨by kernel_rfl,fun _ _ _ _ _ _ _ _ _=>by kernel_rfl⟩
def NU (E:Env)(call round:Ac)(tm:T Value):M (T Value):=
 mv (T.get tm 10) fun v76=>
 M.bind (oS (some v76) fun a=>oS (some (.int .i64 0)) fun b=>Cl.get (aBin E .eql 27 (.tmp 76) (.const (.int .i64 0))) a b) fun v77=>
 setF 77 v77 tm fun tm1=>
 M.pure tm1
theorem R6:RegEq 3 137 Bk JQ NU:=⟨by kernel_rfl,fun _ _ _ _ _ _ _ _ _=>by kernel_rfl⟩
def Ul (E:Env)(call round:Ac)(tm:T Value):M (T Value):=
 mv (T.get tm 14) fun v106=>
 M.bind (oS (some v106) fun a=>oS (some (.int .i64 0)) fun b=>Cl.get (aBin E .neq 27 (.tmp 106) (.const (.int .i64 0))) a b) fun v107=>
 mv (some v107) fun v108=>
 M.bind (M.chk (isK v108) (M.if (isB v108 false) (oS (T.get tm 6) fun a=>M.pure a) (M.pure undef))) fun v109=>
 M.bind (M.chk (isK v108) (M.if (isB v108 false) (oS (T.get tm 11) fun a=>M.pure a) (M.pure undef))) fun v110=>
 M.bind (M.chk (isK v108) (M.if (isB v108 false) (oS (T.get tm 12) fun a=>M.pure a) (M.pure undef))) fun v111=>
 M.bind (M.chk (isK v108) (M.if (isB v108 false) (oS (some v110) fun a=>oS (some v111) fun b=>BS E 30 a b) (M.pure undef))) fun v112=>
 M.bind (M.chk (isK v108) (M.if (isB v108 false) (oS (some v112) fun a=>A3 E 9 a) (M.pure undef))) fun v113=>
 M.bind (M.chk (isK v108) (M.if (isB v108 false) (M.on (some (.func (.func 13) #[] #[])) fun f=>M.on (seqO [(some v109),(some v113)]) fun l=>A9 call round f l) (M.pure undef))) fun v114=>
 M.bind (M.chk (isK v108) (M.if (isB v108 false) (oS (some v114) fun a=>oS (some (.int .i64 0)) fun b=>Cl.get (aBin E .neq 27 (.tmp 114) (.const (.int .i64 0))) a b) (M.pure undef))) fun v115=>
 M.bind (M.on (some v108) fun a=>M.on (some (.bool true)) fun b=>M.on (some v115) fun c=>BC a b c) fun v116=>
 setF 116 v116 tm fun tm1=>
 M.pure tm1
theorem WK:RegEq 3 137 Bk HO Ul:=⟨by kernel_rfl,fun _ _ _ _ _ _ _ _ _=>by kernel_rfl⟩
theorem GP_: ∃k,Mq= .code .ret::k:=⟨Mq.tail,by kernel_rfl⟩
theorem Wg:Bb FU=some 77:=by kernel_rfl
theorem ZB:Bb Jz=some 116:=by kernel_rfl
def RZ (E:Env)(call round:Ac)(tm:T Value):M (T Value):=
 mv (T.get tm 7) fun v78=>
 mv (T.get tm 1) fun v79=>
 mv (T.get tm 9) fun v80=>
 M.bind (oS (some v79) fun a=>oS (some v80) fun b=>BS E 22 a b) fun v81=>
 M.bind (oS (some v81) fun a=>A3 E 26 a) fun v82=>
 M.bind (oS (seqO [(some v82)]) fun l=>A6 E .len [26] l) fun v83=>
 M.bind (oS (some v78) fun a=>oS (some v83) fun b=>Cl.get (aBin E .add 3 (.tmp 78) (.tmp 83)) a b) fun v84=>
 mv (some v84) fun v7=>
 setF 7 v7 tm fun tm1=>
 M.pure tm1
theorem Hb_:RegEq 3 137 Bk N1 RZ:=⟨by kernel_rfl,fun _ _ _ _ _ _ _ _ _=>by kernel_rfl⟩
def Tz (E:Env)(call round:Ac)(tm:T Value):M (T Value):=
 mv (T.get tm 6) fun v85=>
 M.bind (M.on (some (.func (.func 10) #[] #[])) fun f=>M.on (seqO [(some v85)]) fun l=>A9 call round f l) fun v86=>
 mv (T.get tm 7) fun v87=>
 M.bind (oS (some v86) fun a=>oS (some v87) fun b=>Cl.get (aBin E .neq 3 (.tmp 86) (.tmp 87)) a b) fun v88=>
 setF 88 v88 tm fun tm1=>
 M.pure tm1
theorem Iy_:RegEq 3 137 Bk FP Tz:=⟨by kernel_rfl,fun _ _ _ _ _ _ _ _ _=>by kernel_rfl⟩
def T7 (E:Env)(call round:Ac)(tm:T Value):M (T Value):=
 mv (T.get tm 7) fun v117=>
 mv (T.get tm 13) fun v118=>
 M.bind (oS (seqO [(some v118)]) fun l=>A6 E .len [26] l) fun v119=>
 M.bind (oS (some v117) fun a=>oS (some v119) fun b=>Cl.get (aBin E .sub 3 (.tmp 117) (.tmp 119)) a b) fun v120=>
 mv (some v120) fun v7=>
 setF 7 v7 tm fun tm1=>
 M.pure tm1
theorem Yf:RegEq 3 137 Bk I9 T7:=⟨by kernel_rfl,fun _ _ _ _ _ _ _ _ _=>by kernel_rfl⟩
theorem Fv_:Bb KC=some 88:=by kernel_rfl
def PY (E:Env)(call round:Ac)(tm:T Value):M (T Value):=
 mv (T.get tm 6) fun v121=>
 M.bind (M.on (some (.func (.func 10) #[] #[])) fun f=>M.on (seqO [(some v121)]) fun l=>A9 call round f l) fun v122=>
 mv (T.get tm 7) fun v123=>
 M.bind (oS (some v122) fun a=>oS (some v123) fun b=>Cl.get (aBin E .neq 3 (.tmp 122) (.tmp 123)) a b) fun v124=>
 setF 124 v124 tm fun tm1=>
 M.pure tm1
theorem JA_:RegEq 3 137 Bk Ib PY:=⟨by kernel_rfl,fun _ _ _ _ _ _ _ _ _=>by kernel_rfl⟩
def T8 (E:Env)(call round:Ac)(tm:T Value):M (T Value):=
 mv (T.get tm 9) fun v36=>
 M.bind (oS (some v36) fun a=>oS (some (.int .i64 1)) fun b=>Cl.get (aBin E .add 3 (.tmp 36) (.const (.int .i64 1))) a b) fun v37=>
 mv (some v37) fun v9=>
 setF 9 v9 tm fun tm1=>
 M.pure tm1
theorem LK_:RegEq 3 137 Bk LG T8:=⟨by kernel_rfl,fun _ _ _ _ _ _ _ _ _=>by kernel_rfl⟩
theorem Gq_:Bb Kf=some 124:=by kernel_rfl
def Rb (E:Env)(call round:Ac)(tm:T Value):M (T Value):=
 mv (T.get tm 12) fun v95=>
 M.bind (oS (some v95) fun a=>oS (some (.int .i64 1)) fun b=>Cl.get (aBin E .add 3 (.tmp 95) (.const (.int .i64 1))) a b) fun v96=>
 mv (some v96) fun v12=>
 setF 12 v12 tm fun tm1=>
 M.pure tm1
theorem FK_:RegEq 3 137 Bk Oa Rb:=⟨by kernel_rfl,fun _ _ _ _ _ _ _ _ _=>by kernel_rfl⟩
def EM:Nat:=Bq Try.f13
def Ta:Code:=Try.f13.body.getD .skip
theorem Uu:envS.fn.get 13=some Try.f13:=by kernel_rfl
theorem Hl_ {a0 a1:Value}{n:Nat}{s:St}{Q:Value→St→Prop}(h: ∀tm,T.get tm 0=some a0→T.get tm 1=some a1→W (runF envS n ⟨13,21,EM,tm,[.code Ta], .run, .normal,none⟩) (s.cxN cxN) fun p s1=>Q p.1 (s1.cxN s.cx)):W (As envS (runF envS n) 13 [a0,a1]) s Q:=
 W.call (by kernel_rfl) (by kernel_rfl) Uu (by kernel_rfl) rfl rfl (by simp) (h _ (by kernel_rfl) (by kernel_rfl))
theorem Jq_:Try.f13.results.toList=[.tmp 4]:=by kernel_rfl
def Lr:List Item:=skim 64 [.code Ta]
def IR:List Item:=skim 64 Lr.tail
theorem IB_:skim 64 Lr.tail=IR:=by kernel_rfl
def HE:List Item:=skim 64 IR.tail
theorem YA:skim 64 IR.tail=HE:=by kernel_rfl
def Jh:List Item:=skim 64 HE.tail
theorem DW_:skim 64 HE.tail=Jh:=by kernel_rfl
def GI:List Item:=skim 64 (brF Jh)
theorem BB_:skim 64 (brF Jh)=GI:=by kernel_rfl
def KD:List Item:=skim 64 GI.tail
theorem Fd_:skim 64 GI.tail=KD:=by kernel_rfl
def Ie:List Item:=skim 64 (brF KD)
theorem EJ_:skim 64 (brF KD)=Ie:=by kernel_rfl
def NK:List Item:=skim 64 Ie.tail
theorem EP_:skim 64 Ie.tail=NK:=by kernel_rfl
def RD (E:Env)(call round:Ac)(tm:T Value):M (T Value):=
 M.bind (oS (T.get tm 0) fun a=>kBox a) fun v2=>
 setF 2 v2 tm fun tm1=>
 M.bind (oS (T.get tm1 1) fun a=>kBox a) fun v3=>
 setF 3 v3 tm1 fun tm2=>
 mv (some (.int .i64 0)) fun v4=>
 setF 4 v4 tm2 fun tm3=>
 M.pure tm3
theorem Dc_:RegEq 13 21 EM Lr RD:=⟨by kernel_rfl,fun _ _ _ _ _ _ _ _ _=>by kernel_rfl⟩
def Vs (E:Env)(call round:Ac)(tm:T Value):M (T Value):=
 M.bind (oS (T.get tm 2) fun a=>A3 E 24 a) fun v6=>
 M.bind (M.on (some (.func (.func 36) #[] #[])) fun f=>M.on (seqO [(some v6)]) fun l=>A9 call round f l) fun v7=>
 mv (some v7) fun v5=>
 setF 5 v5 tm fun tm1=>
 M.pure tm1
theorem Fy_:RegEq 13 21 EM IR Vs:=⟨by kernel_rfl,fun _ _ _ _ _ _ _ _ _=>by kernel_rfl⟩
def Wj (E:Env)(call round:Ac)(tm:T Value):M (T Value):=
 mv (T.get tm 5) fun v8=>
 M.bind (oS (some v8) fun a=>oS (some (.int .i64 0)) fun b=>Cl.get (aBin E .neq 27 (.tmp 8) (.const (.int .i64 0))) a b) fun v9=>
 setF 9 v9 tm fun tm1=>
 M.pure tm1
theorem Mo_:RegEq 13 21 EM HE Wj:=⟨by kernel_rfl,fun _ _ _ _ _ _ _ _ _=>by kernel_rfl⟩
theorem DQ_:Bb Jh=some 9:=by kernel_rfl
def To (E:Env)(call round:Ac)(tm:T Value):M ((Rho×T Value)×List OpLog):=
 M.bind (apartO (oS (T.get tm 2) fun a=>A3 E 24 a)) fun p0=>
 M.bind (apartO (oS (some p0.1) fun a=>kNil a)) fun p1=>
 M.bind (apartO (oS (some p1.1) fun a=>kFld E 75 a 1)) fun p2=>
 M.bind (apartO (oS (some p2.1) fun a=>A3 E 68 a)) fun p3=>
 M.bind (apartO (oS (T.get tm 3) fun a=>A3 E 9 a)) fun p4=>
 M.bind (apartO (oS (some p3.1) fun a=>oS (some p4.1) fun b=>CH E 68 false a b)) fun p5=>
 M.pure (([p5.1,p4.1,p3.1,p2.1,p1.1,p0.1],tm),[p5.2,p4.2,p3.2,p2.2,p1.2,p0.2])
theorem Zu:DrawEq 13 21 EM GI [0,1,3,7,0,31,63] To:=⟨by kernel_rfl,by kernel_rfl,fun _ _ _ _ _ _ _ _ _=>by kernel_rfl⟩
theorem Ht_ (E:Env)(call round:Ac)(x11 x12 x13 x14 x15 x16:Value)(tm:T Value)(s:St):By call round (Cn E EM 21 (hdC GI)) [x16,x15,x14,x13,x12,x11] tm s=(M.bind (oS (some x16) fun a=>oS (some (.pointer none)) fun b=>Cl.get (aBin E .eql 67 (.tmp 16) (.const (.pointer none))) a b) fun v17=>setT 17 v17 tm fun tm1=>M.pure tm1) s:=by kernel_rfl
theorem YU:Bb KD=some 17:=by kernel_rfl
def Tc (E:Env)(call round:Ac)(tm:T Value):M (T Value):=
 M.bind (oS (T.get tm 2) fun a=>A3 E 24 a) fun v18=>
 M.bind (oS (seqO []) fun a=>oS (seqO [(T.get tm 2),(T.get tm 3)]) fun b=>M.pure (.func (.func 48) a.toArray b.toArray)) fun v19=>
 M.bind (M.on (some (.func (.func 38) #[] #[])) fun f=>M.on (seqO [(some v18),(some v19)]) fun l=>A9 call round f l) fun v20=>
 mv (some v20) fun v4=>
 setF 4 v4 tm fun tm1=>
 M.pure tm1
theorem Bg_:RegEq 13 21 EM Ie Tc:=⟨by kernel_rfl,fun _ _ _ _ _ _ _ _ _=>by kernel_rfl⟩
theorem BG_: ∃k,NK= .code .ret::k:=⟨NK.tail,by kernel_rfl⟩
def Mz:Nat:=Bq Try.f48
def OZ:Code:=Try.f48.body.getD .skip
theorem Vl:envS.fn.get 48=some Try.f48:=by kernel_rfl
theorem LY_ {a0 a1:Value}{n:Nat}{s:St}{Q:Value→St→Prop}(h: ∀tm,T.get tm 0=some a0→T.get tm 1=some a1→W (runF envS n ⟨48,7,Mz,tm,[.code OZ], .run, .normal,none⟩) (s.cxN cxN) fun p s1=>Q p.1 (s1.cxN s.cx)):W (As envS (runF envS n) 48 [a0,a1]) s Q:=
 W.call (by kernel_rfl) (by kernel_rfl) Vl (by kernel_rfl) rfl rfl (by simp) (h _ (by kernel_rfl) (by kernel_rfl))
theorem LD_:Try.f48.results.toList=[]:=by kernel_rfl
def JK:List Item:=skim 64 [.code OZ]
def SZ:List Item:=skim 64 JK.tail
theorem DB_:skim 64 JK.tail=SZ:=by kernel_rfl
def Qe (E:Env)(call round:Ac)(tm:T Value):M ((Rho×T Value)×List OpLog):=
 M.bind (apartO (oS (T.get tm 0) fun a=>A3 E 24 a)) fun p0=>
 M.bind (apartO (oS (some p0.1) fun a=>kNil a)) fun p1=>
 M.bind (apartO (oS (some p1.1) fun a=>kFld E 75 a 1)) fun p2=>
 M.bind (apartO (oS (some p2.1) fun a=>A3 E 68 a)) fun p3=>
 M.bind (apartO (oS (T.get tm 1) fun a=>A3 E 9 a)) fun p4=>
 M.pure (([p4.1,p3.1,p2.1,p1.1,p0.1],tm),[p4.2,p3.2,p2.2,p1.2,p0.2])
theorem Mr_:DrawEq 48 7 Mz JK [0,1,3,7,0,31] Qe:=⟨by kernel_rfl,by kernel_rfl,fun _ _ _ _ _ _ _ _ _=>by kernel_rfl⟩
theorem Bl_ (E:Env)(call round:Ac)(x2 x3 x4 x5 x6:Value)(tm:T Value)(s:St):By call round (Cn E Mz 7 (hdC JK)) [x6,x5,x4,x3,x2] tm s=(M.bind (oS (seqO [(some x5),(some x6)]) fun l=>A6 E .delete [68,9] l) fun _=>M.pure tm) s:=by kernel_rfl
section
variable {E:Env}{s:St}{t:Nat}{xo yo:Operand}
end
theorem EmS.bs {s:St}{l:List Nat}{v:Value}{b:Nat}(h:EmS s 1 l.length (u8l l) v b)(hn:l.length<capU):Bs s v l:=by
 rcases h with⟨rfl,h0,_⟩|h
 ·have:l=[]:=List.eq_nil_of_length_eq_zero h0
  subst this
  exact .inr ⟨b,0,0,rfl,Nat.zero_le _,by decide,fun i u e=>by simp[u8l]at e⟩
 ·exact MkS.bs (.inr h) hn
section
variable {n D M:Nat}{s:St}{k:DkS}{col:Nat→Nat}{a:ByteArray}{v:Value}{Q:Value→St→Prop}
end
theorem GW_ (m:Nat):Jy envS 75 [(0, .bool true),(1, .map (some m))]=some [.bool true, .map (some m), .int .i64 0, .int .i64 0, .bool false, .int .i64 0, .bool false]:=by kernel_rfl
def newC (N:Nat):Nat→Nat:=fun x=>if x<N then 1000 else if x=N then 1 else 0
section
variable {D n:Nat}{s:St}{Q:Value→St→Prop}
theorem Gf_ {r0:Int}{room:Nat}(hb:s.lim≤s.next)(h0:Own s D 0 (.bool true))(h2:Own s D 2 (.int .i64 r0))(hr:room≤16777216)(hn:60≤n)(q: ∀s1,s1.next=s.next→Ext Any (fun y=>y=D+2) s s1→Own s1 D 2 (.int .i64 (room:Nat))→Q (.int .i64 0) s1):W (As envS (runF envS n) 51 [.pointer (some ⟨D,0,none⟩), .int .i64 (room:Nat)]) s Q:=by
 have hb0:(s.cxN cxN).lim≤(s.cxN cxN).next:=hb
 refine Xv fun tm t0 t1=> ?_
 refine ML_.w rfl (by omega) ?_
 simp only[Pb,Aa,W_mv,Ab]
 refine Mz_.w Id_ (by omega) ?_
 simp only[Ui,Ad,W_on,Aa,W_mv,Ab,T.get_set,Ak,Aj,Ai,Av,reduceIte,reduceCtorEq, ↓reduceIte,t0]
 refine L9 hb0 (h0.same rfl rfl) (by omega) fun s1 m1 n1 x1=> ?_
 try simp only[Ad,W_oS,W_on,Aa,W_mv,Ab,AV,T.get_set,Ak,Aj,A0,AZ,Ai,Av,reduceIte,AP,AW,A2,AY,AT,AQ,AS,AX,AO,AN,Nat.reduceEqDiff,reduceCtorEq, ↓reduceIte]
 refine W.cond (v:=false) Ey_ FY_ (by simp[T.get_set]) (by omega) (fun h=>by cases h) fun _=> ?_
 refine FD_.w XA (by omega) ?_
 have e1:decide (((room:Nat):Int)<0)=false:=decide_eq_false (by omega)
 have e2:decide ((16777216:Int)<((room:Nat):Int))=false:=decide_eq_false (by omega)
 simp only[V8,Ad,W_oS,W_on,Aa,W_mv,Ab,T.get_set,reduceIte,AP,AT,AQ,AS,AO,Nat.reduceEqDiff,reduceCtorEq, ↓reduceIte,BN,CU,t1,e1,e2]
 refine W.cond (v:=false) CI_ Xb (by simp[T.get_set]) (by omega) (fun h=>by cases h) fun _=> ?_
 refine Ay_.w Mj_ (by omega) ?_
 simp only[Ps,Ad,W_oS,Aa,W_mv,T.get_set,reduceIte,AN,Nat.reduceEqDiff,reduceCtorEq, ↓reduceIte,t0,t1,Bz PQ (by decide)]
 have g2:Own s1 D 2 (.int .i64 r0):=(h2.same (s':=s.cxN cxN) rfl rfl).same m1 n1
 refine W.store1 GZ rfl g2 fun s2 n2 x2 o2=> ?_
 have y2:Ext Any (fun y=>y=D+2) (s.cxN cxN) s2:=(x1.gw hb0 fun _ _ h=>h.elim).on x2 hb0 fun y _ hq=>by have h1:=hq.1;have h2:=hq.2;omega
 try simp only[Ad,W_oS,W_on,Aa,W_mv,Ab,AV,T.get_set,Ak,Aj,A0,AZ,Ai,Av,reduceIte,AP,AW,A2,AY,AT,AQ,AS,AX,AO,AN,Nat.reduceEqDiff,reduceCtorEq, ↓reduceIte]
 refine DZ_.w Zq (by omega) ?_
 simp only[QT,Aa,W_mv,Ab]
 refine W.end' (rs:=[4]) (vs:=[.int .i64 0]) FX_ (.inl MP_) (by omega) PN Bj_ y2.cx (by simp[T.get_set]) ?_
 exact q _ (n2.trans n1) y2.cx' (o2.same rfl rfl)
theorem EO_ {room:Nat}(hb:s.lim≤s.next)(hr:room≤16777216)(hn:100≤n)(q: ∀s1,Ext Any Non s s1→DkI s1 (newC s.next) (s.next+1) s.next ⟨[],0,room,0,false,0,false⟩→Q (.tuple #[.pointer (some ⟨s.next+1,0,none⟩), .int .i64 0]) s1):W (As envS (runF envS n) 21 [.int .i64 (room:Nat)]) s Q:=by
 have hb0:(s.cxN cxN).lim≤(s.cxN cxN).next:=hb
 refine Yb fun tm t0=> ?_
 refine Lt_.w rfl (by omega) ?_
 simp only[Sx,Aa,W_mv,Ab]
 refine XG.w WZ (by omega) ?_
 simp only[S7,Ad,W_oS,Aa,W_mv,Ab,A0,AZ,Ai]
 unfold Cw
 refine W.bind (W.newO fun s1 n1 x1 o1=> ?_)
 have ea:(s.cxN cxN).next=s.next:=rfl
 rw[ea]at o1 n1 ⊢
 have y1:Ext Any Non (s.cxN cxN) s1:=x1.weak hb0 (fun _ _ _=>trivial) fun _ _ h=>h
 simp only[Aa,U3 (GW_ s.next)]
 refine W.box fun s2 n2 x2 r2=> ?_
 rw[TC]at n2 r2
 have n2':s2.next=s1.next+8:=n2
 rw[n1]at r2 n2' ⊢
 have y2:=y1.on x2 hb0 fun _ _ h=>h
 try simp only[Ad,W_oS,W_on,Aa,W_mv,Ab,AV,T.get_set,Ak,Aj,A0,AZ,Ai,Av,reduceIte,AP,AW,A2,AY,AT,AQ,AS,AX,AO,AN,Nat.reduceEqDiff,reduceCtorEq, ↓reduceIte]
 refine Ga_.w KY_ (by omega) ?_
 simp only[SK,Ad,W_on,Aa,W_mv,Ab,T.get_set,Ak,Aj,Ai,Av,reduceIte,reduceCtorEq, ↓reduceIte,t0]
 refine Gf_ (y2.bnd hb0) (r2 0 _ rfl) (r2 2 _ rfl) hr (by omega) fun s3 n3 x3 o3=> ?_
 have y3:Ext Any Non (s.cxN cxN) s3:=y2.on x3 hb0 fun y hy h=>by have:y<s.next:=hy;omega
 try simp only[Ad,W_oS,W_on,Aa,W_mv,Ab,AV,T.get_set,Ak,Aj,A0,AZ,Ai,Av,reduceIte,AP,AW,A2,AY,AT,AQ,AS,AX,AO,AN,Nat.reduceEqDiff,reduceCtorEq, ↓reduceIte]
 refine Gb_.w X4 (by omega) ?_
 simp only[QX,Ad,W_oS,Aa,W_mv,Ab,T.get_set,reduceIte, ↓reduceIte,Cd,decide_true,Bool.not_true]
 refine W.cond (v:=false) BD_ HZ_ (by simp[T.get_set]) (by omega) (fun h=>by cases h) fun _=> ?_
 refine Ii_.w CE_ (by omega) ?_
 simp only[Ve,Aa,W_mv,Ab,T.get_set,reduceIte,Nat.reduceEqDiff, ↓reduceIte]
 refine W.end' (rs:=[2,3]) (vs:=[.pointer (some ⟨s.next+1,0,none⟩), .int .i64 0]) MG_ (.inl Bk_) (by omega) Ql IY_ y3.cx (by simp[T.get_set]) ?_
 refine q _ y3.cx' ?_
 have k: ∀i u,i≠2→Own s2 (s.next+1) i u→Own (s3.cxN s.cx) (s.next+1) i u:=fun i u hi h=>(h.ext x3 fun hq=>by omega).same rfl rfl
 have oM:Obj (s3.cxN s.cx) s.next (.map [] 0):=((Obj.ext (Obj.ext o1 x2 id) x3 fun hq=>by omega)).same rfl rfl
 exact⟨k 0 _ (by decide) (r2 0 _ rfl),k 1 _ (by decide) (r2 1 _ rfl),o3.same rfl rfl,k 3 _ (by decide) (r2 3 _ rfl),k 4 _ (by decide) (r2 4 _ rfl),k 5 _ (by decide) (r2 5 _ rfl),k 6 _ (by decide) (r2 6 _ rfl),fun x h1 h2=>by unfold newC;rw[if_neg (by omega),if_neg (by omega)],oM,by unfold newC;rw[if_neg (by omega),if_pos rfl],rfl,fun i hi=>absurd hi (Nat.not_lt_zero i)⟩
theorem Jd_ {room:Nat}(hb:s.lim≤s.next)(hr:room≤16777216)(hn:200≤n)(q: ∀s1,Ext Any Non s s1→DkI s1 (newC s.next) (s.next+1) s.next ⟨[],0,room,0,false,0,false⟩→Q (.pointer (some ⟨s.next+1,0,none⟩)) s1):W (As envS (runF envS n) 8 [.int .i64 (room:Nat)]) s Q:=by
 have hb0:(s.cxN cxN).lim≤(s.cxN cxN).next:=hb
 refine Hf_ fun tm t0=> ?_
 refine Ah_.w rfl (by omega) ?_
 simp only[PJ,Aa,W_mv,Ab]
 refine Mt_.w Yi (by omega) ?_
 simp only[RN,Ad,W_oS,W_on,Aa,W_mv,Ab,T.get_set,Ak,Aj,Ai,Av,reduceIte,reduceCtorEq, ↓reduceIte,t0]
 refine EO_ hb0 hr (by omega) fun s1 x1 hI=> ?_
 try simp only[Ad,W_oS,W_on,Aa,W_mv,Ab,AV,T.get_set,Ak,Aj,A0,AZ,Ai,Av,reduceIte,AP,AW,A2,AY,AT,AQ,AS,AX,AO,AN,Nat.reduceEqDiff,reduceCtorEq, ↓reduceIte]
 rw[Dz (k:=0) rfl]
 try simp only[Ad,W_oS,W_on,Aa,W_mv,Ab,AV,T.get_set,Ak,Aj,A0,AZ,Ai,Av,reduceIte,AP,AW,A2,AY,AT,AQ,AS,AX,AO,AN,Nat.reduceEqDiff,reduceCtorEq, ↓reduceIte]
 rw[Dz (k:=1) rfl]
 try simp only[Ad,W_oS,W_on,Aa,W_mv,Ab,AV,T.get_set,Ak,Aj,A0,AZ,Ai,Av,reduceIte,AP,AW,A2,AY,AT,AQ,AS,AX,AO,AN,Nat.reduceEqDiff,reduceCtorEq, ↓reduceIte]
 refine Gi_.w Ap_ (by omega) ?_
 simp only[RB,Ad,W_oS,Aa,W_mv,Ab,T.get_set,reduceIte, ↓reduceIte,Cd,decide_true,Bool.not_true]
 refine W.cond (v:=false) DH_ WT (by simp[T.get_set]) (by omega) (fun h=>by cases h) fun _=> ?_
 refine GU_.w JL_ (by omega) ?_
 simp only[Qx,Aa,W_mv,Ab,T.get_set,reduceIte,Nat.reduceEqDiff, ↓reduceIte]
 refine W.end' (rs:=[2]) (vs:=[.pointer (some ⟨s.next+1,0,none⟩)]) BU_ (.inl ZK) (by omega) Tg Kx_ x1.cx (by simp[T.get_set];rfl) ?_
 exact q _ x1.cx' (hI.same rfl rfl)
end
end Go.Proofs.Ytjfhmacppabehaa.Am
end
