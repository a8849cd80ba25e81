import Derived.Test.YtofanlcjeohcjaaMt14
import Derived.Test.YtofanlcjeohcjaaMt07
import Derived.KernelRfl
import Derived.Test.YtofanlcjeohcjaaMt19
import Derived.Test.YtofanlcjeohcjaaMt18
noncomputable section
namespace Go.Proofs.Ytofanlcjeohcjaa.Am
open Go.RowKit
def BQ:Nat:=BB Try.f6
abbrev E3:Nat:=121
def Bj_:Code:=Try.f6.body.getD .skip
theorem MT:envS.fn.get 6=some Try.f6:=by kernel_rfl
theorem BL_ {a0 a1 a2 a3:Value}{n:Nat}{s:St}{Q:Value→St→Prop}(h: ∀tm,T.get tm 0=some a0→T.get tm 1=some a1→T.get tm 2=some a2→T.get tm 3=some a3→W (runF envS n ⟨6,121,BQ,tm,[.code Bj_], .run, .normal,none⟩) (s.cxN cxN) fun p s1=>Q p.1 (s1.cxN s.cx)):W (Au envS (runF envS n) 6 [a0,a1,a2,a3]) s Q:=
 W.call (by kernel_rfl) (by kernel_rfl) MT (by kernel_rfl) rfl rfl (by simp) (h _ (by kernel_rfl) (by kernel_rfl) (by kernel_rfl) (by kernel_rfl))
theorem Qy:Try.f6.results.toList=[.tmp 8]:=by kernel_rfl
def N1:List Item:=skim 64 [.code Bj_]
def Lq:List Item:=skim 64 N1.tail
theorem Yv:skim 64 N1.tail=Lq:=by kernel_rfl
def LV:List Item:=skim 64 Lq.tail
theorem Vq:skim 64 Lq.tail=LV:=by kernel_rfl
def KX:List Item:=skim 64 LV.tail
theorem RY:skim 64 LV.tail=KX:=by kernel_rfl
def GG:List Item:=skim 64 KX.tail
theorem Jt:skim 64 KX.tail=GG:=by kernel_rfl
def IZ:List Item:=skim 64 (brT GG)
theorem Nj:skim 64 (brT GG)=IZ:=by kernel_rfl
def Lv:List Item:=skim 64 (brF GG)
theorem Go_:skim 64 (brF GG)=Lv:=by kernel_rfl
def RD:List Item:=skim 64 IZ.tail
theorem Xq:skim 64 IZ.tail=RD:=by kernel_rfl
def Il:List Item:=skim 64 Lv.tail
theorem UF_:skim 64 Lv.tail=Il:=by kernel_rfl
def Kt:List Item:=skim 64 Il.tail
theorem Uj_:skim 64 Il.tail=Kt:=by kernel_rfl
def Ke:List Item:=skim 64 Kt.tail
theorem UX_:skim 64 Kt.tail=Ke:=by kernel_rfl
def FZ:List Item:=skim 64 Ke.tail
theorem DE_:skim 64 Ke.tail=FZ:=by kernel_rfl
def Hq:List Item:=skim 64 FZ.tail
theorem TU:skim 64 FZ.tail=Hq:=by kernel_rfl
def MG:List Item:=skim 64 (brT Hq)
theorem Gf_:skim 64 (brT Hq)=MG:=by kernel_rfl
def HZ:List Item:=skim 64 (brF Hq)
theorem LH_:skim 64 (brF Hq)=HZ:=by kernel_rfl
def FY:List Item:=skim 64 MG.tail
theorem Xg:skim 64 MG.tail=FY:=by kernel_rfl
def Iq:List Item:=skim 64 HZ.tail
theorem Tv_:skim 64 HZ.tail=Iq:=by kernel_rfl
def Iw:List Item:=skim 64 (brT FY)
theorem MH_:skim 64 (brT FY)=Iw:=by kernel_rfl
def F5:List Item:=skim 64 (brF FY)
theorem Ie_:skim 64 (brF FY)=F5:=by kernel_rfl
def Mz:List Item:=skim 64 Iq.tail
theorem Jb_:skim 64 Iq.tail=Mz:=by kernel_rfl
theorem Xa_:skim 64 Iw.tail=F5:=by kernel_rfl
theorem Qv_:skim 64 F5.tail=FZ:=by kernel_rfl
def QS:List Item:=skim 64 Mz.tail
theorem FL_:skim 64 Mz.tail=QS:=by kernel_rfl
def R6 (E:Env)(call round:Ab)(tm:T Value):M (T Value):=
 mv (some (.bool false)) fun v8=>
 setF 8 v8 tm fun tm1=>
 M.pure tm1
theorem BQ_:RegEq 6 121 BQ N1 R6:=⟨by kernel_rfl,fun _ _ _ _ _ _ _ _ _=>by kernel_rfl⟩
def P1 (E:Env)(call round:Ab)(tm:T Value):M (T Value):=
 M.bind (M.on (some (.func (.func 15) #[] #[])) fun f=>M.on (seqO []) fun l=>AZ call round f l) fun v19=>
 mv (some v19) fun v9=>
 setF 9 v9 tm fun tm1=>
 M.pure tm1
theorem X0:RegEq 6 121 BQ Lq P1:=⟨by kernel_rfl,fun _ _ _ _ _ _ _ _ _=>by kernel_rfl⟩
def RR (E:Env)(call round:Ab)(tm:T Value):M (T Value):=
 mv (T.get tm 0) fun v21=>
 M.bind (M.on (some (.func (.func 30) #[] #[])) fun f=>M.on (seqO [(some v21)]) fun l=>AZ call round f l) fun v22=>
 mv (some v22) fun v20=>
 M.bind (oS (some v20) fun a=>kExt 0 a) fun v23=>
 M.bind (oS (some v20) fun a=>kExt 1 a) fun v24=>
 M.bind (oS (some v20) fun a=>kExt 2 a) fun v25=>
 M.bind (oS (some v20) fun a=>kExt 3 a) fun v26=>
 mv (some v23) fun v10=>
 setF 10 v10 tm fun tm1=>
 mv (some v24) fun v11=>
 mv (some v25) fun v12=>
 setF 12 v12 tm1 fun tm2=>
 mv (some v26) fun v13=>
 setF 13 v13 tm2 fun tm3=>
 M.pure tm3
theorem Vv:RegEq 6 121 BQ LV RR:=⟨by kernel_rfl,fun _ _ _ _ _ _ _ _ _=>by kernel_rfl⟩
def Lc (E:Env)(call round:Ab)(tm:T Value):M (T Value):=
 mv (T.get tm 13) fun v27=>
 M.bind (oS (some v27) fun a=>kUn E.P .not a) fun v28=>
 mv (some v28) fun v29=>
 M.bind (M.chk (isK v29) (M.if (isB v29 false) (oS (T.get tm 0) fun a=>M.pure a) (M.pure undef))) fun v30=>
 M.bind (M.chk (isK v29) (M.if (isB v29 false) (oS (seqO [(some v30)]) fun l=>AT E .len [43] l) (M.pure undef))) fun v31=>
 M.bind (M.chk (isK v29) (M.if (isB v29 false) (oS (some v31) fun a=>oS (some (.int .i64 0)) fun b=>Cl.get (aBin E .eql 3 (.tmp 31) (.const (.int .i64 0))) a b) (M.pure undef))) fun v32=>
 M.bind (M.on (some v29) fun a=>M.on (some (.bool true)) fun b=>M.on (some v32) fun c=>BJ a b c) fun v33=>
 mv (some v33) fun v34=>
 M.bind (M.chk (isK v34) (M.if (isB v34 false) (oS (T.get tm 3) fun a=>M.pure a) (M.pure undef))) fun v35=>
 M.bind (M.chk (isK v34) (M.if (isB v34 false) (oS (some v35) fun a=>oS (some (.int .u32 0)) fun b=>Cl.get (aBin E .eql 51 (.tmp 35) (.const (.int .u32 0))) a b) (M.pure undef))) fun v36=>
 M.bind (M.on (some v34) fun a=>M.on (some (.bool true)) fun b=>M.on (some v36) fun c=>BJ a b c) fun v37=>
 setF 37 v37 tm fun tm1=>
 M.pure tm1
theorem Pj:RegEq 6 121 BQ KX Lc:=⟨by kernel_rfl,fun _ _ _ _ _ _ _ _ _=>by kernel_rfl⟩
theorem JK:Ba GG=some 37:=by kernel_rfl
def Sg (E:Env)(call round:Ab)(tm:T Value):M (T Value):=
 mv (T.get tm 9) fun v38=>
 mv (some v38) fun v8=>
 setF 8 v8 tm fun tm1=>
 M.pure tm1
theorem T0:RegEq 6 121 BQ IZ Sg:=⟨by kernel_rfl,fun _ _ _ _ _ _ _ _ _=>by kernel_rfl⟩
def TC (E:Env)(call round:Ab)(tm:T Value):M (T Value):=
 mv (T.get tm 1) fun v39=>
 mv (T.get tm 0) fun v40=>
 M.bind (oS (seqO [(some v40)]) fun l=>AT E .len [43] l) fun v41=>
 M.bind (M.on (some (.func (.func 33) #[] #[])) fun f=>M.on (seqO [(some v39),(some v41)]) fun l=>AZ call round f l) fun v42=>
 mv (some v42) fun v1=>
 setF 1 v1 tm fun tm1=>
 M.pure tm1
theorem DR_:RegEq 6 121 BQ Lv TC:=⟨by kernel_rfl,fun _ _ _ _ _ _ _ _ _=>by kernel_rfl⟩
theorem Wl: ∃k,RD= .code .ret::k:=⟨RD.tail,by kernel_rfl⟩
def Yt (E:Env)(call round:Ab)(tm:T Value):M (T Value):=
 mv (T.get tm 12) fun v43=>
 mv (T.get tm 1) fun v44=>
 M.bind (oS (some v43) fun a=>oS (some v44) fun b=>BM E 36 a b) fun v45=>
 M.bind (oS (some v45) fun a=>kFld E 35 a 1) fun v46=>
 M.bind (oS (some v46) fun a=>AQ E 3 a) fun v47=>
 M.bind (oS (some v47) fun a=>oS (some (.int .i64 6)) fun b=>Cl.get (aBin E .add 3 (.tmp 47) (.const (.int .i64 6))) a b) fun v48=>
 M.bind (oS (some (.int .i64 8)) fun a=>oS (some v48) fun b=>Cl.get (aBin E .mul 3 (.const (.int .i64 8)) (.tmp 48)) a b) fun v49=>
 mv (some v49) fun v14=>
 setF 14 v14 tm fun tm1=>
 M.pure tm1
theorem Pi_:RegEq 6 121 BQ Il Yt:=⟨by kernel_rfl,fun _ _ _ _ _ _ _ _ _=>by kernel_rfl⟩
def Bp_ (E:Env)(call round:Ab)(tm:T Value):M (T Value):=
 mv (T.get tm 14) fun v50=>
 mv (T.get tm 2) fun v51=>
 mv (T.get tm 12) fun v52=>
 mv (T.get tm 1) fun v53=>
 M.bind (oS (some v52) fun a=>oS (some v53) fun b=>BM E 36 a b) fun v54=>
 M.bind (oS (some v54) fun a=>kFld E 35 a 2) fun v55=>
 M.bind (oS (some v55) fun a=>AQ E 3 a) fun v56=>
 M.bind (oS (some v56) fun a=>oS (some (.int .i64 20)) fun b=>Cl.get (aBin E .add 3 (.tmp 56) (.const (.int .i64 20))) a b) fun v57=>
 M.bind (oS (some (.int .i64 8)) fun a=>oS (some v57) fun b=>Cl.get (aBin E .mul 3 (.const (.int .i64 8)) (.tmp 57)) a b) fun v58=>
 M.bind (oS (some v58) fun a=>oS (some (.int .i64 31)) fun b=>Cl.get (aBin E .sub 3 (.tmp 58) (.const (.int .i64 31))) a b) fun v59=>
 M.bind (M.on (some (.func (.func 33) #[] #[])) fun f=>M.on (seqO [(some v51),(some v59)]) fun l=>AZ call round f l) fun v60=>
 M.bind (oS (some v50) fun a=>oS (some v60) fun b=>Cl.get (aBin E .add 3 (.tmp 50) (.tmp 60)) a b) fun v61=>
 mv (some v61) fun v2=>
 setF 2 v2 tm fun tm1=>
 M.pure tm1
theorem KS_:RegEq 6 121 BQ Kt Bp_:=⟨by kernel_rfl,fun _ _ _ _ _ _ _ _ _=>by kernel_rfl⟩
def YE (E:Env)(call round:Ab)(tm:T Value):M (T Value):=
 mv (some (.int .i64 0)) fun v15=>
 setF 15 v15 tm fun tm1=>
 M.pure tm1
theorem WM_:RegEq 6 121 BQ Ke YE:=⟨by kernel_rfl,fun _ _ _ _ _ _ _ _ _=>by kernel_rfl⟩
def Pt (E:Env)(call round:Ab)(tm:T Value):M (T Value):=
 mv (T.get tm 15) fun v62=>
 M.bind (oS (some v62) fun a=>oS (some (.int .i64 32)) fun b=>Cl.get (aBin E .lss 3 (.tmp 62) (.const (.int .i64 32))) a b) fun v63=>
 setF 63 v63 tm fun tm1=>
 M.pure tm1
theorem An_:RegEq 6 121 BQ FZ Pt:=⟨by kernel_rfl,fun _ _ _ _ _ _ _ _ _=>by kernel_rfl⟩
theorem Vg:Ba Hq=some 63:=by kernel_rfl
def ZQ (E:Env)(call round:Ab)(tm:T Value):M (T Value):=
 mv (T.get tm 3) fun v66=>
 mv (T.get tm 15) fun v67=>
 M.bind (oS (some v66) fun a=>oS (some v67) fun b=>Cl.get (aBin E .shr 51 (.tmp 66) (.tmp 67)) a b) fun v68=>
 M.bind (oS (some v68) fun a=>oS (some (.int .u32 2)) fun b=>Cl.get (aBin E .rem 51 (.tmp 68) (.const (.int .u32 2))) a b) fun v69=>
 M.bind (oS (some v69) fun a=>oS (some (.int .u32 1)) fun b=>Cl.get (aBin E .eql 51 (.tmp 69) (.const (.int .u32 1))) a b) fun v70=>
 setF 70 v70 tm fun tm1=>
 M.pure tm1
theorem Vm_:RegEq 6 121 BQ MG ZQ:=⟨by kernel_rfl,fun _ _ _ _ _ _ _ _ _=>by kernel_rfl⟩
def Z0 (E:Env)(call round:Ab)(tm:T Value):M (T Value):=
 mv (T.get tm 10) fun v91=>
 mv (T.get tm 12) fun v92=>
 mv (T.get tm 1) fun v93=>
 M.bind (oS (some v92) fun a=>oS (some v93) fun b=>BM E 36 a b) fun v94=>
 M.bind (oS (some v94) fun a=>AQ E 35 a) fun v95=>
 M.bind (M.on (some (.func (.func 27) #[] #[])) fun f=>M.on (seqO [(some v91),(some v95)]) fun l=>AZ call round f l) fun v96=>
 mv (some v96) fun v90=>
 M.bind (oS (some v90) fun a=>kExt 0 a) fun v97=>
 M.bind (oS (some v90) fun a=>kExt 1 a) fun v98=>
 mv (some v97) fun v16=>
 mv (some v98) fun v17=>
 setF 17 v17 tm fun tm1=>
 M.pure tm1
theorem Lp_:RegEq 6 121 BQ HZ Z0:=⟨by kernel_rfl,fun _ _ _ _ _ _ _ _ _=>by kernel_rfl⟩
theorem At_:Ba FY=some 70:=by kernel_rfl
def BN_ (E:Env)(call round:Ab)(tm:T Value):M ((Rho×T Value)×List OpLog):=
 M.bind (apartO (oS (seqP []) fun ps=>Cf E 36 0 ps)) fun p0=>
 M.bind (apartO (oS (T.get tm 12) fun a=>M.pure a)) fun p1=>
 M.bind (apartO (oS (T.get tm 1) fun a=>M.pure a)) fun p2=>
 M.bind (apartO (M.on (some p1.1) fun a=>M.on (some none) fun b=>M.on (onO (some p2.1) fun v=>some (some v)) fun c=>BE E 36 a b c)) fun p3=>
 M.bind (apartO (oS (seqO [(some p0.1),(some p3.1)]) fun l=>AT E .append [36,36] l)) fun p4=>
 M.bind (apartO (oS (T.get tm 12) fun a=>M.pure a)) fun p5=>
 M.bind (apartO (oS (T.get tm 1) fun a=>M.pure a)) fun p6=>
 M.bind (apartO (oS (some p6.1) fun a=>oS (some (.int .i64 1)) fun b=>Cl.get (aBin E .add 3 (.tmp 105) (.const (.int .i64 1))) a b)) fun p7=>
 M.bind (apartO (M.on (some p5.1) fun a=>M.on (onO (some p7.1) fun v=>some (some v)) fun b=>M.on (some none) fun c=>BE E 36 a b c)) fun p8=>
 M.bind (apartO (oS (seqO [(some p4.1),(some p8.1)]) fun l=>AT E .append [36,36] l)) fun p9=>
 M.pure (([p9.1,p8.1,p7.1,p6.1,p5.1,p4.1,p3.1,p2.1,p1.1,p0.1],tm),[p9.2,p8.2,p7.2,p6.2,p5.2,p4.2,p3.2,p2.2,p1.2,p0.2])
theorem Fq_:DrawEq 6 121 BQ Iq [0,0,0,6,15,0,0,64,224,511,1023] BN_:=⟨by kernel_rfl,by kernel_rfl,fun _ _ _ _ _ _ _ _ _=>by kernel_rfl⟩
theorem Qn_ (E:Env)(call round:Ab)(x99 x100 x101 x102 x103 x104 x105 x106 x107 x108:Value)(tm:T Value)(s:St):BG call round (Cs E BQ 121 (hdC Iq)) [x108,x107,x106,x105,x104,x103,x102,x101,x100,x99] tm s=(M.bind (oS (some x108) fun a=>M.pure a) fun v18=>setT 18 v18 tm fun tm1=>M.pure tm1) s:=by kernel_rfl
def T9 (E:Env)(call round:Ab)(tm:T Value):M ((Rho×T Value)×List OpLog):=
 M.bind (apartO (oS (T.get tm 10) fun a=>M.pure a)) fun p0=>
 M.bind (apartO (oS (T.get tm 2) fun a=>M.pure a)) fun p1=>
 M.bind (apartO (oS (T.get tm 15) fun a=>M.pure a)) fun p2=>
 M.bind (apartO (oS (some p1.1) fun a=>oS (some p2.1) fun b=>Cl.get (aBin E .add 3 (.tmp 72) (.tmp 73)) a b)) fun p3=>
 M.bind (apartO (oS (some p3.1) fun a=>oS (some (.int .i64 8)) fun b=>Cl.get (aBin E .quo 3 (.tmp 74) (.const (.int .i64 8))) a b)) fun p4=>
 M.bind (apartO (oS (T.get tm 10) fun a=>M.pure a)) fun p5=>
 M.bind (apartO (oS (T.get tm 2) fun a=>M.pure a)) fun p6=>
 M.bind (apartO (oS (T.get tm 15) fun a=>M.pure a)) fun p7=>
 M.bind (apartO (oS (some p6.1) fun a=>oS (some p7.1) fun b=>Cl.get (aBin E .add 3 (.tmp 77) (.tmp 78)) a b)) fun p8=>
 M.bind (apartO (oS (some p8.1) fun a=>oS (some (.int .i64 8)) fun b=>Cl.get (aBin E .quo 3 (.tmp 79) (.const (.int .i64 8))) a b)) fun p9=>
 M.bind (apartO (oS (some p5.1) fun a=>oS (some p9.1) fun b=>BM E 22 a b)) fun p10=>
 M.bind (apartO (oS (some p10.1) fun a=>AQ E 5 a)) fun p11=>
 M.bind (apartO (oS (T.get tm 2) fun a=>M.pure a)) fun p12=>
 M.bind (apartO (oS (T.get tm 15) fun a=>M.pure a)) fun p13=>
 M.bind (apartO (oS (some p12.1) fun a=>oS (some p13.1) fun b=>Cl.get (aBin E .add 3 (.tmp 83) (.tmp 84)) a b)) fun p14=>
 M.bind (apartO (oS (some p14.1) fun a=>oS (some (.int .i64 8)) fun b=>Cl.get (aBin E .rem 3 (.tmp 85) (.const (.int .i64 8))) a b)) fun p15=>
 M.bind (apartO (oS (some (.int .u8 1)) fun a=>oS (some p15.1) fun b=>Cl.get (aBin E .shl 5 (.const (.int .u8 1)) (.tmp 86)) a b)) fun p16=>
 M.bind (apartO (oS (some p11.1) fun a=>oS (some p16.1) fun b=>Cl.get (aBin E .xor 5 (.tmp 82) (.tmp 87)) a b)) fun p17=>
 M.bind (apartO (oS (some p0.1) fun a=>oS (some p4.1) fun b=>BM E 22 a b)) fun p18=>
 M.pure (([p18.1,p17.1,p16.1,p15.1,p14.1,p13.1,p12.1,p11.1,p10.1,p9.1,p8.1,p7.1,p6.1,p5.1,p4.1,p3.1,p2.1,p1.1,p0.1],tm),[p18.2,p17.2,p16.2,p15.2,p14.2,p13.2,p12.2,p11.2,p10.2,p9.2,p8.2,p7.2,p6.2,p5.2,p4.2,p3.2,p2.2,p1.2,p0.2])
theorem ES_:DrawEq 6 121 BQ Iw [0,0,0,6,14,0,0,0,192,448,992,2016,0,0,12288,28672,61440,131040,262143,524287] T9:=⟨by kernel_rfl,by kernel_rfl,fun _ _ _ _ _ _ _ _ _=>by kernel_rfl⟩
theorem VF_ (E:Env)(call round:Ab)(x71 x72 x73 x74 x75 x76 x77 x78 x79 x80 x81 x82 x83 x84 x85 x86 x87 x88 x89:Value)(tm:T Value)(s:St):BG call round (Cs E BQ 121 (hdC Iw)) [x89,x88,x87,x86,x85,x84,x83,x82,x81,x80,x79,x78,x77,x76,x75,x74,x73,x72,x71] tm s=(M.bind (oS (some x89) fun a=>oS (some x88) fun b=>A5 E 5 a b) fun _=>M.pure tm) s:=by kernel_rfl
def WD (E:Env)(call round:Ab)(tm:T Value):M (T Value):=
 mv (T.get tm 15) fun v64=>
 M.bind (oS (some v64) fun a=>oS (some (.int .i64 1)) fun b=>Cl.get (aBin E .add 3 (.tmp 64) (.const (.int .i64 1))) a b) fun v65=>
 mv (some v65) fun v15=>
 setF 15 v15 tm fun tm1=>
 M.pure tm1
theorem KT_:RegEq 6 121 BQ F5 WD:=⟨by kernel_rfl,fun _ _ _ _ _ _ _ _ _=>by kernel_rfl⟩
def Ul (E:Env)(call round:Ab)(tm:T Value):M (T Value):=
 mv (T.get tm 9) fun v109=>
 mv (some v109) fun v110=>
 M.bind (M.chk (isK v110) (M.if (isB v110 true) (oS (T.get tm 17) fun a=>M.pure a) (M.pure undef))) fun v111=>
 M.bind (M.chk (isK v110) (M.if (isB v110 true) (oS (some v111) fun a=>oS (some (.int .i64 11)) fun b=>Cl.get (aBin E .eql 27 (.tmp 111) (.const (.int .i64 11))) a b) (M.pure undef))) fun v112=>
 M.bind (M.on (some v110) fun a=>M.on (some v112) fun b=>M.on (some (.bool false)) fun c=>BJ a b c) fun v113=>
 mv (some v113) fun v114=>
 M.bind (M.chk (isK v114) (M.if (isB v114 true) (oS (T.get tm 10) fun a=>M.pure a) (M.pure undef))) fun v115=>
 M.bind (M.chk (isK v114) (M.if (isB v114 true) (oS (T.get tm 10) fun a=>M.pure a) (M.pure undef))) fun v116=>
 M.bind (M.chk (isK v114) (M.if (isB v114 true) (oS (seqO [(some v116)]) fun l=>AT E .len [22] l) (M.pure undef))) fun v117=>
 M.bind (M.chk (isK v114) (M.if (isB v114 true) (oS (T.get tm 18) fun a=>M.pure a) (M.pure undef))) fun v118=>
 M.bind (M.chk (isK v114) (M.if (isB v114 true) (M.on (some (.func (.func 31) #[] #[])) fun f=>M.on (seqO [(some v115),(some v117),(some (.int .i64 1)),(some (.int .i64 0)),(some v118)]) fun l=>AZ call round f l) (M.pure undef))) fun v119=>
 M.bind (M.on (some v114) fun a=>M.on (some v119) fun b=>M.on (some (.bool false)) fun c=>BJ a b c) fun v120=>
 mv (some v120) fun v8=>
 setF 8 v8 tm fun tm1=>
 M.pure tm1
theorem Ps_:RegEq 6 121 BQ Mz Ul:=⟨by kernel_rfl,fun _ _ _ _ _ _ _ _ _=>by kernel_rfl⟩
theorem Ju_: ∃k,QS= .code .ret::k:=⟨QS.tail,by kernel_rfl⟩
theorem Zy:envS.orc.get 15=some (Gq (.bool true)):=by kernel_rfl
theorem CZ_:fldN envS 35 1=some (16,1,false):=by kernel_rfl
section
variable {parts:List (Value×List Nat)}{b o c:Nat}
end
section
variable {Q:Value×FrameMode→St→Prop}
theorem Fo_ {n i F0 nh:Nat}{B:List Nat}{hv:List Value}{tm:T Value}{td:List Item}{s:St}{vb vh:Value}{b1 b3:Nat}(hb:s.lim≤s.next)(hk:(F0+i)/8<B.length)(hlen:B.length≤25000)(hby:Byt B)
  (mb:MkS s 1 B.length (u8l B) vb b1) (mh:MkS s 18 nh hv vh b3) (d13: ∀x,MkF 1 B.length b1 x→ ¬MkF 18 nh b3 x)
  (h10:T.get tm 10=some vb) (h2:T.get tm 2=some (.int .i64 (F0:Nat))) (h15:T.get tm 15=some (.int .i64 (i:Nat))) (hT:skim 64 td=Iw) (hn:10≤n)
  (q: ∀(n1:Nat) (s1:St) (td1:List Item),n-1≤n1→skim 64 td1=F5→s1.lim≤s1.next→s1.cx=s.cx→MkS s1 1 (Cx B ((F0+i)/8) ((F0+i)%8)).length (u8l (Cx B ((F0+i)/8) ((F0+i)%8))) vb b1→MkS s1 18 nh hv vh b3→W (runF envS n1 ⟨6,E3,BQ,tm,td1, .run, .normal,none⟩) s1 Q):
  W (runF envS n ⟨6,E3,BQ,tm,td, .run, .normal,none⟩) s Q:=by
 obtain⟨cb,eb,ob⟩:=mb.get hk
 have eq:wrap64 ((F0:Nat)+(i:Nat):Int)=((F0+i:Nat):Int):=by
  rw[Bj (by omega) (by omega)];simp
 refine ES_.w hT (by omega) ?_
 simp -implicitDefEqProofs only[T9,h10,h2,h15,eb,Cm,Bd]
 rw[W_dq fun s Q=>BN (s:=s) ((F0:Nat):Int) ((i:Nat):Int),eq]
 dsimp only
 rw[W_dq fun s Q=>Ag_ (s:=s) (m:=F0+i) (by omega) Q]
 simp -implicitDefEqProofs only[Bd]
 rw[W_dq fun s Q=>BN (s:=s) ((F0:Nat):Int) ((i:Nat):Int),eq]
 dsimp only
 rw[W_dq fun s Q=>Ag_ (s:=s) (m:=F0+i) (by omega) Q]
 dsimp only
 rw[W_dq fun s Q=>Cr (s:=s) A2 hk Q]
 have oat:At (dSt s.mem s.next) b1 (0+((F0+i)/8)*1) (.int .u8 (B.getD ((F0+i)/8) 0:Nat)):=by
  rw[show 0+((F0+i)/8)*1=(F0+i)/8 by omega]
  exact(ob.same (s':=dSt s.mem s.next) rfl rfl).at'
 refine W.dload FF oat fun rd1 hr1=> ?_
 simp -implicitDefEqProofs only[Bd]
 rw[W_dq fun s Q=>BN (s:=s) ((F0:Nat):Int) ((i:Nat):Int),eq]
 dsimp only
 rw[W_dq fun s Q=>Hs_ (s:=s) Q]
 dsimp only
 rw[W_dq fun s Q=>Rt_ (s:=s) (k:=(F0+i)%8) (by omega) Q]
 have hx1:B.getD ((F0+i)/8) 0<2^8:=by
  rw[List.getD_eq_getElem?_getD,List.getElem?_eq_getElem hk]
  exact hby _ (List.getElem_mem hk)
 have hx2:2^((F0+i)%8)<2^8:=Nat.pow_lt_pow_right (by decide) (by omega)
 have hx3:B.getD ((F0+i)/8) 0^^^2^((F0+i)%8)<256:=Nat.xor_lt_two_pow hx1 hx2
 dsimp only
 rw[W_dq fun s Q=>MB_ (s:=s) hx3 Q]
 dsimp only
 rw[W_dq fun s Q=>Cr (s:=s) A2 hk Q]
 rw[Aa]
 refine⟨E1 (by simp) (by simp), ?_⟩
 refine W.cast (VF_ _ _ _ _ _ _ _ _ _ _ _ _ _ _ _ _ _ _ _ _ _ _ _ _) ?_
 simp -implicitDefEqProofs only[Ad,W_oS,Aa]
 generalize hs':(⟨(dSt s.mem s.next).mem,(dSt s.mem s.next).next,_,_,_,_⟩:St)=s'
 have m':s'.mem=s.mem:=by rw[←hs'];rfl
 have n':s'.next=s.next:=by rw[←hs'];rfl
 have l':s'.lim=s.lim:=by rw[←hs']
 have c':s'.cx=s.cx:=by rw[←hs']
 have hb':s'.lim≤s'.next:=by rw[l',n'];exact hb
 rw[show 0+((F0+i)/8)*1=(F0+i)/8 by omega]
 refine W.store1 FF rfl (ob.same m' n') fun s2 n2 x2 o2=> ?_
 have mb2:=(mb.same m' n').put hk n2 x2 o2
 have hin: ∀y,In b1 ((F0+i)/8) 1 y→MkF 1 B.length b1 y:=fun y hy=>by
  have h1:=In1.1 hy
  exact⟨by omega,by omega,by omega⟩
 have mh2:MkS s2 18 nh hv vh b3:=(mh.same m' n').ext x2 fun y hy hy'=>d13 y (hin y hy') hy
 exact q _ s2 _ (Nat.le_refl _) Xa_ (x2.bnd hb') (x2.cx.trans c') mb2 mh2
theorem HB_ {F0 nh m w:Nat}{l:List Nat}{hv:List Value}{vb vh:Value}{b1 b3:Nat}(hF:F0+32≤8*l.length)(hlen:l.length≤25000)(hby:Byt l)(d13: ∀x,MkF 1 l.length b1 x→ ¬MkF 18 nh b3 x):
  ∀(k i n:Nat) (tm:T Value) (s:St) (td:List Item),i+k=32→10*k+10≤n→skim 64 td=FZ→s.lim≤s.next→MkS s 1 l.length (u8l (BO l F0 m i)) vb b1→MkS s 18 nh hv vh b3→
  T.get tm 1=some (.int .i64 (w:Nat))→T.get tm 2=some (.int .i64 (F0:Nat))→T.get tm 3=some (.int .u32 (m:Nat))→T.get tm 9=some (.bool true)→T.get tm 10=some vb→T.get tm 12=some vh→T.get tm 15=some (.int .i64 (i:Nat))→
  (∀(n1:Nat) (tm1:T Value) (s1:St) (td1:List Item),n-(10*k+10)≤n1→skim 64 td1=HZ→s1.lim≤s1.next→s1.cx=s.cx→MkS s1 1 l.length (u8l (BO l F0 m 32)) vb b1→MkS s1 18 nh hv vh b3→T.get tm1 1=some (.int .i64 (w:Nat))→T.get tm1 9=some (.bool true)→T.get tm1 10=some vb→T.get tm1 12=some vh→W (runF envS n1 ⟨6,E3,BQ,tm1,td1, .run, .normal,none⟩) s1 Q)→
  W (runF envS n ⟨6,E3,BQ,tm,td, .run, .normal,none⟩) s Q:=by
 intro k
 induction k with
 |zero=>
  intro i n tm s td hi hn hT hb mb mh h1 h2 h3 h9 h10 h12 h15 q
  have hi32:i=32:=by omega
  subst hi32
  refine An_.w hT (by omega) ?_
  simp -implicitDefEqProofs only[Pt,Ad,W_oS,Aa,W_mv,Ac,BA,h15]
  refine W.cond (v:=false) TU Vg (by simp[T.get_set]) (by omega) (fun h=>by cases h) fun _=> ?_
  exact q _ _ _ _ (by omega) LH_ hb rfl mb mh (by simp[T.get_set,h1]) (by simp[T.get_set,h9]) (by simp[T.get_set,h10]) (by simp[T.get_set,h12])
 |succ k ih=>
  intro i n tm s td hi hn hT hb mb mh h1 h2 h3 h9 h10 h12 h15 q
  refine An_.w hT (by omega) ?_
  simp -implicitDefEqProofs only[Pt,Ad,W_oS,Aa,W_mv,Ac,BA,h15]
  refine W.cond (v:=true) TU Vg (by simp[T.get_set];omega) (by omega) (fun _=> ?_) fun h=>by cases h
  refine Vm_.w Gf_ (by omega) ?_
  simp -implicitDefEqProofs only[ZQ,Ad,W_oS,Aa,W_mv,Ac,T.get_set,reduceIte,Nat.reduceEqDiff, ↓reduceIte,h3,h15]
  rw[IF (show i≤btOf .u32 by rw[Pm_];omega)]
  try simp -implicitDefEqProofs only[Ad,W_oS,W_on,Aa,W_mv,Ac,A4,T.get_set,Al,Ak,Bg,A7,Aj,AS,reduceIte,AV,Bx,Bi,BC,Bc,A0,A6,Bm,AU,Bl,Nat.reduceEqDiff,reduceCtorEq, ↓reduceIte]
  rw[NM_]
  try simp -implicitDefEqProofs only[Ad,W_oS,W_on,Aa,W_mv,Ac,A4,T.get_set,Al,Ak,Bg,A7,Aj,AS,reduceIte,AV,Bx,Bi,BC,Bc,A0,A6,Bm,AU,Bl,Nat.reduceEqDiff,reduceCtorEq, ↓reduceIte]
  rw[XL_]
  try simp -implicitDefEqProofs only[Ad,W_oS,W_on,Aa,W_mv,Ac,A4,T.get_set,Al,Ak,Bg,A7,Aj,AS,reduceIte,AV,Bx,Bi,BC,Bc,A0,A6,Bm,AU,Bl,Nat.reduceEqDiff,reduceCtorEq, ↓reduceIte]
  have step: ∀(n1:Nat) (tm1:T Value) (s1:St) (td1:List Item),10*k+15≤n1→n≤n1+5→skim 64 td1=F5→s1.lim≤s1.next→s1.cx=s.cx→MkS s1 1 l.length (u8l (BO l F0 m (i+1))) vb b1→MkS s1 18 nh hv vh b3→
    T.get tm1 1=some (.int .i64 (w:Nat))→T.get tm1 2=some (.int .i64 (F0:Nat))→T.get tm1 3=some (.int .u32 (m:Nat))→T.get tm1 9=some (.bool true)→T.get tm1 10=some vb→T.get tm1 12=some vh→T.get tm1 15=some (.int .i64 (i:Nat))→W (runF envS n1 ⟨6,E3,BQ,tm1,td1, .run, .normal,none⟩) s1 Q:=by
   intro n1 tm1 s1 td1 hn1 hn2 hT1 hb1 hc1 mb1 mh1 g1 g2 g3 g9 g10 g12 g15
   refine KT_.w hT1 (by omega) ?_
   have ei:wrap64 ((i:Nat)+1:Int)=((i+1:Nat):Int):=by
    rw[Bj (by omega) (by omega)];simp
   simp -implicitDefEqProofs only[WD,Ad,W_oS,Aa,W_mv,Ac,BN,g15,ei]
   refine ih (i+1) _ _ _ _ (by omega) (by omega) Qv_ hb1 mb1 mh1 (by simp[T.get_set,g1]) (by simp[T.get_set,g2]) (by simp[T.get_set,g3]) (by simp[T.get_set,g9]) (by simp[T.get_set,g10]) (by simp[T.get_set,g12]) (by simp[T.get_set]) fun n2 tm2 s2 td2 a1 a2 a3 a4=> ?_
   exact q n2 tm2 s2 td2 (by omega) a2 a3 (a4.trans hc1)
  have hsh:m>>>i%2=m/2^i%2:=by rw[Nat.shiftRight_eq_div_pow]
  rw[hsh]
  by_cases hm:m/2^i%2=1
  ·have eB:BO l F0 m (i+1)=Cx (BO l F0 m i) ((F0+i)/8) ((F0+i)%8):=by
    show(if m/2^i%2=1 then _ else _)=_
    rw[if_pos hm]
   refine W.cond (v:=true) Xg At_ (by simp[T.get_set,hm]) (by omega) (fun _=> ?_) fun h=>by cases h
   have hBl:(BO l F0 m i).length=l.length:=ES _ _ _ _
   refine Fo_ (i:=i) (F0:=F0) (B:=BO l F0 m i) hb (by rw[hBl];omega) (by rw[hBl];exact hlen) (Gw hby _ _ _) (by rw[hBl];exact mb) mh (by rw[hBl];exact d13) (by simp[T.get_set,h10]) (by simp[T.get_set,h2]) (by simp[T.get_set,h15]) MH_ (by omega) fun n1 s1 td1 a1 a2 a3 a4 a5 a6=> ?_
   refine step n1 _ s1 td1 (by omega) (by omega) a2 a3 a4 ?_ a6 (by simp[T.get_set,h1]) (by simp[T.get_set,h2]) (by simp[T.get_set,h3]) (by simp[T.get_set,h9]) (by simp[T.get_set,h10]) (by simp[T.get_set,h12]) (by simp[T.get_set,h15])
   rw[eB]
   rw[VV_,hBl]at a5
   exact a5
  ·have eB:BO l F0 m (i+1)=BO l F0 m i:=by
    show(if m/2^i%2=1 then _ else _)=_
    rw[if_neg hm]
   refine W.cond (v:=false) Xg At_ (by simp[T.get_set,hm]) (by omega) (fun h=>by cases h) fun _=> ?_
   exact step _ _ s _ (by omega) (by omega) Ie_ hb rfl (by rw[eB];exact mb) mh (by simp[T.get_set,h1]) (by simp[T.get_set,h2]) (by simp[T.get_set,h3]) (by simp[T.get_set,h9]) (by simp[T.get_set,h10]) (by simp[T.get_set,h12]) (by simp[T.get_set,h15])
end
theorem PQ: ∀l:List Hd,(A3 l).all oneCell=true
 |[]=>rfl
 |h::l=>by
  show(AP h++A3 l).all oneCell=true
  rw[List.all_append,IG,PQ l]
  rfl
theorem Row.at_drop {s:St}{b o k:Nat}{l m:List Value}(h:Row s b o (l++m))(hk:l.length=k):Row s b (o+k) m:=fun i v e=>by
 have:=h (k+i) v (by rw[List.getElem?_append_right (by omega),←hk,Nat.add_sub_cancel_left];exact e)
 rwa [show o+(k+i)=o+k+i by omega]at this
section
variable {l:List Nat}
theorem UI_ {n w nh:Nat}{hs:List Hd}{tm:T Value}{td:List Item}{s s0:St}{vb vh:Value}{b1 b3:Nat}(hb:s.lim≤s.next)(hcx:s.cx=cxN)(hw:w<hs.length)(hnh:nh=hs.length)(hle:hs.length≤20)(h16: ∀h∈hs,h.1.length=16)(hby:Byt l)(hlen:l.length≤25000)(hst:hs[w].2.1≤100000)
  (hmiss:CM l hs[w]=false) (hhit:hitB l hs[w]=false) (hscan:FM l=(hs.take w++hs.drop (w+1),1,l.length,0))
  (mb:MkS s 1 l.length (u8l l) vb b1) (mh:MkS s 18 nh (A3 hs) vh b3)
  (h9:T.get tm 9=some (.bool true)) (h10:T.get tm 10=some vb) (h12:T.get tm 12=some vh) (h1:T.get tm 1=some (.int .i64 (w:Nat))) (hT:skim 64 td=HZ) (hn:2000000≤n):
  W (runF envS n ⟨6,E3,BQ,tm,td, .run, .normal,none⟩) s fun p s1=>(fun(u:Value) (_:St)=>u= .bool true) p.1 (s1.cxN s0.cx):=by
 obtain⟨cv,ev,hcap,hrow,hpre⟩:=mh.hat hnh h16 hw
 subst ev
 obtain⟨hc1,hc2⟩:=hcap (by unfold capU;omega)
 have hbs:Bs s vb l:=mb.bs (by unfold capU;omega)
 have hlt: ∀x,BsF vb x→x<s.next:=fun x hx=>mb.lt x (mb.bsF x hx)
 refine Lp_.w hT (by omega) ?_
 simp -implicitDefEqProofs only[Z0,Ad,W_oS,W_on,Aa,W_mv,Ac,Al,Ak,Aj,AS,h10,h12,h1,Cr DR (show w<nh by omega)]
 refine W.loadA NQ hrow (Dk (h16 _ (List.getElem_mem hw))) fun sa ma na xa=> ?_
 have hba:sa.lim≤sa.next:=xa.bnd hb
 refine Eh_ hba (hbs.same ma na) hby (by omega) (by omega) (h16 _ (List.getElem_mem hw)) (by omega) (fun _ h=>by rw[hhit]at h;cases h) (fun _ _ sb xb=> ?_) (fun h=>by rw[hmiss]at h;cases h)
 rw[Be (k:=0) rfl,Be (k:=1) rfl]
 have hbb:sb.lim≤sb.next:=xb.bnd hba
 have hna:sa.next=s.next:=na
 have hfull:Row s b3 0 (A3 hs):=by
  have:=hpre hs.length (Nat.le_refl _)
  rwa [List.take_length]at this
 have r1:Row sb b3 0 (A3 (hs.take w)):=fun j u e=>((hpre w (by omega) j u e).same ma na).ext0 xb
 have htl:(A3 (hs.take w)).length=w*18:=by
  rw[Hc fun h hh=>h16 h (List.mem_of_mem_take hh),List.length_take]
  congr 1
  omega
 have hdl:(A3 (hs.drop (w+1))).length=(nh-(w+1))*18:=by
  rw[Hc fun h hh=>h16 h (List.mem_of_mem_drop hh),List.length_drop,hnh]
 have r2:Row sb b3 (0+(w+1)*18) (A3 (hs.drop (w+1))):=by
  have e:A3 hs=A3 (hs.take (w+1))++A3 (hs.drop (w+1)):=by rw[←NS,List.take_append_drop]
  have hf2:Row sb b3 0 (A3 hs):=fun j u e=>((hfull j u e).same ma na).ext0 xb
  rw[e]at hf2
  refine hf2.at_drop ?_
  rw[Hc fun h hh=>h16 h (List.mem_of_mem_take hh),List.length_take]
  congr 1
  omega
 have hb3: ∀j,j<hs.length*18→b3+j<sb.next:=fun j hj=>by
  have hj':j<(A3 hs).length:=by rw[Hc h16];exact hj
  have:=(hfull j _ (List.getElem?_eq_getElem hj')).1
  have:=xb.nxt
  omega
 refine Fq_.w Tv_ (by omega) ?_
 have ei:wrap64 ((w:Nat)+1:Int)=((w+1:Nat):Int):=by
  rw[Bj (by omega) (by omega)];simp
 simp -implicitDefEqProofs only[BN_,T.get_set,Nat.reduceEqDiff, ↓reduceIte,h12,h1,Cm,DX,Al,Ak,A7,Aj]
 refine W.dop (W.buildS (s:=oSt sb.mem sb.next) (Nat.le_refl _) (r:=[]) OF (by decide) rfl (BD (by decide)) fun sc nc xc _=>⟨Non,xc,fun rdc hrc=> ?_⟩)
 have nc':sc.next=sb.next+1:=nc
 have hrdc:rdc=[]:=by
  cases rdc with
  |nil=>rfl
  |cons y _=>exact(hrc y (by simp)).2.elim
 subst hrdc
 simp -implicitDefEqProofs only[Bd]
 rw[W_dq fun s Q=>Mr (s:=s) DR (l:=0) (h:=w) rfl rfl (Nat.zero_le _) (by omega) hc2 Q]
 have o0:(if 0<cv%capU then 0+0*18 else 0)=0:=by split<;>rfl
 dsimp only
 rw[o0]
 have r1c:Row (oSt sc.mem sc.next) b3 0 (A3 (hs.take w)):=fun j u e=>(((r1 j u e).same (s':=oSt sb.mem sb.next) rfl rfl).ext0 xc).same rfl rfl
 refine W.dopG ?_
 rw[DN]
 refine W.appE (s:=oSt sc.mem sc.next) (Nat.le_refl _) Jk (len:=0) (old:=[]) (b:=sb.next) (.inl ⟨rfl,rfl,rfl⟩) (FW (n:=w-0) r1c (by rw[htl];rfl)).g (by decide) (by decide) (by omega) (by rw[htl];rfl) (PQ _) fun sd v4 b4 hb4 e4 xd=>⟨_,_,xd,fun rdd wrd hrd hwd=> ?_⟩
 have nd':sc.next≤sd.next:=xd.nxt
 have hwrd:wrd=[]:=by
  cases wrd with
  |nil=>rfl
  |cons y _=>exact absurd (hwd y (by simp)).2.1 (by omega)
 subst hwrd
 simp -implicitDefEqProofs only[Bd]
 rw[W_dq fun s Q=>BN (s:=s) ((w:Nat):Int) 1,ei]
 dsimp only
 rw[W_dq fun s Q=>Mr (s:=s) DR (l:=w+1) (h:=nh) rfl rfl (by omega) (by omega) hc2 Q]
 dsimp only
 generalize ho8:(if w+1<cv%capU then 0+(w+1)*18 else 0)=o8
 have r2d:Row (oSt sd.mem sd.next) b3 o8 (A3 (hs.drop (w+1))):=by
  by_cases hq:w+1<cv%capU
  ·rw[if_pos hq]at ho8
   subst ho8
   exact fun j u e=>(((((r2 j u e).same (s':=oSt sb.mem sb.next) rfl rfl).ext0 xc).same (s':=oSt sc.mem sc.next) rfl rfl).ext xd fun h=>absurd h.1 (by omega)).same rfl rfl
  ·have:hs.drop (w+1)=[]:=List.drop_of_length_le (by omega)
   rw[this]
   exact fun j u e=>by simp[A3]at e
 refine W.dopG ?_
 rw[DN]
 refine W.appE (s:=oSt sd.mem sd.next) (Nat.le_refl _) Jk (e4.same rfl rfl) (FW (n:=nh-(w+1)) r2d hdl).g (by decide) (by decide) (by omega) hdl (PQ _) fun se v9 b9 hb9 e9 xe=>⟨_,_,xe,fun rde wre hre hwe=> ?_⟩
 have ne':sd.next≤se.next:=xe.nxt
 have hb4':sb.next≤b4:=by
  rcases hb4 with h|h
  ·omega
  ·have h2:sc.next≤b4:=h
   omega
 rw[Aa]
 refine⟨Hj ?_, ?_⟩
 ·simp -implicitDefEqProofs only[List.reverse_cons,List.reverse_nil,List.nil_append,List.cons_append,allP,DO,List.take,E7]
  have lts: ∀x,sb.next≤x→ ¬x<sb.next:=fun x h=>by omega
  simp+contextual [lts]
  repeat' first
   |exact .inl rfl
   |apply And.intro
 ·refine W.cast (Qn_ _ _ _ _ _ _ _ _ _ _ _ _ _ _ _) ?_
  simp -implicitDefEqProofs only[Ad,W_oS,Aa,A4]
  generalize hs':(⟨(dSt se.mem se.next).mem,(dSt se.mem se.next).next,sb.lim,_,_,sb.cx⟩:St)=s7
  have m7:s7.mem=se.mem:=by rw[←hs'];rfl
  have n7:s7.next=se.next:=by rw[←hs'];rfl
  have l7:s7.lim=sb.lim:=by rw[←hs']
  have c7:s7.cx=sb.cx:=by rw[←hs']
  have x7:Ext (fun _=>True) Non sb s7:=by
   rw[←hs']
   refine Ext.drawG (by show sb.next≤se.next;omega) (fun x hx _=> ?_) ?_ ?_
   ·exact((xe.mem x (by show x<sd.next;omega) fun h=>by have h2:=h.2.1;omega).trans (xd.mem x (by show x<sc.next;omega) fun h=>absurd h.1 (by omega))).trans (xc.mem x hx id)
   ·simp -implicitDefEqProofs only[List.mem_cons,List.not_mem_nil,or_false]
    rintro m (rfl|rfl|rfl|rfl|rfl|rfl|rfl|rfl|rfl|rfl) x hx hl<;>first|(cases hx;done)|(have h2:=(hwe x hx).2.2.1;omega)
   ·exact fun _ _ _ _ _=>trivial
  have hb7:s7.lim≤s7.next:=x7.bnd hbb
  have e9':EmS s7 18 (0+(w-0)+(nh-(w+1))) (([]++A3 (hs.take w))++A3 (hs.drop (w+1))) v9 b9:=e9.same m7 n7
  rw[List.nil_append,←NS]at e9'
  obtain⟨c9,ev9,r9⟩:=e9'.row
  have hsl:(hs.take w++hs.drop (w+1)).length=0+(w-0)+(nh-(w+1)):=by
   rw[List.length_append,List.length_take,List.length_drop]
   omega
  have hwr:HsR s7 v9 (hs.take w++hs.drop (w+1)):= .inr ⟨b9,0,c9,by rw[hsl];exact ev9,r9⟩
  have mb7:MkS s7 1 l.length (u8l l) vb b1:=((mb.same ma na).ext0 xb).ext0 x7
  have hbs7:Bs s7 vb l:=((hbs.same ma na).ext0 xb).ext0 x7
  refine Ps_.w Jb_ (by omega) ?_
  simp -implicitDefEqProofs only[Ul,Ad,W_oS,W_on,Aa,W_mv,Ac,T.get_set,Al,Ak,Aj,AS,reduceIte,AV,Bx,A0,A6,AU,Nat.reduceEqDiff, ↓reduceIte,EO,h9,h10,decide_true]
  rw[mb7.len A2]
  try simp -implicitDefEqProofs only[Ad,W_oS,W_on,Aa,W_mv,Ac,A4,T.get_set,Al,Ak,Bg,A7,Aj,AS,reduceIte,AV,Bx,Bi,BC,Bc,A0,A6,Bm,AU,Bl,Nat.reduceEqDiff,reduceCtorEq, ↓reduceIte]
  refine NJ_ (l:=l) (hs:=hs.take w++hs.drop (w+1)) (size:=l.length) (bad:=1) (rest:=0) hb7 hbs7 (fun x hx=>by have:=hlt x hx;have:=xb.nxt;have:=x7.nxt;omega) hby (by omega) hwr (fun h hh=>by
   rcases List.mem_append.1 hh with hh|hh
   ·exact h16 h (List.mem_of_mem_take hh)
   ·exact h16 h (List.mem_of_mem_drop hh)) (by rw[hsl];omega) hscan (by rw[hsl];omega) fun s8 x8=> ?_
  try simp -implicitDefEqProofs only[Ad,W_oS,W_on,Aa,W_mv,Ac,A4,T.get_set,Al,Ak,Bg,A7,Aj,AS,reduceIte,AV,Bx,Bi,BC,Bc,A0,A6,Bm,AU,Bl,Nat.reduceEqDiff,reduceCtorEq, ↓reduceIte]
  exact W.end' (rs:=[8]) (vs:=[.bool true]) FL_ (.inl Ju_) (by omega) MT Qy ((x8.cx.trans (x7.cx.trans (xb.cx.trans xa.cx))).trans hcx) (by simp[T.get_set]) rfl
end
theorem QI_:fldN envS 35 2=some (17,1,false):=by kernel_rfl
theorem XT: ∀{l:List (List Nat)},(∀x∈l,Byt x)→Byt (Av l)
 |[],_=>fun x hx=>by cases hx
 |b::l,h=>fun y hy=>by
  rcases List.mem_append.1 hy with hy|hy
  ·exact VZ (h b (by simp)) y hy
  ·exact XT (l:=l) (fun z hz=>h z (by simp[hz])) y hy
section
variable {parts:List (Value×List Nat)}{b o c:Nat}
theorem Xf_ {n w m:Nat}{x:Int}{tm:T Value}{td:List Item}{s s0 s00:St}{vb ve vh:Value}{b1 b2 b3:Nat}(hb:s.lim≤s.next)(hcx:s.cx=cxN)(hw:w<parts.length)(hm:m<4294967296)(hm0:m≠0)(hby: ∀p∈parts,Byt p.2)(R:AlR s00 parts s vb ve vh b1 b2 b3)
  (h9:T.get tm 9=some (.bool true)) (h10:T.get tm 10=some vb) (h12:T.get tm 12=some vh) (h1:T.get tm 1=some (.int .i64 (w:Nat))) (h2:T.get tm 2=some (.int .i64 x)) (h3:T.get tm 3=some (.int .u32 (m:Nat))) (hT:skim 64 td=Il) (hn:2001000≤n):
  W (runF envS n ⟨6,E3,BQ,tm,td, .run, .normal,none⟩) s fun p s1=>(fun(u:Value) (_:St)=>u= .bool true) p.1 (s1.cxN s0.cx):=by
 have hle:=R.le
 have mb:=R.mb
 have mh:=R.mh
 have d13:=R.d13
 obtain⟨L,hL⟩: ∃L,parts.map (·.2)=L:=⟨_,rfl⟩
 rw[hL]at mb mh d13
 have hLl:L.length=parts.length:=by rw[←hL,List.length_map]
 have hwL:w<L.length:=by omega
 have hfit:Fit L:=fun y hy=>by
  rw[←hL]at hy
  obtain⟨p,hp,rfl⟩:=List.mem_map.1 hy
  exact R.sm p hp
 have hbyP: ∀y∈L,Byt y:=fun y hy=>by
  rw[←hL]at hy
  obtain⟨p,hp,rfl⟩:=List.mem_map.1 hy
  exact hby p hp
 have hbyL:=XT hbyP
 have hHl:(Bh 0 L).length=parts.length:=by rw[Jp,hLl]
 have hwH:w<(Bh 0 L).length:=by omega
 have hat:=QS_ hwL
 rw[List.getElem?_eq_getElem hwH]at hat
 have hat':(Bh 0 L)[w]=(idB L[w],(Av (L.take w)).length,L[w].length):=by injection hat
 obtain⟨cv,ev,hcap,hrow,hpre⟩:=mh.hat hHl.symm (R9 _ 0) hwH
 rw[hat']at hrow
 have hlenL:(Av L).length≤25000:=by
  have h:=Qd fun y hy=>(hfit y hy).2
  have h2:L.length*1050≤20*1050:=Nat.mul_le_mul_right _ (by omega)
  omega
 have hlen1:(Av (L.take w)).length+26+L[w].length≤(Av L).length:=by
  rw[BM_ hwL,List.length_append,List.length_append,DH]
  omega
 obtain⟨hn1,hn2⟩:=hfit L[w] (List.getElem_mem hwL)
 obtain⟨A,hA⟩: ∃A,(Av (L.take w)).length=A:=⟨_,rfl⟩
 obtain⟨N,hN⟩: ∃N,L[w].length=N:=⟨_,rfl⟩
 rw[hA,hN]at hrow hlen1
 rw[hN]at hn1 hn2
 have hr16:=hrow 16 _ (EK (B3 L[w])).1
 have hr17:=hrow 17 _ (EK (B3 L[w])).2
 refine Pi_.w hT (by omega) ?_
 simp -implicitDefEqProofs only[Yt,Ad,W_oS,Aa,W_mv,Ac,h12,ev,h1,Cr DR (show w<parts.length from hw),B1 CZ_ (by decide)]
 refine W.load1 B9 hr16 ?_
 have e6:wrap64 ((A:Nat)+6:Int)=((A+6:Nat):Int):=by
  rw[Bj (by omega) (by omega)];simp
 simp -implicitDefEqProofs only[BN,e6]
 rw[Rn (by omega)]
 try simp -implicitDefEqProofs only[Ad,W_oS,W_on,Aa,W_mv,Ac,A4,T.get_set,Al,Ak,Bg,A7,Aj,AS,reduceIte,AV,Bx,Bi,BC,Bc,A0,A6,Bm,AU,Bl,Nat.reduceEqDiff,reduceCtorEq, ↓reduceIte]
 refine KS_.w Uj_ (by omega) ?_
 simp -implicitDefEqProofs only[Bp_,Ad,W_oS,W_on,Aa,W_mv,Ac,T.get_set,Al,Ak,Aj,AS,reduceIte,Nat.reduceEqDiff, ↓reduceIte,h12,ev,h1,h2,Cr DR (show w<parts.length from hw),B1 QI_ (by decide)]
 refine W.load1 B9 (hr17.same rfl rfl) ?_
 have e20:wrap64 ((N:Nat)+20:Int)=((N+20:Nat):Int):=by
  rw[Bj (by omega) (by omega)];simp
 simp -implicitDefEqProofs only[BN,e20]
 rw[Rn (by omega)]
 have e31:wrap64 ((8*(N+20):Nat)-31:Int)=((8*(N+20)-31:Nat):Int):=by
  rw[Bj (by omega) (by omega)];omega
 simp -implicitDefEqProofs only[DQ,e31]
 refine Zn (m:=8*(N+20)-31) (by omega) (by omega) (by omega) fun p hp=> ?_
 have ep:wrap64 ((8*(A+6):Nat)+(p:Nat):Int)=((8*(A+6)+p:Nat):Int):=by
  rw[Bj (by omega) (by omega)];simp
 simp -implicitDefEqProofs only[BN,ep]
 refine WM_.w UX_ (by omega) ?_
 simp -implicitDefEqProofs only[YE,Aa,W_mv,Ac]
 generalize hs':((s.rdN (b3+(0+w*18+16))).rdN (b3+(0+w*18+17)))=s'
 have m':s'.mem=s.mem:=by rw[←hs'];rfl
 have n':s'.next=s.next:=by rw[←hs'];rfl
 have l':s'.lim=s.lim:=by rw[←hs'];rfl
 have c':s'.cx=s.cx:=by rw[←hs'];rfl
 subst ev
 refine HB_ (F0:=8*(A+6)+p) (nh:=parts.length) (m:=m) (w:=w) (l:=Av L) (hv:=A3 (Bh 0 L)) (vb:=vb) (b1:=b1) (b3:=b3) (by omega) hlenL hbyL d13 32 0 _ _ s' _ rfl (by omega) DE_ (by rw[l',n'];exact hb) (mb.same m' n') (mh.same m' n') (by simp[T.get_set,h1]) (by simp[T.get_set]) (by simp[T.get_set,h3]) (by simp[T.get_set,h9]) (by simp[T.get_set,h10]) (by simp[T.get_set,h12]) (by simp[T.get_set]) fun n1 tm1 s1 td1 hn1' hT1 hb1 hc1 mb1 mh1 g1 g9 g10 g12=> ?_
 have hpl:=PW_ (p:=p) (m:=m) hwL hfit hbyP hm hm0 (by omega)
 rw[hA,hN]at hpl
 obtain⟨p1,p2,p3⟩:=hpl
 generalize hB:BO (Av L) (8*(A+6)+p) m 32=B at *
 have hBl:B.length=(Av L).length:=by rw[←hB,ES]
 have hBy:Byt B:=by rw[←hB];exact Gw hbyL _ _ _
 exact UI_ (s0:=s0) (l:=B) (hs:=Bh 0 L) (w:=w) (nh:=parts.length) (vb:=vb) (b1:=b1) (b3:=b3) hb1 (hc1.trans (c'.trans hcx)) hwH hHl.symm (by omega) (R9 L 0) hBy (by omega) (by rw[hat',hA];show A≤100000;omega) (by rw[hat',hA,hN];exact p1) (by rw[hat',hA,hN];exact p2) (by rw[p3,hBl]) (by rw[hBl];exact mb1) mh1 g9 g10 g12 g1 hT1 (by omega)
theorem Dv_ {n m:Nat}{x y:Int}{s:St}(hbd:s.lim≤s.next)(hp:Parts s b o parts)(hlt: ∀p∈parts,∀x,BsF p.1 x→x<s.next)(hby: ∀p∈parts,Byt p.2)(hm:m<4294967296)(hn:2100000≤n):W (Au envS (runF envS n) 6 [.slice (some ⟨b,o,none⟩) parts.length c, .int .i64 x, .int .i64 y, .int .u32 (m:Nat)]) s fun u _=>u= .bool true:=by
 refine BL_ fun tm h0 h1 h2 h3=> ?_
 have hp0:Parts (s.cxN cxN) b o parts:=hp.same rfl rfl
 refine BQ_.w rfl (by omega) ?_
 simp -implicitDefEqProofs only[R6,Aa,W_mv,Ac]
 refine X0.w Yv (by omega) ?_
 simp -implicitDefEqProofs only[P1,Ad,W_on,Aa,W_mv,Ac,Ak,AS]
 refine W.orc Zy (W.pure ?_)
 refine Vv.w Vq (by omega) ?_
 simp -implicitDefEqProofs only[RR,Ad,W_oS,W_on,Aa,W_mv,Ac,T.get_set,Al,Ak,Aj,AS,reduceIte,reduceCtorEq, ↓reduceIte,h0]
 have back: ∀(s1:St) (n1:Nat) (tm1:T Value) (td:List Item),s1.cx=cxN→10≤n1→skim 64 td=IZ→T.get tm1 9=some (.bool true)→W (runF envS n1 ⟨6,E3,BQ,tm1,td, .run, .normal,none⟩) s1 fun p s1=>(fun(u:Value) (_:St)=>u= .bool true) p.1 (s1.cxN s.cx):=fun s1 n1 tm1 td hcx hn1 hT g9=>by
  refine T0.w hT (by omega) ?_
  simp -implicitDefEqProofs only[Sg,Aa,W_mv,Ac,g9]
  exact W.end' (rs:=[8]) (vs:=[.bool true]) Xq (.inl Wl) (by omega) MT Qy hcx (by simp[T.get_set]) rfl
 refine Um_ (s:=s.cxN cxN) hbd hp0 hlt hby (by omega) (fun s1 x1=> ?_) fun s1 vb ve vh b1 b2 b3 x1 R=> ?_
 ·rw[Be (k:=0) rfl,Be (k:=1) rfl,Be (k:=2) rfl,Be (k:=3) rfl]
  refine Pj.w RY (by omega) ?_
  simp -implicitDefEqProofs only[Lc,Ad,W_oS,W_on,Aa,W_mv,Ac,T.get_set,Al,Ak,Aj,reduceIte,AV,Bi,A0,Bm,AU,Nat.reduceEqDiff,reduceCtorEq, ↓reduceIte,DE,Bool.not_false]
  refine W.cond (v:=true) Jt JK (by simp[T.get_set]) (by omega) (fun _=> ?_) fun h=>by cases h
  exact back s1 _ _ _ x1.cx (by omega) Nj (by simp[T.get_set])
 ·rw[Be (k:=0) rfl,Be (k:=1) rfl,Be (k:=2) rfl,Be (k:=3) rfl]
  refine Pj.w RY (by omega) ?_
  simp -implicitDefEqProofs only[Lc,Ad,W_oS,W_on,Aa,W_mv,Ac,T.get_set,Al,Ak,Aj,reduceIte,AV,Bc,A0,A6,AU,Nat.reduceEqDiff,reduceCtorEq, ↓reduceIte,EO,DE,Bool.not_true,h0,h3,BX Ci]
  by_cases hz:parts.length=0
  ·have ez:(decide (((parts.length:Nat):Int)=0))=true:=decide_eq_true (by omega)
   simp -implicitDefEqProofs only[ez,Aa,reduceIte,Bi,Bm, ↓reduceIte]
   refine W.cond (v:=true) Jt JK (by simp[T.get_set]) (by omega) (fun _=> ?_) fun h=>by cases h
   exact back s1 _ _ _ x1.cx (by omega) Nj (by simp[T.get_set])
  ·have ez:(decide (((parts.length:Nat):Int)=0))=false:=decide_eq_false (by omega)
   simp -implicitDefEqProofs only[ez,W_oS,Aa,reduceIte,Bc,A6,reduceCtorEq, ↓reduceIte]
   rw[LF_]
   try simp -implicitDefEqProofs only[Ad,W_oS,W_on,Aa,W_mv,Ac,A4,T.get_set,Al,Ak,Bg,A7,Aj,AS,reduceIte,AV,Bx,Bi,BC,Bc,A0,A6,Bm,AU,Bl,Nat.reduceEqDiff,reduceCtorEq, ↓reduceIte]
   by_cases hm0:m=0
   ·refine W.cond (v:=true) Jt JK (by simp[T.get_set,hm0]) (by omega) (fun _=> ?_) fun h=>by cases h
    exact back s1 _ _ _ x1.cx (by omega) Nj (by simp[T.get_set])
   ·refine W.cond (v:=false) Jt JK (by simp[T.get_set,hm0]) (by omega) (fun h=>by cases h) fun _=> ?_
    refine DR_.w Go_ (by omega) ?_
    simp -implicitDefEqProofs only[TC,Ad,W_oS,W_on,Aa,W_mv,Ac,T.get_set,Al,Ak,Aj,AS,reduceIte,Nat.reduceEqDiff,reduceCtorEq, ↓reduceIte,h0,h1,BX Ci]
    have hle:=R.le
    refine Zn (m:=parts.length) (by omega) (by omega) (by omega) fun w hw=> ?_
    try simp -implicitDefEqProofs only[Ad,W_oS,W_on,Aa,W_mv,Ac,A4,T.get_set,Al,Ak,Bg,A7,Aj,AS,reduceIte,AV,Bx,Bi,BC,Bc,A0,A6,Bm,AU,Bl,Nat.reduceEqDiff,reduceCtorEq, ↓reduceIte]
    exact Xf_ (x:=y) (m:=m) (s0:=s) (x1.bnd hbd) x1.cx hw hm hm0 hby R (by simp[T.get_set]) (by simp[T.get_set]) (by simp[T.get_set]) (by simp[T.get_set]) (by simp[T.get_set,h2]) (by simp[T.get_set,h3]) UF_ (by omega)
end
section
variable {parts:List (Value×List Nat)}{b o c:Nat}
end
section
variable {parts:List (Value×List Nat)}{b o c:Nat}
end
end Go.Proofs.Ytofanlcjeohcjaa.Am
end
