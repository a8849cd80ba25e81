import Derived.Test.YtofanlcjeohcjaaIFn14
import Derived.Test.YtofanlcjeohcjaaIFn07
import Derived.KernelRfl
import Derived.Test.YtofanlcjeohcjaaIFn19
noncomputable section
namespace Go.Proofs.Ytofanlcjeohcjaa.Am
open Go.RowKit
def B6:Nat:=BU Try.f11
abbrev Iy:Nat:=79
def Vk:Code:=Try.f11.body.getD .skip
theorem M6:envS.fn.get 11=some Try.f11:=by kernel_rfl
theorem CM_ {a0 a1:Value}{n:Nat}{s:St}{Q:Value→St→Prop}(h: ∀tm,T.get tm 0=some a0→T.get tm 1=some a1→W (runF envS n ⟨11,79,B6,tm,[.code Vk], .run, .normal,none⟩) (s.cxN cxN) fun p s1=>Q p.1 (s1.cxN s.cx)):W (A2 envS (runF envS n) 11 [a0,a1]) s Q:=
 W.call (by kernel_rfl) (by kernel_rfl) M6 (by kernel_rfl) rfl rfl (by simp) (h _ (by kernel_rfl) (by kernel_rfl))
theorem Te:Try.f11.results.toList=[.tmp 4]:=by kernel_rfl
def LA:List Item:=skim 64 [.code Vk]
def JV:List Item:=skim 64 LA.tail
theorem CK_:skim 64 LA.tail=JV:=by kernel_rfl
def Fz:List Item:=skim 64 JV.tail
theorem Sc:skim 64 JV.tail=Fz:=by kernel_rfl
def Jb:List Item:=skim 64 (brT Fz)
theorem Zu:skim 64 (brT Fz)=Jb:=by kernel_rfl
def Jg:List Item:=skim 64 (brF Fz)
theorem IW_:skim 64 (brF Fz)=Jg:=by kernel_rfl
def MQ:List Item:=skim 64 Jb.tail
theorem IR_:skim 64 Jb.tail=MQ:=by kernel_rfl
def Ku:List Item:=skim 64 Jg.tail
theorem ZS:skim 64 Jg.tail=Ku:=by kernel_rfl
def F5:List Item:=skim 64 Ku.tail
theorem ZC:skim 64 Ku.tail=F5:=by kernel_rfl
def H9:List Item:=skim 64 F5.tail
theorem EX_:skim 64 F5.tail=H9:=by kernel_rfl
def GA:List Item:=skim 64 H9.tail
theorem Z3:skim 64 H9.tail=GA:=by kernel_rfl
def FO:List Item:=skim 64 GA.tail
theorem Uy:skim 64 GA.tail=FO:=by kernel_rfl
def J3:List Item:=skim 64 (brT FO)
theorem Wd:skim 64 (brT FO)=J3:=by kernel_rfl
def Ig:List Item:=skim 64 (brF FO)
theorem X8:skim 64 (brF FO)=Ig:=by kernel_rfl
def Kx:List Item:=skim 64 J3.tail
theorem V7:skim 64 J3.tail=Kx:=by kernel_rfl
def M8:List Item:=skim 64 Ig.tail
theorem Kr_:skim 64 Ig.tail=M8:=by kernel_rfl
def Jl:List Item:=skim 64 Kx.tail
theorem YI:skim 64 Kx.tail=Jl:=by kernel_rfl
def JC:List Item:=skim 64 Jl.tail
theorem JP_:skim 64 Jl.tail=JC:=by kernel_rfl
def M7:List Item:=skim 64 (brF JC)
theorem Cj_:skim 64 (brF JC)=M7:=by kernel_rfl
theorem WU:skim 64 M7.tail=GA:=by kernel_rfl
def TE (E:Env)(call round:Aw)(tm:T Value):M (T Value):=
 M.bind (oS (T.get tm 1) fun a=>kBox a) fun v3=>
 setF 3 v3 tm fun tm1=>
 mv (some (.bool false)) fun v4=>
 setF 4 v4 tm1 fun tm2=>
 M.pure tm2
theorem VA:RegEq 11 79 B6 LA TE:=⟨by kernel_rfl,fun _ _ _ _ _ _ _ _ _=>by kernel_rfl⟩
def Sa (E:Env)(call round:Aw)(tm:T Value):M (T Value):=
 mv (T.get tm 0) fun v15=>
 M.bind (M.on (some (.func (.func 34) #[] #[])) fun f=>M.on (seqO [(some v15),(some (.int .i64 60)),(some (.int .i64 300))]) fun l=>BP call round f l) fun v16=>
 setF 16 v16 tm fun tm1=>
 M.pure tm1
theorem YO:RegEq 11 79 B6 JV Sa:=⟨by kernel_rfl,fun _ _ _ _ _ _ _ _ _=>by kernel_rfl⟩
theorem Vq:BB Fz=some 16:=by kernel_rfl
def RL (E:Env)(call round:Aw)(tm:T Value):M (T Value):=
 M.bind (M.on (some (.func (.func 35) #[] #[])) fun f=>M.on (seqO []) fun l=>BP call round f l) fun v17=>
 mv (some v17) fun v4=>
 setF 4 v4 tm fun tm1=>
 M.pure tm1
theorem KX_:RegEq 11 79 B6 Jb RL:=⟨by kernel_rfl,fun _ _ _ _ _ _ _ _ _=>by kernel_rfl⟩
def OJ (E:Env)(call round:Aw)(tm:T Value):M (T Value):=
 mv (T.get tm 0) fun v18=>
 M.bind (M.on (some (.func (.func 36) #[] #[])) fun f=>M.on (seqO [(some v18)]) fun l=>BP call round f l) fun v19=>
 mv (some v19) fun v5=>
 setF 5 v5 tm fun tm1=>
 M.pure tm1
theorem Il_:RegEq 11 79 B6 Jg OJ:=⟨by kernel_rfl,fun _ _ _ _ _ _ _ _ _=>by kernel_rfl⟩
theorem WV: ∃k,MQ= .code .ret::k:=⟨MQ.tail,by kernel_rfl⟩
def UZ (E:Env)(call round:Aw)(tm:T Value):M (T Value):=
 mv (T.get tm 0) fun v20=>
 M.bind (M.on (some (.func (.func 49) #[] #[])) fun f=>M.on (seqO [(some v20)]) fun l=>BP call round f l) fun v21=>
 mv (some v21) fun v6=>
 setF 6 v6 tm fun tm1=>
 M.pure tm1
theorem WN:RegEq 11 79 B6 Ku UZ:=⟨by kernel_rfl,fun _ _ _ _ _ _ _ _ _=>by kernel_rfl⟩
def QY (E:Env)(call round:Aw)(tm:T Value):M ((Rho×T Value)×List OpLog):=
 M.bind (apartO (oS (seqP []) fun ps=>Cs E 69 0 ps)) fun p0=>
 M.bind (apartO (oS (T.get tm 6) fun a=>M.pure a)) fun p1=>
 M.bind (apartO (oS (seqO [(some p0.1),(some p1.1)]) fun l=>Bi E .append [69,69] l)) fun p2=>
 M.bind (apartO (oS (T.get tm 3) fun a=>A4 E 26 a)) fun p3=>
 M.bind (apartO (oS (seqP [(0,(some p3.1))]) fun ps=>Cs E 69 1 ps)) fun p4=>
 M.bind (apartO (oS (seqO [(some p2.1),(some p4.1)]) fun l=>Bi E .append [69,69] l)) fun p5=>
 M.pure (([p5.1,p4.1,p3.1,p2.1,p1.1,p0.1],tm),[p5.2,p4.2,p3.2,p2.2,p1.2,p0.2])
theorem Zf:DrawEq 11 79 B6 F5 [0,0,3,0,8,31,63] QY:=⟨by kernel_rfl,by kernel_rfl,fun _ _ _ _ _ _ _ _ _=>by kernel_rfl⟩
theorem W4 (E:Env)(call round:Aw)(x22 x23 x24 x25 x26 x27:Value)(tm:T Value)(s:St):BJ call round (CP E B6 79 (hdC F5)) [x27,x26,x25,x24,x23,x22] tm s=(M.bind (oS (some x27) fun a=>M.pure a) fun v7=>setT 7 v7 tm fun tm1=>M.pure tm1) s:=by kernel_rfl
def Pu (E:Env)(call round:Aw)(tm:T Value):M (T Value):=
 mv (some (.int .i64 0)) fun v8=>
 setF 8 v8 tm fun tm1=>
 M.pure tm1
theorem Yu:RegEq 11 79 B6 H9 Pu:=⟨by kernel_rfl,fun _ _ _ _ _ _ _ _ _=>by kernel_rfl⟩
def Lh (E:Env)(call round:Aw)(tm:T Value):M (T Value):=
 mv (T.get tm 8) fun v28=>
 mv (T.get tm 7) fun v29=>
 M.bind (oS (seqO [(some v29)]) fun l=>Bi E .len [69] l) fun v30=>
 M.bind (oS (some v28) fun a=>oS (some v30) fun b=>Cl.get (aBin E .lss 3 (.tmp 28) (.tmp 30)) a b) fun v31=>
 setF 31 v31 tm fun tm1=>
 M.pure tm1
theorem OH:RegEq 11 79 B6 GA Lh:=⟨by kernel_rfl,fun _ _ _ _ _ _ _ _ _=>by kernel_rfl⟩
theorem Qw:BB FO=some 31:=by kernel_rfl
def S6 (E:Env)(call round:Aw)(tm:T Value):M (T Value):=
 mv (T.get tm 5) fun v35=>
 mv (T.get tm 7) fun v36=>
 mv (T.get tm 8) fun v37=>
 M.bind (oS (some v36) fun a=>oS (some v37) fun b=>Bk E 69 a b) fun v38=>
 M.bind (oS (some v38) fun a=>A4 E 26 a) fun v39=>
 M.bind (M.on (some (.func (.func 50) #[] #[])) fun f=>M.on (seqO [(some v35),(some v39)]) fun l=>BP call round f l) fun v40=>
 mv (some v40) fun v34=>
 M.bind (oS (some v34) fun a=>kExt 0 a) fun v41=>
 M.bind (oS (some v34) fun a=>kExt 1 a) fun v42=>
 M.bind (oS (some v34) fun a=>kExt 2 a) fun v43=>
 M.bind (BY E 35) fun v10=>
 setF 10 v10 tm fun tm1=>
 mv (some v41) fun v9=>
 setF 9 v9 tm1 fun tm2=>
 M.bind (oS (some v10) fun a=>oS (some v42) fun b=>BH E 35 a b) fun _=>
 mv (some v43) fun v11=>
 setF 11 v11 tm2 fun tm3=>
 M.pure tm3
theorem Jb_:RegEq 11 79 B6 J3 S6:=⟨by kernel_rfl,fun _ _ _ _ _ _ _ _ _=>by kernel_rfl⟩
def Ua (E:Env)(call round:Aw)(tm:T Value):M (T Value):=
 mv (T.get tm 5) fun v67=>
 M.bind (M.on (some (.func (.func 53) #[] #[])) fun f=>M.on (seqO [(some v67)]) fun l=>BP call round f l) fun v68=>
 mv (T.get tm 6) fun v69=>
 M.bind (M.on (some (.func (.func 52) #[] #[])) fun f=>M.on (seqO [(some v68),(some v69)]) fun l=>BP call round f l) fun v70=>
 mv (some v70) fun v71=>
 M.bind (M.chk (isK v71) (M.if (isB v71 true) (oS (T.get tm 5) fun a=>M.pure a) (M.pure undef))) fun v72=>
 M.bind (M.chk (isK v71) (M.if (isB v71 true) (oS (T.get tm 0) fun a=>M.pure a) (M.pure undef))) fun v73=>
 M.bind (M.chk (isK v71) (M.if (isB v71 true) (M.on (some (.func (.func 45) #[] #[])) fun f=>M.on (seqO [(some v72),(some v73)]) fun l=>BP call round f l) (M.pure undef))) fun v74=>
 M.bind (M.on (some v71) fun a=>M.on (some v74) fun b=>M.on (some (.bool false)) fun c=>B9 a b c) fun v75=>
 mv (some v75) fun v76=>
 M.bind (M.chk (isK v76) (M.if (isB v76 true) (M.on (some (.func (.func 35) #[] #[])) fun f=>M.on (seqO []) fun l=>BP call round f l) (M.pure undef))) fun v77=>
 M.bind (M.on (some v76) fun a=>M.on (some v77) fun b=>M.on (some (.bool false)) fun c=>B9 a b c) fun v78=>
 mv (some v78) fun v4=>
 setF 4 v4 tm fun tm1=>
 M.pure tm1
theorem Wz:RegEq 11 79 B6 Ig Ua:=⟨by kernel_rfl,fun _ _ _ _ _ _ _ _ _=>by kernel_rfl⟩
def SB (E:Env)(call round:Aw)(tm:T Value):M (T Value):=
 mv (T.get tm 0) fun v45=>
 mv (T.get tm 7) fun v46=>
 mv (T.get tm 8) fun v47=>
 M.bind (oS (some v46) fun a=>oS (some v47) fun b=>Bk E 69 a b) fun v48=>
 M.bind (oS (some v48) fun a=>A4 E 26 a) fun v49=>
 M.bind (M.on (some (.func (.func 51) #[] #[])) fun f=>M.on (seqO [(some v45),(some v49)]) fun l=>BP call round f l) fun v50=>
 mv (some v50) fun v44=>
 M.bind (oS (some v44) fun a=>kExt 0 a) fun v51=>
 M.bind (oS (some v44) fun a=>kExt 1 a) fun v52=>
 M.bind (oS (some v44) fun a=>kExt 2 a) fun v53=>
 M.bind (BY E 35) fun v13=>
 setF 13 v13 tm fun tm1=>
 mv (some v51) fun v12=>
 setF 12 v12 tm1 fun tm2=>
 M.bind (oS (some v13) fun a=>oS (some v52) fun b=>BH E 35 a b) fun _=>
 mv (some v53) fun v14=>
 setF 14 v14 tm2 fun tm3=>
 M.pure tm3
theorem YB:RegEq 11 79 B6 Kx SB:=⟨by kernel_rfl,fun _ _ _ _ _ _ _ _ _=>by kernel_rfl⟩
theorem JG_: ∃k,M8= .code .ret::k:=⟨M8.tail,by kernel_rfl⟩
def Ox (E:Env)(call round:Aw)(tm:T Value):M (T Value):=
 mv (T.get tm 9) fun v54=>
 mv (T.get tm 12) fun v55=>
 M.bind (oS (some v54) fun a=>oS (some v55) fun b=>Cl.get (aBin E .neq 3 (.tmp 54) (.tmp 55)) a b) fun v56=>
 mv (some v56) fun v57=>
 M.bind (M.chk (isK v57) (M.if (isB v57 false) (oS (T.get tm 10) fun a=>A4 E 35 a) (M.pure undef))) fun v58=>
 M.bind (M.chk (isK v57) (M.if (isB v57 false) (oS (T.get tm 13) fun a=>A4 E 35 a) (M.pure undef))) fun v59=>
 M.bind (M.chk (isK v57) (M.if (isB v57 false) (oS (some v58) fun a=>oS (some v59) fun b=>Cl.get (aBin E .neq 35 (.tmp 58) (.tmp 59)) a b) (M.pure undef))) fun v60=>
 M.bind (M.on (some v57) fun a=>M.on (some (.bool true)) fun b=>M.on (some v60) fun c=>B9 a b c) fun v61=>
 mv (some v61) fun v62=>
 M.bind (M.chk (isK v62) (M.if (isB v62 false) (oS (T.get tm 11) fun a=>M.pure a) (M.pure undef))) fun v63=>
 M.bind (M.chk (isK v62) (M.if (isB v62 false) (oS (T.get tm 14) fun a=>M.pure a) (M.pure undef))) fun v64=>
 M.bind (M.chk (isK v62) (M.if (isB v62 false) (oS (some v63) fun a=>oS (some v64) fun b=>Cl.get (aBin E .neq 4 (.tmp 63) (.tmp 64)) a b) (M.pure undef))) fun v65=>
 M.bind (M.on (some v62) fun a=>M.on (some (.bool true)) fun b=>M.on (some v65) fun c=>B9 a b c) fun v66=>
 setF 66 v66 tm fun tm1=>
 M.pure tm1
theorem Fw_:RegEq 11 79 B6 Jl Ox:=⟨by kernel_rfl,fun _ _ _ _ _ _ _ _ _=>by kernel_rfl⟩
theorem JB_:BB JC=some 66:=by kernel_rfl
def UV (E:Env)(call round:Aw)(tm:T Value):M (T Value):=
 mv (T.get tm 8) fun v32=>
 M.bind (oS (some v32) fun a=>oS (some (.int .i64 1)) fun b=>Cl.get (aBin E .add 3 (.tmp 32) (.const (.int .i64 1))) a b) fun v33=>
 mv (some v33) fun v8=>
 setF 8 v8 tm fun tm1=>
 M.pure tm1
theorem Ju_:RegEq 11 79 B6 M7 UV:=⟨by kernel_rfl,fun _ _ _ _ _ _ _ _ _=>by kernel_rfl⟩
def Dx:Nat:=BU Try.f34
abbrev TX:Nat:=37
def Vy:Code:=Try.f34.body.getD .skip
theorem Mr:envS.fn.get 34=some Try.f34:=by kernel_rfl
theorem GS_ {a0 a1 a2:Value}{n:Nat}{s:St}{Q:Value→St→Prop}(h: ∀tm,T.get tm 0=some a0→T.get tm 1=some a1→T.get tm 2=some a2→W (runF envS n ⟨34,37,Dx,tm,[.code Vy], .run, .normal,none⟩) (s.cxN cxN) fun p s1=>Q p.1 (s1.cxN s.cx)):W (A2 envS (runF envS n) 34 [a0,a1,a2]) s Q:=
 W.call (by kernel_rfl) (by kernel_rfl) Mr (by kernel_rfl) rfl rfl (by simp) (h _ (by kernel_rfl) (by kernel_rfl) (by kernel_rfl))
theorem PG:Try.f34.results.toList=[.tmp 6]:=by kernel_rfl
def MC:List Item:=skim 64 [.code Vy]
def J6:List Item:=skim 64 MC.tail
theorem DN_:skim 64 MC.tail=J6:=by kernel_rfl
def JU:List Item:=skim 64 J6.tail
theorem VW:skim 64 J6.tail=JU:=by kernel_rfl
def Fx:List Item:=skim 64 JU.tail
theorem VV:skim 64 JU.tail=Fx:=by kernel_rfl
def Fd:List Item:=skim 64 Fx.tail
theorem Oi:skim 64 Fx.tail=Fd:=by kernel_rfl
def I5:List Item:=skim 64 (brT Fd)
theorem Cx_:skim 64 (brT Fd)=I5:=by kernel_rfl
def Hz:List Item:=skim 64 (brF Fd)
theorem SN:skim 64 (brF Fd)=Hz:=by kernel_rfl
def KV:List Item:=skim 64 I5.tail
theorem Wl:skim 64 I5.tail=KV:=by kernel_rfl
def Oh:List Item:=skim 64 Hz.tail
theorem Py:skim 64 Hz.tail=Oh:=by kernel_rfl
theorem Xi:skim 64 KV.tail=Fx:=by kernel_rfl
def PW (E:Env)(call round:Aw)(tm:T Value):M (T Value):=
 mv (some (.bool false)) fun v6=>
 setF 6 v6 tm fun tm1=>
 M.pure tm1
theorem Yp:RegEq 34 37 Dx MC PW:=⟨by kernel_rfl,fun _ _ _ _ _ _ _ _ _=>by kernel_rfl⟩
def Tv (E:Env)(call round:Aw)(tm:T Value):M (T Value):=
 mv (some (.int .i64 0)) fun v7=>
 setF 7 v7 tm fun tm1=>
 M.pure tm1
theorem FB_:RegEq 34 37 Dx J6 Tv:=⟨by kernel_rfl,fun _ _ _ _ _ _ _ _ _=>by kernel_rfl⟩
def Vt (E:Env)(call round:Aw)(tm:T Value):M (T Value):=
 mv (some (.int .i64 0)) fun v8=>
 setF 8 v8 tm fun tm1=>
 M.pure tm1
theorem X6:RegEq 34 37 Dx JU Vt:=⟨by kernel_rfl,fun _ _ _ _ _ _ _ _ _=>by kernel_rfl⟩
def Mh (E:Env)(call round:Aw)(tm:T Value):M (T Value):=
 mv (T.get tm 8) fun v9=>
 mv (T.get tm 0) fun v10=>
 M.bind (oS (seqO [(some v10)]) fun l=>Bi E .len [55] l) fun v11=>
 M.bind (oS (some v9) fun a=>oS (some v11) fun b=>Cl.get (aBin E .lss 3 (.tmp 9) (.tmp 11)) a b) fun v12=>
 mv (some v12) fun v13=>
 M.bind (M.chk (isK v13) (M.if (isB v13 true) (oS (T.get tm 8) fun a=>M.pure a) (M.pure undef))) fun v14=>
 M.bind (M.chk (isK v13) (M.if (isB v13 true) (oS (T.get tm 1) fun a=>M.pure a) (M.pure undef))) fun v15=>
 M.bind (M.chk (isK v13) (M.if (isB v13 true) (oS (some v14) fun a=>oS (some v15) fun b=>Cl.get (aBin E .leq 3 (.tmp 14) (.tmp 15)) a b) (M.pure undef))) fun v16=>
 M.bind (M.on (some v13) fun a=>M.on (some v16) fun b=>M.on (some (.bool false)) fun c=>B9 a b c) fun v17=>
 setF 17 v17 tm fun tm1=>
 M.pure tm1
theorem Pd:RegEq 34 37 Dx Fx Mh:=⟨by kernel_rfl,fun _ _ _ _ _ _ _ _ _=>by kernel_rfl⟩
theorem LU:BB Fd=some 17:=by kernel_rfl
def UB (E:Env)(call round:Aw)(tm:T Value):M (T Value):=
 mv (T.get tm 7) fun v20=>
 mv (T.get tm 0) fun v21=>
 mv (T.get tm 8) fun v22=>
 M.bind (oS (some v21) fun a=>oS (some v22) fun b=>Bk E 55 a b) fun v23=>
 M.bind (oS (some v23) fun a=>kFld E 85 a 2) fun v24=>
 M.bind (oS (some v24) fun a=>A4 E 36 a) fun v25=>
 M.bind (oS (seqO [(some v25)]) fun l=>Bi E .len [36] l) fun v26=>
 M.bind (oS (some v20) fun a=>oS (some v26) fun b=>Cl.get (aBin E .add 3 (.tmp 20) (.tmp 26)) a b) fun v27=>
 mv (some v27) fun v7=>
 setF 7 v7 tm fun tm1=>
 M.pure tm1
theorem IX_:RegEq 34 37 Dx I5 UB:=⟨by kernel_rfl,fun _ _ _ _ _ _ _ _ _=>by kernel_rfl⟩
def Pt (E:Env)(call round:Aw)(tm:T Value):M (T Value):=
 mv (T.get tm 0) fun v28=>
 M.bind (oS (seqO [(some v28)]) fun l=>Bi E .len [55] l) fun v29=>
 mv (T.get tm 1) fun v30=>
 M.bind (oS (some v29) fun a=>oS (some v30) fun b=>Cl.get (aBin E .gtr 3 (.tmp 29) (.tmp 30)) a b) fun v31=>
 mv (some v31) fun v32=>
 M.bind (M.chk (isK v32) (M.if (isB v32 false) (oS (T.get tm 7) fun a=>M.pure a) (M.pure undef))) fun v33=>
 M.bind (M.chk (isK v32) (M.if (isB v32 false) (oS (T.get tm 2) fun a=>M.pure a) (M.pure undef))) fun v34=>
 M.bind (M.chk (isK v32) (M.if (isB v32 false) (oS (some v33) fun a=>oS (some v34) fun b=>Cl.get (aBin E .gtr 3 (.tmp 33) (.tmp 34)) a b) (M.pure undef))) fun v35=>
 M.bind (M.on (some v32) fun a=>M.on (some (.bool true)) fun b=>M.on (some v35) fun c=>B9 a b c) fun v36=>
 mv (some v36) fun v6=>
 setF 6 v6 tm fun tm1=>
 M.pure tm1
theorem EP_:RegEq 34 37 Dx Hz Pt:=⟨by kernel_rfl,fun _ _ _ _ _ _ _ _ _=>by kernel_rfl⟩
def R5 (E:Env)(call round:Aw)(tm:T Value):M (T Value):=
 mv (T.get tm 8) fun v18=>
 M.bind (oS (some v18) fun a=>oS (some (.int .i64 1)) fun b=>Cl.get (aBin E .add 3 (.tmp 18) (.const (.int .i64 1))) a b) fun v19=>
 mv (some v19) fun v8=>
 setF 8 v8 tm fun tm1=>
 M.pure tm1
theorem WA:RegEq 34 37 Dx KV R5:=⟨by kernel_rfl,fun _ _ _ _ _ _ _ _ _=>by kernel_rfl⟩
theorem QF: ∃k,Oh= .code .ret::k:=⟨Oh.tail,by kernel_rfl⟩
def DN:Nat:=BU Try.f36
abbrev EV_:Nat:=26
def Pa:Code:=Try.f36.body.getD .skip
theorem PJ:envS.fn.get 36=some Try.f36:=by kernel_rfl
theorem Jr_ {a0:Value}{n:Nat}{s:St}{Q:Value→St→Prop}(h: ∀tm,T.get tm 0=some a0→W (runF envS n ⟨36,26,DN,tm,[.code Pa], .run, .normal,none⟩) (s.cxN cxN) fun p s1=>Q p.1 (s1.cxN s.cx)):W (A2 envS (runF envS n) 36 [a0]) s Q:=
 W.call (by kernel_rfl) (by kernel_rfl) PJ (by kernel_rfl) rfl rfl (by simp) (h _ (by kernel_rfl))
theorem GT_:Try.f36.results.toList=[.tmp 2]:=by kernel_rfl
def M4:List Item:=skim 64 [.code Pa]
def JH:List Item:=skim 64 M4.tail
theorem HD_:skim 64 M4.tail=JH:=by kernel_rfl
def JQ:List Item:=skim 64 JH.tail
theorem Lc_:skim 64 JH.tail=JQ:=by kernel_rfl
def FF:List Item:=skim 64 JQ.tail
theorem LN_:skim 64 JQ.tail=FF:=by kernel_rfl
def Gl:List Item:=skim 64 FF.tail
theorem SI:skim 64 FF.tail=Gl:=by kernel_rfl
def JE:List Item:=skim 64 (brT Gl)
theorem AJ_:skim 64 (brT Gl)=JE:=by kernel_rfl
def Jw:List Item:=skim 64 (brF Gl)
theorem Le_:skim 64 (brF Gl)=Jw:=by kernel_rfl
def Nd:List Item:=skim 64 JE.tail
theorem Xb:skim 64 JE.tail=Nd:=by kernel_rfl
def LO:List Item:=skim 64 Jw.tail
theorem Fk_:skim 64 Jw.tail=LO:=by kernel_rfl
theorem WR:skim 64 Nd.tail=FF:=by kernel_rfl
def Tu (E:Env)(call round:Aw)(tm:T Value):M (T Value):=
 mv (some (.slice none 0 0)) fun v2=>
 setF 2 v2 tm fun tm1=>
 M.pure tm1
theorem FU_:RegEq 36 26 DN M4 Tu:=⟨by kernel_rfl,fun _ _ _ _ _ _ _ _ _=>by kernel_rfl⟩
def Va (E:Env)(call round:Aw)(tm:T Value):M (T Value):=
 M.bind (oS (seqP []) fun ps=>Cs E 55 0 ps) fun v5=>
 mv (T.get tm 0) fun v6=>
 M.bind (oS (seqO [(some v5),(some v6)]) fun l=>Bi E .append [55,55] l) fun v7=>
 mv (some v7) fun v3=>
 setF 3 v3 tm fun tm1=>
 M.pure tm1
theorem YP:RegEq 36 26 DN JH Va:=⟨by kernel_rfl,fun _ _ _ _ _ _ _ _ _=>by kernel_rfl⟩
def O8 (E:Env)(call round:Aw)(tm:T Value):M (T Value):=
 mv (some (.int .i64 0)) fun v4=>
 setF 4 v4 tm fun tm1=>
 M.pure tm1
theorem YJ:RegEq 36 26 DN JQ O8:=⟨by kernel_rfl,fun _ _ _ _ _ _ _ _ _=>by kernel_rfl⟩
def Mb (E:Env)(call round:Aw)(tm:T Value):M (T Value):=
 mv (T.get tm 4) fun v8=>
 mv (T.get tm 3) fun v9=>
 M.bind (oS (seqO [(some v9)]) fun l=>Bi E .len [55] l) fun v10=>
 M.bind (oS (some v8) fun a=>oS (some v10) fun b=>Cl.get (aBin E .lss 3 (.tmp 8) (.tmp 10)) a b) fun v11=>
 setF 11 v11 tm fun tm1=>
 M.pure tm1
theorem SY:RegEq 36 26 DN FF Mb:=⟨by kernel_rfl,fun _ _ _ _ _ _ _ _ _=>by kernel_rfl⟩
theorem RC:BB Gl=some 11:=by kernel_rfl
def UN (E:Env)(call round:Aw)(tm:T Value):M (T Value):=
 mv (T.get tm 3) fun v14=>
 mv (T.get tm 4) fun v15=>
 M.bind (oS (seqP []) fun ps=>Cs E 36 0 ps) fun v16=>
 mv (T.get tm 3) fun v17=>
 mv (T.get tm 4) fun v18=>
 M.bind (oS (some v17) fun a=>oS (some v18) fun b=>Bk E 55 a b) fun v19=>
 M.bind (oS (some v19) fun a=>kFld E 85 a 2) fun v20=>
 M.bind (oS (some v20) fun a=>A4 E 36 a) fun v21=>
 M.bind (oS (seqO [(some v16),(some v21)]) fun l=>Bi E .append [36,36] l) fun v22=>
 M.bind (oS (some v14) fun a=>oS (some v15) fun b=>Bk E 55 a b) fun v23=>
 M.bind (oS (some v23) fun a=>kFld E 85 a 2) fun v24=>
 M.bind (oS (some v24) fun a=>oS (some v22) fun b=>BH E 36 a b) fun _=>
 M.pure tm
theorem EW_:RegEq 36 26 DN JE UN:=⟨by kernel_rfl,fun _ _ _ _ _ _ _ _ _=>by kernel_rfl⟩
def RX (E:Env)(call round:Aw)(tm:T Value):M (T Value):=
 mv (T.get tm 3) fun v25=>
 mv (some v25) fun v2=>
 setF 2 v2 tm fun tm1=>
 M.pure tm1
theorem Bx_:RegEq 36 26 DN Jw RX:=⟨by kernel_rfl,fun _ _ _ _ _ _ _ _ _=>by kernel_rfl⟩
def U0 (E:Env)(call round:Aw)(tm:T Value):M (T Value):=
 mv (T.get tm 4) fun v12=>
 M.bind (oS (some v12) fun a=>oS (some (.int .i64 1)) fun b=>Cl.get (aBin E .add 3 (.tmp 12) (.const (.int .i64 1))) a b) fun v13=>
 mv (some v13) fun v4=>
 setF 4 v4 tm fun tm1=>
 M.pure tm1
theorem Av_:RegEq 36 26 DN Nd U0:=⟨by kernel_rfl,fun _ _ _ _ _ _ _ _ _=>by kernel_rfl⟩
theorem HI_: ∃k,LO= .code .ret::k:=⟨LO.tail,by kernel_rfl⟩
def Dn:Nat:=BU Try.f52
abbrev Kw_:Nat:=26
def PZ:Code:=Try.f52.body.getD .skip
theorem TC:envS.fn.get 52=some Try.f52:=by kernel_rfl
theorem Ye {a0 a1:Value}{n:Nat}{s:St}{Q:Value→St→Prop}(h: ∀tm,T.get tm 0=some a0→T.get tm 1=some a1→W (runF envS n ⟨52,26,Dn,tm,[.code PZ], .run, .normal,none⟩) (s.cxN cxN) fun p s1=>Q p.1 (s1.cxN s.cx)):W (A2 envS (runF envS n) 52 [a0,a1]) s Q:=
 W.call (by kernel_rfl) (by kernel_rfl) TC (by kernel_rfl) rfl rfl (by simp) (h _ (by kernel_rfl) (by kernel_rfl))
theorem Hy_:Try.f52.results.toList=[.tmp 4]:=by kernel_rfl
def NS:List Item:=skim 64 [.code PZ]
def I4:List Item:=skim 64 NS.tail
theorem DR_:skim 64 NS.tail=I4:=by kernel_rfl
def JP:List Item:=skim 64 I4.tail
theorem Hw_:skim 64 I4.tail=JP:=by kernel_rfl
def Ir:List Item:=skim 64 (brF JP)
theorem LJ_:skim 64 (brF JP)=Ir:=by kernel_rfl
def Fl:List Item:=skim 64 Ir.tail
theorem ZX:skim 64 Ir.tail=Fl:=by kernel_rfl
def Gh:List Item:=skim 64 Fl.tail
theorem OW:skim 64 Fl.tail=Gh:=by kernel_rfl
def G0:List Item:=skim 64 (brT Gh)
theorem HQ_:skim 64 (brT Gh)=G0:=by kernel_rfl
def Jm:List Item:=skim 64 (brF Gh)
theorem VK:skim 64 (brF Gh)=Jm:=by kernel_rfl
def IQ:List Item:=skim 64 G0.tail
theorem Ac_:skim 64 G0.tail=IQ:=by kernel_rfl
def N1:List Item:=skim 64 Jm.tail
theorem Df_:skim 64 Jm.tail=N1:=by kernel_rfl
def Np:List Item:=skim 64 (brF IQ)
theorem Bv_:skim 64 (brF IQ)=Np:=by kernel_rfl
theorem Jj_:skim 64 Np.tail=Fl:=by kernel_rfl
def Pe (E:Env)(call round:Aw)(tm:T Value):M (T Value):=
 mv (some (.bool false)) fun v4=>
 setF 4 v4 tm fun tm1=>
 M.pure tm1
theorem Ek_:RegEq 52 26 Dn NS Pe:=⟨by kernel_rfl,fun _ _ _ _ _ _ _ _ _=>by kernel_rfl⟩
def Ui (E:Env)(call round:Aw)(tm:T Value):M (T Value):=
 mv (T.get tm 0) fun v6=>
 M.bind (oS (seqO [(some v6)]) fun l=>Bi E .len [69] l) fun v7=>
 mv (T.get tm 1) fun v8=>
 M.bind (oS (seqO [(some v8)]) fun l=>Bi E .len [69] l) fun v9=>
 M.bind (oS (some v7) fun a=>oS (some v9) fun b=>Cl.get (aBin E .neq 3 (.tmp 7) (.tmp 9)) a b) fun v10=>
 setF 10 v10 tm fun tm1=>
 M.pure tm1
theorem DD_:RegEq 52 26 Dn I4 Ui:=⟨by kernel_rfl,fun _ _ _ _ _ _ _ _ _=>by kernel_rfl⟩
theorem Ze:BB JP=some 10:=by kernel_rfl
def U1 (E:Env)(call round:Aw)(tm:T Value):M (T Value):=
 mv (some (.int .i64 0)) fun v5=>
 setF 5 v5 tm fun tm1=>
 M.pure tm1
theorem GQ_:RegEq 52 26 Dn Ir U1:=⟨by kernel_rfl,fun _ _ _ _ _ _ _ _ _=>by kernel_rfl⟩
def Ld (E:Env)(call round:Aw)(tm:T Value):M (T Value):=
 mv (T.get tm 5) fun v11=>
 mv (T.get tm 0) fun v12=>
 M.bind (oS (seqO [(some v12)]) fun l=>Bi E .len [69] l) fun v13=>
 M.bind (oS (some v11) fun a=>oS (some v13) fun b=>Cl.get (aBin E .lss 3 (.tmp 11) (.tmp 13)) a b) fun v14=>
 setF 14 v14 tm fun tm1=>
 M.pure tm1
theorem ST:RegEq 52 26 Dn Fl Ld:=⟨by kernel_rfl,fun _ _ _ _ _ _ _ _ _=>by kernel_rfl⟩
theorem Sg:BB Gh=some 14:=by kernel_rfl
def To (E:Env)(call round:Aw)(tm:T Value):M ((Rho×T Value)×List OpLog):=
 M.bind (apartO (oS (T.get tm 0) fun a=>M.pure a)) fun p0=>
 M.bind (apartO (oS (T.get tm 5) fun a=>M.pure a)) fun p1=>
 M.bind (apartO (oS (some p0.1) fun a=>oS (some p1.1) fun b=>Bk E 69 a b)) fun p2=>
 M.bind (apartO (oS (some p2.1) fun a=>A4 E 26 a)) fun p3=>
 M.bind (apartO (oS (T.get tm 1) fun a=>M.pure a)) fun p4=>
 M.bind (apartO (oS (T.get tm 5) fun a=>M.pure a)) fun p5=>
 M.bind (apartO (oS (some p4.1) fun a=>oS (some p5.1) fun b=>Bk E 69 a b)) fun p6=>
 M.bind (apartO (oS (some p6.1) fun a=>A4 E 26 a)) fun p7=>
 M.pure (([p7.1,p6.1,p5.1,p4.1,p3.1,p2.1,p1.1,p0.1],tm),[p7.2,p6.2,p5.2,p4.2,p3.2,p2.2,p1.2,p0.2])
theorem XT:DrawEq 52 26 Dn G0 [0,0,3,7,0,0,48,112,255] To:=⟨by kernel_rfl,by kernel_rfl,fun _ _ _ _ _ _ _ _ _=>by kernel_rfl⟩
theorem BO_ (E:Env)(call round:Aw)(x17 x18 x19 x20 x21 x22 x23 x24:Value)(tm:T Value)(s:St):BJ call round (CP E Dn 26 (hdC G0)) [x24,x23,x22,x21,x20,x19,x18,x17] tm s=(M.bind (oS (some x20) fun a=>oS (some x24) fun b=>Cl.get (aBin E .neq 26 (.tmp 20) (.tmp 24)) a b) fun v25=>setT 25 v25 tm fun tm1=>M.pure tm1) s:=by kernel_rfl
def RR (E:Env)(call round:Aw)(tm:T Value):M (T Value):=
 mv (some (.bool true)) fun v4=>
 setF 4 v4 tm fun tm1=>
 M.pure tm1
theorem BH_:RegEq 52 26 Dn Jm RR:=⟨by kernel_rfl,fun _ _ _ _ _ _ _ _ _=>by kernel_rfl⟩
theorem Id_:BB IQ=some 25:=by kernel_rfl
theorem Zk: ∃k,N1= .code .ret::k:=⟨N1.tail,by kernel_rfl⟩
def SO (E:Env)(call round:Aw)(tm:T Value):M (T Value):=
 mv (T.get tm 5) fun v15=>
 M.bind (oS (some v15) fun a=>oS (some (.int .i64 1)) fun b=>Cl.get (aBin E .add 3 (.tmp 15) (.const (.int .i64 1))) a b) fun v16=>
 mv (some v16) fun v5=>
 setF 5 v5 tm fun tm1=>
 M.pure tm1
theorem IQ_:RegEq 52 26 Dn Np SO:=⟨by kernel_rfl,fun _ _ _ _ _ _ _ _ _=>by kernel_rfl⟩
def Bh:Nat:=BU Try.f50
abbrev BV:Nat:=28
def TP:Code:=Try.f50.body.getD .skip
theorem Um:envS.fn.get 50=some Try.f50:=by kernel_rfl
theorem Yk {a0 a1:Value}{n:Nat}{s:St}{Q:Value→St→Prop}(h: ∀tm,T.get tm 0=some a0→T.get tm 1=some a1→W (runF envS n ⟨50,28,Bh,tm,[.code TP], .run, .normal,none⟩) (s.cxN cxN) fun p s1=>Q p.1 (s1.cxN s.cx)):W (A2 envS (runF envS n) 50 [a0,a1]) s Q:=
 W.call (by kernel_rfl) (by kernel_rfl) Um (by kernel_rfl) rfl rfl (by simp) (h _ (by kernel_rfl) (by kernel_rfl))
theorem Ff_:Try.f50.results.toList=[.cell 4 3, .cell 5 35, .cell 6 4]:=by kernel_rfl
def NP:List Item:=skim 64 [.code TP]
def KD:List Item:=skim 64 NP.tail
theorem DV_:skim 64 NP.tail=KD:=by kernel_rfl
def Dz:List Item:=skim 64 KD.tail
theorem ZK:skim 64 KD.tail=Dz:=by kernel_rfl
def CN:Code:=asC Dz
def CK:Code:=bdC Dz
theorem Bo_:rfP Dz=some (12,[13,14],CN,CK):=by kernel_rfl
theorem Xp:FZ Dz=[.code CN, .beginRound, .code CK]:=by kernel_rfl
def Ju:List Item:=skim 64 Dz.tail
theorem VU:skim 64 Dz.tail=Ju:=by kernel_rfl
def Hi:List Item:=skim 64 (FZ Dz)
theorem BX_:skim 64 (FZ Dz)=Hi:=by kernel_rfl
def L7:List Item:=skim 64 Ju.tail
theorem DB_:skim 64 Ju.tail=L7:=by kernel_rfl
def Gc:List Item:=skim 64 Hi.tail
theorem FX_:skim 64 Hi.tail=Gc:=by kernel_rfl
def I2:List Item:=skim 64 Gc.tail
theorem XR:skim 64 Gc.tail=I2:=by kernel_rfl
def DF:List Item:=skim 64 I2.tail
theorem Xq:skim 64 I2.tail=DF:=by kernel_rfl
def CB:Code:=asC DF
def CF:Code:=bdC DF
theorem Km_:rfP DF=some (17,[18,19],CB,CF):=by kernel_rfl
theorem Xz:FZ DF=[.code CB, .beginRound, .code CF]:=by kernel_rfl
def Mp:List Item:=skim 64 DF.tail
theorem LE_:skim 64 DF.tail=Mp:=by kernel_rfl
def Hk:List Item:=skim 64 (FZ DF)
theorem IU_:skim 64 (FZ DF)=Hk:=by kernel_rfl
def Gb:List Item:=skim 64 Hk.tail
theorem ZY:skim 64 Hk.tail=Gb:=by kernel_rfl
def Jh:List Item:=skim 64 Gb.tail
theorem Yc:skim 64 Gb.tail=Jh:=by kernel_rfl
def HP:List Item:=skim 64 Jh.tail
theorem Rt:skim 64 Jh.tail=HP:=by kernel_rfl
def G1:List Item:=skim 64 (brT HP)
theorem VT:skim 64 (brT HP)=G1:=by kernel_rfl
theorem X0:skim 64 (brF HP)=Mp:=by kernel_rfl
def Ms:List Item:=skim 64 G1.tail
theorem Ja_:skim 64 G1.tail=Ms:=by kernel_rfl
def Sv (E:Env)(call round:Aw)(tm:T Value):M (T Value):=
 M.bind (oS (T.get tm 1) fun a=>kBox a) fun v3=>
 setF 3 v3 tm fun tm1=>
 M.bind (BY E 3) fun v4=>
 setF 4 v4 tm1 fun tm2=>
 M.bind (BY E 35) fun v5=>
 setF 5 v5 tm2 fun tm3=>
 M.bind (BY E 4) fun v6=>
 setF 6 v6 tm3 fun tm4=>
 M.pure tm4
theorem YW:RegEq 50 28 Bh NP Sv:=⟨by kernel_rfl,fun _ _ _ _ _ _ _ _ _=>by kernel_rfl⟩
def Vr (E:Env)(call round:Aw)(tm:T Value):M (T Value):=
 mv (T.get tm 0) fun v11=>
 M.bind (M.on (some (.func (.func 99) #[] #[])) fun f=>M.on (seqO [(some v11)]) fun l=>BP call round f l) fun v12=>
 setF 12 v12 tm fun tm1=>
 M.pure tm1
theorem ZI:RegEq 50 28 Bh KD Vr:=⟨by kernel_rfl,fun _ _ _ _ _ _ _ _ _=>by kernel_rfl⟩
def TV (E:Env)(call round:Aw)(tm:T Value):M (T Value):=
 M.bind (oS (seqP []) fun ps=>CI E 35 ps) fun v27=>
 M.bind (oS (T.get tm 4) fun a=>oS (some (.int .i64 0)) fun b=>BH E 3 a b) fun _=>
 M.bind (oS (T.get tm 5) fun a=>oS (some v27) fun b=>BH E 35 a b) fun _=>
 M.bind (oS (T.get tm 6) fun a=>oS (some (.bool false)) fun b=>BH E 4 a b) fun _=>
 M.pure tm
theorem Gf_:RegEq 50 28 Bh Ju TV:=⟨by kernel_rfl,fun _ _ _ _ _ _ _ _ _=>by kernel_rfl⟩
def Tw (E:Env)(call round:Aw)(tm:T Value):M (T Value):=
 M.bind (BY E 85) fun v8=>
 setF 8 v8 tm fun tm1=>
 M.bind (oS (some v8) fun a=>oS (T.get tm1 14) fun b=>BH E 85 a b) fun _=>
 M.pure tm1
theorem GD_:RegEq 50 28 Bh Hi Tw:=⟨by kernel_rfl,fun _ _ _ _ _ _ _ _ _=>by kernel_rfl⟩
theorem Y2: ∃k,L7= .code .ret::k:=⟨L7.tail,by kernel_rfl⟩
theorem X5:Gc= .beginRound::Gc.tail:=by kernel_rfl
def UR (E:Env)(call round:Aw)(tm:T Value):M (T Value):=
 M.bind (oS (T.get tm 8) fun a=>kFld E 85 a 2) fun v15=>
 M.bind (oS (some v15) fun a=>A4 E 36 a) fun v16=>
 M.bind (M.on (some (.func (.func 100) #[] #[])) fun f=>M.on (seqO [(some v16)]) fun l=>BP call round f l) fun v17=>
 setF 17 v17 tm fun tm1=>
 M.pure tm1
theorem AM_:RegEq 50 28 Bh I2 UR:=⟨by kernel_rfl,fun _ _ _ _ _ _ _ _ _=>by kernel_rfl⟩
def S7 (E:Env)(call round:Aw)(tm:T Value):M (T Value):=
 M.bind (BY E 35) fun v10=>
 setF 10 v10 tm fun tm1=>
 M.bind (oS (some v10) fun a=>oS (T.get tm1 19) fun b=>BH E 35 a b) fun _=>
 M.pure tm1
theorem KO_:RegEq 50 28 Bh Hk S7:=⟨by kernel_rfl,fun _ _ _ _ _ _ _ _ _=>by kernel_rfl⟩
theorem HC_:Gb= .beginRound::Gb.tail:=by kernel_rfl
def Sy (E:Env)(call round:Aw)(tm:T Value):M (T Value):=
 M.bind (oS (T.get tm 10) fun a=>kFld E 35 a 0) fun v20=>
 M.bind (oS (some v20) fun a=>A4 E 26 a) fun v21=>
 M.bind (oS (T.get tm 3) fun a=>A4 E 26 a) fun v22=>
 M.bind (oS (some v21) fun a=>oS (some v22) fun b=>Cl.get (aBin E .eql 26 (.tmp 21) (.tmp 22)) a b) fun v23=>
 setF 23 v23 tm fun tm1=>
 M.pure tm1
theorem Yn:RegEq 50 28 Bh Jh Sy:=⟨by kernel_rfl,fun _ _ _ _ _ _ _ _ _=>by kernel_rfl⟩
theorem Tg:BB HP=some 23:=by kernel_rfl
def Uu (E:Env)(call round:Aw)(tm:T Value):M ((Rho×T Value)×List OpLog):=
 M.bind (apartO (oS (T.get tm 8) fun a=>kFld E 85 a 0)) fun p0=>
 M.bind (apartO (oS (some p0.1) fun a=>A4 E 3 a)) fun p1=>
 M.bind (apartO (oS (T.get tm 10) fun a=>A4 E 35 a)) fun p2=>
 M.bind (apartO (oS (T.get tm 4) fun a=>oS (some p1.1) fun b=>BH E 3 a b)) fun p3=>
 M.bind (apartO (oS (T.get tm 5) fun a=>oS (some p2.1) fun b=>BH E 35 a b)) fun p4=>
 M.pure (([p2.1,p1.1,p0.1],tm),[p4.2,p3.2,p2.2,p1.2,p0.2])
theorem JM_:DrawEq 50 28 Bh G1 [0,1,0,3,15,31] Uu:=⟨by kernel_rfl,by kernel_rfl,fun _ _ _ _ _ _ _ _ _=>by kernel_rfl⟩
theorem Jt_ (E:Env)(call round:Aw)(x24 x25 x26:Value)(tm:T Value)(s:St):BJ call round (CP E Bh 28 (hdC G1)) [x26,x25,x24] tm s=(M.bind (oS (T.get tm 6) fun a=>oS (some (.bool true)) fun b=>BH E 4 a b) fun _=>M.pure tm) s:=by kernel_rfl
theorem IL_: ∃k,Ms= .code .ret::k:=⟨Ms.tail,by kernel_rfl⟩
def BT:Nat:=BU Try.f53
abbrev JW:Nat:=46
def UM:Code:=Try.f53.body.getD .skip
theorem QP:envS.fn.get 53=some Try.f53:=by kernel_rfl
theorem Cd_ {a0:Value}{n:Nat}{s:St}{Q:Value→St→Prop}(h: ∀tm,T.get tm 0=some a0→W (runF envS n ⟨53,46,BT,tm,[.code UM], .run, .normal,none⟩) (s.cxN cxN) fun p s1=>Q p.1 (s1.cxN s.cx)):W (A2 envS (runF envS n) 53 [a0]) s Q:=
 W.call (by kernel_rfl) (by kernel_rfl) QP (by kernel_rfl) rfl rfl (by simp) (h _ (by kernel_rfl))
theorem IP_:Try.f53.results.toList=[.tmp 2]:=by kernel_rfl
def MP:List Item:=skim 64 [.code UM]
def Jo:List Item:=skim 64 MP.tail
theorem Jv_:skim 64 MP.tail=Jo:=by kernel_rfl
def JL:List Item:=skim 64 Jo.tail
theorem CT_:skim 64 Jo.tail=JL:=by kernel_rfl
def IF:List Item:=skim 64 JL.tail
theorem Ez_:skim 64 JL.tail=IF:=by kernel_rfl
def Gn:List Item:=skim 64 IF.tail
theorem Zo:skim 64 IF.tail=Gn:=by kernel_rfl
def Fh:List Item:=skim 64 Gn.tail
theorem T2:skim 64 Gn.tail=Fh:=by kernel_rfl
def J2:List Item:=skim 64 (brT Fh)
theorem GP_:skim 64 (brT Fh)=J2:=by kernel_rfl
def IG:List Item:=skim 64 (brF Fh)
theorem Cb_:skim 64 (brF Fh)=IG:=by kernel_rfl
def Ks:List Item:=skim 64 J2.tail
theorem Ww:skim 64 J2.tail=Ks:=by kernel_rfl
def K5:List Item:=skim 64 IG.tail
theorem Gu_:skim 64 IG.tail=K5:=by kernel_rfl
def Ft:List Item:=skim 64 Ks.tail
theorem Cv_:skim 64 Ks.tail=Ft:=by kernel_rfl
def GO:List Item:=skim 64 Ft.tail
theorem Tz:skim 64 Ft.tail=GO:=by kernel_rfl
def Kk:List Item:=skim 64 (brT GO)
theorem JC_:skim 64 (brT GO)=Kk:=by kernel_rfl
def Jt:List Item:=skim 64 (brF GO)
theorem Ic_:skim 64 (brF GO)=Jt:=by kernel_rfl
def JJ:List Item:=skim 64 Kk.tail
theorem Zd:skim 64 Kk.tail=JJ:=by kernel_rfl
theorem Yw:skim 64 Jt.tail=Gn:=by kernel_rfl
def Jv:List Item:=skim 64 JJ.tail
theorem V0:skim 64 JJ.tail=Jv:=by kernel_rfl
def GF:List Item:=skim 64 Jv.tail
theorem SM:skim 64 Jv.tail=GF:=by kernel_rfl
def Jj:List Item:=skim 64 (brT GF)
theorem Xr:skim 64 (brT GF)=Jj:=by kernel_rfl
def Hb:List Item:=skim 64 (brF GF)
theorem IN_:skim 64 (brF GF)=Hb:=by kernel_rfl
def LK:List Item:=skim 64 Jj.tail
theorem AF_:skim 64 Jj.tail=LK:=by kernel_rfl
theorem VF:skim 64 Hb.tail=Ft:=by kernel_rfl
theorem CL_:skim 64 LK.tail=Hb:=by kernel_rfl
def Rj (E:Env)(call round:Aw)(tm:T Value):M (T Value):=
 mv (some (.slice none 0 0)) fun v2=>
 setF 2 v2 tm fun tm1=>
 M.pure tm1
theorem YS:RegEq 53 46 BT MP Rj:=⟨by kernel_rfl,fun _ _ _ _ _ _ _ _ _=>by kernel_rfl⟩
def Vx (E:Env)(call round:Aw)(tm:T Value):M (T Value):=
 M.bind (Dp) fun v11=>
 mv (some v11) fun v3=>
 setF 3 v3 tm fun tm1=>
 M.pure tm1
theorem Wp:RegEq 53 46 BT Jo Vx:=⟨by kernel_rfl,fun _ _ _ _ _ _ _ _ _=>by kernel_rfl⟩
def Pj (E:Env)(call round:Aw)(tm:T Value):M (T Value):=
 mv (some (.slice none 0 0)) fun v4=>
 setF 4 v4 tm fun tm1=>
 M.pure tm1
theorem YN:RegEq 53 46 BT JL Pj:=⟨by kernel_rfl,fun _ _ _ _ _ _ _ _ _=>by kernel_rfl⟩
def Qg (E:Env)(call round:Aw)(tm:T Value):M (T Value):=
 mv (T.get tm 0) fun v12=>
 setF 12 v12 tm fun tm1=>
 M.bind (oS (seqO [(some v12)]) fun l=>Bi E .len [55] l) fun v13=>
 setF 13 v13 tm1 fun tm2=>
 mv (some (.int .i64 0)) fun v14=>
 setF 14 v14 tm2 fun tm3=>
 M.pure tm3
theorem VI:RegEq 53 46 BT IF Qg:=⟨by kernel_rfl,fun _ _ _ _ _ _ _ _ _=>by kernel_rfl⟩
def MH (E:Env)(call round:Aw)(tm:T Value):M (T Value):=
 M.bind (oS (T.get tm 14) fun a=>oS (T.get tm 13) fun b=>Cl.get (aBin E .lss 3 (.tmp 14) (.tmp 13)) a b) fun v15=>
 setF 15 v15 tm fun tm1=>
 M.pure tm1
theorem Sx:RegEq 53 46 BT Gn MH:=⟨by kernel_rfl,fun _ _ _ _ _ _ _ _ _=>by kernel_rfl⟩
theorem Ue:BB Fh=some 15:=by kernel_rfl
def OY (E:Env)(call round:Aw)(tm:T Value):M (T Value):=
 M.bind (oS (T.get tm 12) fun a=>oS (T.get tm 14) fun b=>Bk E 55 a b) fun v16=>
 M.bind (oS (some v16) fun a=>A4 E 85 a) fun v17=>
 M.bind (BY E 85) fun v6=>
 setF 6 v6 tm fun tm1=>
 M.bind (oS (some v6) fun a=>oS (some v17) fun b=>BH E 85 a b) fun _=>
 M.pure tm1
theorem FQ_:RegEq 53 46 BT J2 OY:=⟨by kernel_rfl,fun _ _ _ _ _ _ _ _ _=>by kernel_rfl⟩
def QN (E:Env)(call round:Aw)(tm:T Value):M (T Value):=
 mv (T.get tm 4) fun v45=>
 mv (some v45) fun v2=>
 setF 2 v2 tm fun tm1=>
 M.pure tm1
theorem WQ:RegEq 53 46 BT IG QN:=⟨by kernel_rfl,fun _ _ _ _ _ _ _ _ _=>by kernel_rfl⟩
def R6 (E:Env)(call round:Aw)(tm:T Value):M (T Value):=
 M.bind (oS (T.get tm 6) fun a=>kFld E 85 a 2) fun v18=>
 M.bind (oS (some v18) fun a=>A4 E 36 a) fun v19=>
 setF 19 v19 tm fun tm1=>
 M.bind (oS (seqO [(some v19)]) fun l=>Bi E .len [36] l) fun v20=>
 setF 20 v20 tm1 fun tm2=>
 mv (some (.int .i64 0)) fun v21=>
 setF 21 v21 tm2 fun tm3=>
 M.pure tm3
theorem Fm_:RegEq 53 46 BT Ks R6:=⟨by kernel_rfl,fun _ _ _ _ _ _ _ _ _=>by kernel_rfl⟩
theorem VB: ∃k,K5= .code .ret::k:=⟨K5.tail,by kernel_rfl⟩
def NM (E:Env)(call round:Aw)(tm:T Value):M (T Value):=
 M.bind (oS (T.get tm 21) fun a=>oS (T.get tm 20) fun b=>Cl.get (aBin E .lss 3 (.tmp 21) (.tmp 20)) a b) fun v22=>
 setF 22 v22 tm fun tm1=>
 M.pure tm1
theorem UA:RegEq 53 46 BT Ft NM:=⟨by kernel_rfl,fun _ _ _ _ _ _ _ _ _=>by kernel_rfl⟩
theorem Un:BB GO=some 22:=by kernel_rfl
def P1 (E:Env)(call round:Aw)(tm:T Value):M (T Value):=
 M.bind (oS (T.get tm 19) fun a=>oS (T.get tm 21) fun b=>Bk E 36 a b) fun v23=>
 M.bind (oS (some v23) fun a=>A4 E 35 a) fun v24=>
 M.bind (BY E 35) fun v8=>
 setF 8 v8 tm fun tm1=>
 M.bind (oS (some v8) fun a=>oS (some v24) fun b=>BH E 35 a b) fun _=>
 M.pure tm1
theorem Wu:RegEq 53 46 BT Kk P1:=⟨by kernel_rfl,fun _ _ _ _ _ _ _ _ _=>by kernel_rfl⟩
def UK (E:Env)(call round:Aw)(tm:T Value):M (T Value):=
 M.bind (oS (T.get tm 14) fun a=>oS (some (.int .i64 1)) fun b=>Cl.get (aBin E .add 3 (.tmp 14) (.const (.int .i64 1))) a b) fun v44=>
 mv (some v44) fun v14=>
 setF 14 v14 tm fun tm1=>
 M.pure tm1
theorem Cr_:RegEq 53 46 BT Jt UK:=⟨by kernel_rfl,fun _ _ _ _ _ _ _ _ _=>by kernel_rfl⟩
def TZ (E:Env)(call round:Aw)(tm:T Value):M (T Value):=
 mv (T.get tm 3) fun v26=>
 M.bind (oS (T.get tm 8) fun a=>kFld E 35 a 0) fun v27=>
 M.bind (oS (some v27) fun a=>A4 E 26 a) fun v28=>
 M.bind (oS (some v26) fun a=>oS (some v28) fun b=>EL E 134 true a b) fun v29=>
 mv (some v29) fun v25=>
 M.bind (oS (some v25) fun a=>kExt 0 a) fun v30=>
 M.bind (oS (some v25) fun a=>kExt 1 a) fun v31=>
 M.bind (BY E 135) fun v9=>
 M.bind (oS (some v9) fun a=>oS (some v30) fun b=>BH E 135 a b) fun _=>
 mv (some v31) fun v10=>
 setF 10 v10 tm fun tm1=>
 M.pure tm1
theorem Jo_:RegEq 53 46 BT JJ TZ:=⟨by kernel_rfl,fun _ _ _ _ _ _ _ _ _=>by kernel_rfl⟩
def TQ (E:Env)(call round:Aw)(tm:T Value):M (T Value):=
 mv (T.get tm 10) fun v32=>
 M.bind (oS (some v32) fun a=>kUn E.P .not a) fun v33=>
 setF 33 v33 tm fun tm1=>
 M.pure tm1
theorem Ay_:RegEq 53 46 BT Jv TQ:=⟨by kernel_rfl,fun _ _ _ _ _ _ _ _ _=>by kernel_rfl⟩
theorem Qf:BB GF=some 33:=by kernel_rfl
def Qi (E:Env)(call round:Aw)(tm:T Value):M (T Value):=
 mv (T.get tm 3) fun v34=>
 M.bind (oS (T.get tm 8) fun a=>kFld E 35 a 0) fun v35=>
 M.bind (oS (some v35) fun a=>A4 E 26 a) fun v36=>
 M.bind (oS (seqP []) fun ps=>CI E 135 ps) fun v37=>
 M.bind (M.on (some v34) fun a=>M.on (some v36) fun b=>M.on (some v37) fun c=>DB E 134 a b c) fun _=>
 M.pure tm
theorem WT:RegEq 53 46 BT Jj Qi:=⟨by kernel_rfl,fun _ _ _ _ _ _ _ _ _=>by kernel_rfl⟩
def QU (E:Env)(call round:Aw)(tm:T Value):M (T Value):=
 M.bind (oS (T.get tm 21) fun a=>oS (some (.int .i64 1)) fun b=>Cl.get (aBin E .add 3 (.tmp 21) (.const (.int .i64 1))) a b) fun v43=>
 mv (some v43) fun v21=>
 setF 21 v21 tm fun tm1=>
 M.pure tm1
theorem KC_:RegEq 53 46 BT Hb QU:=⟨by kernel_rfl,fun _ _ _ _ _ _ _ _ _=>by kernel_rfl⟩
def Vj (E:Env)(call round:Aw)(tm:T Value):M (T Value):=
 mv (T.get tm 4) fun v38=>
 M.bind (oS (T.get tm 8) fun a=>kFld E 35 a 0) fun v39=>
 M.bind (oS (some v39) fun a=>A4 E 26 a) fun v40=>
 M.bind (oS (seqP [(0,(some v40))]) fun ps=>Cs E 69 1 ps) fun v41=>
 M.bind (oS (seqO [(some v38),(some v41)]) fun l=>Bi E .append [69,69] l) fun v42=>
 mv (some v42) fun v4=>
 setF 4 v4 tm fun tm1=>
 M.pure tm1
theorem Au_:RegEq 53 46 BT LK Vj:=⟨by kernel_rfl,fun _ _ _ _ _ _ _ _ _=>by kernel_rfl⟩
def B0:Nat:=BU Try.f51
abbrev J8:Nat:=56
def Qj:Code:=Try.f51.body.getD .skip
theorem Uz:envS.fn.get 51=some Try.f51:=by kernel_rfl
theorem Ar_ {a0 a1:Value}{n:Nat}{s:St}{Q:Value→St→Prop}(h: ∀tm,T.get tm 0=some a0→T.get tm 1=some a1→W (runF envS n ⟨51,56,B0,tm,[.code Qj], .run, .normal,none⟩) (s.cxN cxN) fun p s1=>Q p.1 (s1.cxN s.cx)):W (A2 envS (runF envS n) 51 [a0,a1]) s Q:=
 W.call (by kernel_rfl) (by kernel_rfl) Uz (by kernel_rfl) rfl rfl (by simp) (h _ (by kernel_rfl) (by kernel_rfl))
theorem Gr_:Try.f51.results.toList=[.tmp 4, .cell 5 35, .tmp 6]:=by kernel_rfl
def Li:List Item:=skim 64 [.code Qj]
def Kg:List Item:=skim 64 Li.tail
theorem W7:skim 64 Li.tail=Kg:=by kernel_rfl
def IY:List Item:=skim 64 Kg.tail
theorem Be_:skim 64 Kg.tail=IY:=by kernel_rfl
def GK:List Item:=skim 64 IY.tail
theorem YT:skim 64 IY.tail=GK:=by kernel_rfl
def GJ:List Item:=skim 64 GK.tail
theorem RA:skim 64 GK.tail=GJ:=by kernel_rfl
def KF:List Item:=skim 64 (brT GJ)
theorem Hc_:skim 64 (brT GJ)=KF:=by kernel_rfl
def GQ:List Item:=skim 64 (brF GJ)
theorem Ie_:skim 64 (brF GJ)=GQ:=by kernel_rfl
def Fq:List Item:=skim 64 KF.tail
theorem JI_:skim 64 KF.tail=Fq:=by kernel_rfl
def Md:List Item:=skim 64 GQ.tail
theorem Bf_:skim 64 GQ.tail=Md:=by kernel_rfl
def Fy:List Item:=skim 64 Fq.tail
theorem Uq:skim 64 Fq.tail=Fy:=by kernel_rfl
def Ip:List Item:=skim 64 (brT Fy)
theorem YD:skim 64 (brT Fy)=Ip:=by kernel_rfl
def IZ:List Item:=skim 64 (brF Fy)
theorem Hx_:skim 64 (brF Fy)=IZ:=by kernel_rfl
def Fv:List Item:=skim 64 Ip.tail
theorem QQ:skim 64 Ip.tail=Fv:=by kernel_rfl
theorem Ec_:skim 64 IZ.tail=GK:=by kernel_rfl
def Jk:List Item:=skim 64 (brT Fv)
theorem Yg:skim 64 (brT Fv)=Jk:=by kernel_rfl
def Ik:List Item:=skim 64 (brF Fv)
theorem Xt:skim 64 (brF Fv)=Ik:=by kernel_rfl
def KH:List Item:=skim 64 Jk.tail
theorem DP_:skim 64 Jk.tail=KH:=by kernel_rfl
theorem Jm_:skim 64 Ik.tail=Fq:=by kernel_rfl
def Me:List Item:=skim 64 KH.tail
theorem KZ_:skim 64 KH.tail=Me:=by kernel_rfl
theorem Gw_:skim 64 Me.tail=Ik:=by kernel_rfl
def Re (E:Env)(call round:Aw)(tm:T Value):M (T Value):=
 M.bind (oS (T.get tm 1) fun a=>kBox a) fun v3=>
 setF 3 v3 tm fun tm1=>
 mv (some (.int .i64 0)) fun v4=>
 setF 4 v4 tm1 fun tm2=>
 M.bind (BY E 35) fun v5=>
 setF 5 v5 tm2 fun tm3=>
 mv (some (.bool false)) fun v6=>
 setF 6 v6 tm3 fun tm4=>
 M.pure tm4
theorem FD_:RegEq 51 56 B0 Li Re:=⟨by kernel_rfl,fun _ _ _ _ _ _ _ _ _=>by kernel_rfl⟩
def OQ (E:Env)(call round:Aw)(tm:T Value):M (T Value):=
 M.bind (oS (seqP []) fun ps=>CI E 35 ps) fun v12=>
 M.bind (BY E 35) fun v8=>
 setF 8 v8 tm fun tm1=>
 mv (some (.int .i64 0)) fun v7=>
 setF 7 v7 tm1 fun tm2=>
 M.bind (oS (some v8) fun a=>oS (some v12) fun b=>BH E 35 a b) fun _=>
 mv (some (.bool false)) fun v9=>
 setF 9 v9 tm2 fun tm3=>
 M.pure tm3
theorem XC:RegEq 51 56 B0 Kg OQ:=⟨by kernel_rfl,fun _ _ _ _ _ _ _ _ _=>by kernel_rfl⟩
def U8 (E:Env)(call round:Aw)(tm:T Value):M (T Value):=
 mv (some (.int .i64 0)) fun v10=>
 setF 10 v10 tm fun tm1=>
 M.pure tm1
theorem EI_:RegEq 51 56 B0 IY U8:=⟨by kernel_rfl,fun _ _ _ _ _ _ _ _ _=>by kernel_rfl⟩
def L9 (E:Env)(call round:Aw)(tm:T Value):M (T Value):=
 mv (T.get tm 10) fun v13=>
 mv (T.get tm 0) fun v14=>
 M.bind (oS (seqO [(some v14)]) fun l=>Bi E .len [55] l) fun v15=>
 M.bind (oS (some v13) fun a=>oS (some v15) fun b=>Cl.get (aBin E .lss 3 (.tmp 13) (.tmp 15)) a b) fun v16=>
 setF 16 v16 tm fun tm1=>
 M.pure tm1
theorem SR:RegEq 51 56 B0 GK L9:=⟨by kernel_rfl,fun _ _ _ _ _ _ _ _ _=>by kernel_rfl⟩
theorem OF:BB GJ=some 16:=by kernel_rfl
def Pz (E:Env)(call round:Aw)(tm:T Value):M (T Value):=
 mv (some (.int .i64 0)) fun v11=>
 setF 11 v11 tm fun tm1=>
 M.pure tm1
theorem Wy:RegEq 51 56 B0 KF Pz:=⟨by kernel_rfl,fun _ _ _ _ _ _ _ _ _=>by kernel_rfl⟩
def SU (E:Env)(call round:Aw)(tm:T Value):M ((Rho×T Value)×List OpLog):=
 M.bind (apartO (oS (T.get tm 7) fun a=>M.pure a)) fun p0=>
 M.bind (apartO (oS (T.get tm 8) fun a=>A4 E 35 a)) fun p1=>
 M.bind (apartO (oS (T.get tm 9) fun a=>M.pure a)) fun p2=>
 M.bind (apartO (oS (some p0.1) fun a=>M.pure a)) fun p3=>
 setT 4 p3.1 tm fun tm1=>
 M.bind (apartO (oS (T.get tm1 5) fun a=>oS (some p1.1) fun b=>BH E 35 a b)) fun p4=>
 M.pure (([p3.1,p2.1,p1.1,p0.1],tm1),[p4.2,p3.2,p2.2,p1.2,p0.2])
theorem Bp_:DrawEq 51 56 B0 GQ [0,0,0,1,11,31] SU:=⟨by kernel_rfl,by kernel_rfl,fun _ _ _ _ _ _ _ _ _=>by kernel_rfl⟩
theorem Li_ (E:Env)(call round:Aw)(x53 x54 x55 x4:Value)(tm:T Value)(s:St):BJ call round (CP E B0 56 (hdC GQ)) [x4,x55,x54,x53] tm s=(M.bind (oS (some x55) fun a=>M.pure a) fun v6=>setT 6 v6 tm fun tm1=>M.pure tm1) s:=by kernel_rfl
def N5 (E:Env)(call round:Aw)(tm:T Value):M (T Value):=
 mv (T.get tm 11) fun v19=>
 mv (T.get tm 0) fun v20=>
 mv (T.get tm 10) fun v21=>
 M.bind (oS (some v20) fun a=>oS (some v21) fun b=>Bk E 55 a b) fun v22=>
 M.bind (oS (some v22) fun a=>kFld E 85 a 2) fun v23=>
 M.bind (oS (some v23) fun a=>A4 E 36 a) fun v24=>
 M.bind (oS (seqO [(some v24)]) fun l=>Bi E .len [36] l) fun v25=>
 M.bind (oS (some v19) fun a=>oS (some v25) fun b=>Cl.get (aBin E .lss 3 (.tmp 19) (.tmp 25)) a b) fun v26=>
 setF 26 v26 tm fun tm1=>
 M.pure tm1
theorem Om:RegEq 51 56 B0 Fq N5:=⟨by kernel_rfl,fun _ _ _ _ _ _ _ _ _=>by kernel_rfl⟩
theorem Iv_: ∃k,Md= .code .ret::k:=⟨Md.tail,by kernel_rfl⟩
theorem SW:BB Fy=some 26:=by kernel_rfl
def SA (E:Env)(call round:Aw)(tm:T Value):M ((Rho×T Value)×List OpLog):=
 M.bind (apartO (oS (T.get tm 0) fun a=>M.pure a)) fun p0=>
 M.bind (apartO (oS (T.get tm 10) fun a=>M.pure a)) fun p1=>
 M.bind (apartO (oS (some p0.1) fun a=>oS (some p1.1) fun b=>Bk E 55 a b)) fun p2=>
 M.bind (apartO (oS (some p2.1) fun a=>kFld E 85 a 2)) fun p3=>
 M.bind (apartO (oS (some p3.1) fun a=>A4 E 36 a)) fun p4=>
 M.bind (apartO (oS (T.get tm 11) fun a=>M.pure a)) fun p5=>
 M.bind (apartO (oS (some p4.1) fun a=>oS (some p5.1) fun b=>Bk E 36 a b)) fun p6=>
 M.bind (apartO (oS (some p6.1) fun a=>kFld E 35 a 0)) fun p7=>
 M.bind (apartO (oS (some p7.1) fun a=>A4 E 26 a)) fun p8=>
 M.bind (apartO (oS (T.get tm 3) fun a=>A4 E 26 a)) fun p9=>
 M.pure (([p9.1,p8.1,p7.1,p6.1,p5.1,p4.1,p3.1,p2.1,p1.1,p0.1],tm),[p9.2,p8.2,p7.2,p6.2,p5.2,p4.2,p3.2,p2.2,p1.2,p0.2])
theorem JO_:DrawEq 51 56 B0 Ip [0,0,3,7,15,0,63,127,255,0,1023] SA:=⟨by kernel_rfl,by kernel_rfl,fun _ _ _ _ _ _ _ _ _=>by kernel_rfl⟩
theorem KS_ (E:Env)(call round:Aw)(x29 x30 x31 x32 x33 x34 x35 x36 x37 x38:Value)(tm:T Value)(s:St):BJ call round (CP E B0 56 (hdC Ip)) [x38,x37,x36,x35,x34,x33,x32,x31,x30,x29] tm s=(M.bind (oS (some x37) fun a=>oS (some x38) fun b=>Cl.get (aBin E .eql 26 (.tmp 37) (.tmp 38)) a b) fun v39=>setT 39 v39 tm fun tm1=>M.pure tm1) s:=by kernel_rfl
def Rl (E:Env)(call round:Aw)(tm:T Value):M (T Value):=
 mv (T.get tm 10) fun v17=>
 M.bind (oS (some v17) fun a=>oS (some (.int .i64 1)) fun b=>Cl.get (aBin E .add 3 (.tmp 17) (.const (.int .i64 1))) a b) fun v18=>
 mv (some v18) fun v10=>
 setF 10 v10 tm fun tm1=>
 M.pure tm1
theorem Fa_:RegEq 51 56 B0 IZ Rl:=⟨by kernel_rfl,fun _ _ _ _ _ _ _ _ _=>by kernel_rfl⟩
theorem S3:BB Fv=some 39:=by kernel_rfl
def Ry (E:Env)(call round:Aw)(tm:T Value):M (T Value):=
 mv (T.get tm 0) fun v40=>
 mv (T.get tm 10) fun v41=>
 M.bind (oS (some v40) fun a=>oS (some v41) fun b=>Bk E 55 a b) fun v42=>
 M.bind (oS (some v42) fun a=>kFld E 85 a 0) fun v43=>
 M.bind (oS (some v43) fun a=>A4 E 3 a) fun v44=>
 mv (some v44) fun v7=>
 setF 7 v7 tm fun tm1=>
 M.pure tm1
theorem Az_:RegEq 51 56 B0 Jk Ry:=⟨by kernel_rfl,fun _ _ _ _ _ _ _ _ _=>by kernel_rfl⟩
def RW (E:Env)(call round:Aw)(tm:T Value):M (T Value):=
 mv (T.get tm 11) fun v27=>
 M.bind (oS (some v27) fun a=>oS (some (.int .i64 1)) fun b=>Cl.get (aBin E .add 3 (.tmp 27) (.const (.int .i64 1))) a b) fun v28=>
 mv (some v28) fun v11=>
 setF 11 v11 tm fun tm1=>
 M.pure tm1
theorem Ck_:RegEq 51 56 B0 Ik RW:=⟨by kernel_rfl,fun _ _ _ _ _ _ _ _ _=>by kernel_rfl⟩
def Ti (E:Env)(call round:Aw)(tm:T Value):M (T Value):=
 mv (T.get tm 0) fun v45=>
 mv (T.get tm 10) fun v46=>
 M.bind (oS (some v45) fun a=>oS (some v46) fun b=>Bk E 55 a b) fun v47=>
 M.bind (oS (some v47) fun a=>kFld E 85 a 2) fun v48=>
 M.bind (oS (some v48) fun a=>A4 E 36 a) fun v49=>
 mv (T.get tm 11) fun v50=>
 M.bind (oS (some v49) fun a=>oS (some v50) fun b=>Bk E 36 a b) fun v51=>
 M.bind (oS (some v51) fun a=>A4 E 35 a) fun v52=>
 M.bind (oS (T.get tm 8) fun a=>oS (some v52) fun b=>BH E 35 a b) fun _=>
 M.pure tm
theorem Gj_:RegEq 51 56 B0 KH Ti:=⟨by kernel_rfl,fun _ _ _ _ _ _ _ _ _=>by kernel_rfl⟩
def Sm (E:Env)(call round:Aw)(tm:T Value):M (T Value):=
 mv (some (.bool true)) fun v9=>
 setF 9 v9 tm fun tm1=>
 M.pure tm1
theorem AP_:RegEq 51 56 B0 Me Sm:=⟨by kernel_rfl,fun _ _ _ _ _ _ _ _ _=>by kernel_rfl⟩
def BM:Nat:=BU Try.f49
abbrev Gz:Nat:=63
def PX:Code:=Try.f49.body.getD .skip
theorem UT:envS.fn.get 49=some Try.f49:=by kernel_rfl
theorem AZ_ {a0:Value}{n:Nat}{s:St}{Q:Value→St→Prop}(h: ∀tm,T.get tm 0=some a0→W (runF envS n ⟨49,63,BM,tm,[.code PX], .run, .normal,none⟩) (s.cxN cxN) fun p s1=>Q p.1 (s1.cxN s.cx)):W (A2 envS (runF envS n) 49 [a0]) s Q:=
 W.call (by kernel_rfl) (by kernel_rfl) UT (by kernel_rfl) rfl rfl (by simp) (h _ (by kernel_rfl))
theorem FZ_:Try.f49.results.toList=[.tmp 2]:=by kernel_rfl
def LQ:List Item:=skim 64 [.code PX]
def Jx:List Item:=skim 64 LQ.tail
theorem VL:skim 64 LQ.tail=Jx:=by kernel_rfl
def JK:List Item:=skim 64 Jx.tail
theorem Hp_:skim 64 Jx.tail=JK:=by kernel_rfl
def Gx:List Item:=skim 64 JK.tail
theorem LO_:skim 64 JK.tail=Gx:=by kernel_rfl
def GL:List Item:=skim 64 Gx.tail
theorem OU:skim 64 Gx.tail=GL:=by kernel_rfl
def IA:List Item:=skim 64 (brT GL)
theorem KU_:skim 64 (brT GL)=IA:=by kernel_rfl
def Is:List Item:=skim 64 (brF GL)
theorem Xh:skim 64 (brF GL)=Is:=by kernel_rfl
def Fa:List Item:=skim 64 IA.tail
theorem Eu_:skim 64 IA.tail=Fa:=by kernel_rfl
def NW:List Item:=skim 64 Is.tail
theorem AO_:skim 64 Is.tail=NW:=by kernel_rfl
def FG:List Item:=skim 64 Fa.tail
theorem PQ:skim 64 Fa.tail=FG:=by kernel_rfl
def KK:List Item:=skim 64 (brT FG)
theorem KT_:skim 64 (brT FG)=KK:=by kernel_rfl
def Kc:List Item:=skim 64 (brF FG)
theorem Dc_:skim 64 (brF FG)=Kc:=by kernel_rfl
def KQ:List Item:=skim 64 KK.tail
theorem Gc_:skim 64 KK.tail=KQ:=by kernel_rfl
theorem BS_:skim 64 Kc.tail=Gx:=by kernel_rfl
def Fk:List Item:=skim 64 KQ.tail
theorem ET_:skim 64 KQ.tail=Fk:=by kernel_rfl
def F7:List Item:=skim 64 Fk.tail
theorem Mv:skim 64 Fk.tail=F7:=by kernel_rfl
def GV:List Item:=skim 64 (brT F7)
theorem WG:skim 64 (brT F7)=GV:=by kernel_rfl
def If:List Item:=skim 64 (brF F7)
theorem OT:skim 64 (brF F7)=If:=by kernel_rfl
def MO:List Item:=skim 64 GV.tail
theorem HT_:skim 64 GV.tail=MO:=by kernel_rfl
def GG:List Item:=skim 64 If.tail
theorem RI:skim 64 If.tail=GG:=by kernel_rfl
theorem YG:skim 64 MO.tail=Fk:=by kernel_rfl
def Nb:List Item:=skim 64 (brT GG)
theorem Zc:skim 64 (brT GG)=Nb:=by kernel_rfl
def Hn:List Item:=skim 64 (brF GG)
theorem Ky_:skim 64 (brF GG)=Hn:=by kernel_rfl
theorem VG:skim 64 Nb.tail=Hn:=by kernel_rfl
theorem DI_:skim 64 Hn.tail=Fa:=by kernel_rfl
def Sk (E:Env)(call round:Aw)(tm:T Value):M (T Value):=
 mv (some (.slice none 0 0)) fun v2=>
 setF 2 v2 tm fun tm1=>
 M.pure tm1
theorem Cg_:RegEq 49 63 BM LQ Sk:=⟨by kernel_rfl,fun _ _ _ _ _ _ _ _ _=>by kernel_rfl⟩
def TY (E:Env)(call round:Aw)(tm:T Value):M (T Value):=
 mv (some (.slice none 0 0)) fun v3=>
 setF 3 v3 tm fun tm1=>
 M.pure tm1
theorem CW_:RegEq 49 63 BM Jx TY:=⟨by kernel_rfl,fun _ _ _ _ _ _ _ _ _=>by kernel_rfl⟩
def Ru (E:Env)(call round:Aw)(tm:T Value):M (T Value):=
 mv (some (.int .i64 0)) fun v4=>
 setF 4 v4 tm fun tm1=>
 M.pure tm1
theorem AB_:RegEq 49 63 BM JK Ru:=⟨by kernel_rfl,fun _ _ _ _ _ _ _ _ _=>by kernel_rfl⟩
def NX (E:Env)(call round:Aw)(tm:T Value):M (T Value):=
 mv (T.get tm 4) fun v8=>
 mv (T.get tm 0) fun v9=>
 M.bind (oS (seqO [(some v9)]) fun l=>Bi E .len [55] l) fun v10=>
 M.bind (oS (some v8) fun a=>oS (some v10) fun b=>Cl.get (aBin E .lss 3 (.tmp 8) (.tmp 10)) a b) fun v11=>
 setF 11 v11 tm fun tm1=>
 M.pure tm1
theorem Rk:RegEq 49 63 BM Gx NX:=⟨by kernel_rfl,fun _ _ _ _ _ _ _ _ _=>by kernel_rfl⟩
theorem PH:BB GL=some 11:=by kernel_rfl
def Rm (E:Env)(call round:Aw)(tm:T Value):M (T Value):=
 mv (some (.int .i64 0)) fun v5=>
 setF 5 v5 tm fun tm1=>
 M.pure tm1
theorem GE_:RegEq 49 63 BM IA Rm:=⟨by kernel_rfl,fun _ _ _ _ _ _ _ _ _=>by kernel_rfl⟩
def Qd (E:Env)(call round:Aw)(tm:T Value):M (T Value):=
 mv (T.get tm 3) fun v62=>
 mv (some v62) fun v2=>
 setF 2 v2 tm fun tm1=>
 M.pure tm1
theorem Ct_:RegEq 49 63 BM Is Qd:=⟨by kernel_rfl,fun _ _ _ _ _ _ _ _ _=>by kernel_rfl⟩
def Ll (E:Env)(call round:Aw)(tm:T Value):M (T Value):=
 mv (T.get tm 5) fun v14=>
 mv (T.get tm 0) fun v15=>
 mv (T.get tm 4) fun v16=>
 M.bind (oS (some v15) fun a=>oS (some v16) fun b=>Bk E 55 a b) fun v17=>
 M.bind (oS (some v17) fun a=>kFld E 85 a 2) fun v18=>
 M.bind (oS (some v18) fun a=>A4 E 36 a) fun v19=>
 M.bind (oS (seqO [(some v19)]) fun l=>Bi E .len [36] l) fun v20=>
 M.bind (oS (some v14) fun a=>oS (some v20) fun b=>Cl.get (aBin E .lss 3 (.tmp 14) (.tmp 20)) a b) fun v21=>
 setF 21 v21 tm fun tm1=>
 M.pure tm1
theorem Q4:RegEq 49 63 BM Fa Ll:=⟨by kernel_rfl,fun _ _ _ _ _ _ _ _ _=>by kernel_rfl⟩
theorem Gg_: ∃k,NW= .code .ret::k:=⟨NW.tail,by kernel_rfl⟩
theorem QX:BB FG=some 21:=by kernel_rfl
def SG (E:Env)(call round:Aw)(tm:T Value):M (T Value):=
 mv (some (.bool false)) fun v6=>
 setF 6 v6 tm fun tm1=>
 M.pure tm1
theorem Ew_:RegEq 49 63 BM KK SG:=⟨by kernel_rfl,fun _ _ _ _ _ _ _ _ _=>by kernel_rfl⟩
def Sr (E:Env)(call round:Aw)(tm:T Value):M (T Value):=
 mv (T.get tm 4) fun v12=>
 M.bind (oS (some v12) fun a=>oS (some (.int .i64 1)) fun b=>Cl.get (aBin E .add 3 (.tmp 12) (.const (.int .i64 1))) a b) fun v13=>
 mv (some v13) fun v4=>
 setF 4 v4 tm fun tm1=>
 M.pure tm1
theorem HW_:RegEq 49 63 BM Kc Sr:=⟨by kernel_rfl,fun _ _ _ _ _ _ _ _ _=>by kernel_rfl⟩
def Rn (E:Env)(call round:Aw)(tm:T Value):M (T Value):=
 mv (some (.int .i64 0)) fun v7=>
 setF 7 v7 tm fun tm1=>
 M.pure tm1
theorem Ii_:RegEq 49 63 BM KQ Rn:=⟨by kernel_rfl,fun _ _ _ _ _ _ _ _ _=>by kernel_rfl⟩
def MJ (E:Env)(call round:Aw)(tm:T Value):M (T Value):=
 mv (T.get tm 7) fun v24=>
 mv (T.get tm 3) fun v25=>
 M.bind (oS (seqO [(some v25)]) fun l=>Bi E .len [69] l) fun v26=>
 M.bind (oS (some v24) fun a=>oS (some v26) fun b=>Cl.get (aBin E .lss 3 (.tmp 24) (.tmp 26)) a b) fun v27=>
 mv (some v27) fun v28=>
 M.bind (M.chk (isK v28) (M.if (isB v28 true) (oS (T.get tm 6) fun a=>M.pure a) (M.pure undef))) fun v29=>
 M.bind (M.chk (isK v28) (M.if (isB v28 true) (oS (some v29) fun a=>kUn E.P .not a) (M.pure undef))) fun v30=>
 M.bind (M.on (some v28) fun a=>M.on (some v30) fun b=>M.on (some (.bool false)) fun c=>B9 a b c) fun v31=>
 setF 31 v31 tm fun tm1=>
 M.pure tm1
theorem PK:RegEq 49 63 BM Fk MJ:=⟨by kernel_rfl,fun _ _ _ _ _ _ _ _ _=>by kernel_rfl⟩
theorem Lt:BB F7=some 31:=by kernel_rfl
def TG (E:Env)(call round:Aw)(tm:T Value):M ((Rho×T Value)×List OpLog):=
 M.bind (apartO (oS (T.get tm 3) fun a=>M.pure a)) fun p0=>
 M.bind (apartO (oS (T.get tm 7) fun a=>M.pure a)) fun p1=>
 M.bind (apartO (oS (some p0.1) fun a=>oS (some p1.1) fun b=>Bk E 69 a b)) fun p2=>
 M.bind (apartO (oS (some p2.1) fun a=>A4 E 26 a)) fun p3=>
 M.bind (apartO (oS (T.get tm 0) fun a=>M.pure a)) fun p4=>
 M.bind (apartO (oS (T.get tm 4) fun a=>M.pure a)) fun p5=>
 M.bind (apartO (oS (some p4.1) fun a=>oS (some p5.1) fun b=>Bk E 55 a b)) fun p6=>
 M.bind (apartO (oS (some p6.1) fun a=>kFld E 85 a 2)) fun p7=>
 M.bind (apartO (oS (some p7.1) fun a=>A4 E 36 a)) fun p8=>
 M.bind (apartO (oS (T.get tm 5) fun a=>M.pure a)) fun p9=>
 M.bind (apartO (oS (some p8.1) fun a=>oS (some p9.1) fun b=>Bk E 36 a b)) fun p10=>
 M.bind (apartO (oS (some p10.1) fun a=>kFld E 35 a 0)) fun p11=>
 M.bind (apartO (oS (some p11.1) fun a=>A4 E 26 a)) fun p12=>
 M.bind (apartO (oS (some p3.1) fun a=>oS (some p12.1) fun b=>Cl.get (aBin E .eql 26 (.tmp 37) (.tmp 46)) a b)) fun p13=>
 M.pure (([p13.1,p12.1,p11.1,p10.1,p9.1,p8.1,p7.1,p6.1,p5.1,p4.1,p3.1,p2.1,p1.1,p0.1],tm),[p13.2,p12.2,p11.2,p10.2,p9.2,p8.2,p7.2,p6.2,p5.2,p4.2,p3.2,p2.2,p1.2,p0.2])
theorem HB_:DrawEq 49 63 BM GV [0,0,3,7,0,0,48,112,240,0,1008,2032,4080,8191,16383] TG:=⟨by kernel_rfl,by kernel_rfl,fun _ _ _ _ _ _ _ _ _=>by kernel_rfl⟩
theorem Ad_ (E:Env)(call round:Aw)(x34 x35 x36 x37 x38 x39 x40 x41 x42 x43 x44 x45 x46 x47:Value)(tm:T Value)(s:St):BJ call round (CP E BM 63 (hdC GV)) [x47,x46,x45,x44,x43,x42,x41,x40,x39,x38,x37,x36,x35,x34] tm s=(M.bind (oS (some x47) fun a=>M.pure a) fun v6=>setT 6 v6 tm fun tm1=>M.pure tm1) s:=by kernel_rfl
def S1 (E:Env)(call round:Aw)(tm:T Value):M (T Value):=
 mv (T.get tm 6) fun v48=>
 M.bind (oS (some v48) fun a=>kUn E.P .not a) fun v49=>
 setF 49 v49 tm fun tm1=>
 M.pure tm1
theorem Ki_:RegEq 49 63 BM If S1:=⟨by kernel_rfl,fun _ _ _ _ _ _ _ _ _=>by kernel_rfl⟩
def T5 (E:Env)(call round:Aw)(tm:T Value):M (T Value):=
 mv (T.get tm 7) fun v32=>
 M.bind (oS (some v32) fun a=>oS (some (.int .i64 1)) fun b=>Cl.get (aBin E .add 3 (.tmp 32) (.const (.int .i64 1))) a b) fun v33=>
 mv (some v33) fun v7=>
 setF 7 v7 tm fun tm1=>
 M.pure tm1
theorem Lf_:RegEq 49 63 BM MO T5:=⟨by kernel_rfl,fun _ _ _ _ _ _ _ _ _=>by kernel_rfl⟩
theorem QO:BB GG=some 49:=by kernel_rfl
def Oj (E:Env)(call round:Aw)(tm:T Value):M (T Value):=
 mv (T.get tm 3) fun v50=>
 mv (T.get tm 0) fun v51=>
 mv (T.get tm 4) fun v52=>
 M.bind (oS (some v51) fun a=>oS (some v52) fun b=>Bk E 55 a b) fun v53=>
 M.bind (oS (some v53) fun a=>kFld E 85 a 2) fun v54=>
 M.bind (oS (some v54) fun a=>A4 E 36 a) fun v55=>
 mv (T.get tm 5) fun v56=>
 M.bind (oS (some v55) fun a=>oS (some v56) fun b=>Bk E 36 a b) fun v57=>
 M.bind (oS (some v57) fun a=>kFld E 35 a 0) fun v58=>
 M.bind (oS (some v58) fun a=>A4 E 26 a) fun v59=>
 M.bind (oS (seqP [(0,(some v59))]) fun ps=>Cs E 69 1 ps) fun v60=>
 M.bind (oS (seqO [(some v50),(some v60)]) fun l=>Bi E .append [69,69] l) fun v61=>
 mv (some v61) fun v3=>
 setF 3 v3 tm fun tm1=>
 M.pure tm1
theorem AY_:RegEq 49 63 BM Nb Oj:=⟨by kernel_rfl,fun _ _ _ _ _ _ _ _ _=>by kernel_rfl⟩
def Tj (E:Env)(call round:Aw)(tm:T Value):M (T Value):=
 mv (T.get tm 5) fun v22=>
 M.bind (oS (some v22) fun a=>oS (some (.int .i64 1)) fun b=>Cl.get (aBin E .add 3 (.tmp 22) (.const (.int .i64 1))) a b) fun v23=>
 mv (some v23) fun v5=>
 setF 5 v5 tm fun tm1=>
 M.pure tm1
theorem Wq:RegEq 49 63 BM Hn Tj:=⟨by kernel_rfl,fun _ _ _ _ _ _ _ _ _=>by kernel_rfl⟩
def MM:Nat:=BU Try.f99
def UE:Code:=Try.f99.body.getD .skip
theorem Qx:envS.fn.get 99=some Try.f99:=by kernel_rfl
theorem KR_ {a0:Value}{n:Nat}{s:St}{Q:Value→St→Prop}(h: ∀tm,T.get tm 0=some a0→W (runF envS n ⟨99,4,MM,tm,[.code UE], .run, .normal,none⟩) (s.cxN cxN) fun p s1=>Q p.1 (s1.cxN s.cx)):W (A2 envS (runF envS n) 99 [a0]) s Q:=
 W.call (by kernel_rfl) (by kernel_rfl) Qx (by kernel_rfl) rfl rfl (by simp) (h _ (by kernel_rfl))
theorem AT_:Try.f99.results.toList=[.tmp 2]:=by kernel_rfl
def Ns:List Item:=skim 64 [.code UE]
def Kp:List Item:=skim 64 Ns.tail
theorem KV_:skim 64 Ns.tail=Kp:=by kernel_rfl
def Ln:List Item:=skim 64 Kp.tail
theorem BI_:skim 64 Kp.tail=Ln:=by kernel_rfl
def Sh (E:Env)(call round:Aw)(tm:T Value):M (T Value):=
 M.bind (oS (T.get tm 0) fun a=>kBox a) fun v1=>
 setF 1 v1 tm fun tm1=>
 mv (some .nilFunc) fun v2=>
 setF 2 v2 tm1 fun tm2=>
 M.pure tm2
theorem Bg_:RegEq 99 4 MM Ns Sh:=⟨by kernel_rfl,fun _ _ _ _ _ _ _ _ _=>by kernel_rfl⟩
def RK (E:Env)(call round:Aw)(tm:T Value):M (T Value):=
 M.bind (oS (seqO []) fun a=>oS (seqO [(T.get tm 1)]) fun b=>M.pure (.func (.func 128) a.toArray b.toArray)) fun v3=>
 mv (some v3) fun v2=>
 setF 2 v2 tm fun tm1=>
 M.pure tm1
theorem Ll_:RegEq 99 4 MM Kp RK:=⟨by kernel_rfl,fun _ _ _ _ _ _ _ _ _=>by kernel_rfl⟩
theorem FR_: ∃k,Ln= .code .ret::k:=⟨Ln.tail,by kernel_rfl⟩
def NH:Nat:=BU Try.f100
def Tc:Code:=Try.f100.body.getD .skip
theorem Sj:envS.fn.get 100=some Try.f100:=by kernel_rfl
theorem FV_ {a0:Value}{n:Nat}{s:St}{Q:Value→St→Prop}(h: ∀tm,T.get tm 0=some a0→W (runF envS n ⟨100,4,NH,tm,[.code Tc], .run, .normal,none⟩) (s.cxN cxN) fun p s1=>Q p.1 (s1.cxN s.cx)):W (A2 envS (runF envS n) 100 [a0]) s Q:=
 W.call (by kernel_rfl) (by kernel_rfl) Sj (by kernel_rfl) rfl rfl (by simp) (h _ (by kernel_rfl))
theorem Ix_:Try.f100.results.toList=[.tmp 2]:=by kernel_rfl
def N4:List Item:=skim 64 [.code Tc]
def IM:List Item:=skim 64 N4.tail
theorem Wb:skim 64 N4.tail=IM:=by kernel_rfl
def NE:List Item:=skim 64 IM.tail
theorem Iz_:skim 64 IM.tail=NE:=by kernel_rfl
def Rs (E:Env)(call round:Aw)(tm:T Value):M (T Value):=
 M.bind (oS (T.get tm 0) fun a=>kBox a) fun v1=>
 setF 1 v1 tm fun tm1=>
 mv (some .nilFunc) fun v2=>
 setF 2 v2 tm1 fun tm2=>
 M.pure tm2
theorem Lm_:RegEq 100 4 NH N4 Rs:=⟨by kernel_rfl,fun _ _ _ _ _ _ _ _ _=>by kernel_rfl⟩
def TT (E:Env)(call round:Aw)(tm:T Value):M (T Value):=
 M.bind (oS (seqO []) fun a=>oS (seqO [(T.get tm 1)]) fun b=>M.pure (.func (.func 129) a.toArray b.toArray)) fun v3=>
 mv (some v3) fun v2=>
 setF 2 v2 tm fun tm1=>
 M.pure tm1
theorem Bm_:RegEq 100 4 NH IM TT:=⟨by kernel_rfl,fun _ _ _ _ _ _ _ _ _=>by kernel_rfl⟩
theorem Fr_: ∃k,NE= .code .ret::k:=⟨NE.tail,by kernel_rfl⟩
def Fm:Nat:=BU Try.f128
abbrev ZH:Nat:=19
def UL:Code:=Try.f128.body.getD .skip
theorem N7:envS.fn.get 128=some Try.f128:=by kernel_rfl
theorem Hz_ {a0 a1:Value}{n:Nat}{s:St}{Q:Value→St→Prop}(h: ∀tm,T.get tm 0=some a0→T.get tm 1=some a1→W (runF envS n ⟨128,19,Fm,tm,[.code UL], .run, .normal,none⟩) (s.cxN cxN) fun p s1=>Q p.1 (s1.cxN s.cx)):W (A2 envS (runF envS n) 128 [a0,a1]) s Q:=
 W.call (by kernel_rfl) (by kernel_rfl) N7 (by kernel_rfl) rfl rfl (by simp) (h _ (by kernel_rfl) (by kernel_rfl))
theorem RO:Try.f128.results.toList=[]:=by kernel_rfl
def M5:List Item:=skim 64 [.code UL]
def FT:List Item:=skim 64 M5.tail
theorem EZ_:skim 64 M5.tail=FT:=by kernel_rfl
def Fs:List Item:=skim 64 FT.tail
theorem UF:skim 64 FT.tail=Fs:=by kernel_rfl
def Jd:List Item:=skim 64 (brT Fs)
theorem KK_:skim 64 (brT Fs)=Jd:=by kernel_rfl
def LD_:List Item:=skim 64 (brF Fs)
theorem Kz_:skim 64 (brF Fs)=LD_:=by kernel_rfl
def Gd:List Item:=skim 64 Jd.tail
theorem Qs:skim 64 Jd.tail=Gd:=by kernel_rfl
def NY:List Item:=skim 64 (brT Gd)
theorem EK_:skim 64 (brT Gd)=NY:=by kernel_rfl
def MB:List Item:=skim 64 (brF Gd)
theorem Ag_:skim 64 (brF Gd)=MB:=by kernel_rfl
theorem ZN:skim 64 MB.tail=FT:=by kernel_rfl
def O6 (E:Env)(call round:Aw)(tm:T Value):M (T Value):=
 M.bind (oS (T.get tm 1) fun a=>A4 E 55 a) fun v4=>
 M.bind (oS (seqO [(some v4)]) fun l=>Bi E .len [55] l) fun v5=>
 M.bind (oS (some v5) fun a=>oS (some (.int .i64 1)) fun b=>Cl.get (aBin E .sub 3 (.tmp 5) (.const (.int .i64 1))) a b) fun v6=>
 mv (some v6) fun v3=>
 setF 3 v3 tm fun tm1=>
 M.pure tm1
theorem CY_:RegEq 128 19 Fm M5 O6:=⟨by kernel_rfl,fun _ _ _ _ _ _ _ _ _=>by kernel_rfl⟩
def ND (E:Env)(call round:Aw)(tm:T Value):M (T Value):=
 mv (T.get tm 3) fun v7=>
 M.bind (oS (some v7) fun a=>oS (some (.int .i64 0)) fun b=>Cl.get (aBin E .geq 3 (.tmp 7) (.const (.int .i64 0))) a b) fun v8=>
 setF 8 v8 tm fun tm1=>
 M.pure tm1
theorem Rc:RegEq 128 19 Fm FT ND:=⟨by kernel_rfl,fun _ _ _ _ _ _ _ _ _=>by kernel_rfl⟩
theorem O2:BB Fs=some 8:=by kernel_rfl
def Uc (E:Env)(call round:Aw)(tm:T Value):M (T Value):=
 mv (T.get tm 0) fun v11=>
 mv (T.get tm 3) fun v12=>
 M.bind (oS (T.get tm 1) fun a=>A4 E 55 a) fun v13=>
 mv (T.get tm 3) fun v14=>
 M.bind (oS (some v13) fun a=>oS (some v14) fun b=>Bk E 55 a b) fun v15=>
 M.bind (oS (some v15) fun a=>A4 E 85 a) fun v16=>
 M.bind (M.on (some v11) fun f=>M.on (seqO [(some v12),(some v16)]) fun l=>BP call round f l) fun v17=>
 M.bind (oS (some v17) fun a=>kUn E.P .not a) fun v18=>
 setF 18 v18 tm fun tm1=>
 M.pure tm1
theorem FP_:RegEq 128 19 Fm Jd Uc:=⟨by kernel_rfl,fun _ _ _ _ _ _ _ _ _=>by kernel_rfl⟩
theorem T3:BB Gd=some 18:=by kernel_rfl
theorem CU_: ∃k,NY= .code .ret::k:=⟨NY.tail,by kernel_rfl⟩
def UJ (E:Env)(call round:Aw)(tm:T Value):M (T Value):=
 mv (T.get tm 3) fun v9=>
 M.bind (oS (some v9) fun a=>oS (some (.int .i64 1)) fun b=>Cl.get (aBin E .sub 3 (.tmp 9) (.const (.int .i64 1))) a b) fun v10=>
 mv (some v10) fun v3=>
 setF 3 v3 tm fun tm1=>
 M.pure tm1
theorem EF_:RegEq 128 19 Fm MB UJ:=⟨by kernel_rfl,fun _ _ _ _ _ _ _ _ _=>by kernel_rfl⟩
def Fi:Nat:=BU Try.f129
abbrev Hn_:Nat:=19
def PS:Code:=Try.f129.body.getD .skip
theorem Oe:envS.fn.get 129=some Try.f129:=by kernel_rfl
theorem ZD {a0 a1:Value}{n:Nat}{s:St}{Q:Value→St→Prop}(h: ∀tm,T.get tm 0=some a0→T.get tm 1=some a1→W (runF envS n ⟨129,19,Fi,tm,[.code PS], .run, .normal,none⟩) (s.cxN cxN) fun p s1=>Q p.1 (s1.cxN s.cx)):W (A2 envS (runF envS n) 129 [a0,a1]) s Q:=
 W.call (by kernel_rfl) (by kernel_rfl) Oe (by kernel_rfl) rfl rfl (by simp) (h _ (by kernel_rfl) (by kernel_rfl))
theorem P0:Try.f129.results.toList=[]:=by kernel_rfl
def Mk:List Item:=skim 64 [.code PS]
def Fp:List Item:=skim 64 Mk.tail
theorem Fs_:skim 64 Mk.tail=Fp:=by kernel_rfl
def Gi:List Item:=skim 64 Fp.tail
theorem Sp:skim 64 Fp.tail=Gi:=by kernel_rfl
def JM:List Item:=skim 64 (brT Gi)
theorem Lg_:skim 64 (brT Gi)=JM:=by kernel_rfl
def Dj_:List Item:=skim 64 (brF Gi)
theorem IJ_:skim 64 (brF Gi)=Dj_:=by kernel_rfl
def Fc:List Item:=skim 64 JM.tail
theorem RD:skim 64 JM.tail=Fc:=by kernel_rfl
def Lo:List Item:=skim 64 (brT Fc)
theorem DF_:skim 64 (brT Fc)=Lo:=by kernel_rfl
def NB:List Item:=skim 64 (brF Fc)
theorem Cs_:skim 64 (brF Fc)=NB:=by kernel_rfl
theorem Fp_:skim 64 NB.tail=Fp:=by kernel_rfl
def Vh (E:Env)(call round:Aw)(tm:T Value):M (T Value):=
 M.bind (oS (T.get tm 1) fun a=>A4 E 36 a) fun v4=>
 M.bind (oS (seqO [(some v4)]) fun l=>Bi E .len [36] l) fun v5=>
 M.bind (oS (some v5) fun a=>oS (some (.int .i64 1)) fun b=>Cl.get (aBin E .sub 3 (.tmp 5) (.const (.int .i64 1))) a b) fun v6=>
 mv (some v6) fun v3=>
 setF 3 v3 tm fun tm1=>
 M.pure tm1
theorem GK_:RegEq 129 19 Fi Mk Vh:=⟨by kernel_rfl,fun _ _ _ _ _ _ _ _ _=>by kernel_rfl⟩
def Lk (E:Env)(call round:Aw)(tm:T Value):M (T Value):=
 mv (T.get tm 3) fun v7=>
 M.bind (oS (some v7) fun a=>oS (some (.int .i64 0)) fun b=>Cl.get (aBin E .geq 3 (.tmp 7) (.const (.int .i64 0))) a b) fun v8=>
 setF 8 v8 tm fun tm1=>
 M.pure tm1
theorem TA:RegEq 129 19 Fi Fp Lk:=⟨by kernel_rfl,fun _ _ _ _ _ _ _ _ _=>by kernel_rfl⟩
theorem Ol:BB Gi=some 8:=by kernel_rfl
def Pg (E:Env)(call round:Aw)(tm:T Value):M (T Value):=
 mv (T.get tm 0) fun v11=>
 mv (T.get tm 3) fun v12=>
 M.bind (oS (T.get tm 1) fun a=>A4 E 36 a) fun v13=>
 mv (T.get tm 3) fun v14=>
 M.bind (oS (some v13) fun a=>oS (some v14) fun b=>Bk E 36 a b) fun v15=>
 M.bind (oS (some v15) fun a=>A4 E 35 a) fun v16=>
 M.bind (M.on (some v11) fun f=>M.on (seqO [(some v12),(some v16)]) fun l=>BP call round f l) fun v17=>
 M.bind (oS (some v17) fun a=>kUn E.P .not a) fun v18=>
 setF 18 v18 tm fun tm1=>
 M.pure tm1
theorem Dt_:RegEq 129 19 Fi JM Pg:=⟨by kernel_rfl,fun _ _ _ _ _ _ _ _ _=>by kernel_rfl⟩
theorem PM:BB Fc=some 18:=by kernel_rfl
theorem GA_: ∃k,Lo= .code .ret::k:=⟨Lo.tail,by kernel_rfl⟩
def Vg (E:Env)(call round:Aw)(tm:T Value):M (T Value):=
 mv (T.get tm 3) fun v9=>
 M.bind (oS (some v9) fun a=>oS (some (.int .i64 1)) fun b=>Cl.get (aBin E .sub 3 (.tmp 9) (.const (.int .i64 1))) a b) fun v10=>
 mv (some v10) fun v3=>
 setF 3 v3 tm fun tm1=>
 M.pure tm1
theorem Lq_:RegEq 129 19 Fi NB Vg:=⟨by kernel_rfl,fun _ _ _ _ _ _ _ _ _=>by kernel_rfl⟩
def bigP (ps:List PkI)(k m:Nat):Bool:=decide (k<ps.length)||decide (m<Bw (ps.take (k+1)))
theorem Ul {N:Nat}: ∀{ps:List PkI},(∀p∈ps,p.hs.length≤N)→Bw ps≤ps.length*N
 |[],_=>Nat.zero_le _
 |p::ps,h=>by
  have h1:=h p (by simp)
  have h2:=Ul (ps:=ps) fun x hx=>h x (by simp[hx])
  have h3:Bw (p::ps)=p.hs.length+Bw ps:=by unfold Bw;rw[List.map_cons,List.sum_cons]
  rw[h3,List.length_cons,Nat.succ_mul]
  omega
section
variable {vp:Value}{ps:List PkI}{k m:Nat}{Q:Value×FrameMode→St→Prop}{s0:St}
theorem Iq_ (hb0:s0.lim≤s0.next)(hp:PkR s0 vp ps)(hz: ∀p∈ps,p.hs.length≤1048576)(hk:k≤1000)(hcx:s0.cx=cxN)(q: ∀s1,Ext Any Non s0 s1→Q (.bool (bigP ps k m), .run) s1):
  ∀(d i n:Nat) (tm:T Value) (s:St) (td:List Item),i+d=min ps.length (k+1)→10*d+20≤n→skim 64 td=Fx→Ext Any Non s0 s→
  T.get tm 0=some vp→T.get tm 1=some (.int .i64 (k:Nat))→T.get tm 2=some (.int .i64 (m:Nat))→T.get tm 7=some (.int .i64 (Bw (ps.take i):Nat))→T.get tm 8=some (.int .i64 (i:Nat))→
  W (runF envS n ⟨34,TX,Dx,tm,td, .run, .normal,none⟩) s Q:=by
 have tail: ∀(n':Nat) (tm:T Value) (s:St) (td:List Item),10≤n'→skim 64 td=Hz→Ext Any Non s0 s→T.get tm 0=some vp→T.get tm 1=some (.int .i64 (k:Nat))→T.get tm 2=some (.int .i64 (m:Nat))→T.get tm 7=some (.int .i64 (Bw (ps.take (k+1)):Nat))→W (runF envS n' ⟨34,TX,Dx,tm,td, .run, .normal,none⟩) s Q:=by
  intro n' tm s td hn hT hx h0 h1 h2 h7
  refine EP_.w hT (by omega) ?_
  simp only[Pt,Ac,W_oS,W_on,Aa,W_mv,Ab,Ag,T.get_set,Ae,Ad,Ak,Al,Af,Au,reduceIte,Ai,Aq,Av,As,Ah,Ap,Ao,Ar,Aj,An,Nat.reduceEqDiff,reduceCtorEq, ↓reduceIte,A8,Bb,A5,A9,Be,Ba,Bc,A6,h0,h1]
  rw[hp.len]
  try simp only[Ac,W_oS,W_on,Aa,W_mv,Ab,Ag,T.get_set,Ae,Ad,Ak,Al,Af,Au,reduceIte,Ai,Aq,Av,As,Ah,Ap,Ao,Ar,Aj,An,Nat.reduceEqDiff,reduceCtorEq, ↓reduceIte,A8,Bb,A5,A9,Be,Ba,Bc,A6]
  by_cases c1:k<ps.length
  ·have e1:decide (((k:Nat):Int)<((ps.length:Nat):Int))=true:=decide_eq_true (by omega)
   simp only[e1,Ac,W_oS,W_on,Aa,W_mv,Ab,Ag,T.get_set,Ae,Ad,Ak,Al,Af,Au,reduceIte,Ai,Aq,Av,As,Ah,Ap,Ao,Ar,Aj,An,Nat.reduceEqDiff,reduceCtorEq, ↓reduceIte]
   refine W.end' (rs:=[6]) (vs:=[.bool true]) Py (.inl QF) (by omega) Mr PG (hx.cx.trans hcx) (by simp[T.get_set]) ?_
   have:=q s hx
   unfold bigP at this
   rw[decide_eq_true c1,Bool.true_or]at this
   exact this
  ·have e1:decide (((k:Nat):Int)<((ps.length:Nat):Int))=false:=decide_eq_false (by omega)
   have e2:decide (((m:Nat):Int)<((Bw (ps.take (k+1)):Nat):Int))=decide (m<Bw (ps.take (k+1))):=by
    by_cases h:m<Bw (ps.take (k+1))
    ·rw[decide_eq_true h,decide_eq_true (by omega)]
    ·rw[decide_eq_false h,decide_eq_false (by omega)]
   simp only[e1,Ac,W_oS,W_on,Aa,W_mv,Ab,Ag,T.get_set,Ae,Ad,Ak,Al,Af,Au,reduceIte,Ai,Aq,Av,As,Ah,Ap,Ao,Ar,Aj,An,Nat.reduceEqDiff,reduceCtorEq, ↓reduceIte,A8,Bb,A5,A9,Be,Ba,Bc,A6,h2,h7,e2]
   refine W.end' (rs:=[6]) (vs:=[.bool (decide (m<Bw (ps.take (k+1))))]) Py (.inl QF) (by omega) Mr PG (hx.cx.trans hcx) (by simp[T.get_set]) ?_
   have:=q s hx
   unfold bigP at this
   rw[decide_eq_false c1,Bool.false_or]at this
   exact this
 intro d
 induction d with
 |zero=>
  intro i n tm s td hi hn hT hx h0 h1 h2 h7 h8
  have ht:ps.take i=ps.take (k+1):=by
   rcases Nat.lt_or_ge (k+1) ps.length with h|h
   ·rw[show i=k+1 by omega]
   ·rw[List.take_of_length_le (show ps.length≤i by omega),List.take_of_length_le h]
  rw[ht]at h7
  refine Pd.w hT (by omega) ?_
  simp only[Mh,Ac,W_oS,W_on,Aa,W_mv,Ab,Ag,T.get_set,Ae,Ad,Ak,Al,Af,Au,reduceIte,Ai,Aq,Av,As,Ah,Ap,Ao,Ar,Aj,An,Nat.reduceEqDiff,reduceCtorEq, ↓reduceIte,A8,Bb,A5,A9,Be,Ba,Bc,A6,h0,h8]
  rw[hp.len]
  try simp only[Ac,W_oS,W_on,Aa,W_mv,Ab,Ag,T.get_set,Ae,Ad,Ak,Al,Af,Au,reduceIte,Ai,Aq,Av,As,Ah,Ap,Ao,Ar,Aj,An,Nat.reduceEqDiff,reduceCtorEq, ↓reduceIte,A8,Bb,A5,A9,Be,Ba,Bc,A6]
  by_cases c1:i<ps.length
  ·have e1:decide (((i:Nat):Int)<((ps.length:Nat):Int))=true:=decide_eq_true (by omega)
   have e2:decide (((i:Nat):Int)≤((k:Nat):Int))=false:=decide_eq_false (by omega)
   simp only[e1,Ac,W_oS,W_on,Aa,W_mv,Ab,Ag,T.get_set,Ae,Ad,Ak,Al,Af,Au,reduceIte,Ai,Aq,Av,As,Ah,Ap,Ao,Ar,Aj,An,Nat.reduceEqDiff,reduceCtorEq, ↓reduceIte,A8,Bb,A5,A9,Be,Ba,Bc,A6,h1,h8,e2]
   refine W.cond (v:=false) Oi LU (by simp[T.get_set]) (by omega) (fun h=>by cases h) fun _=> ?_
   exact tail _ _ s _ (by omega) SN hx (by simp[T.get_set,h0]) (by simp[T.get_set,h1]) (by simp[T.get_set,h2]) (by simp[T.get_set,h7])
  ·have e1:decide (((i:Nat):Int)<((ps.length:Nat):Int))=false:=decide_eq_false (by omega)
   simp only[e1,Ac,W_oS,W_on,Aa,W_mv,Ab,Ag,T.get_set,Ae,Ad,Ak,Al,Af,Au,reduceIte,Ai,Aq,Av,As,Ah,Ap,Ao,Ar,Aj,An,Nat.reduceEqDiff,reduceCtorEq, ↓reduceIte]
   refine W.cond (v:=false) Oi LU (by simp[T.get_set]) (by omega) (fun h=>by cases h) fun _=> ?_
   exact tail _ _ s _ (by omega) SN hx (by simp[T.get_set,h0]) (by simp[T.get_set,h1]) (by simp[T.get_set,h2]) (by simp[T.get_set,h7])
 |succ d ih=>
  intro i n tm s td hi hn hT hx h0 h1 h2 h7 h8
  have hil:i<ps.length:=by omega
  obtain⟨b,o,c,ev,ga,gH,_,_,_⟩:=(hp.ext0 hx).at hil
  have e1:decide (((i:Nat):Int)<((ps.length:Nat):Int))=true:=decide_eq_true (by omega)
  have e2:decide (((i:Nat):Int)≤((k:Nat):Int))=true:=decide_eq_true (by omega)
  have hzi:=hz _ (List.getElem_mem hil)
  have htb:=Ul (ps:=ps.take i) (N:=1048576) fun f hf'=>hz f (List.mem_of_mem_take hf')
  have hti:(ps.take i).length≤1001:=by rw[List.length_take];omega
  have hm:(ps.take i).length*1048576≤1001*1048576:=Nat.mul_le_mul_right _ hti
  refine Pd.w hT (by omega) ?_
  simp only[Mh,Ac,W_oS,W_on,Aa,W_mv,Ab,Ag,T.get_set,Ae,Ad,Ak,Al,Af,Au,reduceIte,Ai,Aq,Av,As,Ah,Ap,Ao,Ar,Aj,An,Nat.reduceEqDiff,reduceCtorEq, ↓reduceIte,A8,Bb,A5,A9,Be,Ba,Bc,A6,h0,h8]
  rw[hp.len]
  simp only[Ac,W_oS,W_on,Aa,W_mv,Ab,Ag,T.get_set,Ae,Ad,Ak,Al,Af,Au,reduceIte,Ai,Aq,Av,As,Ah,Ap,Ao,Ar,Aj,An,Nat.reduceEqDiff,reduceCtorEq, ↓reduceIte,A8,Bb,A5,A9,Be,Ba,Bc,A6,e1,h1,h8,e2]
  refine W.cond (v:=true) Oi LU (by simp[T.get_set]) (by omega) (fun _=> ?_) fun h=>by cases h
  refine IX_.w Cx_ (by omega) ?_
  simp only[UB,Ac,W_oS,W_on,Aa,W_mv,Ab,Ag,T.get_set,Ae,Ad,Ak,Al,Af,Au,reduceIte,Ai,Aq,Av,As,Ah,Ap,Ao,Ar,Aj,An,Nat.reduceEqDiff,reduceCtorEq, ↓reduceIte,h0,ev,h7,h8,Bx BL hil,BE Cr (by decide)]
  refine W.load1 Cm (ga 2 _ rfl) ?_
  have x1:=hx.thenRd hb0 (b+(o+i*3+2))
  try simp only[Ac,W_oS,W_on,Aa,W_mv,Ab,Ag,T.get_set,Ae,Ad,Ak,Al,Af,Au,reduceIte,Ai,Aq,Av,As,Ah,Ap,Ao,Ar,Aj,An,Nat.reduceEqDiff,reduceCtorEq, ↓reduceIte]
  rw[gH.len]
  have es:wrap64 ((Bw (ps.take i):Nat)+(ps[i].hs.length:Nat):Int)=((Bw (ps.take (i+1)):Nat):Int):=by
   rw[B5 (by omega) (by omega),He hil];omega
  simp only[Ac,W_oS,W_on,Aa,W_mv,Ab,Ag,T.get_set,Ae,Ad,Ak,Al,Af,Au,reduceIte,Ai,Aq,Av,As,Ah,Ap,Ao,Ar,Aj,An,Nat.reduceEqDiff,reduceCtorEq, ↓reduceIte,A8,Bb,A5,A9,Be,Ba,Bc,A6,es]
  refine WA.w Wl (by omega) ?_
  have ei:wrap64 ((i:Nat)+1:Int)=((i+1:Nat):Int):=by
   rw[B5 (by omega) (by omega)];simp
  simp only[R5,Ac,W_oS,W_on,Aa,W_mv,Ab,Ag,T.get_set,Ae,Ad,Ak,Al,Af,Au,reduceIte,Ai,Aq,Av,As,Ah,Ap,Ao,Ar,Aj,An,Nat.reduceEqDiff,reduceCtorEq, ↓reduceIte,A8,Bb,A5,A9,Be,Ba,Bc,A6,h8,ei]
  exact ih (i+1) _ _ _ _ (by omega) (by omega) Xi x1 (by simp[T.get_set,h0,ev]) (by simp[T.get_set,h1]) (by simp[T.get_set,h2]) (by simp[T.get_set]) (by simp[T.get_set])
theorem Zm {n:Nat}{s:St}{Q:Value→St→Prop}(hb:s.lim≤s.next)(hp:PkR s vp ps)(hz: ∀p∈ps,p.hs.length≤1048576)(hk:k≤1000)(hn:10*k+100≤n)(q: ∀s1,Ext Any Non s s1→Q (.bool (bigP ps k m)) s1):W (A2 envS (runF envS n) 34 [vp, .int .i64 (k:Nat), .int .i64 (m:Nat)]) s Q:=by
 refine GS_ fun tm h0 h1 h2=> ?_
 refine Yp.w rfl (by omega) ?_
 simp only[PW,Ac,W_oS,W_on,Aa,W_mv,Ab,Ag,T.get_set,Ae,Ad,Ak,Al,Af,Au,reduceIte,Ai,Aq,Av,As,Ah,Ap,Ao,Ar,Aj,An,Nat.reduceEqDiff,reduceCtorEq, ↓reduceIte]
 refine FB_.w DN_ (by omega) ?_
 simp only[Tv,Ac,W_oS,W_on,Aa,W_mv,Ab,Ag,T.get_set,Ae,Ad,Ak,Al,Af,Au,reduceIte,Ai,Aq,Av,As,Ah,Ap,Ao,Ar,Aj,An,Nat.reduceEqDiff,reduceCtorEq, ↓reduceIte]
 refine X6.w VW (by omega) ?_
 simp only[Vt,Ac,W_oS,W_on,Aa,W_mv,Ab,Ag,T.get_set,Ae,Ad,Ak,Al,Af,Au,reduceIte,Ai,Aq,Av,As,Ah,Ap,Ao,Ar,Aj,An,Nat.reduceEqDiff,reduceCtorEq, ↓reduceIte]
 exact Iq_ (s0:=s.cxN cxN) hb (hp.same rfl rfl) hz hk rfl (fun s1 x1=>q _ x1.cx') (min ps.length (k+1)) 0 _ _ _ _ (by omega) (by omega) VV (Ext.refl _) (by simp[T.get_set,h0]) (by simp[T.get_set,h1]) (by simp[T.get_set,h2]) (by simp[T.get_set];rfl) (by simp[T.get_set])
end
def idCs:List (List Nat)→List Value
 |[]=>[]
 |x::l=>u8l x++idCs l
theorem LB: ∀{l:List (List Nat)},(∀x∈l,x.length=16)→(idCs l).length=l.length*16
 |[],_=>rfl
 |x::l,h=>by
  show(u8l x++idCs l).length=_
  rw[List.length_append,Bp,h x (by simp),LB fun y hy=>h y (by simp[hy]),List.length_cons]
  omega
theorem QL: ∀(l m:List (List Nat)),idCs (l++m)=idCs l++idCs m
 |[],_=>rfl
 |x::l,m=>by
  show u8l x++idCs (l++m)=(u8l x++idCs l)++idCs m
  rw[QL l m,List.append_assoc]
theorem Ou: ∀{l:List (List Nat)},(∀x∈l,x.length=16)→ ∀{i:Nat} (hi:i<l.length) {j:Nat} {v:Value},(u8l l[i])[j]?=some v→(idCs l)[i*16+j]?=some v
 |x::l,h,0,_,j,v,e=>by
  have e':(u8l x)[j]?=some v:=e
  show(u8l x++idCs l)[0*16+j]?=some v
  rw[Nat.zero_mul,Nat.zero_add,List.getElem?_append_left (List.getElem?_eq_some_iff.1 e').1]
  exact e'
 |x::l,h,i+1,hi,j,v,e=>by
  show(u8l x++idCs l)[(i+1)*16+j]?=some v
  have hx:(u8l x).length=16:=by rw[Bp];exact h x (by simp)
  rw[List.getElem?_append_right (by omega),hx,show(i+1)*16+j-16=i*16+j by omega]
  exact Ou (fun y hy=>h y (by simp[hy])) (by simpa using hi) e
structure IdR (s:St)(v:Value)(ids:List (List Nat)):Prop where
 row:(v= .slice none 0 0∧ids=[])∨ ∃b o c,v= .slice (some ⟨b,o,none⟩) ids.length c∧Row s b o (idCs ids)
 h16: ∀x∈ids,x.length=16
theorem IdR.same {s s':St}{v:Value}{ids:List (List Nat)}(h:IdR s v ids)(hm:s'.mem=s.mem)(hn:s'.next=s.next):IdR s' v ids:=by
 refine⟨?_,h.h16⟩
 rcases h.row with h|⟨b,o,c,h0,h3⟩
 ·exact .inl h
 ·exact .inr ⟨b,o,c,h0,fun i v e=>(h3 i v e).same hm hn⟩
theorem IdR.ext0 {F:Nat→Prop}{s s':St}{v:Value}{ids:List (List Nat)}(h:IdR s v ids)(x:Ext F Non s s'):IdR s' v ids:=by
 refine⟨?_,h.h16⟩
 rcases h.row with h|⟨b,o,c,h0,h3⟩
 ·exact .inl h
 ·exact .inr ⟨b,o,c,h0,h3.ext0 x⟩
theorem DP:slN envS 69=some 16:=by kernel_rfl
theorem IdR.len {s s':St}{v:Value}{ids:List (List Nat)}(h:IdR s v ids)(Q:Value→St→Prop):W (Bi envS .len [69] [v]) s' Q=Q (.int .i64 (ids.length:Nat)) s':=by
 rcases h.row with⟨rfl,rfl⟩|⟨b,o,c,rfl,_⟩
 ·exact Ck DP Q
 ·exact Ck DP Q
theorem IdR.at {s:St}{v:Value}{ids:List (List Nat)}(h:IdR s v ids){i:Nat}(hi:i<ids.length): ∃b o c,v= .slice (some ⟨b,o,none⟩) ids.length c∧Row s b (o+i*16) (u8l ids[i]):=by
 rcases h.row with⟨rfl,rfl⟩|⟨b,o,c,rfl,h3⟩
 ·simp at hi
 ·refine⟨b,o,c,rfl,fun j u e=> ?_⟩
  have:=h3 _ _ (Ou h.h16 hi e)
  rwa [show o+(i*16+j)=o+i*16+j by omega]at this
section
variable {va vb:Value}{ids:List (List Nat)}{Q:Value×FrameMode→St→Prop}{s0:St}
theorem Is_ (hb0:s0.lim≤s0.next)(ha:IdR s0 va ids)(hb:IdR s0 vb ids)(hl:ids.length≤1000000000)(hcx:s0.cx=cxN)(q: ∀s1,Ext Any Non s0 s1→Q (.bool true, .run) s1):
  ∀(d i n:Nat) (tm:T Value) (s:St) (td:List Item),i+d=ids.length→10*d+20≤n→skim 64 td=Fl→Ext Any Non s0 s→
  T.get tm 0=some va→T.get tm 1=some vb→T.get tm 5=some (.int .i64 (i:Nat))→
  W (runF envS n ⟨52,Kw_,Dn,tm,td, .run, .normal,none⟩) s Q:=by
 intro d
 induction d with
 |zero=>
  intro i n tm s td hi hn hT hx h0 h1 h5
  refine ST.w hT (by omega) ?_
  simp only[Ld,Ac,W_oS,W_on,Aa,W_mv,Ab,Ag,T.get_set,Ae,Ad,Ak,Al,Af,Au,reduceIte,Ai,Aq,Av,As,Ah,Ap,Ao,Ar,Aj,An,Nat.reduceEqDiff,reduceCtorEq, ↓reduceIte,A8,Bb,A5,A9,Be,Ba,Bc,A6,h0,h5]
  rw[ha.len]
  try simp only[Ac,W_oS,W_on,Aa,W_mv,Ab,Ag,T.get_set,Ae,Ad,Ak,Al,Af,Au,reduceIte,Ai,Aq,Av,As,Ah,Ap,Ao,Ar,Aj,An,Nat.reduceEqDiff,reduceCtorEq, ↓reduceIte,A8,Bb,A5,A9,Be,Ba,Bc,A6]
  refine W.cond (v:=false) OW Sg (by simp[T.get_set];omega) (by omega) (fun h=>by cases h) fun _=> ?_
  refine BH_.w VK (by omega) ?_
  simp only[RR,Ac,W_oS,W_on,Aa,W_mv,Ab,Ag,T.get_set,Ae,Ad,Ak,Al,Af,Au,reduceIte,Ai,Aq,Av,As,Ah,Ap,Ao,Ar,Aj,An,Nat.reduceEqDiff,reduceCtorEq, ↓reduceIte]
  exact W.end' (rs:=[4]) (vs:=[.bool true]) Df_ (.inl Zk) (by omega) TC Hy_ (hx.cx.trans hcx) (by simp[T.get_set]) (q s hx)
 |succ d ih=>
  intro i n tm s td hi hn hT hx h0 h1 h5
  have hil:i<ids.length:=by omega
  have h16:=ha.h16 _ (List.getElem_mem hil)
  obtain⟨b1,o1,c1,e1,g1⟩:=(ha.ext0 hx).at hil
  obtain⟨b2,o2,c2,e2,g2⟩:=(hb.ext0 hx).at hil
  refine ST.w hT (by omega) ?_
  simp only[Ld,Ac,W_oS,W_on,Aa,W_mv,Ab,Ag,T.get_set,Ae,Ad,Ak,Al,Af,Au,reduceIte,Ai,Aq,Av,As,Ah,Ap,Ao,Ar,Aj,An,Nat.reduceEqDiff,reduceCtorEq, ↓reduceIte,A8,Bb,A5,A9,Be,Ba,Bc,A6,h0,h5]
  rw[ha.len]
  try simp only[Ac,W_oS,W_on,Aa,W_mv,Ab,Ag,T.get_set,Ae,Ad,Ak,Al,Af,Au,reduceIte,Ai,Aq,Av,As,Ah,Ap,Ao,Ar,Aj,An,Nat.reduceEqDiff,reduceCtorEq, ↓reduceIte,A8,Bb,A5,A9,Be,Ba,Bc,A6]
  refine W.cond (v:=true) OW Sg (by simp[T.get_set];omega) (by omega) (fun _=> ?_) fun h=>by cases h
  refine XT.w HQ_ (by omega) ?_
  simp only[To,T.get_set,reduceIte,Nat.reduceEqDiff,h0,h1,h5,e1,e2,Dd,Mc,Ae,Ad,Af,B8]
  rw[W_dq fun s Q=>Bx (s:=s) DP hil Q]
  refine W.dloadA Cu (fun i v e=>(g1 i v e).same rfl rfl) (by rw[Bp];exact h16) fun mem1 rd1 hm1 hr1=> ?_
  subst hm1
  simp only[B8]
  rw[W_dq fun s Q=>Bx (s:=s) DP hil Q]
  refine W.dloadA Cu (fun i v e=>(g2 i v e).same rfl rfl) (by rw[Bp];exact h16) fun mem2 rd2 hm2 hr2=> ?_
  subst hm2
  rw[Aa]
  refine⟨H0 (by simp) (by simp), ?_⟩
  refine W.cast (BO_ _ _ _ _ _ _ _ _ _ _ _ _ _) ?_
  simp only[Ac,W_oS,W_on,Aa,W_mv,Ab,Ag,T.get_set,Ae,Ad,Ak,Al,Af,Au,reduceIte,Ai,Aq,Av,As,Ah,Ap,Ao,Ar,Aj,An,Nat.reduceEqDiff,reduceCtorEq, ↓reduceIte,IV_ FJ h16 h16,decide_true,Bool.not_true]
  refine W.cond (v:=false) Ac_ Id_ (by simp[T.get_set]) (by omega) (fun h=>by cases h) fun _=> ?_
  refine IQ_.w Bv_ (by omega) ?_
  have ei:wrap64 ((i:Nat)+1:Int)=((i+1:Nat):Int):=by
   rw[B5 (by omega) (by omega)];simp
  simp only[SO,Ac,W_oS,W_on,Aa,W_mv,Ab,Ag,T.get_set,Ae,Ad,Ak,Al,Af,Au,reduceIte,Ai,Aq,Av,As,Ah,Ap,Ao,Ar,Aj,An,Nat.reduceEqDiff,reduceCtorEq, ↓reduceIte,A8,Bb,A5,A9,Be,Ba,Bc,A6,h5,ei]
  exact ih (i+1) _ _ _ _ (by omega) (by omega) Jj_ (hx.then0 (Ext.draw (F:=Any) (Nat.le_refl _) (fun _ _=>rfl) (by simp) fun _ _ _ _ _=>trivial) hb0) (by simp[T.get_set,h0,e1]) (by simp[T.get_set,h1,e2]) (by simp[T.get_set])
theorem HM_ {n:Nat}{s:St}{Q:Value→St→Prop}(hb:s.lim≤s.next)(ha:IdR s va ids)(hv:IdR s vb ids)(hl:ids.length≤1000000000)(hn:10*ids.length+100≤n)(q: ∀s1,Ext Any Non s s1→Q (.bool true) s1):W (A2 envS (runF envS n) 52 [va,vb]) s Q:=by
 have eT:(!decide True)=false:=rfl
 refine Ye fun tm h0 h1=> ?_
 refine Ek_.w rfl (by omega) ?_
 simp only[Pe,Ac,W_oS,W_on,Aa,W_mv,Ab,Ag,T.get_set,Ae,Ad,Ak,Al,Af,Au,reduceIte,Ai,Aq,Av,As,Ah,Ap,Ao,Ar,Aj,An,Nat.reduceEqDiff,reduceCtorEq, ↓reduceIte]
 refine DD_.w DR_ (by omega) ?_
 simp only[Ui,Ac,W_oS,W_on,Aa,W_mv,Ab,Ag,T.get_set,Ae,Ad,Ak,Al,Af,Au,reduceIte,Ai,Aq,Av,As,Ah,Ap,Ao,Ar,Aj,An,Nat.reduceEqDiff,reduceCtorEq, ↓reduceIte,h0,h1]
 rw[ha.len]
 try simp only[Ac,W_oS,W_on,Aa,W_mv,Ab,Ag,T.get_set,Ae,Ad,Ak,Al,Af,Au,reduceIte,Ai,Aq,Av,As,Ah,Ap,Ao,Ar,Aj,An,Nat.reduceEqDiff,reduceCtorEq, ↓reduceIte,h1]
 rw[hv.len]
 simp only[Ac,W_oS,W_on,Aa,W_mv,Ab,Ag,T.get_set,Ae,Ad,Ak,Al,Af,Au,reduceIte,Ai,Aq,Av,As,Ah,Ap,Ao,Ar,Aj,An,Nat.reduceEqDiff,reduceCtorEq, ↓reduceIte,A8,Bb,A5,A9,Be,Ba,Bc,A6,eT]
 refine W.cond (v:=false) Hw_ Ze (by simp[T.get_set]) (by omega) (fun h=>by cases h) fun _=> ?_
 refine GQ_.w LJ_ (by omega) ?_
 simp only[U1,Ac,W_oS,W_on,Aa,W_mv,Ab,Ag,T.get_set,Ae,Ad,Ak,Al,Af,Au,reduceIte,Ai,Aq,Av,As,Ah,Ap,Ao,Ar,Aj,An,Nat.reduceEqDiff,reduceCtorEq, ↓reduceIte]
 exact Is_ (s0:=s.cxN cxN) hb (ha.same rfl rfl) (hv.same rfl rfl) hl rfl (fun s1 x1=>q _ x1.cx') ids.length 0 _ _ _ _ (by omega) (by omega) ZX (Ext.refl _) (by simp[T.get_set,h0]) (by simp[T.get_set,h1]) (by simp[T.get_set])
end
end Go.Proofs.Ytofanlcjeohcjaa.Am
end
