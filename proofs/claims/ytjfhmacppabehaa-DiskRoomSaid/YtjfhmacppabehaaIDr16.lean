import Derived.Test.YtjfhmacppabehaaIDr15
import Derived.Test.YtjfhmacppabehaaIDr08
import Derived.KernelRfl
noncomputable section
namespace Go.Proofs.Ytjfhmacppabehaa.Am
open Go.RowKit
def FT:Nat:=Bq Try.f21
def SX:Code:=Try.f21.body.getD .skip
theorem Ql:envS.fn.get 21=some Try.f21:=by kernel_rfl
theorem Yb {a0:Value}{n:Nat}{s:St}{Q:Value→St→Prop}(h: ∀tm,T.get tm 0=some a0→W (runF envS n ⟨21,16,FT,tm,[.code SX], .run, .normal,none⟩) (s.cxN cxN) fun p s1=>Q p.1 (s1.cxN s.cx)):W (As envS (runF envS n) 21 [a0]) s Q:=
 W.call (by kernel_rfl) (by kernel_rfl) Ql (by kernel_rfl) rfl rfl (by simp) (h _ (by kernel_rfl))
theorem IY_:Try.f21.results.toList=[.tmp 2, .tmp 3]:=by kernel_rfl
def MJ:List Item:=skim 64 [.code SX]
def Ia:List Item:=skim 64 MJ.tail
theorem WZ:skim 64 MJ.tail=Ia:=by kernel_rfl
def Jv:List Item:=skim 64 Ia.tail
theorem KY_:skim 64 Ia.tail=Jv:=by kernel_rfl
def Jb:List Item:=skim 64 Jv.tail
theorem X4:skim 64 Jv.tail=Jb:=by kernel_rfl
def Kk:List Item:=skim 64 Jb.tail
theorem BD_:skim 64 Jb.tail=Kk:=by kernel_rfl
def JD:List Item:=skim 64 (brF Kk)
theorem CE_:skim 64 (brF Kk)=JD:=by kernel_rfl
def NX:List Item:=skim 64 JD.tail
theorem MG_:skim 64 JD.tail=NX:=by kernel_rfl
def Sx (E:Env)(call round:Ac)(tm:T Value):M (T Value):=
 mv (some (.pointer none)) fun v2=>
 setF 2 v2 tm fun tm1=>
 mv (some (.int .i64 0)) fun v3=>
 setF 3 v3 tm1 fun tm2=>
 M.pure tm2
theorem Lt_:RegEq 21 16 FT MJ Sx:=⟨by kernel_rfl,fun _ _ _ _ _ _ _ _ _=>by kernel_rfl⟩
def S7 (E:Env)(call round:Ac)(tm:T Value):M (T Value):=
 M.bind (Cw) fun v6=>
 M.bind (oS (seqP [(0,(some (.bool true))),(1,(some v6))]) fun ps=>Cq E 75 ps) fun v7=>
 M.bind (oS (some v7) fun a=>kBox a) fun v8=>
 mv (some v8) fun v4=>
 setF 4 v4 tm fun tm1=>
 M.pure tm1
theorem XG:RegEq 21 16 FT Ia S7:=⟨by kernel_rfl,fun _ _ _ _ _ _ _ _ _=>by kernel_rfl⟩
def SK (E:Env)(call round:Ac)(tm:T Value):M (T Value):=
 mv (T.get tm 4) fun v9=>
 mv (T.get tm 0) fun v10=>
 M.bind (M.on (some (.func (.func 51) #[] #[])) fun f=>M.on (seqO [(some v9),(some v10)]) fun l=>A9 call round f l) fun v11=>
 mv (some v11) fun v5=>
 setF 5 v5 tm fun tm1=>
 M.pure tm1
theorem Ga_:RegEq 21 16 FT Jv SK:=⟨by kernel_rfl,fun _ _ _ _ _ _ _ _ _=>by kernel_rfl⟩
def QX (E:Env)(call round:Ac)(tm:T Value):M (T Value):=
 mv (T.get tm 5) fun v12=>
 M.bind (oS (some v12) fun a=>oS (some (.int .i64 0)) fun b=>Cl.get (aBin E .neq 27 (.tmp 12) (.const (.int .i64 0))) a b) fun v13=>
 setF 13 v13 tm fun tm1=>
 M.pure tm1
theorem Gb_:RegEq 21 16 FT Jb QX:=⟨by kernel_rfl,fun _ _ _ _ _ _ _ _ _=>by kernel_rfl⟩
theorem HZ_:Bb Kk=some 13:=by kernel_rfl
def Ve (E:Env)(call round:Ac)(tm:T Value):M (T Value):=
 mv (T.get tm 4) fun v15=>
 mv (some v15) fun v2=>
 setF 2 v2 tm fun tm1=>
 mv (some (.int .i64 0)) fun v3=>
 setF 3 v3 tm1 fun tm2=>
 M.pure tm2
theorem Ii_:RegEq 21 16 FT JD Ve:=⟨by kernel_rfl,fun _ _ _ _ _ _ _ _ _=>by kernel_rfl⟩
theorem Bk_: ∃k,NX= .code .ret::k:=⟨NX.tail,by kernel_rfl⟩
def EZ:Nat:=Bq Try.f51
def Ty:Code:=Try.f51.body.getD .skip
theorem PN:envS.fn.get 51=some Try.f51:=by kernel_rfl
theorem Xv {a0 a1:Value}{n:Nat}{s:St}{Q:Value→St→Prop}(h: ∀tm,T.get tm 0=some a0→T.get tm 1=some a1→W (runF envS n ⟨51,19,EZ,tm,[.code Ty], .run, .normal,none⟩) (s.cxN cxN) fun p s1=>Q p.1 (s1.cxN s.cx)):W (As envS (runF envS n) 51 [a0,a1]) s Q:=
 W.call (by kernel_rfl) (by kernel_rfl) PN (by kernel_rfl) rfl rfl (by simp) (h _ (by kernel_rfl) (by kernel_rfl))
theorem Bj_:Try.f51.results.toList=[.tmp 4]:=by kernel_rfl
def Lt:List Item:=skim 64 [.code Ty]
def Ki:List Item:=skim 64 Lt.tail
theorem Id_:skim 64 Lt.tail=Ki:=by kernel_rfl
def Il:List Item:=skim 64 Ki.tail
theorem Ey_:skim 64 Ki.tail=Il:=by kernel_rfl
def Iw:List Item:=skim 64 (brF Il)
theorem XA:skim 64 (brF Il)=Iw:=by kernel_rfl
def IU:List Item:=skim 64 Iw.tail
theorem CI_:skim 64 Iw.tail=IU:=by kernel_rfl
def IB:List Item:=skim 64 (brF IU)
theorem Mj_:skim 64 (brF IU)=IB:=by kernel_rfl
def Hu:List Item:=skim 64 IB.tail
theorem Zq:skim 64 IB.tail=Hu:=by kernel_rfl
def KV:List Item:=skim 64 Hu.tail
theorem FX_:skim 64 Hu.tail=KV:=by kernel_rfl
def Pb (E:Env)(call round:Ac)(tm:T Value):M (T Value):=
 mv (some (.int .i64 0)) fun v4=>
 setF 4 v4 tm fun tm1=>
 M.pure tm1
theorem ML_:RegEq 51 19 EZ Lt Pb:=⟨by kernel_rfl,fun _ _ _ _ _ _ _ _ _=>by kernel_rfl⟩
def Ui (E:Env)(call round:Ac)(tm:T Value):M (T Value):=
 mv (T.get tm 0) fun v6=>
 M.bind (M.on (some (.func (.func 40) #[] #[])) fun f=>M.on (seqO [(some v6)]) fun l=>A9 call round f l) fun v7=>
 mv (some v7) fun v5=>
 setF 5 v5 tm fun tm1=>
 M.pure tm1
theorem Mz_:RegEq 51 19 EZ Ki Ui:=⟨by kernel_rfl,fun _ _ _ _ _ _ _ _ _=>by kernel_rfl⟩
theorem FY_:Bb Il=some 5:=by kernel_rfl
def V8 (E:Env)(call round:Ac)(tm:T Value):M (T Value):=
 mv (T.get tm 1) fun v9=>
 M.bind (oS (some v9) fun a=>oS (some (.int .i64 0)) fun b=>Cl.get (aBin E .lss 3 (.tmp 9) (.const (.int .i64 0))) a b) fun v10=>
 mv (some v10) fun v11=>
 M.bind (M.chk (isK v11) (M.if (isB v11 false) (oS (T.get tm 1) fun a=>M.pure a) (M.pure undef))) fun v12=>
 M.bind (M.chk (isK v11) (M.if (isB v11 false) (oS (some v12) fun a=>oS (some (.int .i64 16777216)) fun b=>Cl.get (aBin E .gtr 3 (.tmp 12) (.const (.int .i64 16777216))) a b) (M.pure undef))) fun v13=>
 M.bind (M.on (some v11) fun a=>M.on (some (.bool true)) fun b=>M.on (some v13) fun c=>BC a b c) fun v14=>
 mv (some v14) fun v8=>
 setF 8 v8 tm fun tm1=>
 M.pure tm1
theorem FD_:RegEq 51 19 EZ Iw V8:=⟨by kernel_rfl,fun _ _ _ _ _ _ _ _ _=>by kernel_rfl⟩
theorem Xb:Bb IU=some 8:=by kernel_rfl
def Ps (E:Env)(call round:Ac)(tm:T Value):M (T Value):=
 mv (T.get tm 0) fun v15=>
 mv (T.get tm 1) fun v16=>
 M.bind (oS (some v15) fun a=>kNil a) fun v17=>
 M.bind (oS (some v17) fun a=>kFld E 75 a 2) fun v18=>
 M.bind (oS (some v18) fun a=>oS (some v16) fun b=>BU E 3 a b) fun _=>
 M.pure tm
theorem Ay_:RegEq 51 19 EZ IB Ps:=⟨by kernel_rfl,fun _ _ _ _ _ _ _ _ _=>by kernel_rfl⟩
def QT (E:Env)(call round:Ac)(tm:T Value):M (T Value):=
 mv (some (.int .i64 0)) fun v4=>
 setF 4 v4 tm fun tm1=>
 M.pure tm1
theorem DZ_:RegEq 51 19 EZ Hu QT:=⟨by kernel_rfl,fun _ _ _ _ _ _ _ _ _=>by kernel_rfl⟩
theorem MP_: ∃k,KV= .code .ret::k:=⟨KV.tail,by kernel_rfl⟩
def LY:Nat:=Bq Try.f40
def Th:Code:=Try.f40.body.getD .skip
theorem Ub:envS.fn.get 40=some Try.f40:=by kernel_rfl
theorem Ax_ {a0:Value}{n:Nat}{s:St}{Q:Value→St→Prop}(h: ∀tm,T.get tm 0=some a0→W (runF envS n ⟨40,12,LY,tm,[.code Th], .run, .normal,none⟩) (s.cxN cxN) fun p s1=>Q p.1 (s1.cxN s.cx)):W (As envS (runF envS n) 40 [a0]) s Q:=
 W.call (by kernel_rfl) (by kernel_rfl) Ub (by kernel_rfl) rfl rfl (by simp) (h _ (by kernel_rfl))
theorem ZC:Try.f40.results.toList=[.tmp 2]:=by kernel_rfl
def Om:List Item:=skim 64 [.code Th]
def JA:List Item:=skim 64 Om.tail
theorem ZT:skim 64 Om.tail=JA:=by kernel_rfl
def Lv:List Item:=skim 64 JA.tail
theorem JJ_:skim 64 JA.tail=Lv:=by kernel_rfl
def U0 (E:Env)(call round:Ac)(tm:T Value):M (T Value):=
 mv (some (.bool false)) fun v2=>
 setF 2 v2 tm fun tm1=>
 M.pure tm1
theorem Eu_:RegEq 40 12 LY Om U0:=⟨by kernel_rfl,fun _ _ _ _ _ _ _ _ _=>by kernel_rfl⟩
def VZ (E:Env)(call round:Ac)(tm:T Value):M (T Value):=
 mv (T.get tm 0) fun v3=>
 M.bind (oS (some v3) fun a=>oS (some (.pointer none)) fun b=>Cl.get (aBin E .eql 24 (.tmp 3) (.const (.pointer none))) a b) fun v4=>
 mv (some v4) fun v5=>
 M.bind (M.chk (isK v5) (M.if (isB v5 false) (oS (T.get tm 0) fun a=>M.pure a) (M.pure undef))) fun v6=>
 M.bind (M.chk (isK v5) (M.if (isB v5 false) (oS (some v6) fun a=>kNil a) (M.pure undef))) fun v7=>
 M.bind (M.chk (isK v5) (M.if (isB v5 false) (oS (some v7) fun a=>kFld E 75 a 0) (M.pure undef))) fun v8=>
 M.bind (M.chk (isK v5) (M.if (isB v5 false) (oS (some v8) fun a=>A3 E 4 a) (M.pure undef))) fun v9=>
 M.bind (M.chk (isK v5) (M.if (isB v5 false) (oS (some v9) fun a=>kUn E.P .not a) (M.pure undef))) fun v10=>
 M.bind (M.on (some v5) fun a=>M.on (some (.bool true)) fun b=>M.on (some v10) fun c=>BC a b c) fun v11=>
 mv (some v11) fun v2=>
 setF 2 v2 tm fun tm1=>
 M.pure tm1
theorem JO_:RegEq 40 12 LY JA VZ:=⟨by kernel_rfl,fun _ _ _ _ _ _ _ _ _=>by kernel_rfl⟩
theorem Dj_: ∃k,Lv= .code .ret::k:=⟨Lv.tail,by kernel_rfl⟩
def Fo:Nat:=Bq Try.f36
def TX:Code:=Try.f36.body.getD .skip
theorem Mb:envS.fn.get 36=some Try.f36:=by kernel_rfl
theorem ZD {a0:Value}{n:Nat}{s:St}{Q:Value→St→Prop}(h: ∀tm,T.get tm 0=some a0→W (runF envS n ⟨36,11,Fo,tm,[.code TX], .run, .normal,none⟩) (s.cxN cxN) fun p s1=>Q p.1 (s1.cxN s.cx)):W (As envS (runF envS n) 36 [a0]) s Q:=
 W.call (by kernel_rfl) (by kernel_rfl) Mb (by kernel_rfl) rfl rfl (by simp) (h _ (by kernel_rfl))
theorem Ra:Try.f36.results.toList=[.tmp 2]:=by kernel_rfl
def KR:List Item:=skim 64 [.code TX]
def Is:List Item:=skim 64 KR.tail
theorem La_:skim 64 KR.tail=Is:=by kernel_rfl
def G8:List Item:=skim 64 Is.tail
theorem Yp:skim 64 Is.tail=G8:=by kernel_rfl
def GL_:List Item:=skim 64 (brT G8)
def Iq:List Item:=skim 64 (brF G8)
theorem Aw_:skim 64 (brF G8)=Iq:=by kernel_rfl
def N2:List Item:=skim 64 GL_.tail
def E6:List Item:=skim 64 Iq.tail
theorem T1:skim 64 Iq.tail=E6:=by kernel_rfl
def Ll:List Item:=skim 64 (brT E6)
theorem KV_:skim 64 (brT E6)=Ll:=by kernel_rfl
def Ke:List Item:=skim 64 (brF E6)
theorem YF:skim 64 (brF E6)=Ke:=by kernel_rfl
theorem Hn_:skim 64 Ll.tail=N2:=by kernel_rfl
def OG:List Item:=skim 64 Ke.tail
theorem EA_:skim 64 Ke.tail=OG:=by kernel_rfl
def PW (E:Env)(call round:Ac)(tm:T Value):M (T Value):=
 mv (some (.int .i64 0)) fun v2=>
 setF 2 v2 tm fun tm1=>
 M.pure tm1
theorem ZS:RegEq 36 11 Fo KR PW:=⟨by kernel_rfl,fun _ _ _ _ _ _ _ _ _=>by kernel_rfl⟩
def Qy (E:Env)(call round:Ac)(tm:T Value):M (T Value):=
 mv (T.get tm 0) fun v4=>
 M.bind (M.on (some (.func (.func 40) #[] #[])) fun f=>M.on (seqO [(some v4)]) fun l=>A9 call round f l) fun v5=>
 mv (some v5) fun v3=>
 setF 3 v3 tm fun tm1=>
 M.pure tm1
theorem IF_:RegEq 36 11 Fo Is Qy:=⟨by kernel_rfl,fun _ _ _ _ _ _ _ _ _=>by kernel_rfl⟩
theorem Je_:Bb G8=some 3:=by kernel_rfl
def Sh (E:Env)(call round:Ac)(tm:T Value):M (T Value):=
 mv (T.get tm 0) fun v7=>
 M.bind (oS (some v7) fun a=>kNil a) fun v8=>
 M.bind (oS (some v8) fun a=>kFld E 75 a 6) fun v9=>
 M.bind (oS (some v9) fun a=>A3 E 4 a) fun v10=>
 mv (some v10) fun v6=>
 setF 6 v6 tm fun tm1=>
 M.pure tm1
theorem Ic_:RegEq 36 11 Fo Iq Sh:=⟨by kernel_rfl,fun _ _ _ _ _ _ _ _ _=>by kernel_rfl⟩
theorem AN_: ∃k,N2= .code .ret::k:=⟨N2.tail,by kernel_rfl⟩
theorem We:Bb E6=some 6:=by kernel_rfl
def TA (E:Env)(call round:Ac)(tm:T Value):M (T Value):=
 mv (some (.int .i64 10)) fun v2=>
 setF 2 v2 tm fun tm1=>
 M.pure tm1
theorem Wv:RegEq 36 11 Fo Ll TA:=⟨by kernel_rfl,fun _ _ _ _ _ _ _ _ _=>by kernel_rfl⟩
def Qn (E:Env)(call round:Ac)(tm:T Value):M (T Value):=
 mv (some (.int .i64 0)) fun v2=>
 setF 2 v2 tm fun tm1=>
 M.pure tm1
theorem Zi:RegEq 36 11 Fo Ke Qn:=⟨by kernel_rfl,fun _ _ _ _ _ _ _ _ _=>by kernel_rfl⟩
theorem BO_: ∃k,OG= .code .ret::k:=⟨OG.tail,by kernel_rfl⟩
def CC:Nat:=Bq Try.f38
abbrev CF_:Nat:=36
def S9:Code:=Try.f38.body.getD .skip
theorem Na:envS.fn.get 38=some Try.f38:=by kernel_rfl
theorem YH {a0 a1:Value}{n:Nat}{s:St}{Q:Value→St→Prop}(h: ∀tm,T.get tm 0=some a0→T.get tm 1=some a1→W (runF envS n ⟨38,36,CC,tm,[.code S9], .run, .normal,none⟩) (s.cxN cxN) fun p s1=>Q p.1 (s1.cxN s.cx)):W (As envS (runF envS n) 38 [a0,a1]) s Q:=
 W.call (by kernel_rfl) (by kernel_rfl) Na (by kernel_rfl) rfl rfl (by simp) (h _ (by kernel_rfl) (by kernel_rfl))
theorem OW:Try.f38.results.toList=[.tmp 4]:=by kernel_rfl
def K6:List Item:=skim 64 [.code S9]
def Kp:List Item:=skim 64 K6.tail
theorem ZG:skim 64 K6.tail=Kp:=by kernel_rfl
def FE:List Item:=skim 64 Kp.tail
theorem KP:skim 64 Kp.tail=FE:=by kernel_rfl
def JB:List Item:=skim 64 (brT FE)
theorem FV_:skim 64 (brT FE)=JB:=by kernel_rfl
def IF:List Item:=skim 64 (brF FE)
theorem Qt:skim 64 (brF FE)=IF:=by kernel_rfl
def It:List Item:=skim 64 JB.tail
theorem XZ:skim 64 JB.tail=It:=by kernel_rfl
def Fb:List Item:=skim 64 IF.tail
theorem RG:skim 64 IF.tail=Fb:=by kernel_rfl
def Lw:List Item:=skim 64 It.tail
theorem AW_:skim 64 It.tail=Lw:=by kernel_rfl
def LH:List Item:=skim 64 (brT Fb)
theorem BL_:skim 64 (brT Fb)=LH:=by kernel_rfl
def FX:List Item:=skim 64 (brF Fb)
theorem Ee_:skim 64 (brF Fb)=FX:=by kernel_rfl
theorem Mc_:skim 64 LH.tail=FX:=by kernel_rfl
def HV:List Item:=skim 64 FX.tail
theorem FS_:skim 64 FX.tail=HV:=by kernel_rfl
def HF:List Item:=skim 64 HV.tail
theorem GJ_:skim 64 HV.tail=HF:=by kernel_rfl
def MR:List Item:=skim 64 HF.tail
theorem Ed_:skim 64 HF.tail=MR:=by kernel_rfl
def SM (E:Env)(call round:Ac)(tm:T Value):M (T Value):=
 mv (some (.int .i64 0)) fun v4=>
 setF 4 v4 tm fun tm1=>
 M.pure tm1
theorem Bt_:RegEq 38 36 CC K6 SM:=⟨by kernel_rfl,fun _ _ _ _ _ _ _ _ _=>by kernel_rfl⟩
def Ri (E:Env)(call round:Ac)(tm:T Value):M (T Value):=
 mv (T.get tm 0) fun v5=>
 M.bind (oS (some v5) fun a=>kNil a) fun v6=>
 M.bind (oS (some v6) fun a=>kFld E 75 a 4) fun v7=>
 M.bind (oS (some v7) fun a=>A3 E 4 a) fun v8=>
 mv (some v8) fun v9=>
 M.bind (M.chk (isK v9) (M.if (isB v9 true) (oS (T.get tm 0) fun a=>M.pure a) (M.pure undef))) fun v10=>
 M.bind (M.chk (isK v9) (M.if (isB v9 true) (oS (some v10) fun a=>kNil a) (M.pure undef))) fun v11=>
 M.bind (M.chk (isK v9) (M.if (isB v9 true) (oS (some v11) fun a=>kFld E 75 a 5) (M.pure undef))) fun v12=>
 M.bind (M.chk (isK v9) (M.if (isB v9 true) (oS (some v12) fun a=>A3 E 3 a) (M.pure undef))) fun v13=>
 M.bind (M.chk (isK v9) (M.if (isB v9 true) (oS (some v13) fun a=>oS (some (.int .i64 0)) fun b=>Cl.get (aBin E .eql 3 (.tmp 13) (.const (.int .i64 0))) a b) (M.pure undef))) fun v14=>
 M.bind (M.on (some v9) fun a=>M.on (some v14) fun b=>M.on (some (.bool false)) fun c=>BC a b c) fun v15=>
 setF 15 v15 tm fun tm1=>
 M.pure tm1
theorem Da_:RegEq 38 36 CC Kp Ri:=⟨by kernel_rfl,fun _ _ _ _ _ _ _ _ _=>by kernel_rfl⟩
theorem Nh:Bb FE=some 15:=by kernel_rfl
def TV (E:Env)(call round:Ac)(tm:T Value):M (T Value):=
 mv (T.get tm 0) fun v16=>
 M.bind (oS (some v16) fun a=>kNil a) fun v17=>
 M.bind (oS (some v17) fun a=>kFld E 75 a 6) fun v18=>
 M.bind (oS (some v18) fun a=>oS (some (.bool true)) fun b=>BU E 4 a b) fun _=>
 M.pure tm
theorem Hw_:RegEq 38 36 CC JB TV:=⟨by kernel_rfl,fun _ _ _ _ _ _ _ _ _=>by kernel_rfl⟩
def NW (E:Env)(call round:Ac)(tm:T Value):M (T Value):=
 mv (T.get tm 0) fun v19=>
 M.bind (oS (some v19) fun a=>kNil a) fun v20=>
 M.bind (oS (some v20) fun a=>kFld E 75 a 4) fun v21=>
 M.bind (oS (some v21) fun a=>A3 E 4 a) fun v22=>
 setF 22 v22 tm fun tm1=>
 M.pure tm1
theorem Sa:RegEq 38 36 CC IF NW:=⟨by kernel_rfl,fun _ _ _ _ _ _ _ _ _=>by kernel_rfl⟩
def Pj (E:Env)(call round:Ac)(tm:T Value):M (T Value):=
 mv (some (.int .i64 10)) fun v4=>
 setF 4 v4 tm fun tm1=>
 M.pure tm1
theorem IV_:RegEq 38 36 CC It Pj:=⟨by kernel_rfl,fun _ _ _ _ _ _ _ _ _=>by kernel_rfl⟩
theorem UH:Bb Fb=some 22:=by kernel_rfl
theorem HU_: ∃k,Lw= .code .ret::k:=⟨Lw.tail,by kernel_rfl⟩
def RP (E:Env)(call round:Ac)(tm:T Value):M (T Value):=
 mv (T.get tm 0) fun v23=>
 M.bind (oS (some v23) fun a=>kNil a) fun v24=>
 M.bind (oS (some v24) fun a=>kFld E 75 a 5) fun v25=>
 M.bind (oS (some v25) fun a=>A3 E 3 a) fun v26=>
 M.bind (oS (some v26) fun a=>oS (some (.int .i64 1)) fun b=>Cl.get (aBin E .sub 3 (.tmp 26) (.const (.int .i64 1))) a b) fun v27=>
 M.bind (oS (some v23) fun a=>kNil a) fun v28=>
 M.bind (oS (some v28) fun a=>kFld E 75 a 5) fun v29=>
 M.bind (oS (some v29) fun a=>oS (some v27) fun b=>BU E 3 a b) fun _=>
 M.pure tm
theorem Ly_:RegEq 38 36 CC LH RP:=⟨by kernel_rfl,fun _ _ _ _ _ _ _ _ _=>by kernel_rfl⟩
def SE (E:Env)(call round:Ac)(tm:T Value):M (T Value):=
 mv (T.get tm 0) fun v30=>
 M.bind (oS (some v30) fun a=>kNil a) fun v31=>
 M.bind (oS (some v31) fun a=>kFld E 75 a 3) fun v32=>
 M.bind (M.on (some (.func (.func 69) #[] #[])) fun f=>M.on (seqO [(some v32),(some (.int .i64 1))]) fun l=>A9 call round f l) fun v33=>
 M.pure tm
theorem Xw:RegEq 38 36 CC FX SE:=⟨by kernel_rfl,fun _ _ _ _ _ _ _ _ _=>by kernel_rfl⟩
def Rj (E:Env)(call round:Ac)(tm:T Value):M (T Value):=
 mv (T.get tm 1) fun v34=>
 M.bind (M.on (some v34) fun f=>M.on (seqO []) fun l=>A9 call round f l) fun v35=>
 M.pure tm
theorem Yc:RegEq 38 36 CC HV Rj:=⟨by kernel_rfl,fun _ _ _ _ _ _ _ _ _=>by kernel_rfl⟩
def PR (E:Env)(call round:Ac)(tm:T Value):M (T Value):=
 mv (some (.int .i64 0)) fun v4=>
 setF 4 v4 tm fun tm1=>
 M.pure tm1
theorem CM_:RegEq 38 36 CC HF PR:=⟨by kernel_rfl,fun _ _ _ _ _ _ _ _ _=>by kernel_rfl⟩
theorem Me_: ∃k,MR= .code .ret::k:=⟨MR.tail,by kernel_rfl⟩
def HG:Nat:=Bq Try.f37
def RA:Code:=Try.f37.body.getD .skip
theorem UM:envS.fn.get 37=some Try.f37:=by kernel_rfl
theorem Am_ {a0:Value}{n:Nat}{s:St}{Q:Value→St→Prop}(h: ∀tm,T.get tm 0=some a0→W (runF envS n ⟨37,17,HG,tm,[.code RA], .run, .normal,none⟩) (s.cxN cxN) fun p s1=>Q p.1 (s1.cxN s.cx)):W (As envS (runF envS n) 37 [a0]) s Q:=
 W.call (by kernel_rfl) (by kernel_rfl) UM (by kernel_rfl) rfl rfl (by simp) (h _ (by kernel_rfl))
theorem MM_:Try.f37.results.toList=[.tmp 2]:=by kernel_rfl
def MY:List Item:=skim 64 [.code RA]
def IA:List Item:=skim 64 MY.tail
theorem HE_:skim 64 MY.tail=IA:=by kernel_rfl
def Hv:List Item:=skim 64 IA.tail
theorem Wy:skim 64 IA.tail=Hv:=by kernel_rfl
def LK:List Item:=skim 64 Hv.tail
theorem Bb_:skim 64 Hv.tail=LK:=by kernel_rfl
def OP (E:Env)(call round:Ac)(tm:T Value):M (T Value):=
 mv (some (.bool false)) fun v2=>
 setF 2 v2 tm fun tm1=>
 M.pure tm1
theorem Ab_:RegEq 37 17 HG MY OP:=⟨by kernel_rfl,fun _ _ _ _ _ _ _ _ _=>by kernel_rfl⟩
def Re (E:Env)(call round:Ac)(tm:T Value):M (T Value):=
 mv (T.get tm 0) fun v4=>
 M.bind (M.on (some (.func (.func 67) #[] #[])) fun f=>M.on (seqO [(some v4),(some (.func (.func 68) #[] #[]))]) fun l=>A9 call round f l) fun v5=>
 mv (some v5) fun v3=>
 setF 3 v3 tm fun tm1=>
 M.pure tm1
theorem Cm_:RegEq 37 17 HG IA Re:=⟨by kernel_rfl,fun _ _ _ _ _ _ _ _ _=>by kernel_rfl⟩
def Uv (E:Env)(call round:Ac)(tm:T Value):M (T Value):=
 mv (T.get tm 0) fun v6=>
 M.bind (oS (some v6) fun a=>oS (some (.string {data:= #[]})) fun b=>Cl.get (aBin E .neq 9 (.tmp 6) (.const (.string {data:= #[]}))) a b) fun v7=>
 mv (some v7) fun v8=>
 M.bind (M.chk (isK v8) (M.if (isB v8 true) (oS (T.get tm 0) fun a=>M.pure a) (M.pure undef))) fun v9=>
 M.bind (M.chk (isK v8) (M.if (isB v8 true) (oS (seqO [(some v9)]) fun l=>A6 E .len [9] l) (M.pure undef))) fun v10=>
 M.bind (M.chk (isK v8) (M.if (isB v8 true) (oS (some v10) fun a=>oS (some (.int .i64 60)) fun b=>Cl.get (aBin E .leq 3 (.tmp 10) (.const (.int .i64 60))) a b) (M.pure undef))) fun v11=>
 M.bind (M.on (some v8) fun a=>M.on (some v11) fun b=>M.on (some (.bool false)) fun c=>BC a b c) fun v12=>
 mv (some v12) fun v13=>
 M.bind (M.chk (isK v13) (M.if (isB v13 true) (oS (T.get tm 3) fun a=>M.pure a) (M.pure undef))) fun v14=>
 M.bind (M.chk (isK v13) (M.if (isB v13 true) (oS (some v14) fun a=>kUn E.P .not a) (M.pure undef))) fun v15=>
 M.bind (M.on (some v13) fun a=>M.on (some v15) fun b=>M.on (some (.bool false)) fun c=>BC a b c) fun v16=>
 mv (some v16) fun v2=>
 setF 2 v2 tm fun tm1=>
 M.pure tm1
theorem EF_:RegEq 37 17 HG Hv Uv:=⟨by kernel_rfl,fun _ _ _ _ _ _ _ _ _=>by kernel_rfl⟩
theorem ET_: ∃k,LK= .code .ret::k:=⟨LK.tail,by kernel_rfl⟩
def Ca:Nat:=Bq Try.f9
abbrev Zn:Nat:=48
def Vt:Code:=Try.f9.body.getD .skip
theorem Gg:envS.fn.get 9=some Try.f9:=by kernel_rfl
theorem HO_ {a0 a1 a2:Value}{n:Nat}{s:St}{Q:Value→St→Prop}(h: ∀tm,T.get tm 0=some a0→T.get tm 1=some a1→T.get tm 2=some a2→W (runF envS n ⟨9,48,Ca,tm,[.code Vt], .run, .normal,none⟩) (s.cxN cxN) fun p s1=>Q p.1 (s1.cxN s.cx)):W (As envS (runF envS n) 9 [a0,a1,a2]) s Q:=
 W.call (by kernel_rfl) (by kernel_rfl) Gg (by kernel_rfl) rfl rfl (by simp) (h _ (by kernel_rfl) (by kernel_rfl) (by kernel_rfl))
theorem I4:Try.f9.results.toList=[.tmp 6]:=by kernel_rfl
def Lq:List Item:=skim 64 [.code Vt]
def Js:List Item:=skim 64 Lq.tail
theorem At_:skim 64 Lq.tail=Js:=by kernel_rfl
def JI:List Item:=skim 64 Js.tail
theorem Ct_:skim 64 Js.tail=JI:=by kernel_rfl
def F1:List Item:=skim 64 JI.tail
theorem O9:skim 64 JI.tail=F1:=by kernel_rfl
def JC:List Item:=skim 64 (brT F1)
theorem Gg_:skim 64 (brT F1)=JC:=by kernel_rfl
def GY:List Item:=skim 64 (brF F1)
theorem Kg_:skim 64 (brF F1)=GY:=by kernel_rfl
def Ol:List Item:=skim 64 JC.tail
theorem Ge_:skim 64 JC.tail=Ol:=by kernel_rfl
def J5:List Item:=skim 64 GY.tail
theorem AB_:skim 64 GY.tail=J5:=by kernel_rfl
def Gx:List Item:=skim 64 J5.tail
theorem Bf_:skim 64 J5.tail=Gx:=by kernel_rfl
def Fl_:List Item:=skim 64 (brT Gx)
def HQ:List Item:=skim 64 (brF Gx)
theorem Jz_:skim 64 (brF Gx)=HQ:=by kernel_rfl
def M9:List Item:=skim 64 Fl_.tail
def Gh:List Item:=skim 64 HQ.tail
theorem So:skim 64 HQ.tail=Gh:=by kernel_rfl
def E2:List Item:=skim 64 (brT Gh)
def G1:List Item:=skim 64 (brF Gh)
theorem Tt:skim 64 (brF Gh)=G1:=by kernel_rfl
def Mu:List Item:=skim 64 (brT E2)
theorem Eo_:skim 64 (brT E2)=Mu:=by kernel_rfl
def Ja:List Item:=skim 64 (brF E2)
theorem EC_:skim 64 (brF E2)=Ja:=by kernel_rfl
theorem Pf:skim 64 G1.tail=E2:=by kernel_rfl
theorem Ws:skim 64 Mu.tail=M9:=by kernel_rfl
def Lh:List Item:=skim 64 Ja.tail
theorem OT:skim 64 Ja.tail=Lh:=by kernel_rfl
def U5 (E:Env)(call round:Ac)(tm:T Value):M (T Value):=
 M.bind (oS (T.get tm 0) fun a=>kBox a) fun v3=>
 setF 3 v3 tm fun tm1=>
 M.bind (oS (T.get tm1 1) fun a=>kBox a) fun v4=>
 setF 4 v4 tm1 fun tm2=>
 M.bind (oS (T.get tm2 2) fun a=>kBox a) fun v5=>
 setF 5 v5 tm2 fun tm3=>
 mv (some (.int .i64 0)) fun v6=>
 setF 6 v6 tm3 fun tm4=>
 M.pure tm4
theorem GS_:RegEq 9 48 Ca Lq U5:=⟨by kernel_rfl,fun _ _ _ _ _ _ _ _ _=>by kernel_rfl⟩
def RF (E:Env)(call round:Ac)(tm:T Value):M (T Value):=
 M.bind (oS (T.get tm 3) fun a=>A3 E 24 a) fun v9=>
 M.bind (M.on (some (.func (.func 36) #[] #[])) fun f=>M.on (seqO [(some v9)]) fun l=>A9 call round f l) fun v10=>
 mv (some v10) fun v7=>
 setF 7 v7 tm fun tm1=>
 M.pure tm1
theorem JQ_:RegEq 9 48 Ca Js RF:=⟨by kernel_rfl,fun _ _ _ _ _ _ _ _ _=>by kernel_rfl⟩
def Nw (E:Env)(call round:Ac)(tm:T Value):M (T Value):=
 mv (T.get tm 7) fun v11=>
 M.bind (oS (some v11) fun a=>oS (some (.int .i64 0)) fun b=>Cl.get (aBin E .neq 27 (.tmp 11) (.const (.int .i64 0))) a b) fun v12=>
 setF 12 v12 tm fun tm1=>
 M.pure tm1
theorem Gs_:RegEq 9 48 Ca JI Nw:=⟨by kernel_rfl,fun _ _ _ _ _ _ _ _ _=>by kernel_rfl⟩
theorem Sw:Bb F1=some 12:=by kernel_rfl
def Pk (E:Env)(call round:Ac)(tm:T Value):M (T Value):=
 mv (T.get tm 7) fun v13=>
 mv (some v13) fun v6=>
 setF 6 v6 tm fun tm1=>
 M.pure tm1
theorem HL_:RegEq 9 48 Ca JC Pk:=⟨by kernel_rfl,fun _ _ _ _ _ _ _ _ _=>by kernel_rfl⟩
def Pn (E:Env)(call round:Ac)(tm:T Value):M ((Rho×T Value)×List OpLog):=
 M.bind (apartO (oS (T.get tm 3) fun a=>A3 E 24 a)) fun p0=>
 M.bind (apartO (oS (some p0.1) fun a=>kNil a)) fun p1=>
 M.bind (apartO (oS (some p1.1) fun a=>kFld E 75 a 1)) fun p2=>
 M.bind (apartO (oS (some p2.1) fun a=>A3 E 68 a)) fun p3=>
 M.bind (apartO (oS (T.get tm 4) fun a=>A3 E 9 a)) fun p4=>
 M.bind (apartO (oS (some p3.1) fun a=>oS (some p4.1) fun b=>CH E 68 false a b)) fun p5=>
 M.bind (apartO (Db E 67)) fun p6=>
 setT 8 p6.1 tm fun tm1=>
 M.pure (([p6.1,p5.1,p4.1,p3.1,p2.1,p1.1,p0.1],tm1),[p6.2,p5.2,p4.2,p3.2,p2.2,p1.2,p0.2])
theorem De_:DrawEq 9 48 Ca GY [0,1,3,7,0,31,0,127] Pn:=⟨by kernel_rfl,by kernel_rfl,fun _ _ _ _ _ _ _ _ _=>by kernel_rfl⟩
theorem BM_ (E:Env)(call round:Ac)(x14 x15 x16 x17 x18 x19 x8:Value)(tm:T Value)(s:St):By call round (Cn E Ca 48 (hdC GY)) [x8,x19,x18,x17,x16,x15,x14] tm s=(M.bind (oS (some x8) fun a=>oS (some x19) fun b=>BU E 67 a b) fun _=>M.pure tm) s:=by kernel_rfl
theorem Zo: ∃k,Ol= .code .ret::k:=⟨Ol.tail,by kernel_rfl⟩
def Rt (E:Env)(call round:Ac)(tm:T Value):M (T Value):=
 M.bind (oS (T.get tm 4) fun a=>A3 E 9 a) fun v21=>
 M.bind (M.on (some (.func (.func 37) #[] #[])) fun f=>M.on (seqO [(some v21)]) fun l=>A9 call round f l) fun v22=>
 M.bind (oS (some v22) fun a=>kUn E.P .not a) fun v23=>
 mv (some v23) fun v20=>
 setF 20 v20 tm fun tm1=>
 M.pure tm1
theorem EY_:RegEq 9 48 Ca J5 Rt:=⟨by kernel_rfl,fun _ _ _ _ _ _ _ _ _=>by kernel_rfl⟩
theorem JF_:Bb Gx=some 20:=by kernel_rfl
def Rq (E:Env)(call round:Ac)(tm:T Value):M (T Value):=
 M.bind (oS (T.get tm 8) fun a=>A3 E 67 a) fun v25=>
 M.bind (oS (some v25) fun a=>oS (some (.pointer none)) fun b=>Cl.get (aBin E .eql 67 (.tmp 25) (.const (.pointer none))) a b) fun v26=>
 mv (some v26) fun v27=>
 M.bind (M.chk (isK v27) (M.if (isB v27 true) (oS (T.get tm 3) fun a=>A3 E 24 a) (M.pure undef))) fun v28=>
 M.bind (M.chk (isK v27) (M.if (isB v27 true) (oS (some v28) fun a=>kNil a) (M.pure undef))) fun v29=>
 M.bind (M.chk (isK v27) (M.if (isB v27 true) (oS (some v29) fun a=>kFld E 75 a 1) (M.pure undef))) fun v30=>
 M.bind (M.chk (isK v27) (M.if (isB v27 true) (oS (some v30) fun a=>A3 E 68 a) (M.pure undef))) fun v31=>
 M.bind (M.chk (isK v27) (M.if (isB v27 true) (oS (seqO [(some v31)]) fun l=>A6 E .len [68] l) (M.pure undef))) fun v32=>
 M.bind (M.chk (isK v27) (M.if (isB v27 true) (oS (some v32) fun a=>oS (some (.int .i64 1000)) fun b=>Cl.get (aBin E .geq 3 (.tmp 32) (.const (.int .i64 1000))) a b) (M.pure undef))) fun v33=>
 M.bind (M.on (some v27) fun a=>M.on (some v33) fun b=>M.on (some (.bool false)) fun c=>BC a b c) fun v34=>
 mv (some v34) fun v24=>
 setF 24 v24 tm fun tm1=>
 M.pure tm1
theorem Dw_:RegEq 9 48 Ca HQ Rq:=⟨by kernel_rfl,fun _ _ _ _ _ _ _ _ _=>by kernel_rfl⟩
theorem ZE: ∃k,M9= .code .ret::k:=⟨M9.tail,by kernel_rfl⟩
theorem UJ:Bb Gh=some 24:=by kernel_rfl
theorem UB:Bb E2=some 24:=by kernel_rfl
def R5 (E:Env)(call round:Ac)(tm:T Value):M ((Rho×T Value)×List OpLog):=
 M.bind (apartO (oS (T.get tm 3) fun a=>A3 E 24 a)) fun p0=>
 M.bind (apartO (M.on (some (.func (.func 10) #[] #[])) fun f=>M.on (seqO [(some p0.1)]) fun l=>A9 call round f l)) fun p1=>
 M.bind (apartO (oS (T.get tm 5) fun a=>A3 E 26 a)) fun p2=>
 M.bind (apartO (oS (seqO [(some p2.1)]) fun l=>A6 E .len [26] l)) fun p3=>
 M.bind (apartO (oS (some p1.1) fun a=>oS (some p3.1) fun b=>Cl.get (aBin E .add 3 (.tmp 36) (.tmp 38)) a b)) fun p4=>
 M.bind (apartO (oS (T.get tm 3) fun a=>A3 E 24 a)) fun p5=>
 M.bind (apartO (oS (some p5.1) fun a=>kNil a)) fun p6=>
 M.bind (apartO (oS (some p6.1) fun a=>kFld E 75 a 2)) fun p7=>
 M.bind (apartO (oS (some p7.1) fun a=>A3 E 3 a)) fun p8=>
 M.bind (apartO (oS (some p4.1) fun a=>oS (some p8.1) fun b=>Cl.get (aBin E .gtr 3 (.tmp 39) (.tmp 43)) a b)) fun p9=>
 M.pure (([p9.1,p8.1,p7.1,p6.1,p5.1,p4.1,p3.1,p2.1,p1.1,p0.1],tm),[p9.2,p8.2,p7.2,p6.2,p5.2,p4.2,p3.2,p2.2,p1.2,p0.2])
theorem KX_:DrawEq 9 48 Ca G1 [0,1,0,4,15,0,32,96,224,511,1023] R5:=⟨by kernel_rfl,by kernel_rfl,fun _ _ _ _ _ _ _ _ _=>by kernel_rfl⟩
theorem W9 (E:Env)(call round:Ac)(x35 x36 x37 x38 x39 x40 x41 x42 x43 x44:Value)(tm:T Value)(s:St):By call round (Cn E Ca 48 (hdC G1)) [x44,x43,x42,x41,x40,x39,x38,x37,x36,x35] tm s=(M.bind (oS (some x44) fun a=>M.pure a) fun v24=>setT 24 v24 tm fun tm1=>M.pure tm1) s:=by kernel_rfl
def Up (E:Env)(call round:Ac)(tm:T Value):M (T Value):=
 mv (some (.int .i64 8)) fun v6=>
 setF 6 v6 tm fun tm1=>
 M.pure tm1
theorem Bp_:RegEq 9 48 Ca Mu Up:=⟨by kernel_rfl,fun _ _ _ _ _ _ _ _ _=>by kernel_rfl⟩
def QZ (E:Env)(call round:Ac)(tm:T Value):M (T Value):=
 M.bind (oS (T.get tm 3) fun a=>A3 E 24 a) fun v45=>
 M.bind (oS (seqO []) fun a=>oS (seqO [(T.get tm 8),(T.get tm 3),(T.get tm 4),(T.get tm 5)]) fun b=>M.pure (.func (.func 39) a.toArray b.toArray)) fun v46=>
 M.bind (M.on (some (.func (.func 38) #[] #[])) fun f=>M.on (seqO [(some v45),(some v46)]) fun l=>A9 call round f l) fun v47=>
 mv (some v47) fun v6=>
 setF 6 v6 tm fun tm1=>
 M.pure tm1
theorem EB_:RegEq 9 48 Ca Ja QZ:=⟨by kernel_rfl,fun _ _ _ _ _ _ _ _ _=>by kernel_rfl⟩
theorem UP: ∃k,Lh= .code .ret::k:=⟨Lh.tail,by kernel_rfl⟩
def DY:Nat:=Bq Try.f39
abbrev Hg_:Nat:=23
def S4:Code:=Try.f39.body.getD .skip
theorem S0:envS.fn.get 39=some Try.f39:=by kernel_rfl
theorem Eb_ {a0 a1 a2 a3:Value}{n:Nat}{s:St}{Q:Value→St→Prop}(h: ∀tm,T.get tm 0=some a0→T.get tm 1=some a1→T.get tm 2=some a2→T.get tm 3=some a3→W (runF envS n ⟨39,23,DY,tm,[.code S4], .run, .normal,none⟩) (s.cxN cxN) fun p s1=>Q p.1 (s1.cxN s.cx)):W (As envS (runF envS n) 39 [a0,a1,a2,a3]) s Q:=
 W.call (by kernel_rfl) (by kernel_rfl) S0 (by kernel_rfl) rfl rfl (by simp) (h _ (by kernel_rfl) (by kernel_rfl) (by kernel_rfl) (by kernel_rfl))
theorem Dh_:Try.f39.results.toList=[]:=by kernel_rfl
def MG:List Item:=skim 64 [.code S4]
def E7:List Item:=skim 64 MG.tail
theorem Pv:skim 64 MG.tail=E7:=by kernel_rfl
def H0:List Item:=skim 64 (brT E7)
theorem Km_:skim 64 (brT E7)=H0:=by kernel_rfl
def Ey:List Item:=skim 64 (brF E7)
theorem ZI:skim 64 (brF E7)=Ey:=by kernel_rfl
def IS:List Item:=skim 64 H0.tail
theorem AH_:skim 64 H0.tail=IS:=by kernel_rfl
def O7:List Item:=skim 64 Ey.tail
theorem MO_:skim 64 Ey.tail=O7:=by kernel_rfl
theorem Kk_:skim 64 IS.tail=Ey:=by kernel_rfl
def TP (E:Env)(call round:Ac)(tm:T Value):M (T Value):=
 M.bind (oS (T.get tm 0) fun a=>A3 E 67 a) fun v4=>
 M.bind (oS (some v4) fun a=>oS (some (.pointer none)) fun b=>Cl.get (aBin E .eql 67 (.tmp 4) (.const (.pointer none))) a b) fun v5=>
 setF 5 v5 tm fun tm1=>
 M.pure tm1
theorem YS:RegEq 39 23 DY MG TP:=⟨by kernel_rfl,fun _ _ _ _ _ _ _ _ _=>by kernel_rfl⟩
theorem UU:Bb E7=some 5:=by kernel_rfl
def UT (E:Env)(call round:Ac)(tm:T Value):M (T Value):=
 M.bind (oS (seqP []) fun ps=>Cq E 79 ps) fun v6=>
 M.bind (oS (some v6) fun a=>kBox a) fun v7=>
 M.bind (oS (T.get tm 0) fun a=>oS (some v7) fun b=>BU E 67 a b) fun _=>
 M.pure tm
theorem Dk_:RegEq 39 23 DY H0 UT:=⟨by kernel_rfl,fun _ _ _ _ _ _ _ _ _=>by kernel_rfl⟩
def Tj (E:Env)(call round:Ac)(tm:T Value):M ((Rho×T Value)×List OpLog):=
 M.bind (apartO (oS (T.get tm 0) fun a=>A3 E 67 a)) fun p0=>
 M.bind (apartO (oS (T.get tm 0) fun a=>A3 E 67 a)) fun p1=>
 M.bind (apartO (oS (some p1.1) fun a=>kNil a)) fun p2=>
 M.bind (apartO (oS (some p2.1) fun a=>kFld E 79 a 1)) fun p3=>
 M.bind (apartO (oS (some p3.1) fun a=>A3 E 26 a)) fun p4=>
 M.bind (apartO (oS (T.get tm 3) fun a=>A3 E 26 a)) fun p5=>
 M.bind (apartO (oS (seqO [(some p4.1),(some p5.1)]) fun l=>A6 E .append [26,26] l)) fun p6=>
 M.bind (apartO (oS (some p0.1) fun a=>kNil a)) fun p7=>
 M.bind (apartO (oS (some p7.1) fun a=>kFld E 79 a 1)) fun p8=>
 M.pure (([p8.1,p7.1,p6.1,p5.1,p4.1,p3.1,p2.1,p1.1,p0.1],tm),[p8.2,p7.2,p6.2,p5.2,p4.2,p3.2,p2.2,p1.2,p0.2])
theorem LJ_:DrawEq 39 23 DY Ey [0,0,2,6,14,0,62,127,255,511] Tj:=⟨by kernel_rfl,by kernel_rfl,fun _ _ _ _ _ _ _ _ _=>by kernel_rfl⟩
theorem KB_ (E:Env)(call round:Ac)(x14 x15 x16 x17 x18 x19 x20 x21 x22:Value)(tm:T Value)(s:St):By call round (Cn E DY 23 (hdC Ey)) [x22,x21,x20,x19,x18,x17,x16,x15,x14] tm s=(M.bind (oS (some x22) fun a=>oS (some x20) fun b=>BU E 26 a b) fun _=>M.pure tm) s:=by kernel_rfl
def UV (E:Env)(call round:Ac)(tm:T Value):M ((Rho×T Value)×List OpLog):=
 M.bind (apartO (oS (T.get tm 1) fun a=>A3 E 24 a)) fun p0=>
 M.bind (apartO (oS (some p0.1) fun a=>kNil a)) fun p1=>
 M.bind (apartO (oS (some p1.1) fun a=>kFld E 75 a 1)) fun p2=>
 M.bind (apartO (oS (some p2.1) fun a=>A3 E 68 a)) fun p3=>
 M.bind (apartO (oS (T.get tm 2) fun a=>A3 E 9 a)) fun p4=>
 M.bind (apartO (oS (T.get tm 0) fun a=>A3 E 67 a)) fun p5=>
 M.pure (([p5.1,p4.1,p3.1,p2.1,p1.1,p0.1],tm),[p5.2,p4.2,p3.2,p2.2,p1.2,p0.2])
theorem Z6:DrawEq 39 23 DY IS [0,1,3,7,0,0,63] UV:=⟨by kernel_rfl,by kernel_rfl,fun _ _ _ _ _ _ _ _ _=>by kernel_rfl⟩
theorem KC_ (E:Env)(call round:Ac)(x8 x9 x10 x11 x12 x13:Value)(tm:T Value)(s:St):By call round (Cn E DY 23 (hdC IS)) [x13,x12,x11,x10,x9,x8] tm s=(M.bind (M.on (some x11) fun a=>M.on (some x12) fun b=>M.on (some x13) fun c=>Dg E 68 a b c) fun _=>M.pure tm) s:=by kernel_rfl
def C0:Nat:=Bq Try.f12
def O0:Code:=Try.f12.body.getD .skip
theorem H2:envS.fn.get 12=some Try.f12:=by kernel_rfl
theorem Mf_ {a0 a1:Value}{n:Nat}{s:St}{Q:Value→St→Prop}(h: ∀tm,T.get tm 0=some a0→T.get tm 1=some a1→W (runF envS n ⟨12,31,C0,tm,[.code O0], .run, .normal,none⟩) (s.cxN cxN) fun p s1=>Q p.1 (s1.cxN s.cx)):W (As envS (runF envS n) 12 [a0,a1]) s Q:=
 W.call (by kernel_rfl) (by kernel_rfl) H2 (by kernel_rfl) rfl rfl (by simp) (h _ (by kernel_rfl) (by kernel_rfl))
theorem N3:Try.f12.results.toList=[.tmp 4, .tmp 5]:=by kernel_rfl
def Lm:List Item:=skim 64 [.code O0]
def KN:List Item:=skim 64 Lm.tail
theorem DF_:skim 64 Lm.tail=KN:=by kernel_rfl
def Jm:List Item:=skim 64 KN.tail
theorem YM:skim 64 KN.tail=Jm:=by kernel_rfl
def Fw:List Item:=skim 64 Jm.tail
theorem R4:skim 64 Jm.tail=Fw:=by kernel_rfl
def KF:List Item:=skim 64 (brT Fw)
theorem WM:skim 64 (brT Fw)=KF:=by kernel_rfl
def Jk:List Item:=skim 64 (brF Fw)
theorem FF_:skim 64 (brF Fw)=Jk:=by kernel_rfl
def Oj:List Item:=skim 64 KF.tail
theorem WA:skim 64 KF.tail=Oj:=by kernel_rfl
def IM:List Item:=skim 64 Jk.tail
theorem Lb_:skim 64 Jk.tail=IM:=by kernel_rfl
def FQ:List Item:=skim 64 IM.tail
theorem RW:skim 64 IM.tail=FQ:=by kernel_rfl
def IC:List Item:=skim 64 (brT FQ)
theorem IS_:skim 64 (brT FQ)=IC:=by kernel_rfl
def GH:List Item:=skim 64 (brF FQ)
theorem Zm:skim 64 (brF FQ)=GH:=by kernel_rfl
def LE:List Item:=skim 64 IC.tail
theorem Lu_:skim 64 IC.tail=LE:=by kernel_rfl
def Nm:List Item:=skim 64 GH.tail
theorem CO_:skim 64 GH.tail=Nm:=by kernel_rfl
def UF (E:Env)(call round:Ac)(tm:T Value):M (T Value):=
 mv (some (.slice none 0 0)) fun v4=>
 setF 4 v4 tm fun tm1=>
 mv (some (.int .i64 0)) fun v5=>
 setF 5 v5 tm1 fun tm2=>
 M.pure tm2
theorem Z7:RegEq 12 31 C0 Lm UF:=⟨by kernel_rfl,fun _ _ _ _ _ _ _ _ _=>by kernel_rfl⟩
def T0 (E:Env)(call round:Ac)(tm:T Value):M (T Value):=
 mv (T.get tm 0) fun v8=>
 M.bind (M.on (some (.func (.func 36) #[] #[])) fun f=>M.on (seqO [(some v8)]) fun l=>A9 call round f l) fun v9=>
 mv (some v9) fun v6=>
 setF 6 v6 tm fun tm1=>
 M.pure tm1
theorem YB:RegEq 12 31 C0 KN T0:=⟨by kernel_rfl,fun _ _ _ _ _ _ _ _ _=>by kernel_rfl⟩
def Mv (E:Env)(call round:Ac)(tm:T Value):M (T Value):=
 mv (T.get tm 6) fun v10=>
 M.bind (oS (some v10) fun a=>oS (some (.int .i64 0)) fun b=>Cl.get (aBin E .neq 27 (.tmp 10) (.const (.int .i64 0))) a b) fun v11=>
 setF 11 v11 tm fun tm1=>
 M.pure tm1
theorem HD_:RegEq 12 31 C0 Jm Mv:=⟨by kernel_rfl,fun _ _ _ _ _ _ _ _ _=>by kernel_rfl⟩
theorem Q1:Bb Fw=some 11:=by kernel_rfl
def Vp (E:Env)(call round:Ac)(tm:T Value):M (T Value):=
 mv (T.get tm 6) fun v12=>
 mv (some (.slice none 0 0)) fun v4=>
 setF 4 v4 tm fun tm1=>
 mv (some v12) fun v5=>
 setF 5 v5 tm1 fun tm2=>
 M.pure tm2
theorem ME_:RegEq 12 31 C0 KF Vp:=⟨by kernel_rfl,fun _ _ _ _ _ _ _ _ _=>by kernel_rfl⟩
def PM (E:Env)(call round:Ac)(tm:T Value):M (T Value):=
 mv (T.get tm 0) fun v13=>
 M.bind (oS (some v13) fun a=>kNil a) fun v14=>
 M.bind (oS (some v14) fun a=>kFld E 75 a 1) fun v15=>
 M.bind (oS (some v15) fun a=>A3 E 68 a) fun v16=>
 mv (T.get tm 1) fun v17=>
 M.bind (oS (some v16) fun a=>oS (some v17) fun b=>CH E 68 false a b) fun v18=>
 mv (some v18) fun v7=>
 setF 7 v7 tm fun tm1=>
 M.pure tm1
theorem Y1:RegEq 12 31 C0 Jk PM:=⟨by kernel_rfl,fun _ _ _ _ _ _ _ _ _=>by kernel_rfl⟩
theorem WO: ∃k,Oj= .code .ret::k:=⟨Oj.tail,by kernel_rfl⟩
def Nn (E:Env)(call round:Ac)(tm:T Value):M (T Value):=
 mv (T.get tm 7) fun v19=>
 M.bind (oS (some v19) fun a=>oS (some (.pointer none)) fun b=>Cl.get (aBin E .eql 67 (.tmp 19) (.const (.pointer none))) a b) fun v20=>
 setF 20 v20 tm fun tm1=>
 M.pure tm1
theorem JU_:RegEq 12 31 C0 IM Nn:=⟨by kernel_rfl,fun _ _ _ _ _ _ _ _ _=>by kernel_rfl⟩
theorem Rz:Bb FQ=some 20:=by kernel_rfl
def R7 (E:Env)(call round:Ac)(tm:T Value):M (T Value):=
 mv (some (.slice none 0 0)) fun v4=>
 setF 4 v4 tm fun tm1=>
 mv (some (.int .i64 6)) fun v5=>
 setF 5 v5 tm1 fun tm2=>
 M.pure tm2
theorem EH_:RegEq 12 31 C0 IC R7:=⟨by kernel_rfl,fun _ _ _ _ _ _ _ _ _=>by kernel_rfl⟩
def Ua (E:Env)(call round:Ac)(tm:T Value):M ((Rho×T Value)×List OpLog):=
 M.bind (apartO (oS (T.get tm 7) fun a=>M.pure a)) fun p0=>
 M.bind (apartO (oS (some p0.1) fun a=>kNil a)) fun p1=>
 M.bind (apartO (oS (some p1.1) fun a=>kFld E 79 a 0)) fun p2=>
 M.bind (apartO (oS (some p2.1) fun a=>A3 E 26 a)) fun p3=>
 M.bind (apartO (oS (T.get tm 7) fun a=>M.pure a)) fun p4=>
 M.bind (apartO (oS (some p4.1) fun a=>kNil a)) fun p5=>
 M.bind (apartO (oS (some p5.1) fun a=>kFld E 79 a 1)) fun p6=>
 M.bind (apartO (oS (some p6.1) fun a=>A3 E 26 a)) fun p7=>
 M.bind (apartO (oS (seqP [(0,(some p3.1)),(1,(some p7.1))]) fun ps=>Dj E 22 2 ps)) fun p8=>
 M.bind (apartO (M.on (some (.func (.func 47) #[] #[])) fun f=>M.on (seqO [(some p8.1)]) fun l=>A9 call round f l)) fun p9=>
 M.bind (apartO (oS (some p9.1) fun a=>M.pure a)) fun p10=>
 setT 4 p10.1 tm fun tm1=>
 M.pure (([p10.1,p9.1,p8.1,p7.1,p6.1,p5.1,p4.1,p3.1,p2.1,p1.1,p0.1],tm1),[p10.2,p9.2,p8.2,p7.2,p6.2,p5.2,p4.2,p3.2,p2.2,p1.2,p0.2])
theorem HV_:DrawEq 12 31 C0 GH [0,1,3,7,0,16,48,112,255,511,1023,2047] Ua:=⟨by kernel_rfl,by kernel_rfl,fun _ _ _ _ _ _ _ _ _=>by kernel_rfl⟩
theorem CZ_ (E:Env)(call round:Ac)(x21 x22 x23 x24 x25 x26 x27 x28 x29 x30 x4:Value)(tm:T Value)(s:St):By call round (Cn E C0 31 (hdC GH)) [x4,x30,x29,x28,x27,x26,x25,x24,x23,x22,x21] tm s=(M.bind (oS (some (.int .i64 0)) fun a=>M.pure a) fun v5=>setT 5 v5 tm fun tm1=>M.pure tm1) s:=by kernel_rfl
theorem Zk: ∃k,LE= .code .ret::k:=⟨LE.tail,by kernel_rfl⟩
theorem LU_: ∃k,Nm= .code .ret::k:=⟨Nm.tail,by kernel_rfl⟩
def Hi:Nat:=Bq Try.f11
def Vy:Code:=Try.f11.body.getD .skip
theorem PV:envS.fn.get 11=some Try.f11:=by kernel_rfl
theorem X0 {a0 a1:Value}{n:Nat}{s:St}{Q:Value→St→Prop}(h: ∀tm,T.get tm 0=some a0→T.get tm 1=some a1→W (runF envS n ⟨11,17,Hi,tm,[.code Vy], .run, .normal,none⟩) (s.cxN cxN) fun p s1=>Q p.1 (s1.cxN s.cx)):W (As envS (runF envS n) 11 [a0,a1]) s Q:=
 W.call (by kernel_rfl) (by kernel_rfl) PV (by kernel_rfl) rfl rfl (by simp) (h _ (by kernel_rfl) (by kernel_rfl))
theorem ZQ:Try.f11.results.toList=[.tmp 4]:=by kernel_rfl
def LC:List Item:=skim 64 [.code Vy]
def IW:List Item:=skim 64 LC.tail
theorem Lg_:skim 64 LC.tail=IW:=by kernel_rfl
def Jc:List Item:=skim 64 IW.tail
theorem My_:skim 64 IW.tail=Jc:=by kernel_rfl
def JH:List Item:=skim 64 (brF Jc)
theorem Ix_:skim 64 (brF Jc)=JH:=by kernel_rfl
def Kb:List Item:=skim 64 JH.tail
theorem Go_:skim 64 JH.tail=Kb:=by kernel_rfl
def Le:List Item:=skim 64 Kb.tail
theorem BW_:skim 64 Kb.tail=Le:=by kernel_rfl
def RM (E:Env)(call round:Ac)(tm:T Value):M (T Value):=
 M.bind (oS (T.get tm 1) fun a=>kBox a) fun v3=>
 setF 3 v3 tm fun tm1=>
 mv (some (.slice none 0 0)) fun v4=>
 setF 4 v4 tm1 fun tm2=>
 M.pure tm2
theorem Iv_:RegEq 11 17 Hi LC RM:=⟨by kernel_rfl,fun _ _ _ _ _ _ _ _ _=>by kernel_rfl⟩
def Qr (E:Env)(call round:Ac)(tm:T Value):M (T Value):=
 mv (T.get tm 0) fun v6=>
 M.bind (M.on (some (.func (.func 40) #[] #[])) fun f=>M.on (seqO [(some v6)]) fun l=>A9 call round f l) fun v7=>
 setF 7 v7 tm fun tm1=>
 M.pure tm1
theorem Xf:RegEq 11 17 Hi IW Qr:=⟨by kernel_rfl,fun _ _ _ _ _ _ _ _ _=>by kernel_rfl⟩
theorem Jp_:Bb Jc=some 7:=by kernel_rfl
def VY (E:Env)(call round:Ac)(tm:T Value):M (T Value):=
 mv (T.get tm 0) fun v8=>
 M.bind (oS (some v8) fun a=>kNil a) fun v9=>
 M.bind (oS (some v9) fun a=>kFld E 75 a 1) fun v10=>
 M.bind (oS (some v10) fun a=>A3 E 68 a) fun v11=>
 M.bind (M.on (some (.func (.func 43) #[] #[])) fun f=>M.on (seqO [(some v11)]) fun l=>A9 call round f l) fun v12=>
 M.bind (M.on (some (.func (.func 42) #[] #[])) fun f=>M.on (seqO [(some v12)]) fun l=>A9 call round f l) fun v13=>
 mv (some v13) fun v5=>
 setF 5 v5 tm fun tm1=>
 M.pure tm1
theorem W5:RegEq 11 17 Hi JH VY:=⟨by kernel_rfl,fun _ _ _ _ _ _ _ _ _=>by kernel_rfl⟩
def VX (E:Env)(call round:Ac)(tm:T Value):M (T Value):=
 mv (T.get tm 5) fun v14=>
 M.bind (oS (seqO []) fun a=>oS (seqO [(T.get tm 3)]) fun b=>M.pure (.func (.func 45) a.toArray b.toArray)) fun v15=>
 M.bind (M.on (some (.func (.func 44) #[] #[])) fun f=>M.on (seqO [(some v14),(some v15)]) fun l=>A9 call round f l) fun v16=>
 mv (some v16) fun v4=>
 setF 4 v4 tm fun tm1=>
 M.pure tm1
theorem ZR:RegEq 11 17 Hi Kb VX:=⟨by kernel_rfl,fun _ _ _ _ _ _ _ _ _=>by kernel_rfl⟩
theorem Ik_: ∃k,Le= .code .ret::k:=⟨Le.tail,by kernel_rfl⟩
def Od:Nat:=Bq Try.f45
def O5:Code:=Try.f45.body.getD .skip
theorem Pt:envS.fn.get 45=some Try.f45:=by kernel_rfl
theorem Md_ {a0 a1:Value}{n:Nat}{s:St}{Q:Value→St→Prop}(h: ∀tm,T.get tm 0=some a0→T.get tm 1=some a1→W (runF envS n ⟨45,8,Od,tm,[.code O5], .run, .normal,none⟩) (s.cxN cxN) fun p s1=>Q p.1 (s1.cxN s.cx)):W (As envS (runF envS n) 45 [a0,a1]) s Q:=
 W.call (by kernel_rfl) (by kernel_rfl) Pt (by kernel_rfl) rfl rfl (by simp) (h _ (by kernel_rfl) (by kernel_rfl))
theorem Ij_:Try.f45.results.toList=[.tmp 3]:=by kernel_rfl
def MV:List Item:=skim 64 [.code O5]
def IE:List Item:=skim 64 MV.tail
theorem Jn_:skim 64 MV.tail=IE:=by kernel_rfl
def K5:List Item:=skim 64 IE.tail
theorem Gl_:skim 64 IE.tail=K5:=by kernel_rfl
def Sp (E:Env)(call round:Ac)(tm:T Value):M (T Value):=
 mv (some (.bool false)) fun v3=>
 setF 3 v3 tm fun tm1=>
 M.pure tm1
theorem GF_:RegEq 45 8 Od MV Sp:=⟨by kernel_rfl,fun _ _ _ _ _ _ _ _ _=>by kernel_rfl⟩
def S5 (E:Env)(call round:Ac)(tm:T Value):M (T Value):=
 mv (T.get tm 0) fun v4=>
 M.bind (oS (T.get tm 1) fun a=>A3 E 9 a) fun v5=>
 M.bind (M.on (some (.func (.func 46) #[] #[])) fun f=>M.on (seqO [(some v4),(some v5)]) fun l=>A9 call round f l) fun v6=>
 M.bind (oS (some v6) fun a=>kUn E.P .not a) fun v7=>
 mv (some v7) fun v3=>
 setF 3 v3 tm fun tm1=>
 M.pure tm1
theorem BK_:RegEq 45 8 Od IE S5:=⟨by kernel_rfl,fun _ _ _ _ _ _ _ _ _=>by kernel_rfl⟩
theorem DR_: ∃k,K5= .code .ret::k:=⟨K5.tail,by kernel_rfl⟩
end Go.Proofs.Ytjfhmacppabehaa.Am
end
