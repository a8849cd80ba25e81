import Derived.Test.YtjfhmacppabehaaIDf15
import Derived.Test.YtjfhmacppabehaaIDf08
import Derived.KernelRfl
import Derived.Test.YtjfhmacppabehaaIDf18
import Derived.Test.YtjfhmacppabehaaIDf07
noncomputable section
namespace Go.Proofs.Ytjfhmacppabehaa.Am
open Go.RowKit
def HE:Nat:=Bh Try.f8
def SX:Code:=Try.f8.body.getD .skip
theorem SJ:envS.fn.get 8=some Try.f8:=by kernel_rfl
theorem Er_ {a0:Value}{n:Nat}{s:St}{Q:Value→St→Prop}(h: ∀tm,T.get tm 0=some a0→W (runF envS n ⟨8,13,HE,tm,[.code SX], .run, .normal,none⟩) (s.cxN cxN) fun p s1=>Q p.1 (s1.cxN s.cx)):W (Ap envS (runF envS n) 8 [a0]) s Q:=
 W.call (by kernel_rfl) (by kernel_rfl) SJ (by kernel_rfl) rfl rfl (by simp) (h _ (by kernel_rfl))
theorem FK_:Try.f8.results.toList=[.tmp 2]:=by kernel_rfl
def LE:List Item:=skim 64 [.code SX]
def J4:List Item:=skim 64 LE.tail
theorem EB_:skim 64 LE.tail=J4:=by kernel_rfl
def Kd:List Item:=skim 64 J4.tail
theorem Cz_:skim 64 J4.tail=Kd:=by kernel_rfl
def Ji:List Item:=skim 64 Kd.tail
theorem BH_:skim 64 Kd.tail=Ji:=by kernel_rfl
def Kr:List Item:=skim 64 (brF Ji)
theorem La_:skim 64 (brF Ji)=Kr:=by kernel_rfl
def OU:List Item:=skim 64 Kr.tail
theorem El_:skim 64 Kr.tail=OU:=by kernel_rfl
def Tv (E:Env)(call round:Ac)(tm:T Value):M (T Value):=
 mv (some (.pointer none)) fun v2=>
 setF 2 v2 tm fun tm1=>
 M.pure tm1
theorem ND_:RegEq 8 13 HE LE Tv:=⟨by kernel_rfl,fun _ _ _ _ _ _ _ _ _=>by kernel_rfl⟩
def SL (E:Env)(call round:Ac)(tm:T Value):M (T Value):=
 mv (T.get tm 0) fun v6=>
 M.bind (M.on (some (.func (.func 21) #[] #[])) fun f=>M.on (seqO [(some v6)]) fun l=>A5 call round f l) fun v7=>
 mv (some v7) fun v5=>
 M.bind (oS (some v5) fun a=>kExt 0 a) fun v8=>
 M.bind (oS (some v5) fun a=>kExt 1 a) fun v9=>
 mv (some v8) fun v3=>
 setF 3 v3 tm fun tm1=>
 mv (some v9) fun v4=>
 setF 4 v4 tm1 fun tm2=>
 M.pure tm2
theorem BB_:RegEq 8 13 HE J4 SL:=⟨by kernel_rfl,fun _ _ _ _ _ _ _ _ _=>by kernel_rfl⟩
def XI (E:Env)(call round:Ac)(tm:T Value):M (T Value):=
 mv (T.get tm 4) fun v10=>
 M.bind (oS (some v10) fun a=>oS (some (.int .i64 0)) fun b=>Cl.get (aBin E .neq 27 (.tmp 10) (.const (.int .i64 0))) a b) fun v11=>
 setF 11 v11 tm fun tm1=>
 M.pure tm1
theorem Jb_:RegEq 8 13 HE Kd XI:=⟨by kernel_rfl,fun _ _ _ _ _ _ _ _ _=>by kernel_rfl⟩
theorem Fg_:Bc Ji=some 11:=by kernel_rfl
def QS (E:Env)(call round:Ac)(tm:T Value):M (T Value):=
 mv (T.get tm 3) fun v12=>
 mv (some v12) fun v2=>
 setF 2 v2 tm fun tm1=>
 M.pure tm1
theorem Eb_:RegEq 8 13 HE Kr QS:=⟨by kernel_rfl,fun _ _ _ _ _ _ _ _ _=>by kernel_rfl⟩
theorem YR: ∃k,OU= .code .ret::k:=⟨OU.tail,by kernel_rfl⟩
def Ic:Nat:=Bh Try.f19
def QR:Code:=Try.f19.body.getD .skip
theorem RX:envS.fn.get 19=some Try.f19:=by kernel_rfl
theorem CQ_ {a0 a1 a2:Value}{n:Nat}{s:St}{Q:Value→St→Prop}(h: ∀tm,T.get tm 0=some a0→T.get tm 1=some a1→T.get tm 2=some a2→W (runF envS n ⟨19,22,Ic,tm,[.code QR], .run, .normal,none⟩) (s.cxN cxN) fun p s1=>Q p.1 (s1.cxN s.cx)):W (Ap envS (runF envS n) 19 [a0,a1,a2]) s Q:=
 W.call (by kernel_rfl) (by kernel_rfl) RX (by kernel_rfl) rfl rfl (by simp) (h _ (by kernel_rfl) (by kernel_rfl) (by kernel_rfl))
theorem DX_:Try.f19.results.toList=[.tmp 6]:=by kernel_rfl
def Pl:List Item:=skim 64 [.code QR]
def Ko:List Item:=skim 64 Pl.tail
theorem MG_:skim 64 Pl.tail=Ko:=by kernel_rfl
def Kv:List Item:=skim 64 Ko.tail
theorem Ed_:skim 64 Ko.tail=Kv:=by kernel_rfl
def MW:List Item:=skim 64 Kv.tail
theorem Mu_:skim 64 Kv.tail=MW:=by kernel_rfl
def W4 (E:Env)(call round:Ac)(tm:T Value):M (T Value):=
 mv (some (.bool false)) fun v6=>
 setF 6 v6 tm fun tm1=>
 M.pure tm1
theorem Ea_:RegEq 19 22 Ic Pl W4:=⟨by kernel_rfl,fun _ _ _ _ _ _ _ _ _=>by kernel_rfl⟩
def SF (E:Env)(call round:Ac)(tm:T Value):M (T Value):=
 mv (T.get tm 0) fun v10=>
 mv (T.get tm 1) fun v11=>
 M.bind (M.on (some (.func (.func 12) #[] #[])) fun f=>M.on (seqO [(some v10),(some v11)]) fun l=>A5 call round f l) fun v12=>
 mv (some v12) fun v9=>
 M.bind (oS (some v9) fun a=>kExt 0 a) fun v13=>
 M.bind (oS (some v9) fun a=>kExt 1 a) fun v14=>
 mv (some v13) fun v7=>
 setF 7 v7 tm fun tm1=>
 mv (some v14) fun v8=>
 setF 8 v8 tm1 fun tm2=>
 M.pure tm2
theorem Pq_:RegEq 19 22 Ic Ko SF:=⟨by kernel_rfl,fun _ _ _ _ _ _ _ _ _=>by kernel_rfl⟩
def Uf (E:Env)(call round:Ac)(tm:T Value):M (T Value):=
 mv (T.get tm 8) fun v15=>
 M.bind (oS (some v15) fun a=>oS (some (.int .i64 0)) fun b=>Cl.get (aBin E .eql 27 (.tmp 15) (.const (.int .i64 0))) a b) fun v16=>
 mv (some v16) fun v17=>
 M.bind (M.chk (isK v17) (M.if (isB v17 true) (oS (T.get tm 7) fun a=>M.pure a) (M.pure undef))) fun v18=>
 M.bind (M.chk (isK v17) (M.if (isB v17 true) (oS (T.get tm 2) fun a=>M.pure a) (M.pure undef))) fun v19=>
 M.bind (M.chk (isK v17) (M.if (isB v17 true) (M.on (some (.func (.func 50) #[] #[])) fun f=>M.on (seqO [(some v18),(some v19)]) fun l=>A5 call round f l) (M.pure undef))) fun v20=>
 M.bind (M.on (some v17) fun a=>M.on (some v20) fun b=>M.on (some (.bool false)) fun c=>Bt a b c) fun v21=>
 mv (some v21) fun v6=>
 setF 6 v6 tm fun tm1=>
 M.pure tm1
theorem Fn_:RegEq 19 22 Ic Kv Uf:=⟨by kernel_rfl,fun _ _ _ _ _ _ _ _ _=>by kernel_rfl⟩
theorem ZG: ∃k,MW= .code .ret::k:=⟨MW.tail,by kernel_rfl⟩
def Cd:Nat:=Bh Try.f4
abbrev JA_:Nat:=121
def XK:Code:=Try.f4.body.getD .skip
theorem Mx:envS.fn.get 4=some Try.f4:=by kernel_rfl
theorem Mj_ {a0 a1 a2:Value}{n:Nat}{s:St}{Q:Value→St→Prop}(h: ∀tm,T.get tm 0=some a0→T.get tm 1=some a1→T.get tm 2=some a2→W (runF envS n ⟨4,121,Cd,tm,[.code XK], .run, .normal,none⟩) (s.cxN cxN) fun p s1=>Q p.1 (s1.cxN s.cx)):W (Ap envS (runF envS n) 4 [a0,a1,a2]) s Q:=
 W.call (by kernel_rfl) (by kernel_rfl) Mx (by kernel_rfl) rfl rfl (by simp) (h _ (by kernel_rfl) (by kernel_rfl) (by kernel_rfl))
theorem QB:Try.f4.results.toList=[.tmp 6]:=by kernel_rfl
def N2:List Item:=skim 64 [.code XK]
def Jl:List Item:=skim 64 N2.tail
theorem Ax_:skim 64 N2.tail=Jl:=by kernel_rfl
def HR:List Item:=skim 64 Jl.tail
theorem Gw_:skim 64 Jl.tail=HR:=by kernel_rfl
def E0:List Item:=skim 64 HR.tail
theorem IB:skim 64 HR.tail=E0:=by kernel_rfl
def HP:List Item:=skim 64 (brT E0)
theorem OL:skim 64 (brT E0)=HP:=by kernel_rfl
def Jy:List Item:=skim 64 (brF E0)
theorem Cs_:skim 64 (brF E0)=Jy:=by kernel_rfl
def O3:List Item:=skim 64 HP.tail
theorem YO:skim 64 HP.tail=O3:=by kernel_rfl
def KS:List Item:=skim 64 Jy.tail
theorem ZN:skim 64 Jy.tail=KS:=by kernel_rfl
def Jb:List Item:=skim 64 KS.tail
theorem GC_:skim 64 KS.tail=Jb:=by kernel_rfl
def IZ:List Item:=skim 64 (brF Jb)
theorem DL_:skim 64 (brF Jb)=IZ:=by kernel_rfl
def JC:List Item:=skim 64 IZ.tail
theorem MV_:skim 64 IZ.tail=JC:=by kernel_rfl
def Hb:List Item:=skim 64 JC.tail
theorem Iu_:skim 64 JC.tail=Hb:=by kernel_rfl
def J8:List Item:=skim 64 Hb.tail
theorem No_:skim 64 Hb.tail=J8:=by kernel_rfl
def Ku:List Item:=skim 64 J8.tail
theorem Am_:skim 64 J8.tail=Ku:=by kernel_rfl
def Lg:List Item:=skim 64 (brF Ku)
theorem BL_:skim 64 (brF Ku)=Lg:=by kernel_rfl
def NB:List Item:=skim 64 Lg.tail
theorem Jl_:skim 64 Lg.tail=NB:=by kernel_rfl
def SC (E:Env)(call round:Ac)(tm:T Value):M (T Value):=
 mv (some (.bool false)) fun v6=>
 setF 6 v6 tm fun tm1=>
 M.pure tm1
theorem LE_:RegEq 4 121 Cd N2 SC:=⟨by kernel_rfl,fun _ _ _ _ _ _ _ _ _=>by kernel_rfl⟩
def Qc (E:Env)(call round:Ac)(tm:T Value):M (T Value):=
 M.bind (M.on (some (.func (.func 7) #[] #[])) fun f=>M.on (seqO []) fun l=>A5 call round f l) fun v10=>
 mv (some v10) fun v7=>
 setF 7 v7 tm fun tm1=>
 M.pure tm1
theorem Ny_:RegEq 4 121 Cd Jl Qc:=⟨by kernel_rfl,fun _ _ _ _ _ _ _ _ _=>by kernel_rfl⟩
def HD (E:Env)(call round:Ac)(tm:T Value):M (T Value):=
 mv (T.get tm 0) fun v11=>
 M.bind (oS (seqO [(some v11)]) fun l=>A7 E .len [26] l) fun v12=>
 M.bind (oS (some v12) fun a=>oS (some (.int .i64 500)) fun b=>Cl.get (aBin E .gtr 3 (.tmp 12) (.const (.int .i64 500))) a b) fun v13=>
 mv (some v13) fun v14=>
 M.bind (M.chk (isK v14) (M.if (isB v14 false) (oS (T.get tm 1) fun a=>M.pure a) (M.pure undef))) fun v15=>
 M.bind (M.chk (isK v14) (M.if (isB v14 false) (oS (seqO [(some v15)]) fun l=>A7 E .len [26] l) (M.pure undef))) fun v16=>
 M.bind (M.chk (isK v14) (M.if (isB v14 false) (oS (some v16) fun a=>oS (some (.int .i64 500)) fun b=>Cl.get (aBin E .gtr 3 (.tmp 16) (.const (.int .i64 500))) a b) (M.pure undef))) fun v17=>
 M.bind (M.on (some v14) fun a=>M.on (some (.bool true)) fun b=>M.on (some v17) fun c=>Bt a b c) fun v18=>
 mv (some v18) fun v19=>
 M.bind (M.chk (isK v19) (M.if (isB v19 false) (oS (T.get tm 0) fun a=>M.pure a) (M.pure undef))) fun v20=>
 M.bind (M.chk (isK v19) (M.if (isB v19 false) (oS (seqO [(some v20)]) fun l=>A7 E .len [26] l) (M.pure undef))) fun v21=>
 M.bind (M.chk (isK v19) (M.if (isB v19 false) (oS (some v21) fun a=>oS (some (.int .i64 0)) fun b=>Cl.get (aBin E .eql 3 (.tmp 21) (.const (.int .i64 0))) a b) (M.pure undef))) fun v22=>
 M.bind (M.on (some v19) fun a=>M.on (some (.bool true)) fun b=>M.on (some v22) fun c=>Bt a b c) fun v23=>
 setF 23 v23 tm fun tm1=>
 M.pure tm1
theorem Lm_:RegEq 4 121 Cd HR HD:=⟨by kernel_rfl,fun _ _ _ _ _ _ _ _ _=>by kernel_rfl⟩
theorem Lj:Bc E0=some 23:=by kernel_rfl
def S6 (E:Env)(call round:Ac)(tm:T Value):M (T Value):=
 mv (T.get tm 7) fun v24=>
 mv (some v24) fun v6=>
 setF 6 v6 tm fun tm1=>
 M.pure tm1
theorem PB_:RegEq 4 121 Cd HP S6:=⟨by kernel_rfl,fun _ _ _ _ _ _ _ _ _=>by kernel_rfl⟩
def Wi (E:Env)(call round:Ac)(tm:T Value):M (T Value):=
 M.bind (M.on (some (.func (.func 8) #[] #[])) fun f=>M.on (seqO [(some (.int .i64 2000))]) fun l=>A5 call round f l) fun v25=>
 mv (some v25) fun v8=>
 setF 8 v8 tm fun tm1=>
 M.pure tm1
theorem Jk_:RegEq 4 121 Cd Jy Wi:=⟨by kernel_rfl,fun _ _ _ _ _ _ _ _ _=>by kernel_rfl⟩
theorem OV_: ∃k,O3= .code .ret::k:=⟨O3.tail,by kernel_rfl⟩
def S5 (E:Env)(call round:Ac)(tm:T Value):M (T Value):=
 mv (T.get tm 8) fun v26=>
 M.bind (oS (some v26) fun a=>oS (some (.pointer none)) fun b=>Cl.get (aBin E .eql 24 (.tmp 26) (.const (.pointer none))) a b) fun v27=>
 mv (some v27) fun v28=>
 M.bind (M.chk (isK v28) (M.if (isB v28 false) (oS (T.get tm 8) fun a=>M.pure a) (M.pure undef))) fun v29=>
 M.bind (M.chk (isK v28) (M.if (isB v28 false) (oS (T.get tm 0) fun a=>M.pure a) (M.pure undef))) fun v30=>
 M.bind (M.chk (isK v28) (M.if (isB v28 false) (M.on (some (.func (.func 9) #[] #[])) fun f=>M.on (seqO [(some v29),(some (.string {data:= #[97]})),(some v30)]) fun l=>A5 call round f l) (M.pure undef))) fun v31=>
 M.bind (M.chk (isK v28) (M.if (isB v28 false) (oS (some v31) fun a=>oS (some (.int .i64 0)) fun b=>Cl.get (aBin E .neq 27 (.tmp 31) (.const (.int .i64 0))) a b) (M.pure undef))) fun v32=>
 M.bind (M.on (some v28) fun a=>M.on (some (.bool true)) fun b=>M.on (some v32) fun c=>Bt a b c) fun v33=>
 mv (some v33) fun v34=>
 M.bind (M.chk (isK v34) (M.if (isB v34 false) (oS (T.get tm 8) fun a=>M.pure a) (M.pure undef))) fun v35=>
 M.bind (M.chk (isK v34) (M.if (isB v34 false) (oS (T.get tm 1) fun a=>M.pure a) (M.pure undef))) fun v36=>
 M.bind (M.chk (isK v34) (M.if (isB v34 false) (M.on (some (.func (.func 9) #[] #[])) fun f=>M.on (seqO [(some v35),(some (.string {data:= #[98]})),(some v36)]) fun l=>A5 call round f l) (M.pure undef))) fun v37=>
 M.bind (M.chk (isK v34) (M.if (isB v34 false) (oS (some v37) fun a=>oS (some (.int .i64 0)) fun b=>Cl.get (aBin E .neq 27 (.tmp 37) (.const (.int .i64 0))) a b) (M.pure undef))) fun v38=>
 M.bind (M.on (some v34) fun a=>M.on (some (.bool true)) fun b=>M.on (some v38) fun c=>Bt a b c) fun v39=>
 mv (some v39) fun v40=>
 M.bind (M.chk (isK v40) (M.if (isB v40 false) (oS (T.get tm 8) fun a=>M.pure a) (M.pure undef))) fun v41=>
 M.bind (M.chk (isK v40) (M.if (isB v40 false) (M.on (some (.func (.func 14) #[] #[])) fun f=>M.on (seqO [(some v41),(some (.string {data:= #[97]}))]) fun l=>A5 call round f l) (M.pure undef))) fun v42=>
 M.bind (M.chk (isK v40) (M.if (isB v40 false) (oS (some v42) fun a=>oS (some (.int .i64 0)) fun b=>Cl.get (aBin E .neq 27 (.tmp 42) (.const (.int .i64 0))) a b) (M.pure undef))) fun v43=>
 M.bind (M.on (some v40) fun a=>M.on (some (.bool true)) fun b=>M.on (some v43) fun c=>Bt a b c) fun v44=>
 mv (some v44) fun v45=>
 M.bind (M.chk (isK v45) (M.if (isB v45 false) (oS (T.get tm 8) fun a=>M.pure a) (M.pure undef))) fun v46=>
 M.bind (M.chk (isK v45) (M.if (isB v45 false) (M.on (some (.func (.func 14) #[] #[])) fun f=>M.on (seqO [(some v46),(some (.string {data:= #[98]}))]) fun l=>A5 call round f l) (M.pure undef))) fun v47=>
 M.bind (M.chk (isK v45) (M.if (isB v45 false) (oS (some v47) fun a=>oS (some (.int .i64 0)) fun b=>Cl.get (aBin E .neq 27 (.tmp 47) (.const (.int .i64 0))) a b) (M.pure undef))) fun v48=>
 M.bind (M.on (some v45) fun a=>M.on (some (.bool true)) fun b=>M.on (some v48) fun c=>Bt a b c) fun v49=>
 setF 49 v49 tm fun tm1=>
 M.pure tm1
theorem Dj_:RegEq 4 121 Cd KS S5:=⟨by kernel_rfl,fun _ _ _ _ _ _ _ _ _=>by kernel_rfl⟩
theorem Fr_:Bc Jb=some 49:=by kernel_rfl
def Ry (E:Env)(call round:Ac)(tm:T Value):M (T Value):=
 mv (T.get tm 2) fun v50=>
 mv (T.get tm 0) fun v51=>
 M.bind (oS (seqO [(some v51)]) fun l=>A7 E .len [26] l) fun v52=>
 M.bind (oS (some (.int .i64 8)) fun a=>oS (some v52) fun b=>Cl.get (aBin E .mul 3 (.const (.int .i64 8)) (.tmp 52)) a b) fun v53=>
 M.bind (M.on (some (.func (.func 15) #[] #[])) fun f=>M.on (seqO [(some v50),(some v53)]) fun l=>A5 call round f l) fun v54=>
 mv (some v54) fun v2=>
 setF 2 v2 tm fun tm1=>
 M.pure tm1
theorem KE_:RegEq 4 121 Cd IZ Ry:=⟨by kernel_rfl,fun _ _ _ _ _ _ _ _ _=>by kernel_rfl⟩
def VE (E:Env)(call round:Ac)(tm:T Value):M (T Value):=
 mv (T.get tm 0) fun v55=>
 M.bind (M.on (some (.func (.func 16) #[] #[])) fun f=>M.on (seqO [(some v55)]) fun l=>A5 call round f l) fun v56=>
 mv (some v56) fun v9=>
 setF 9 v9 tm fun tm1=>
 M.pure tm1
theorem NV_:RegEq 4 121 Cd JC VE:=⟨by kernel_rfl,fun _ _ _ _ _ _ _ _ _=>by kernel_rfl⟩
def T7 (E:Env)(call round:Ac)(tm:T Value):M ((Rho×T Value)×List OpLog):=
 M.bind (apartO (oS (T.get tm 9) fun a=>M.pure a)) fun p0=>
 M.bind (apartO (oS (T.get tm 2) fun a=>M.pure a)) fun p1=>
 M.bind (apartO (oS (some p1.1) fun a=>oS (some (.int .i64 8)) fun b=>Cl.get (aBin E .quo 3 (.tmp 58) (.const (.int .i64 8))) a b)) fun p2=>
 M.bind (apartO (oS (T.get tm 9) fun a=>M.pure a)) fun p3=>
 M.bind (apartO (oS (T.get tm 2) fun a=>M.pure a)) fun p4=>
 M.bind (apartO (oS (some p4.1) fun a=>oS (some (.int .i64 8)) fun b=>Cl.get (aBin E .quo 3 (.tmp 61) (.const (.int .i64 8))) a b)) fun p5=>
 M.bind (apartO (oS (some p3.1) fun a=>oS (some p5.1) fun b=>BS E 26 a b)) fun p6=>
 M.bind (apartO (oS (some p6.1) fun a=>A3 E 5 a)) fun p7=>
 M.bind (apartO (oS (T.get tm 2) fun a=>M.pure a)) fun p8=>
 M.bind (apartO (oS (some p8.1) fun a=>oS (some (.int .i64 8)) fun b=>Cl.get (aBin E .rem 3 (.tmp 65) (.const (.int .i64 8))) a b)) fun p9=>
 M.bind (apartO (oS (some (.int .u8 1)) fun a=>oS (some p9.1) fun b=>Cl.get (aBin E .shl 5 (.const (.int .u8 1)) (.tmp 66)) a b)) fun p10=>
 M.bind (apartO (oS (some p7.1) fun a=>oS (some p10.1) fun b=>Cl.get (aBin E .xor 5 (.tmp 64) (.tmp 67)) a b)) fun p11=>
 M.bind (apartO (oS (some p0.1) fun a=>oS (some p2.1) fun b=>BS E 26 a b)) fun p12=>
 M.pure (([p12.1,p11.1,p10.1,p9.1,p8.1,p7.1,p6.1,p5.1,p4.1,p3.1,p2.1,p1.1,p0.1],tm),[p12.2,p11.2,p10.2,p9.2,p8.2,p7.2,p6.2,p5.2,p4.2,p3.2,p2.2,p1.2,p0.2])
theorem Pf_:DrawEq 4 121 Cd Hb [0,0,2,0,0,16,56,120,0,256,768,2040,4095,8191] T7:=⟨by kernel_rfl,by kernel_rfl,fun _ _ _ _ _ _ _ _ _=>by kernel_rfl⟩
theorem Hr_ (E:Env)(call round:Ac)(x57 x58 x59 x60 x61 x62 x63 x64 x65 x66 x67 x68 x69:Value)(tm:T Value)(s:St):By call round (B6 E Cd 121 (hdC Hb)) [x69,x68,x67,x66,x65,x64,x63,x62,x61,x60,x59,x58,x57] tm s=(M.bind (oS (some x69) fun a=>oS (some x68) fun b=>BA E 5 a b) fun _=>M.pure tm) s:=by kernel_rfl
def XW (E:Env)(call round:Ac)(tm:T Value):M (T Value):=
 mv (T.get tm 8) fun v70=>
 mv (T.get tm 2) fun v71=>
 M.bind (M.on (some (.func (.func 17) #[] #[])) fun f=>M.on (seqO [(some v70),(some (.string {data:= #[97]})),(some v71)]) fun l=>A5 call round f l) fun v72=>
 M.bind (oS (some v72) fun a=>oS (some (.int .i64 0)) fun b=>Cl.get (aBin E .neq 27 (.tmp 72) (.const (.int .i64 0))) a b) fun v73=>
 mv (some v73) fun v74=>
 M.bind (M.chk (isK v74) (M.if (isB v74 false) (oS (T.get tm 8) fun a=>M.pure a) (M.pure undef))) fun v75=>
 M.bind (M.chk (isK v74) (M.if (isB v74 false) (M.on (some (.func (.func 18) #[] #[])) fun f=>M.on (seqO [(some v75),(some (.slice none 0 0))]) fun l=>A5 call round f l) (M.pure undef))) fun v76=>
 M.bind (M.chk (isK v74) (M.if (isB v74 false) (oS (some v76) fun a=>oS (some (.int .i64 0)) fun b=>Cl.get (aBin E .neq 27 (.tmp 76) (.const (.int .i64 0))) a b) (M.pure undef))) fun v77=>
 M.bind (M.on (some v74) fun a=>M.on (some (.bool true)) fun b=>M.on (some v77) fun c=>Bt a b c) fun v78=>
 mv (some v78) fun v79=>
 M.bind (M.chk (isK v79) (M.if (isB v79 false) (oS (T.get tm 8) fun a=>M.pure a) (M.pure undef))) fun v80=>
 M.bind (M.chk (isK v79) (M.if (isB v79 false) (oS (T.get tm 9) fun a=>M.pure a) (M.pure undef))) fun v81=>
 M.bind (M.chk (isK v79) (M.if (isB v79 false) (M.on (some (.func (.func 19) #[] #[])) fun f=>M.on (seqO [(some v80),(some (.string {data:= #[97]})),(some v81)]) fun l=>A5 call round f l) (M.pure undef))) fun v82=>
 M.bind (M.chk (isK v79) (M.if (isB v79 false) (oS (some v82) fun a=>kUn E.P .not a) (M.pure undef))) fun v83=>
 M.bind (M.on (some v79) fun a=>M.on (some (.bool true)) fun b=>M.on (some v83) fun c=>Bt a b c) fun v84=>
 mv (some v84) fun v85=>
 M.bind (M.chk (isK v85) (M.if (isB v85 false) (oS (T.get tm 8) fun a=>M.pure a) (M.pure undef))) fun v86=>
 M.bind (M.chk (isK v85) (M.if (isB v85 false) (oS (T.get tm 1) fun a=>M.pure a) (M.pure undef))) fun v87=>
 M.bind (M.chk (isK v85) (M.if (isB v85 false) (M.on (some (.func (.func 19) #[] #[])) fun f=>M.on (seqO [(some v86),(some (.string {data:= #[98]})),(some v87)]) fun l=>A5 call round f l) (M.pure undef))) fun v88=>
 M.bind (M.chk (isK v85) (M.if (isB v85 false) (oS (some v88) fun a=>kUn E.P .not a) (M.pure undef))) fun v89=>
 M.bind (M.on (some v85) fun a=>M.on (some (.bool true)) fun b=>M.on (some v89) fun c=>Bt a b c) fun v90=>
 setF 90 v90 tm fun tm1=>
 M.pure tm1
theorem LS_:RegEq 4 121 Cd J8 XW:=⟨by kernel_rfl,fun _ _ _ _ _ _ _ _ _=>by kernel_rfl⟩
theorem Dh_:Bc Ku=some 90:=by kernel_rfl
def VL (E:Env)(call round:Ac)(tm:T Value):M (T Value):=
 mv (T.get tm 7) fun v91=>
 mv (some v91) fun v92=>
 M.bind (M.chk (isK v92) (M.if (isB v92 true) (oS (T.get tm 8) fun a=>M.pure a) (M.pure undef))) fun v93=>
 M.bind (M.chk (isK v92) (M.if (isB v92 true) (oS (T.get tm 2) fun a=>M.pure a) (M.pure undef))) fun v94=>
 M.bind (M.chk (isK v92) (M.if (isB v92 true) (M.on (some (.func (.func 17) #[] #[])) fun f=>M.on (seqO [(some v93),(some (.string {data:= #[97]})),(some v94)]) fun l=>A5 call round f l) (M.pure undef))) fun v95=>
 M.bind (M.chk (isK v92) (M.if (isB v92 true) (oS (some v95) fun a=>oS (some (.int .i64 0)) fun b=>Cl.get (aBin E .eql 27 (.tmp 95) (.const (.int .i64 0))) a b) (M.pure undef))) fun v96=>
 M.bind (M.on (some v92) fun a=>M.on (some v96) fun b=>M.on (some (.bool false)) fun c=>Bt a b c) fun v97=>
 mv (some v97) fun v98=>
 M.bind (M.chk (isK v98) (M.if (isB v98 true) (oS (T.get tm 8) fun a=>M.pure a) (M.pure undef))) fun v99=>
 M.bind (M.chk (isK v98) (M.if (isB v98 true) (oS (T.get tm 0) fun a=>M.pure a) (M.pure undef))) fun v100=>
 M.bind (M.chk (isK v98) (M.if (isB v98 true) (M.on (some (.func (.func 19) #[] #[])) fun f=>M.on (seqO [(some v99),(some (.string {data:= #[97]})),(some v100)]) fun l=>A5 call round f l) (M.pure undef))) fun v101=>
 M.bind (M.on (some v98) fun a=>M.on (some v101) fun b=>M.on (some (.bool false)) fun c=>Bt a b c) fun v102=>
 mv (some v102) fun v103=>
 M.bind (M.chk (isK v103) (M.if (isB v103 true) (oS (T.get tm 8) fun a=>M.pure a) (M.pure undef))) fun v104=>
 M.bind (M.chk (isK v103) (M.if (isB v103 true) (oS (T.get tm 0) fun a=>M.pure a) (M.pure undef))) fun v105=>
 M.bind (M.chk (isK v103) (M.if (isB v103 true) (oS (seqO [(some v105)]) fun l=>A7 E .len [26] l) (M.pure undef))) fun v106=>
 M.bind (M.chk (isK v103) (M.if (isB v103 true) (oS (some (.int .i64 8)) fun a=>oS (some v106) fun b=>Cl.get (aBin E .mul 3 (.const (.int .i64 8)) (.tmp 106)) a b) (M.pure undef))) fun v107=>
 M.bind (M.chk (isK v103) (M.if (isB v103 true) (M.on (some (.func (.func 17) #[] #[])) fun f=>M.on (seqO [(some v104),(some (.string {data:= #[97]})),(some v107)]) fun l=>A5 call round f l) (M.pure undef))) fun v108=>
 M.bind (M.chk (isK v103) (M.if (isB v103 true) (oS (some v108) fun a=>oS (some (.int .i64 5)) fun b=>Cl.get (aBin E .eql 27 (.tmp 108) (.const (.int .i64 5))) a b) (M.pure undef))) fun v109=>
 M.bind (M.on (some v103) fun a=>M.on (some v109) fun b=>M.on (some (.bool false)) fun c=>Bt a b c) fun v110=>
 mv (some v110) fun v111=>
 M.bind (M.chk (isK v111) (M.if (isB v111 true) (oS (T.get tm 8) fun a=>M.pure a) (M.pure undef))) fun v112=>
 M.bind (M.chk (isK v111) (M.if (isB v111 true) (M.on (some (.func (.func 17) #[] #[])) fun f=>M.on (seqO [(some v112),(some (.string {data:= #[97]})),(some (.int .i64 (-1)))]) fun l=>A5 call round f l) (M.pure undef))) fun v113=>
 M.bind (M.chk (isK v111) (M.if (isB v111 true) (oS (some v113) fun a=>oS (some (.int .i64 5)) fun b=>Cl.get (aBin E .eql 27 (.tmp 113) (.const (.int .i64 5))) a b) (M.pure undef))) fun v114=>
 M.bind (M.on (some v111) fun a=>M.on (some v114) fun b=>M.on (some (.bool false)) fun c=>Bt a b c) fun v115=>
 mv (some v115) fun v116=>
 M.bind (M.chk (isK v116) (M.if (isB v116 true) (oS (T.get tm 8) fun a=>M.pure a) (M.pure undef))) fun v117=>
 M.bind (M.chk (isK v116) (M.if (isB v116 true) (M.on (some (.func (.func 17) #[] #[])) fun f=>M.on (seqO [(some v117),(some (.string {data:= #[99]})),(some (.int .i64 0))]) fun l=>A5 call round f l) (M.pure undef))) fun v118=>
 M.bind (M.chk (isK v116) (M.if (isB v116 true) (oS (some v118) fun a=>oS (some (.int .i64 6)) fun b=>Cl.get (aBin E .eql 27 (.tmp 118) (.const (.int .i64 6))) a b) (M.pure undef))) fun v119=>
 M.bind (M.on (some v116) fun a=>M.on (some v119) fun b=>M.on (some (.bool false)) fun c=>Bt a b c) fun v120=>
 mv (some v120) fun v6=>
 setF 6 v6 tm fun tm1=>
 M.pure tm1
theorem HK_:RegEq 4 121 Cd Lg VL:=⟨by kernel_rfl,fun _ _ _ _ _ _ _ _ _=>by kernel_rfl⟩
theorem Oj_: ∃k,NB= .code .ret::k:=⟨NB.tail,by kernel_rfl⟩
section
variable {E:Env}{s:St}{t:Nat}{xo yo:Operand}
theorem Yk (m n:Nat)(hn:1≤n):Cl.get (aBin E .rem t xo yo) (.int .i64 (.negSucc m)) (.int .i64 (n:Nat)) s= .some (.int .i64 ((Int.negSucc m).tmod (n:Nat))) s:=by
 show Bg E .rem t xo yo (.int .i64 (.negSucc m)) (.int .i64 (n:Nat)) s=_
 show M.on (semP E.P (do eqGuard .rem t xo yo (.int .i64 (.negSucc m)) (.int .i64 (n:Nat));binOp .rem t (.int .i64 (.negSucc m)) (.int .i64 (n:Nat)))) pV s=_
 have e:semP E.P (do eqGuard .rem t xo yo (.int .i64 (.negSucc m)) (.int .i64 (n:Nat));binOp .rem t (.int .i64 (.negSucc m)) (.int .i64 (n:Nat)))=some (.int .i64 ((Int.negSucc m).tmod (n:Nat))):=by
  show semP E.P (Op.intDiv .rem .i64 (.negSucc m) (n:Nat))=_
  unfold Op.intDiv
  rw[if_neg (by omega)]
  rfl
 rw[e]
 generalize (Int.negSucc m).tmod (n:Nat)=y
 have hp: ∀y:Int,pV (.int .i64 y) s= .some (.int .i64 y) s:=fun y=>by
  cases y with
  |ofNat k=>first|rfl|(cases k<;>rfl)
  |negSucc k=>first|rfl|(cases k<;>rfl)
 exact hp y
theorem TR {x:Int}{n:Nat}(hn:1≤n)(Q:Value→St→Prop):W (Cl.get (aBin E .rem t xo yo) (.int .i64 x) (.int .i64 (n:Nat))) s Q=Q (.int .i64 (x.tmod (n:Nat))) s:=by
 cases x with
 |ofNat m=>exact Bi (VJ m n hn xo yo)
 |negSucc m=>exact Bi (Yk m n hn)
theorem RJ {k:Nat}(hk:k<8)(Q:Value→St→Prop):W (Cl.get (aBin E .shl t xo yo) (.int .u8 1) (.int .i64 (k:Nat))) s Q=Q (.int .u8 (2^k:Nat)) s:=by
 refine Bi ?_
 match k,hk with
 |0,_=>rfl
 |1,_=>rfl
 |2,_=>rfl
 |3,_=>rfl
 |4,_=>rfl
 |5,_=>rfl
 |6,_=>rfl
 |7,_=>rfl
theorem V8 {m n:Nat}(h:m^^^n<256)(Q:Value→St→Prop):W (Cl.get (aBin E .xor t xo yo) (.int .u8 (m:Nat)) (.int .u8 (n:Nat))) s Q=Q (.int .u8 (m^^^n:Nat)) s:=by
 refine Bi ?_
 show int3 xorK (Bg E .xor t xo yo) (.int .u8 (.ofNat m)) (.int .u8 (.ofNat n)) s=_
 show Option.rec (motive:=fun _=>R Value) _ (fun v=> .some v s) (xorK .u8 .u8 m n)=_
 have e:xorK .u8 .u8 m n=some (.int .u8 (m^^^n:Nat)):=by
  unfold xorK B9
  rw[Nat.beq_refl]
  show fitI .u8 (m^^^n)=_
  unfold fitI
  rw[Nat.ble_eq_true_of_le (show m^^^n≤mxOf .u8 by show m^^^n≤255;omega)]
  show mkI .u8 (m^^^n)=_
  unfold mkI
  rw[A4]
  rfl
 rw[e]
end
theorem Y7 {x:Int}{m:Nat}(hm:1≤m):x%(m:Nat)=if x.tmod (m:Nat)<0 then x.tmod (m:Nat)+(m:Nat)else x.tmod (m:Nat):=by
 have b1:x.tmod (m:Nat)<(m:Nat):=Int.tmod_lt_of_pos x (by omega)
 have b2: -(m:Nat)<x.tmod (m:Nat):=by
  have:=Int.lt_tmod_of_pos x (b:=(m:Nat)) (by omega)
  omega
 have e:x=x.tmod (m:Nat)+(m:Nat)*x.tdiv (m:Nat):=(Int.tmod_add_mul_tdiv x (m:Nat)).symm
 have e1:x%(m:Nat)=x.tmod (m:Nat)%(m:Nat):=by
  conv=>lhs;rw[e]
  rw[Int.add_mul_emod_self_left]
 rw[e1]
 generalize x.tmod (m:Nat)=y at *
 by_cases h:y<0
 ·rw[if_pos h,←Int.add_emod_right,Int.emod_eq_of_lt (by omega) (by omega)]
 ·rw[if_neg h,Int.emod_eq_of_lt (by omega) (by omega)]
theorem CI_ {n m:Nat}{x:Int}{s:St}{Q:Value→St→Prop}(hm:1≤m)(hm2:m≤1000000)(hn:20≤n)(q:Q (.int .i64 (x%(m:Nat))) s):W (Ap envS (runF envS n) 15 [.int .i64 x, .int .i64 (m:Nat)]) s Q:=by
 refine Ce_ fun tm h0 h1=> ?_
 refine YT.w rfl (by omega) ?_
 simp only[Sa,Aa,W_mv,Ab]
 refine OA_.w Y6 (by omega) ?_
 simp only[Rk,Ad,W_oS,Aa,W_mv,Ab,T.get_set,reduceIte,Nat.reduceEqDiff, ↓reduceIte,BK,h1]
 refine W.cond (v:=false) Zp Os_ (by simp[T.get_set];omega) (by omega) (fun h=>by cases h) fun _=> ?_
 refine Hm_.w DO_ (by omega) ?_
 simp only[Uh,Ad,W_oS,Aa,W_mv,Ab,T.get_set,reduceIte,Nat.reduceEqDiff,reduceCtorEq, ↓reduceIte,h0,h1,TR hm]
 have b1:x.tmod (m:Nat)<(m:Nat):=Int.tmod_lt_of_pos x (by omega)
 have b2: -(m:Nat)<x.tmod (m:Nat):=by
  have:=Int.lt_tmod_of_pos x (b:=(m:Nat)) (by omega)
  omega
 rw[Y7 hm]at q
 generalize x.tmod (m:Nat)=y at *
 refine NH_.w Pj_ (by omega) ?_
 simp only[Vx,Ad,W_oS,Aa,W_mv,Ab,T.get_set,reduceIte, ↓reduceIte,BK]
 have fin: ∀(n1:Nat) (tm1:T Value) (td:List Item) (r:Int),10≤n1→r=(if y<0 then y+(m:Nat)else y)→skim 64 td=Fy→T.get tm1 0=some (.int .i64 r)→W (runF envS n1 ⟨15,BV_,DY,tm1,td, .run, .normal,none⟩) (s.cxN cxN) fun p s1=>Q p.1 (s1.cxN s.cx):=fun n1 tm1 td r hn1 hr hT g0=>by
  refine IF_.w hT (by omega) ?_
  simp only[WD,Aa,W_mv,Ab,g0]
  refine W.end' (rs:=[4]) (vs:=[.int .i64 r]) Lh_ (.inl Ia_) (by omega) T0 Hu_ rfl (by simp[T.get_set]) ?_
  rw[hr]
  exact q
 by_cases hy:y<0
 ·refine W.cond (v:=true) TN VN (by simp[T.get_set];exact hy) (by omega) (fun _=> ?_) fun h=>by cases h
  refine Kh_.w BC_ (by omega) ?_
  simp only[Tu,Ad,W_oS,Aa,W_mv,Ab,T.get_set,reduceIte,Nat.reduceEqDiff,reduceCtorEq, ↓reduceIte,Dh,h1]
  rw[Cf (by omega) (by omega)]
  exact fin _ _ _ _ (by omega) (by rw[if_pos hy]) Nu_ (by simp[T.get_set])
 ·refine W.cond (v:=false) TN VN (by simp[T.get_set];omega) (by omega) (fun h=>by cases h) fun _=> ?_
  exact fin _ _ _ _ (by omega) (by rw[if_neg hy]) Mk_ (by simp[T.get_set])
theorem GU_:N6 envS 26=true:=by kernel_rfl
theorem Z9 (s:St):Ch envS 26 9 (.slice none 0 0) s= .some (.string (txt [])) s:=by kernel_rfl
theorem W.strA {v:Value}{l:List Nat}{s:St}{Q:Value→St→Prop}(h:Bs s v l)(q: ∀s1,s1.mem=s.mem→s1.next=s.next→Ext Any Non s s1→Q (.string (txt l)) s1):W (Ch envS 26 9 v) s Q:=by
 rcases h with⟨rfl,rfl⟩|⟨b,o,c,rfl,h1,h2,h3⟩
 ·exact W.of (Z9 s) (q s rfl rfl (Ext.refl _))
 ·exact W.str (.inr ⟨b,o,c,rfl,h1,h2,h3⟩) (.inr ⟨b,o,c,rfl⟩) GU_ Ii fun s1 m1 n1 x1=>q s1 m1 n1 ⟨x1.nxt,x1.lim,x1.cx,x1.mem,by obtain⟨d,e,h⟩:=x1.rd;exact⟨d,e,fun x hx=>⟨(h x hx).1,trivial⟩⟩,x1.wr⟩
theorem Gt_ {va vb:Value}{l:List Nat}{n:Nat}{s:St}{Q:Value→St→Prop}(hbd:s.lim≤s.next)(ha:Bs s va l)(hb:Bs s vb l)(hn:20≤n)
  (q: ∀s1,Ext Any Non s s1→Q (.bool true) s1):W (Ap envS (runF envS n) 50 [va,vb]) s Q:=by
 refine Y8 fun tm h0 h1=> ?_
 have ha':Bs (s.cxN cxN) va l:=ha.same rfl rfl
 have hb':Bs (s.cxN cxN) vb l:=hb.same rfl rfl
 refine Qa_.w rfl (by omega) ?_
 simp only[Rz,Aa,W_mv,Ab]
 refine Pe_.w Fs_ (by omega) ?_
 simp only[Qv,Ad,W_oS,Aa,W_mv,Ab,T.get_set,reduceIte,Nat.reduceEqDiff,reduceCtorEq, ↓reduceIte,h0,h1]
 refine W.strA ha' fun sa ma na xa=> ?_
 try simp only[Ad,W_oS,W_on,Aa,W_mv,Ab,AV,T.get_set,Aj,Ah,A1,AX,Ag,Al,reduceIte,Ax,AP,AZ,A0,AE,Au,Az,AW,Aw,Aq,Nat.reduceEqDiff,reduceCtorEq, ↓reduceIte]
 refine W.strA (hb'.same ma na) fun sb mb nb xb=> ?_
 have hx:Ext Any Non (s.cxN cxN) sb:=xa.on xb hbd fun _ _ h=>h
 simp only[RS,beq_self_eq_true]
 refine W.end' (rs:=[4]) (vs:=[.bool true]) Ot_ (.inl Ky_) (by omega) VT JC_ hx.cx (by simp[T.get_set]) ?_
 exact q _ hx.cx'
theorem EmS.bs {s:St}{l:List Nat}{v:Value}{b:Nat}(h:EmS s 1 l.length (u8l l) v b)(hn:l.length<capU):Bs s v l:=by
 rcases h with⟨rfl,h0,_⟩|h
 ·have:l=[]:=List.eq_nil_of_length_eq_zero h0
  subst this
  exact .inr ⟨b,0,0,rfl,Nat.zero_le _,by decide,fun i u e=>by simp[u8l]at e⟩
 ·exact MkS.bs (.inr h) hn
theorem PE_ {va:Value}{l:List Nat}{n:Nat}{s:St}{Q:Value→St→Prop}(hbd:s.lim≤s.next)(ha:Bs s va l)(hz:l.length≤1000000)(hn:20≤n)
  (q: ∀s1 v b,s.next≤b→EmS s1 1 l.length (u8l l) v b→Ext Any Non s s1→Q v s1):W (Ap envS (runF envS n) 16 [va]) s Q:=by
 have hb0:(s.cxN cxN).lim≤(s.cxN cxN).next:=hbd
 refine Lw_ fun tm h0=> ?_
 have ha':Bs (s.cxN cxN) va l:=ha.same rfl rfl
 refine Ya.w rfl (by omega) ?_
 simp only[QF,Aa,W_mv,Ab]
 refine It_.w Ek_ (by omega) ?_
 simp only[UY,Ad,W_oS,Aa,W_mv,Ab,T.get_set,Aj,Ah,AX,Ag,reduceIte,reduceCtorEq, ↓reduceIte,h0]
 refine W.buildS hb0 (r:=[]) Qc_ (by decide) rfl (Gs (by decide)) fun s1 n1 x1 r1=> ?_
 simp only[JX]
 refine W.appE (s:=s1) (x1.bnd hb0) Kl (len:=0) (old:=[]) (b:=s.next) (.inl ⟨rfl,rfl,rfl⟩) (ha'.ext0 x1).src.g (by decide) (by decide) (by omega) (by rw[Ca,Nat.mul_one]) (Fk _) fun s2 v2 b2 hb2 mk2 x2=> ?_
 have n1':s1.next=s.next+1:=n1
 have y2:Ext Any Non (s.cxN cxN) s2:=by
  have y1:Ext Any Non (s.cxN cxN) s1:=x1.weak hb0 (fun _ _ _=>trivial) fun _ _ h=>h
  exact y1.on x2 hb0 fun _ _ h=>absurd h.1 (Nat.lt_irrefl 0)
 try simp only[Ad,W_oS,W_on,Aa,W_mv,Ab,AV,T.get_set,Aj,Ah,A1,AX,Ag,Al,reduceIte,Ax,AP,AZ,A0,AE,Au,Az,AW,Aw,Aq,Nat.reduceEqDiff,reduceCtorEq, ↓reduceIte]
 rw[Nat.zero_add,List.nil_append]at mk2
 refine W.end' (rs:=[2]) (vs:=[v2]) OK_ (.inl YB) (by omega) Xg Pz_ y2.cx (by simp[T.get_set]) ?_
 exact q _ v2 b2 (by omega) (mk2.same rfl rfl) y2.cx'
section
variable {n D M:Nat}{s:St}{k:DkS}{col:Nat→Nat}{a:ByteArray}{v:Value}{Q:Value→St→Prop}
theorem Nj (hb:s.lim≤s.next)(hI:DkI s col D M k)(hlen:k.fs.length≤300)(hz:k.used≤1000000)(hn:500≤n)(ho:k.out=false){j:Nat}(hj:j<k.fs.length)(hl:Bb k.fs a=some j)(hv:Bs s v k.fs[j].all)
  (q: ∀s1,Ext Any Non s s1→Q (.bool true) s1):W (Ap envS (runF envS n) 19 [.pointer (some ⟨D,0,none⟩), .string a,v]) s Q:=by
 have hb0:(s.cxN cxN).lim≤(s.cxN cxN).next:=hb
 refine CQ_ fun tm h0 h1 h2=> ?_
 refine Ea_.w rfl (by omega) ?_
 simp only[W4,Aa,W_mv,Ab]
 refine Pq_.w MG_ (by omega) ?_
 simp only[SF,Ad,W_oS,W_on,Aa,W_mv,Ab,T.get_set,Aj,Ah,Ag,Al,reduceIte,Nat.reduceEqDiff,reduceCtorEq, ↓reduceIte,h0,h1]
 refine Bx_ hb0 (hI.same rfl rfl) hlen hz (by omega) (fun h=>by rw[h]at ho;cases ho) (fun _ h=>by rw[h]at hl;cases hl) fun _ i hi hil s1 vr x1 hr _=> ?_
 have:i=j:=by rw[hl]at hi;cases hi;rfl
 subst this
 have y1:=x1
 try simp only[Ad,W_oS,W_on,Aa,W_mv,Ab,AV,T.get_set,Aj,Ah,A1,AX,Ag,Al,reduceIte,Ax,AP,AZ,A0,AE,Au,Az,AW,Aw,Aq,Nat.reduceEqDiff,reduceCtorEq, ↓reduceIte]
 rw[D2 (k:=0) rfl]
 try simp only[Ad,W_oS,W_on,Aa,W_mv,Ab,AV,T.get_set,Aj,Ah,A1,AX,Ag,Al,reduceIte,Ax,AP,AZ,A0,AE,Au,Az,AW,Aw,Aq,Nat.reduceEqDiff,reduceCtorEq, ↓reduceIte]
 rw[D2 (k:=1) rfl]
 try simp only[Ad,W_oS,W_on,Aa,W_mv,Ab,AV,T.get_set,Aj,Ah,A1,AX,Ag,Al,reduceIte,Ax,AP,AZ,A0,AE,Au,Az,AW,Aw,Aq,Nat.reduceEqDiff,reduceCtorEq, ↓reduceIte]
 refine Fn_.w Ed_ (by omega) ?_
 simp only[Uf,Ad,W_oS,W_on,Aa,W_mv,Ab,T.get_set,Aj,Ah,Ag,Al,reduceIte,Ax,AP,Au,Az,Aw,Nat.reduceEqDiff, ↓reduceIte,Dq,h2,decide_true]
 refine Gt_ (y1.bnd hb0) hr ((hv.same (s':=s.cxN cxN) rfl rfl).ext0 x1) (by omega) fun s2 x2=> ?_
 have y2:=y1.on x2 hb0 fun _ _ h=>h
 try simp only[Ad,W_oS,W_on,Aa,W_mv,Ab,AV,T.get_set,Aj,Ah,A1,AX,Ag,Al,reduceIte,Ax,AP,AZ,A0,AE,Au,Az,AW,Aw,Aq,Nat.reduceEqDiff,reduceCtorEq, ↓reduceIte]
 refine W.end' (rs:=[6]) (vs:=[.bool true]) Mu_ (.inl ZG) (by omega) RX DX_ y2.cx (by simp[T.get_set]) ?_
 exact q _ y2.cx'
end
theorem JQ_ (m:Nat):K1 envS 75 [(0, .bool true),(1, .map (some m))]=some [.bool true, .map (some m), .int .i64 0, .int .i64 0, .bool false, .int .i64 0, .bool false]:=by kernel_rfl
def newC (N:Nat):Nat→Nat:=fun x=>if x<N then 1000 else if x=N then 1 else 0
section
variable {D n:Nat}{s:St}{Q:Value→St→Prop}
theorem IJ_ {r0:Int}{room:Nat}(hb:s.lim≤s.next)(h0:Own s D 0 (.bool true))(h2:Own s D 2 (.int .i64 r0))(hr:room≤16777216)(hn:60≤n)(q: ∀s1,s1.next=s.next→Ext Any (fun y=>y=D+2) s s1→Own s1 D 2 (.int .i64 (room:Nat))→Q (.int .i64 0) s1):W (Ap envS (runF envS n) 51 [.pointer (some ⟨D,0,none⟩), .int .i64 (room:Nat)]) s Q:=by
 have hb0:(s.cxN cxN).lim≤(s.cxN cxN).next:=hb
 refine Nl_ fun tm t0 t1=> ?_
 refine CF_.w rfl (by omega) ?_
 simp only[Vm,Aa,W_mv,Ab]
 refine Ld_.w Ye (by omega) ?_
 simp only[RK,Ad,W_on,Aa,W_mv,Ab,T.get_set,Aj,Ah,Ag,Al,reduceIte,reduceCtorEq, ↓reduceIte,t0]
 refine GB hb0 (h0.same rfl rfl) (by omega) fun s1 m1 n1 x1=> ?_
 try simp only[Ad,W_oS,W_on,Aa,W_mv,Ab,AV,T.get_set,Aj,Ah,A1,AX,Ag,Al,reduceIte,Ax,AP,AZ,A0,AE,Au,Az,AW,Aw,Aq,Nat.reduceEqDiff,reduceCtorEq, ↓reduceIte]
 refine W.cond (v:=false) Lr_ FQ_ (by simp[T.get_set]) (by omega) (fun h=>by cases h) fun _=> ?_
 refine BP_.w Gs_ (by omega) ?_
 have e1:decide (((room:Nat):Int)<0)=false:=decide_eq_false (by omega)
 have e2:decide ((16777216:Int)<((room:Nat):Int))=false:=decide_eq_false (by omega)
 simp only[TZ,Ad,W_oS,W_on,Aa,W_mv,Ab,T.get_set,reduceIte,Ax,AE,Au,Az,Aw,Nat.reduceEqDiff,reduceCtorEq, ↓reduceIte,BK,D5,t1,e1,e2]
 refine W.cond (v:=false) Do_ Gc_ (by simp[T.get_set]) (by omega) (fun h=>by cases h) fun _=> ?_
 refine YN.w EU_ (by omega) ?_
 simp only[T5,Ad,W_oS,Aa,W_mv,T.get_set,reduceIte,Aq,Nat.reduceEqDiff,reduceCtorEq, ↓reduceIte,t0,t1,Bd UI (by decide)]
 have g2:Own s1 D 2 (.int .i64 r0):=(h2.same (s':=s.cxN cxN) rfl rfl).same m1 n1
 refine W.store1 Fh rfl g2 fun s2 n2 x2 o2=> ?_
 have y2:Ext Any (fun y=>y=D+2) (s.cxN cxN) s2:=(x1.gw hb0 fun _ _ h=>h.elim).on x2 hb0 fun y _ hq=>by have h1:=hq.1;have h2:=hq.2;omega
 try simp only[Ad,W_oS,W_on,Aa,W_mv,Ab,AV,T.get_set,Aj,Ah,A1,AX,Ag,Al,reduceIte,Ax,AP,AZ,A0,AE,Au,Az,AW,Aw,Aq,Nat.reduceEqDiff,reduceCtorEq, ↓reduceIte]
 refine Ik_.w Yd (by omega) ?_
 simp only[Wt,Aa,W_mv,Ab]
 refine W.end' (rs:=[4]) (vs:=[.int .i64 0]) YQ (.inl OH_) (by omega) Xi Ys y2.cx (by simp[T.get_set]) ?_
 exact q _ (n2.trans n1) y2.cx' (o2.same rfl rfl)
theorem As_ {room:Nat}(hb:s.lim≤s.next)(hr:room≤16777216)(hn:100≤n)(q: ∀s1,Ext Any Non s s1→DkI s1 (newC s.next) (s.next+1) s.next ⟨[],0,room,0,false,0,false⟩→Q (.tuple #[.pointer (some ⟨s.next+1,0,none⟩), .int .i64 0]) s1):W (Ap envS (runF envS n) 21 [.int .i64 (room:Nat)]) s Q:=by
 have hb0:(s.cxN cxN).lim≤(s.cxN cxN).next:=hb
 refine Ev_ fun tm t0=> ?_
 refine MT_.w rfl (by omega) ?_
 simp only[TU,Aa,W_mv,Ab]
 refine Ku_.w An_ (by omega) ?_
 simp only[Uj,Ad,W_oS,Aa,W_mv,Ab,A1,AX,Ag]
 unfold CT
 refine W.bind (W.newO fun s1 n1 x1 o1=> ?_)
 have ea:(s.cxN cxN).next=s.next:=rfl
 rw[ea]at o1 n1 ⊢
 have y1:Ext Any Non (s.cxN cxN) s1:=x1.weak hb0 (fun _ _ _=>trivial) fun _ _ h=>h
 simp only[Aa,Qx (JQ_ s.next)]
 refine W.box fun s2 n2 x2 r2=> ?_
 rw[RM]at n2 r2
 have n2':s2.next=s1.next+8:=n2
 rw[n1]at r2 n2' ⊢
 have y2:=y1.on x2 hb0 fun _ _ h=>h
 try simp only[Ad,W_oS,W_on,Aa,W_mv,Ab,AV,T.get_set,Aj,Ah,A1,AX,Ag,Al,reduceIte,Ax,AP,AZ,A0,AE,Au,Az,AW,Aw,Aq,Nat.reduceEqDiff,reduceCtorEq, ↓reduceIte]
 refine Bm_.w Pm_ (by omega) ?_
 simp only[R5,Ad,W_on,Aa,W_mv,Ab,T.get_set,Aj,Ah,Ag,Al,reduceIte,reduceCtorEq, ↓reduceIte,t0]
 refine IJ_ (y2.bnd hb0) (r2 0 _ rfl) (r2 2 _ rfl) hr (by omega) fun s3 n3 x3 o3=> ?_
 have y3:Ext Any Non (s.cxN cxN) s3:=y2.on x3 hb0 fun y hy h=>by have:y<s.next:=hy;omega
 try simp only[Ad,W_oS,W_on,Aa,W_mv,Ab,AV,T.get_set,Aj,Ah,A1,AX,Ag,Al,reduceIte,Ax,AP,AZ,A0,AE,Au,Az,AW,Aw,Aq,Nat.reduceEqDiff,reduceCtorEq, ↓reduceIte]
 refine Zt.w JU_ (by omega) ?_
 simp only[Rn,Ad,W_oS,Aa,W_mv,Ab,T.get_set,reduceIte, ↓reduceIte,Cc,decide_true,Bool.not_true]
 refine W.cond (v:=false) Zy IO_ (by simp[T.get_set]) (by omega) (fun h=>by cases h) fun _=> ?_
 refine ER_.w Cm_ (by omega) ?_
 simp only[Xy,Aa,W_mv,Ab,T.get_set,reduceIte,Nat.reduceEqDiff, ↓reduceIte]
 refine W.end' (rs:=[2,3]) (vs:=[.pointer (some ⟨s.next+1,0,none⟩), .int .i64 0]) BR_ (.inl ZK) (by omega) XA EX_ y3.cx (by simp[T.get_set]) ?_
 refine q _ y3.cx' ?_
 have k: ∀i u,i≠2→Own s2 (s.next+1) i u→Own (s3.cxN s.cx) (s.next+1) i u:=fun i u hi h=>(h.ext x3 fun hq=>by omega).same rfl rfl
 have oM:Obj (s3.cxN s.cx) s.next (.map [] 0):=((Obj.ext (Obj.ext o1 x2 id) x3 fun hq=>by omega)).same rfl rfl
 exact⟨k 0 _ (by decide) (r2 0 _ rfl),k 1 _ (by decide) (r2 1 _ rfl),o3.same rfl rfl,k 3 _ (by decide) (r2 3 _ rfl),k 4 _ (by decide) (r2 4 _ rfl),k 5 _ (by decide) (r2 5 _ rfl),k 6 _ (by decide) (r2 6 _ rfl),fun x h1 h2=>by unfold newC;rw[if_neg (by omega),if_neg (by omega)],oM,by unfold newC;rw[if_neg (by omega),if_pos rfl],rfl,fun i hi=>absurd hi (Nat.not_lt_zero i)⟩
theorem IN_ {room:Nat}(hb:s.lim≤s.next)(hr:room≤16777216)(hn:200≤n)(q: ∀s1,Ext Any Non s s1→DkI s1 (newC s.next) (s.next+1) s.next ⟨[],0,room,0,false,0,false⟩→Q (.pointer (some ⟨s.next+1,0,none⟩)) s1):W (Ap envS (runF envS n) 8 [.int .i64 (room:Nat)]) s Q:=by
 have hb0:(s.cxN cxN).lim≤(s.cxN cxN).next:=hb
 refine Er_ fun tm t0=> ?_
 refine ND_.w rfl (by omega) ?_
 simp only[Tv,Aa,W_mv,Ab]
 refine BB_.w EB_ (by omega) ?_
 simp only[SL,Ad,W_oS,W_on,Aa,W_mv,Ab,T.get_set,Aj,Ah,Ag,Al,reduceIte,reduceCtorEq, ↓reduceIte,t0]
 refine As_ hb0 hr (by omega) fun s1 x1 hI=> ?_
 try simp only[Ad,W_oS,W_on,Aa,W_mv,Ab,AV,T.get_set,Aj,Ah,A1,AX,Ag,Al,reduceIte,Ax,AP,AZ,A0,AE,Au,Az,AW,Aw,Aq,Nat.reduceEqDiff,reduceCtorEq, ↓reduceIte]
 rw[D2 (k:=0) rfl]
 try simp only[Ad,W_oS,W_on,Aa,W_mv,Ab,AV,T.get_set,Aj,Ah,A1,AX,Ag,Al,reduceIte,Ax,AP,AZ,A0,AE,Au,Az,AW,Aw,Aq,Nat.reduceEqDiff,reduceCtorEq, ↓reduceIte]
 rw[D2 (k:=1) rfl]
 try simp only[Ad,W_oS,W_on,Aa,W_mv,Ab,AV,T.get_set,Aj,Ah,A1,AX,Ag,Al,reduceIte,Ax,AP,AZ,A0,AE,Au,Az,AW,Aw,Aq,Nat.reduceEqDiff,reduceCtorEq, ↓reduceIte]
 refine Jb_.w Cz_ (by omega) ?_
 simp only[XI,Ad,W_oS,Aa,W_mv,Ab,T.get_set,reduceIte, ↓reduceIte,Cc,decide_true,Bool.not_true]
 refine W.cond (v:=false) BH_ Fg_ (by simp[T.get_set]) (by omega) (fun h=>by cases h) fun _=> ?_
 refine Eb_.w La_ (by omega) ?_
 simp only[QS,Aa,W_mv,Ab,T.get_set,reduceIte,Nat.reduceEqDiff, ↓reduceIte]
 refine W.end' (rs:=[2]) (vs:=[.pointer (some ⟨s.next+1,0,none⟩)]) El_ (.inl YR) (by omega) SJ FK_ x1.cx (by simp[T.get_set];rfl) ?_
 exact q _ x1.cx' (hI.same rfl rfl)
end
end Go.Proofs.Ytjfhmacppabehaa.Am
end
