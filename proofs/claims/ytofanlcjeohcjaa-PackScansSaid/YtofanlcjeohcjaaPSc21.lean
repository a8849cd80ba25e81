import Derived.Test.YtofanlcjeohcjaaPSc14
import Derived.Test.YtofanlcjeohcjaaPSc07
import Derived.KernelRfl
import Derived.Test.YtofanlcjeohcjaaPSc08
import Derived.Test.YtofanlcjeohcjaaPSc06
import Derived.Test.YtofanlcjeohcjaaPSc20
import Derived.Test.YtofanlcjeohcjaaPSc17
noncomputable section
namespace Go.Proofs.Ytofanlcjeohcjaa.Am
open Go.RowKit
def DU:Nat:=Bm Try.f65
abbrev Dm_:Nat:=18
def Bw_:Code:=Try.f65.body.getD .skip
theorem DH_:envS.fn.get 65=some Try.f65:=by kernel_rfl
theorem Ke_ {a0:Value}{n:Nat}{s:St}{Q:Value→St→Prop}(h: ∀tm,T.get tm 0=some a0→W (runF envS n ⟨65,18,DU,tm,[.code Bw_], .run, .normal,none⟩) (s.cxN cxN) fun p s1=>Q p.1 (s1.cxN s.cx)):W (Ai envS (runF envS n) 65 [a0]) s Q:=
 W.call (by kernel_rfl) (by kernel_rfl) DH_ (by kernel_rfl) rfl rfl (by simp) (h _ (by kernel_rfl))
theorem Tv_:Try.f65.results.toList=[.cell 2 26]:=by kernel_rfl
def Ao_:List Item:=skim 64 [.code Bw_]
def Zu:List Item:=skim 64 Ao_.tail
def TA:List Item:=skim 64 Zu.tail
def ZN:List Item:=skim 64 TA.tail
def IS:List Item:=skim 64 ZN.tail
def OY:List Item:=skim 64 IS.tail
def GR_:List Item:=skim 64 (brT OY)
def OH:List Item:=skim 64 (brF OY)
def R0:List Item:=skim 64 GR_.tail
def Cy_:List Item:=skim 64 OH.tail
theorem KW_:skim 64 R0.tail=IS:=by kernel_rfl
def Yv (E:Env)(call round:Ab)(tm:T Value):M (T Value):=
 M.bind (Bt E 26) fun v2=>
 setF 2 v2 tm fun tm1=>
 M.pure tm1
theorem MT_:RegEq 65 18 DU Ao_ Yv:={}
def Bq_ (E:Env)(call round:Ab)(tm:T Value):M (T Value):=
 M.bind (Bt E 26) fun v3=>
 setF 3 v3 tm fun tm1=>
 M.pure tm1
theorem OS_:RegEq 65 18 DU Zu Bq_:={}
def Xb (E:Env)(call round:Ab)(tm:T Value):M (T Value):=
 mv (T.get tm 0) fun v6=>
 M.bind (M.on (some (.func (.func 107) #[] #[])) fun f=>M.on (seqO [(some v6)]) fun l=>AC call round f l) fun v7=>
 M.bind (Bt E 101) fun v4=>
 setF 4 v4 tm fun tm1=>
 M.bind (oS (some v4) fun a=>oS (some v7) fun b=>A7 E 101 a b) fun _=>
 M.pure tm1
theorem Aah_:RegEq 65 18 DU TA Xb:={}
def Ul (E:Env)(call round:Ab)(tm:T Value):M (T Value):=
 mv (some (.int .i64 0)) fun v5=>
 setF 5 v5 tm fun tm1=>
 M.pure tm1
theorem Pf_:RegEq 65 18 DU ZN Ul:={}
def Mc (E:Env)(call round:Ab)(tm:T Value):M (T Value):=
 mv (T.get tm 5) fun v8=>
 M.bind (oS (some v8) fun a=>oS (some (.int .i64 16)) fun b=>Cl.get (aBin E .lss 3 (.tmp 8) (.const (.int .i64 16))) a b) fun v9=>
 setF 9 v9 tm fun tm1=>
 M.pure tm1
theorem Ty:RegEq 65 18 DU IS Mc:={}
theorem Eo_:A4 OY=some 9:=by kernel_rfl
def Xu (E:Env)(call round:Ab)(tm:T Value):M (T Value):=
 mv (T.get tm 5) fun v12=>
 mv (T.get tm 5) fun v13=>
 M.bind (oS (T.get tm 4) fun a=>oS (some v13) fun b=>AH E 101 a b) fun v14=>
 M.bind (oS (some v14) fun a=>Ak E 5 a) fun v15=>
 M.bind (oS (T.get tm 3) fun a=>oS (some v12) fun b=>AH E 26 a b) fun v16=>
 M.bind (oS (some v16) fun a=>oS (some v15) fun b=>A7 E 5 a b) fun _=>
 M.pure tm
theorem LQ_:RegEq 65 18 DU GR_ Xu:={}
def Ry (E:Env)(call round:Ab)(tm:T Value):M (T Value):=
 M.bind (oS (T.get tm 3) fun a=>Ak E 26 a) fun v17=>
 M.bind (oS (T.get tm 2) fun a=>oS (some v17) fun b=>A7 E 26 a b) fun _=>
 M.pure tm
theorem Rl_:RegEq 65 18 DU OH Ry:={}
def Uq (E:Env)(call round:Ab)(tm:T Value):M (T Value):=
 mv (T.get tm 5) fun v10=>
 M.bind (oS (some v10) fun a=>oS (some (.int .i64 1)) fun b=>Cl.get (aBin E .add 3 (.tmp 10) (.const (.int .i64 1))) a b) fun v11=>
 mv (some v11) fun v5=>
 setF 5 v5 tm fun tm1=>
 M.pure tm1
theorem SX_:RegEq 65 18 DU R0 Uq:={}
theorem NK_: ∃k,Cy_= .code .ret::k:=⟨Cy_.tail,by kernel_rfl⟩
def Cy:Nat:=Bm Try.f107
abbrev JT:Nat:=41
def Wo:Code:=Try.f107.body.getD .skip
theorem QF:envS.fn.get 107=some Try.f107:=by kernel_rfl
theorem Rw_ {a0:Value}{n:Nat}{s:St}{Q:Value→St→Prop}(h: ∀tm,T.get tm 0=some a0→W (runF envS n ⟨107,41,Cy,tm,[.code Wo], .run, .normal,none⟩) (s.cxN cxN) fun p s1=>Q p.1 (s1.cxN s.cx)):W (Ai envS (runF envS n) 107 [a0]) s Q:=
 W.call (by kernel_rfl) (by kernel_rfl) QF (by kernel_rfl) rfl rfl (by simp) (h _ (by kernel_rfl))
theorem VH_:Try.f107.results.toList=[.cell 2 101]:=by kernel_rfl
def Zz:List Item:=skim 64 [.code Wo]
def Ec_:List Item:=skim 64 Zz.tail
def Al_:List Item:=skim 64 Ec_.tail
def TV:List Item:=skim 64 Al_.tail
def KW:List Item:=skim 64 TV.tail
def Nf:List Item:=skim 64 KW.tail
def LD:List Item:=skim 64 (brT Nf)
def LZ:List Item:=skim 64 (brF Nf)
def ZT:List Item:=skim 64 LD.tail
def Xi:List Item:=skim 64 LZ.tail
theorem Zp_:skim 64 ZT.tail=KW:=by kernel_rfl
def K6:List Item:=skim 64 Xi.tail
def Lv:List Item:=skim 64 K6.tail
def Fo_:List Item:=skim 64 (brT Lv)
def Ly:List Item:=skim 64 (brF Lv)
def GX_:List Item:=skim 64 Fo_.tail
def Ss:List Item:=skim 64 Ly.tail
theorem JR_:skim 64 GX_.tail=K6:=by kernel_rfl
def Dt_ (E:Env)(call round:Ab)(tm:T Value):M (T Value):=
 M.bind (Bt E 101) fun v2=>
 setF 2 v2 tm fun tm1=>
 M.pure tm1
theorem Wq_:RegEq 107 41 Cy Zz Dt_:={}
def UR (E:Env)(call round:Ab)(tm:T Value):M (T Value):=
 M.bind (oS (seqP [(0,(some (.int .u32 1779033703))),(1,(some (.int .u32 3144134277))),(2,(some (.int .u32 1013904242))),(3,(some (.int .u32 2773480762))),(4,(some (.int .u32 1359893119))),(5,(some (.int .u32 2600822924))),(6,(some (.int .u32 528734635))),(7,(some (.int .u32 1541459225)))]) fun ps=>Cj E 161 ps) fun v8=>
 M.bind (Bt E 161) fun v3=>
 setF 3 v3 tm fun tm1=>
 M.bind (oS (some v3) fun a=>oS (some v8) fun b=>A7 E 161 a b) fun _=>
 M.pure tm1
theorem NQ_:RegEq 107 41 Cy Ec_ UR:={}
def FM_ (E:Env)(call round:Ab)(tm:T Value):M (T Value):=
 mv (T.get tm 0) fun v9=>
 M.bind (M.on (some (.func (.func 131) #[] #[])) fun f=>M.on (seqO [(some v9)]) fun l=>AC call round f l) fun v10=>
 mv (some v10) fun v4=>
 setF 4 v4 tm fun tm1=>
 M.pure tm1
theorem AbP_:RegEq 107 41 Cy Al_ FM_:={}
def Vc (E:Env)(call round:Ab)(tm:T Value):M (T Value):=
 mv (some (.int .i64 0)) fun v5=>
 setF 5 v5 tm fun tm1=>
 M.pure tm1
theorem MM_:RegEq 107 41 Cy TV Vc:={}
def Oi (E:Env)(call round:Ab)(tm:T Value):M (T Value):=
 mv (T.get tm 5) fun v11=>
 mv (T.get tm 4) fun v12=>
 M.bind (oS (seqO [(some v12)]) fun l=>Az E .len [22] l) fun v13=>
 M.bind (oS (some v11) fun a=>oS (some v13) fun b=>Cl.get (aBin E .lss 3 (.tmp 11) (.tmp 13)) a b) fun v14=>
 setF 14 v14 tm fun tm1=>
 M.pure tm1
theorem RW:RegEq 107 41 Cy KW Oi:={}
theorem Ac_:A4 Nf=some 14:=by kernel_rfl
def XQ (E:Env)(call round:Ab)(tm:T Value):M ((Rho×T Value)×List OpLog):=
 M.bind (apartO (oS (T.get tm 3) fun a=>Ak E 161 a)) fun p0=>
 M.bind (apartO (oS (T.get tm 4) fun a=>M.pure a)) fun p1=>
 M.bind (apartO (oS (T.get tm 5) fun a=>M.pure a)) fun p2=>
 M.bind (apartO (oS (T.get tm 5) fun a=>M.pure a)) fun p3=>
 M.bind (apartO (oS (some p3.1) fun a=>oS (some (.int .i64 64)) fun b=>Cl.get (aBin E .add 3 (.tmp 20) (.const (.int .i64 64))) a b)) fun p4=>
 M.bind (apartO (M.on (some p1.1) fun a=>M.on (onO (some p2.1) fun v=>some (some v)) fun b=>M.on (onO (some p4.1) fun v=>some (some v)) fun c=>BB E 22 a b c)) fun p5=>
 M.bind (apartO (M.on (some (.func (.func 132) #[] #[])) fun f=>M.on (seqO [(some p0.1),(some p5.1)]) fun l=>AC call round f l)) fun p6=>
 M.pure (([p6.1,p5.1,p4.1,p3.1,p2.1,p1.1,p0.1],tm),[p6.2,p5.2,p4.2,p3.2,p2.2,p1.2,p0.2])
theorem Un_:DrawEq 107 41 Cy LD [0,0,0,0,8,30,63,127] XQ:={}
theorem On_ (E:Env)(call round:Ab)(x17 x18 x19 x20 x21 x22 x23:Value)(tm:T Value)(s:St):Bw call round (BO E Cy 41 (hdC LD)) [x23,x22,x21,x20,x19,x18,x17] tm s=(M.bind (oS (T.get tm 3) fun a=>oS (some x23) fun b=>A7 E 161 a b) fun _=>M.pure tm) s:=by kernel_rfl
def Q3 (E:Env)(call round:Ab)(tm:T Value):M (T Value):=
 M.bind (Bt E 101) fun v6=>
 setF 6 v6 tm fun tm1=>
 M.pure tm1
theorem IY_:RegEq 107 41 Cy LZ Q3:={}
def XI (E:Env)(call round:Ab)(tm:T Value):M (T Value):=
 mv (T.get tm 5) fun v15=>
 M.bind (oS (some v15) fun a=>oS (some (.int .i64 64)) fun b=>Cl.get (aBin E .add 3 (.tmp 15) (.const (.int .i64 64))) a b) fun v16=>
 mv (some v16) fun v5=>
 setF 5 v5 tm fun tm1=>
 M.pure tm1
theorem Ie_:RegEq 107 41 Cy ZT XI:={}
def Tb (E:Env)(call round:Ab)(tm:T Value):M (T Value):=
 mv (some (.int .i64 0)) fun v7=>
 setF 7 v7 tm fun tm1=>
 M.pure tm1
theorem Ia_:RegEq 107 41 Cy Xi Tb:={}
def O9 (E:Env)(call round:Ab)(tm:T Value):M (T Value):=
 mv (T.get tm 7) fun v24=>
 M.bind (oS (some v24) fun a=>oS (some (.int .i64 32)) fun b=>Cl.get (aBin E .lss 3 (.tmp 24) (.const (.int .i64 32))) a b) fun v25=>
 setF 25 v25 tm fun tm1=>
 M.pure tm1
theorem AO_:RegEq 107 41 Cy K6 O9:={}
theorem UQ:A4 Lv=some 25:=by kernel_rfl
def Bs_ (E:Env)(call round:Ab)(tm:T Value):M (T Value):=
 mv (T.get tm 7) fun v28=>
 mv (T.get tm 7) fun v29=>
 M.bind (oS (some v29) fun a=>oS (some (.int .i64 4)) fun b=>Cl.get (aBin E .quo 3 (.tmp 29) (.const (.int .i64 4))) a b) fun v30=>
 M.bind (oS (T.get tm 3) fun a=>oS (some v30) fun b=>AH E 161 a b) fun v31=>
 M.bind (oS (some v31) fun a=>Ak E 51 a) fun v32=>
 mv (T.get tm 7) fun v33=>
 M.bind (oS (some v33) fun a=>oS (some (.int .i64 4)) fun b=>Cl.get (aBin E .rem 3 (.tmp 33) (.const (.int .i64 4))) a b) fun v34=>
 M.bind (oS (some (.int .i64 8)) fun a=>oS (some v34) fun b=>Cl.get (aBin E .mul 3 (.const (.int .i64 8)) (.tmp 34)) a b) fun v35=>
 M.bind (oS (some (.int .i64 24)) fun a=>oS (some v35) fun b=>Cl.get (aBin E .sub 3 (.const (.int .i64 24)) (.tmp 35)) a b) fun v36=>
 M.bind (oS (some v32) fun a=>oS (some v36) fun b=>Cl.get (aBin E .shr 51 (.tmp 32) (.tmp 36)) a b) fun v37=>
 M.bind (oS (some v37) fun a=>Bc E 51 5 a) fun v38=>
 M.bind (oS (T.get tm 6) fun a=>oS (some v28) fun b=>AH E 101 a b) fun v39=>
 M.bind (oS (some v39) fun a=>oS (some v38) fun b=>A7 E 5 a b) fun _=>
 M.pure tm
theorem AbK_:RegEq 107 41 Cy Fo_ Bs_:={}
def Tt (E:Env)(call round:Ab)(tm:T Value):M (T Value):=
 M.bind (oS (T.get tm 6) fun a=>Ak E 101 a) fun v40=>
 M.bind (oS (T.get tm 2) fun a=>oS (some v40) fun b=>A7 E 101 a b) fun _=>
 M.pure tm
theorem Wi_:RegEq 107 41 Cy Ly Tt:={}
def Vx (E:Env)(call round:Ab)(tm:T Value):M (T Value):=
 mv (T.get tm 7) fun v26=>
 M.bind (oS (some v26) fun a=>oS (some (.int .i64 1)) fun b=>Cl.get (aBin E .add 3 (.tmp 26) (.const (.int .i64 1))) a b) fun v27=>
 mv (some v27) fun v7=>
 setF 7 v7 tm fun tm1=>
 M.pure tm1
theorem ZD_:RegEq 107 41 Cy GX_ Vx:={}
theorem PE_: ∃k,Ss= .code .ret::k:=⟨Ss.tail,by kernel_rfl⟩
def CX:Nat:=Bm Try.f131
abbrev ID:Nat:=35
def TK:Code:=Try.f131.body.getD .skip
theorem Zx:envS.fn.get 131=some Try.f131:=by kernel_rfl
theorem AbL_ {a0:Value}{n:Nat}{s:St}{Q:Value→St→Prop}(h: ∀tm,T.get tm 0=some a0→W (runF envS n ⟨131,35,CX,tm,[.code TK], .run, .normal,none⟩) (s.cxN cxN) fun p s1=>Q p.1 (s1.cxN s.cx)):W (Ai envS (runF envS n) 131 [a0]) s Q:=
 W.call (by kernel_rfl) (by kernel_rfl) Zx (by kernel_rfl) rfl rfl (by simp) (h _ (by kernel_rfl))
theorem Nz_:Try.f131.results.toList=[.tmp 2]:=by kernel_rfl
def DU_:List Item:=skim 64 [.code TK]
def Ek_:List Item:=skim 64 DU_.tail
def W0:List Item:=skim 64 Ek_.tail
def Iv:List Item:=skim 64 W0.tail
def LS:List Item:=skim 64 Iv.tail
def BS_:List Item:=skim 64 (brT LS)
def Ol:List Item:=skim 64 (brF LS)
theorem RS_:skim 64 BS_.tail=Iv:=by kernel_rfl
def BN_:List Item:=skim 64 Ol.tail
def K2:List Item:=skim 64 BN_.tail
def L0:List Item:=skim 64 K2.tail
def SD:List Item:=skim 64 (brT L0)
def Qr:List Item:=skim 64 (brF L0)
def DQ_:List Item:=skim 64 SD.tail
def Yy:List Item:=skim 64 Qr.tail
theorem Xb_:skim 64 DQ_.tail=K2:=by kernel_rfl
def SQ (E:Env)(call round:Ab)(tm:T Value):M (T Value):=
 mv (some (.slice none 0 0)) fun v2=>
 setF 2 v2 tm fun tm1=>
 M.pure tm1
theorem TJ_:RegEq 131 35 CX DU_ SQ:={}
def CJ_ (E:Env)(call round:Ab)(tm:T Value):M (T Value):=
 M.bind (oS (seqP []) fun ps=>BZ E 22 0 ps) fun v6=>
 mv (T.get tm 0) fun v7=>
 M.bind (oS (seqO [(some v6),(some v7)]) fun l=>Az E .append [22,22] l) fun v8=>
 mv (some v8) fun v3=>
 setF 3 v3 tm fun tm1=>
 M.pure tm1
theorem TE_:RegEq 131 35 CX Ek_ CJ_:={}
def Bp_ (E:Env)(call round:Ab)(tm:T Value):M (T Value):=
 mv (T.get tm 3) fun v9=>
 M.bind (oS (seqP [(0,(some (.int .u8 128)))]) fun ps=>BZ E 22 1 ps) fun v10=>
 M.bind (oS (seqO [(some v9),(some v10)]) fun l=>Az E .append [22,22] l) fun v11=>
 mv (some v11) fun v3=>
 setF 3 v3 tm fun tm1=>
 M.pure tm1
theorem Acg_:RegEq 131 35 CX W0 Bp_:={}
def Lj (E:Env)(call round:Ab)(tm:T Value):M (T Value):=
 mv (T.get tm 3) fun v12=>
 M.bind (oS (seqO [(some v12)]) fun l=>Az E .len [22] l) fun v13=>
 M.bind (oS (some v13) fun a=>oS (some (.int .i64 64)) fun b=>Cl.get (aBin E .rem 3 (.tmp 13) (.const (.int .i64 64))) a b) fun v14=>
 M.bind (oS (some v14) fun a=>oS (some (.int .i64 56)) fun b=>Cl.get (aBin E .neq 3 (.tmp 14) (.const (.int .i64 56))) a b) fun v15=>
 setF 15 v15 tm fun tm1=>
 M.pure tm1
theorem X9:RegEq 131 35 CX Iv Lj:={}
theorem Bd_:A4 LS=some 15:=by kernel_rfl
def R8 (E:Env)(call round:Ab)(tm:T Value):M (T Value):=
 mv (T.get tm 3) fun v16=>
 M.bind (oS (seqP [(0,(some (.int .u8 0)))]) fun ps=>BZ E 22 1 ps) fun v17=>
 M.bind (oS (seqO [(some v16),(some v17)]) fun l=>Az E .append [22,22] l) fun v18=>
 mv (some v18) fun v3=>
 setF 3 v3 tm fun tm1=>
 M.pure tm1
theorem KD_:RegEq 131 35 CX BS_ R8:={}
def BD_ (E:Env)(call round:Ab)(tm:T Value):M (T Value):=
 mv (T.get tm 0) fun v19=>
 M.bind (oS (seqO [(some v19)]) fun l=>Az E .len [22] l) fun v20=>
 M.bind (oS (some (.int .i64 8)) fun a=>oS (some v20) fun b=>Cl.get (aBin E .mul 3 (.const (.int .i64 8)) (.tmp 20)) a b) fun v21=>
 mv (some v21) fun v4=>
 setF 4 v4 tm fun tm1=>
 M.pure tm1
theorem WE_:RegEq 131 35 CX Ol BD_:={}
def UC (E:Env)(call round:Ab)(tm:T Value):M (T Value):=
 mv (some (.int .i64 7)) fun v5=>
 setF 5 v5 tm fun tm1=>
 M.pure tm1
theorem XB_:RegEq 131 35 CX BN_ UC:={}
def M4 (E:Env)(call round:Ab)(tm:T Value):M (T Value):=
 mv (T.get tm 5) fun v22=>
 M.bind (oS (some v22) fun a=>oS (some (.int .i64 0)) fun b=>Cl.get (aBin E .geq 3 (.tmp 22) (.const (.int .i64 0))) a b) fun v23=>
 setF 23 v23 tm fun tm1=>
 M.pure tm1
theorem Y4:RegEq 131 35 CX K2 M4:={}
theorem Bn_:A4 L0=some 23:=by kernel_rfl
def S3 (E:Env)(call round:Ab)(tm:T Value):M (T Value):=
 mv (T.get tm 3) fun v26=>
 mv (T.get tm 4) fun v27=>
 mv (T.get tm 5) fun v28=>
 M.bind (oS (some (.int .i64 8)) fun a=>oS (some v28) fun b=>Cl.get (aBin E .mul 3 (.const (.int .i64 8)) (.tmp 28)) a b) fun v29=>
 M.bind (oS (some v27) fun a=>oS (some v29) fun b=>Cl.get (aBin E .shr 3 (.tmp 27) (.tmp 29)) a b) fun v30=>
 M.bind (oS (some v30) fun a=>Bc E 3 5 a) fun v31=>
 M.bind (oS (seqP [(0,(some v31))]) fun ps=>BZ E 22 1 ps) fun v32=>
 M.bind (oS (seqO [(some v26),(some v32)]) fun l=>Az E .append [22,22] l) fun v33=>
 mv (some v33) fun v3=>
 setF 3 v3 tm fun tm1=>
 M.pure tm1
theorem Sr_:RegEq 131 35 CX SD S3:={}
def Zv (E:Env)(call round:Ab)(tm:T Value):M (T Value):=
 mv (T.get tm 3) fun v34=>
 mv (some v34) fun v2=>
 setF 2 v2 tm fun tm1=>
 M.pure tm1
theorem AbT_:RegEq 131 35 CX Qr Zv:={}
def Ze (E:Env)(call round:Ab)(tm:T Value):M (T Value):=
 mv (T.get tm 5) fun v24=>
 M.bind (oS (some v24) fun a=>oS (some (.int .i64 1)) fun b=>Cl.get (aBin E .sub 3 (.tmp 24) (.const (.int .i64 1))) a b) fun v25=>
 mv (some v25) fun v5=>
 setF 5 v5 tm fun tm1=>
 M.pure tm1
theorem WX_:RegEq 131 35 CX DQ_ Ze:={}
theorem Tf_: ∃k,Yy= .code .ret::k:=⟨Yy.tail,by kernel_rfl⟩
def Cg:Nat:=Bm Try.f132
abbrev JW:Nat:=118
def Tw:Code:=Try.f132.body.getD .skip
theorem Vh:envS.fn.get 132=some Try.f132:=by kernel_rfl
theorem Ack_ {a0 a1:Value}{n:Nat}{s:St}{Q:Value→St→Prop}(h: ∀tm,T.get tm 0=some a0→T.get tm 1=some a1→W (runF envS n ⟨132,118,Cg,tm,[.code Tw], .run, .normal,none⟩) (s.cxN cxN) fun p s1=>Q p.1 (s1.cxN s.cx)):W (Ai envS (runF envS n) 132 [a0,a1]) s Q:=
 W.call (by kernel_rfl) (by kernel_rfl) Vh (by kernel_rfl) rfl rfl (by simp) (h _ (by kernel_rfl) (by kernel_rfl))
theorem Abe_:Try.f132.results.toList=[.cell 4 161]:=by kernel_rfl
def Xn:List Item:=skim 64 [.code Tw]
def U0:List Item:=skim 64 Xn.tail
def V4:List Item:=skim 64 U0.tail
def XE:List Item:=skim 64 V4.tail
def I8:List Item:=skim 64 XE.tail
def Lt:List Item:=skim 64 I8.tail
def Pw:List Item:=skim 64 (brT Lt)
def PF:List Item:=skim 64 (brF Lt)
def Oy:List Item:=skim 64 Pw.tail
def Ki:List Item:=skim 64 PF.tail
def Cu_:List Item:=skim 64 Oy.tail
def NN:List Item:=skim 64 Ki.tail
def Hk_:List Item:=skim 64 Cu_.tail
def Lz:List Item:=skim 64 (brT NN)
def NS:List Item:=skim 64 (brF NN)
theorem Yf_:skim 64 Hk_.tail=I8:=by kernel_rfl
def Hs_:List Item:=skim 64 Lz.tail
def BW_:List Item:=skim 64 NS.tail
theorem Xw_:skim 64 Hs_.tail=Ki:=by kernel_rfl
def Cz_ (E:Env)(call round:Ab)(tm:T Value):M (T Value):=
 M.bind (oS (T.get tm 0) fun a=>kBox a) fun v2=>
 setF 2 v2 tm fun tm1=>
 M.bind (Bt E 161) fun v4=>
 setF 4 v4 tm1 fun tm2=>
 M.pure tm2
theorem Nu_:RegEq 132 118 Cg Xn Cz_:={}
def Hd_ (E:Env)(call round:Ab)(tm:T Value):M (T Value):=
 mv (T.get tm 1) fun v12=>
 M.bind (M.on (some (.func (.func 146) #[] #[])) fun f=>M.on (seqO [(some v12)]) fun l=>AC call round f l) fun v13=>
 M.bind (M.on (some (.func (.func 147) #[] #[])) fun f=>M.on (seqO []) fun l=>AC call round f l) fun v14=>
 M.bind (Bt E 179) fun v5=>
 setF 5 v5 tm fun tm1=>
 M.bind (Bt E 179) fun v6=>
 setF 6 v6 tm1 fun tm2=>
 M.bind (oS (some v5) fun a=>oS (some v13) fun b=>A7 E 179 a b) fun _=>
 M.bind (oS (some v6) fun a=>oS (some v14) fun b=>A7 E 179 a b) fun _=>
 M.pure tm2
theorem YJ_:RegEq 132 118 Cg U0 Hd_:={}
def YE (E:Env)(call round:Ab)(tm:T Value):M (T Value):=
 M.bind (oS (T.get tm 2) fun a=>Ak E 161 a) fun v15=>
 M.bind (Bt E 161) fun v7=>
 setF 7 v7 tm fun tm1=>
 M.bind (oS (some v7) fun a=>oS (some v15) fun b=>A7 E 161 a b) fun _=>
 M.pure tm1
theorem VG_:RegEq 132 118 Cg V4 YE:={}
def Em_ (E:Env)(call round:Ab)(tm:T Value):M (T Value):=
 mv (some (.int .i64 0)) fun v8=>
 setF 8 v8 tm fun tm1=>
 M.pure tm1
theorem RC_:RegEq 132 118 Cg XE Em_:={}
def MD (E:Env)(call round:Ab)(tm:T Value):M (T Value):=
 mv (T.get tm 8) fun v16=>
 M.bind (oS (some v16) fun a=>oS (some (.int .i64 64)) fun b=>Cl.get (aBin E .lss 3 (.tmp 16) (.const (.int .i64 64))) a b) fun v17=>
 setF 17 v17 tm fun tm1=>
 M.pure tm1
theorem YV:RegEq 132 118 Cg I8 MD:={}
theorem X7:A4 Lt=some 17:=by kernel_rfl
def CH_ (E:Env)(call round:Ab)(tm:T Value):M ((Rho×T Value)×List OpLog):=
 M.bind (apartO (oS (T.get tm 7) fun a=>oS (some (.int .i64 7)) fun b=>AH E 161 a b)) fun p0=>
 M.bind (apartO (oS (some p0.1) fun a=>Ak E 51 a)) fun p1=>
 M.bind (apartO (oS (T.get tm 7) fun a=>oS (some (.int .i64 4)) fun b=>AH E 161 a b)) fun p2=>
 M.bind (apartO (oS (some p2.1) fun a=>Ak E 51 a)) fun p3=>
 M.bind (apartO (M.on (some (.func (.func 148) #[] #[])) fun f=>M.on (seqO [(some p3.1),(some (.int .i64 6))]) fun l=>AC call round f l)) fun p4=>
 M.bind (apartO (oS (T.get tm 7) fun a=>oS (some (.int .i64 4)) fun b=>AH E 161 a b)) fun p5=>
 M.bind (apartO (oS (some p5.1) fun a=>Ak E 51 a)) fun p6=>
 M.bind (apartO (M.on (some (.func (.func 148) #[] #[])) fun f=>M.on (seqO [(some p6.1),(some (.int .i64 11))]) fun l=>AC call round f l)) fun p7=>
 M.bind (apartO (oS (some p4.1) fun a=>oS (some p7.1) fun b=>Cl.get (aBin E .xor 51 (.tmp 24) (.tmp 27)) a b)) fun p8=>
 M.bind (apartO (oS (T.get tm 7) fun a=>oS (some (.int .i64 4)) fun b=>AH E 161 a b)) fun p9=>
 M.bind (apartO (oS (some p9.1) fun a=>Ak E 51 a)) fun p10=>
 M.bind (apartO (M.on (some (.func (.func 148) #[] #[])) fun f=>M.on (seqO [(some p10.1),(some (.int .i64 25))]) fun l=>AC call round f l)) fun p11=>
 M.bind (apartO (oS (some p8.1) fun a=>oS (some p11.1) fun b=>Cl.get (aBin E .xor 51 (.tmp 28) (.tmp 31)) a b)) fun p12=>
 M.bind (apartO (oS (some p1.1) fun a=>oS (some p12.1) fun b=>Cl.get (aBin E .add 51 (.tmp 21) (.tmp 32)) a b)) fun p13=>
 M.bind (apartO (oS (T.get tm 7) fun a=>oS (some (.int .i64 4)) fun b=>AH E 161 a b)) fun p14=>
 M.bind (apartO (oS (some p14.1) fun a=>Ak E 51 a)) fun p15=>
 M.bind (apartO (oS (T.get tm 7) fun a=>oS (some (.int .i64 5)) fun b=>AH E 161 a b)) fun p16=>
 M.bind (apartO (oS (some p16.1) fun a=>Ak E 51 a)) fun p17=>
 M.bind (apartO (oS (some p15.1) fun a=>oS (some p17.1) fun b=>Cl.get (aBin E .and 51 (.tmp 35) (.tmp 37)) a b)) fun p18=>
 M.bind (apartO (oS (T.get tm 7) fun a=>oS (some (.int .i64 4)) fun b=>AH E 161 a b)) fun p19=>
 M.bind (apartO (oS (some p19.1) fun a=>Ak E 51 a)) fun p20=>
 M.bind (apartO (oS (some p20.1) fun a=>kUn E.P .xor a)) fun p21=>
 M.bind (apartO (oS (T.get tm 7) fun a=>oS (some (.int .i64 6)) fun b=>AH E 161 a b)) fun p22=>
 M.bind (apartO (oS (some p22.1) fun a=>Ak E 51 a)) fun p23=>
 M.bind (apartO (oS (some p21.1) fun a=>oS (some p23.1) fun b=>Cl.get (aBin E .and 51 (.tmp 41) (.tmp 43)) a b)) fun p24=>
 M.bind (apartO (oS (some p18.1) fun a=>oS (some p24.1) fun b=>Cl.get (aBin E .xor 51 (.tmp 38) (.tmp 44)) a b)) fun p25=>
 M.bind (apartO (oS (some p13.1) fun a=>oS (some p25.1) fun b=>Cl.get (aBin E .add 51 (.tmp 33) (.tmp 45)) a b)) fun p26=>
 M.bind (apartO (oS (T.get tm 8) fun a=>M.pure a)) fun p27=>
 M.bind (apartO (oS (T.get tm 6) fun a=>oS (some p27.1) fun b=>AH E 179 a b)) fun p28=>
 M.bind (apartO (oS (some p28.1) fun a=>Ak E 51 a)) fun p29=>
 M.bind (apartO (oS (some p26.1) fun a=>oS (some p29.1) fun b=>Cl.get (aBin E .add 51 (.tmp 46) (.tmp 49)) a b)) fun p30=>
 M.bind (apartO (oS (T.get tm 8) fun a=>M.pure a)) fun p31=>
 M.bind (apartO (oS (T.get tm 5) fun a=>oS (some p31.1) fun b=>AH E 179 a b)) fun p32=>
 M.bind (apartO (oS (some p32.1) fun a=>Ak E 51 a)) fun p33=>
 M.bind (apartO (oS (some p30.1) fun a=>oS (some p33.1) fun b=>Cl.get (aBin E .add 51 (.tmp 50) (.tmp 53)) a b)) fun p34=>
 M.pure (([p34.1,p33.1,p32.1,p31.1,p30.1,p29.1,p28.1,p27.1,p26.1,p25.1,p24.1,p23.1,p22.1,p21.1,p20.1,p19.1,p18.1,p17.1,p16.1,p15.1,p14.1,p13.1,p12.1,p11.1,p10.1,p9.1,p8.1,p7.1,p6.1,p5.1,p4.1,p3.1,p2.1,p1.1,p0.1],tm),[p34.2,p33.2,p32.2,p31.2,p30.2,p29.2,p28.2,p27.2,p26.2,p25.2,p24.2,p23.2,p22.2,p21.2,p20.2,p19.2,p18.2,p17.2,p16.2,p15.2,p14.2,p13.2,p12.2,p11.2,p10.2,p9.2,p8.2,p7.2,p6.2,p5.2,p4.2,p3.2,p2.2,p1.2,p0.2])
theorem QK_:DrawEq 132 118 Cg Pw [0,1,0,4,12,0,32,124,252,0,512,1788,4092,8191,0,16384,0,65536,245760,0,524288,1572864,0,4194304,16252928,33538048,67108863,0,134217728,402653184,1073741823,0,2147483648,6442450944,17179869183,34359738367] CH_:={}
theorem AbD_ (E:Env)(call round:Ab)(x20 x21 x22 x23 x24 x25 x26 x27 x28 x29 x30 x31 x32 x33 x34 x35 x36 x37 x38 x39 x40 x41 x42 x43 x44 x45 x46 x47 x48 x49 x50 x51 x52 x53 x54:Value)(tm:T Value)(s:St):Bw call round (BO E Cg 118 (hdC Pw)) [x54,x53,x52,x51,x50,x49,x48,x47,x46,x45,x44,x43,x42,x41,x40,x39,x38,x37,x36,x35,x34,x33,x32,x31,x30,x29,x28,x27,x26,x25,x24,x23,x22,x21,x20] tm s=(M.bind (oS (some x54) fun a=>M.pure a) fun v9=>setT 9 v9 tm fun tm1=>M.pure tm1) s:=by kernel_rfl
def RK (E:Env)(call round:Ab)(tm:T Value):M (T Value):=
 mv (some (.int .i64 0)) fun v11=>
 setF 11 v11 tm fun tm1=>
 M.pure tm1
theorem PC_:RegEq 132 118 Cg PF RK:={}
def GK_ (E:Env)(call round:Ab)(tm:T Value):M ((Rho×T Value)×List OpLog):=
 M.bind (apartO (oS (T.get tm 7) fun a=>oS (some (.int .i64 0)) fun b=>AH E 161 a b)) fun p0=>
 M.bind (apartO (oS (some p0.1) fun a=>Ak E 51 a)) fun p1=>
 M.bind (apartO (M.on (some (.func (.func 148) #[] #[])) fun f=>M.on (seqO [(some p1.1),(some (.int .i64 2))]) fun l=>AC call round f l)) fun p2=>
 M.bind (apartO (oS (T.get tm 7) fun a=>oS (some (.int .i64 0)) fun b=>AH E 161 a b)) fun p3=>
 M.bind (apartO (oS (some p3.1) fun a=>Ak E 51 a)) fun p4=>
 M.bind (apartO (M.on (some (.func (.func 148) #[] #[])) fun f=>M.on (seqO [(some p4.1),(some (.int .i64 13))]) fun l=>AC call round f l)) fun p5=>
 M.bind (apartO (oS (some p2.1) fun a=>oS (some p5.1) fun b=>Cl.get (aBin E .xor 51 (.tmp 57) (.tmp 60)) a b)) fun p6=>
 M.bind (apartO (oS (T.get tm 7) fun a=>oS (some (.int .i64 0)) fun b=>AH E 161 a b)) fun p7=>
 M.bind (apartO (oS (some p7.1) fun a=>Ak E 51 a)) fun p8=>
 M.bind (apartO (M.on (some (.func (.func 148) #[] #[])) fun f=>M.on (seqO [(some p8.1),(some (.int .i64 22))]) fun l=>AC call round f l)) fun p9=>
 M.bind (apartO (oS (some p6.1) fun a=>oS (some p9.1) fun b=>Cl.get (aBin E .xor 51 (.tmp 61) (.tmp 64)) a b)) fun p10=>
 M.bind (apartO (oS (T.get tm 7) fun a=>oS (some (.int .i64 0)) fun b=>AH E 161 a b)) fun p11=>
 M.bind (apartO (oS (some p11.1) fun a=>Ak E 51 a)) fun p12=>
 M.bind (apartO (oS (T.get tm 7) fun a=>oS (some (.int .i64 1)) fun b=>AH E 161 a b)) fun p13=>
 M.bind (apartO (oS (some p13.1) fun a=>Ak E 51 a)) fun p14=>
 M.bind (apartO (oS (some p12.1) fun a=>oS (some p14.1) fun b=>Cl.get (aBin E .and 51 (.tmp 67) (.tmp 69)) a b)) fun p15=>
 M.bind (apartO (oS (T.get tm 7) fun a=>oS (some (.int .i64 0)) fun b=>AH E 161 a b)) fun p16=>
 M.bind (apartO (oS (some p16.1) fun a=>Ak E 51 a)) fun p17=>
 M.bind (apartO (oS (T.get tm 7) fun a=>oS (some (.int .i64 2)) fun b=>AH E 161 a b)) fun p18=>
 M.bind (apartO (oS (some p18.1) fun a=>Ak E 51 a)) fun p19=>
 M.bind (apartO (oS (some p17.1) fun a=>oS (some p19.1) fun b=>Cl.get (aBin E .and 51 (.tmp 72) (.tmp 74)) a b)) fun p20=>
 M.bind (apartO (oS (some p15.1) fun a=>oS (some p20.1) fun b=>Cl.get (aBin E .xor 51 (.tmp 70) (.tmp 75)) a b)) fun p21=>
 M.bind (apartO (oS (T.get tm 7) fun a=>oS (some (.int .i64 1)) fun b=>AH E 161 a b)) fun p22=>
 M.bind (apartO (oS (some p22.1) fun a=>Ak E 51 a)) fun p23=>
 M.bind (apartO (oS (T.get tm 7) fun a=>oS (some (.int .i64 2)) fun b=>AH E 161 a b)) fun p24=>
 M.bind (apartO (oS (some p24.1) fun a=>Ak E 51 a)) fun p25=>
 M.bind (apartO (oS (some p23.1) fun a=>oS (some p25.1) fun b=>Cl.get (aBin E .and 51 (.tmp 78) (.tmp 80)) a b)) fun p26=>
 M.bind (apartO (oS (some p21.1) fun a=>oS (some p26.1) fun b=>Cl.get (aBin E .xor 51 (.tmp 76) (.tmp 81)) a b)) fun p27=>
 M.bind (apartO (oS (some p10.1) fun a=>oS (some p27.1) fun b=>Cl.get (aBin E .add 51 (.tmp 65) (.tmp 82)) a b)) fun p28=>
 M.pure (([p28.1,p27.1,p26.1,p25.1,p24.1,p23.1,p22.1,p21.1,p20.1,p19.1,p18.1,p17.1,p16.1,p15.1,p14.1,p13.1,p12.1,p11.1,p10.1,p9.1,p8.1,p7.1,p6.1,p5.1,p4.1,p3.1,p2.1,p1.1,p0.1],tm),[p28.2,p27.2,p26.2,p25.2,p24.2,p23.2,p22.2,p21.2,p20.2,p19.2,p18.2,p17.2,p16.2,p15.2,p14.2,p13.2,p12.2,p11.2,p10.2,p9.2,p8.2,p7.2,p6.2,p5.2,p4.2,p3.2,p2.2,p1.2,p0.2])
theorem RM_:DrawEq 132 118 Cg Oy [0,1,3,0,8,31,63,0,128,447,1023,0,2048,0,8192,30720,0,65536,0,262144,983040,2095104,0,4194304,0,16777216,62914560,134215680,268435455,536870911] GK_:={}
theorem UG_ (E:Env)(call round:Ab)(x55 x56 x57 x58 x59 x60 x61 x62 x63 x64 x65 x66 x67 x68 x69 x70 x71 x72 x73 x74 x75 x76 x77 x78 x79 x80 x81 x82 x83:Value)(tm:T Value)(s:St):Bw call round (BO E Cg 118 (hdC Oy)) [x83,x82,x81,x80,x79,x78,x77,x76,x75,x74,x73,x72,x71,x70,x69,x68,x67,x66,x65,x64,x63,x62,x61,x60,x59,x58,x57,x56,x55] tm s=(M.bind (oS (some x83) fun a=>M.pure a) fun v10=>setT 10 v10 tm fun tm1=>M.pure tm1) s:=by kernel_rfl
def Qf (E:Env)(call round:Ab)(tm:T Value):M (T Value):=
 mv (T.get tm 11) fun v104=>
 M.bind (oS (some v104) fun a=>oS (some (.int .i64 8)) fun b=>Cl.get (aBin E .lss 3 (.tmp 104) (.const (.int .i64 8))) a b) fun v105=>
 setF 105 v105 tm fun tm1=>
 M.pure tm1
theorem Yp:RegEq 132 118 Cg Ki Qf:={}
def VN (E:Env)(call round:Ab)(tm:T Value):M (T Value):=
 mv (T.get tm 9) fun v84=>
 mv (T.get tm 10) fun v85=>
 M.bind (oS (some v84) fun a=>oS (some v85) fun b=>Cl.get (aBin E .add 51 (.tmp 84) (.tmp 85)) a b) fun v86=>
 M.bind (oS (T.get tm 7) fun a=>oS (some (.int .i64 0)) fun b=>AH E 161 a b) fun v87=>
 M.bind (oS (some v87) fun a=>Ak E 51 a) fun v88=>
 M.bind (oS (T.get tm 7) fun a=>oS (some (.int .i64 1)) fun b=>AH E 161 a b) fun v89=>
 M.bind (oS (some v89) fun a=>Ak E 51 a) fun v90=>
 M.bind (oS (T.get tm 7) fun a=>oS (some (.int .i64 2)) fun b=>AH E 161 a b) fun v91=>
 M.bind (oS (some v91) fun a=>Ak E 51 a) fun v92=>
 M.bind (oS (T.get tm 7) fun a=>oS (some (.int .i64 3)) fun b=>AH E 161 a b) fun v93=>
 M.bind (oS (some v93) fun a=>Ak E 51 a) fun v94=>
 mv (T.get tm 9) fun v95=>
 M.bind (oS (some v94) fun a=>oS (some v95) fun b=>Cl.get (aBin E .add 51 (.tmp 94) (.tmp 95)) a b) fun v96=>
 M.bind (oS (T.get tm 7) fun a=>oS (some (.int .i64 4)) fun b=>AH E 161 a b) fun v97=>
 M.bind (oS (some v97) fun a=>Ak E 51 a) fun v98=>
 M.bind (oS (T.get tm 7) fun a=>oS (some (.int .i64 5)) fun b=>AH E 161 a b) fun v99=>
 M.bind (oS (some v99) fun a=>Ak E 51 a) fun v100=>
 M.bind (oS (T.get tm 7) fun a=>oS (some (.int .i64 6)) fun b=>AH E 161 a b) fun v101=>
 M.bind (oS (some v101) fun a=>Ak E 51 a) fun v102=>
 M.bind (oS (seqP [(0,(some v86)),(1,(some v88)),(2,(some v90)),(3,(some v92)),(4,(some v96)),(5,(some v98)),(6,(some v100)),(7,(some v102))]) fun ps=>Cj E 161 ps) fun v103=>
 M.bind (oS (T.get tm 7) fun a=>oS (some v103) fun b=>A7 E 161 a b) fun _=>
 M.pure tm
theorem Jn_:RegEq 132 118 Cg Cu_ VN:={}
theorem Av_:A4 NN=some 105:=by kernel_rfl
def BM_ (E:Env)(call round:Ab)(tm:T Value):M (T Value):=
 mv (T.get tm 8) fun v18=>
 M.bind (oS (some v18) fun a=>oS (some (.int .i64 1)) fun b=>Cl.get (aBin E .add 3 (.tmp 18) (.const (.int .i64 1))) a b) fun v19=>
 mv (some v19) fun v8=>
 setF 8 v8 tm fun tm1=>
 M.pure tm1
theorem RL_:RegEq 132 118 Cg Hk_ BM_:={}
def BP_ (E:Env)(call round:Ab)(tm:T Value):M ((Rho×T Value)×List OpLog):=
 M.bind (apartO (oS (T.get tm 11) fun a=>M.pure a)) fun p0=>
 M.bind (apartO (oS (T.get tm 11) fun a=>M.pure a)) fun p1=>
 M.bind (apartO (oS (T.get tm 2) fun a=>oS (some p1.1) fun b=>AH E 161 a b)) fun p2=>
 M.bind (apartO (oS (some p2.1) fun a=>Ak E 51 a)) fun p3=>
 M.bind (apartO (oS (T.get tm 11) fun a=>M.pure a)) fun p4=>
 M.bind (apartO (oS (T.get tm 7) fun a=>oS (some p4.1) fun b=>AH E 161 a b)) fun p5=>
 M.bind (apartO (oS (some p5.1) fun a=>Ak E 51 a)) fun p6=>
 M.bind (apartO (oS (some p3.1) fun a=>oS (some p6.1) fun b=>Cl.get (aBin E .add 51 (.tmp 111) (.tmp 114)) a b)) fun p7=>
 M.bind (apartO (oS (T.get tm 2) fun a=>oS (some p0.1) fun b=>AH E 161 a b)) fun p8=>
 M.pure (([p8.1,p7.1,p6.1,p5.1,p4.1,p3.1,p2.1,p1.1,p0.1],tm),[p8.2,p7.2,p6.2,p5.2,p4.2,p3.2,p2.2,p1.2,p0.2])
theorem PX_:DrawEq 132 118 Cg Lz [0,0,2,6,0,16,48,126,255,511] BP_:={}
theorem KB_ (E:Env)(call round:Ab)(x108 x109 x110 x111 x112 x113 x114 x115 x116:Value)(tm:T Value)(s:St):Bw call round (BO E Cg 118 (hdC Lz)) [x116,x115,x114,x113,x112,x111,x110,x109,x108] tm s=(M.bind (oS (some x116) fun a=>oS (some x115) fun b=>A7 E 51 a b) fun _=>M.pure tm) s:=by kernel_rfl
def EI_ (E:Env)(call round:Ab)(tm:T Value):M (T Value):=
 M.bind (oS (T.get tm 2) fun a=>Ak E 161 a) fun v117=>
 M.bind (oS (T.get tm 4) fun a=>oS (some v117) fun b=>A7 E 161 a b) fun _=>
 M.pure tm
theorem TB_:RegEq 132 118 Cg NS EI_:={}
def WO (E:Env)(call round:Ab)(tm:T Value):M (T Value):=
 mv (T.get tm 11) fun v106=>
 M.bind (oS (some v106) fun a=>oS (some (.int .i64 1)) fun b=>Cl.get (aBin E .add 3 (.tmp 106) (.const (.int .i64 1))) a b) fun v107=>
 mv (some v107) fun v11=>
 setF 11 v11 tm fun tm1=>
 M.pure tm1
theorem AaY_:RegEq 132 118 Cg Hs_ WO:={}
theorem Li_: ∃k,BW_= .code .ret::k:=⟨BW_.tail,by kernel_rfl⟩
def Cv:Nat:=Bm Try.f146
abbrev KR:Nat:=89
def T3:Code:=Try.f146.body.getD .skip
theorem Wy:envS.fn.get 146=some Try.f146:=by kernel_rfl
theorem Wh_ {a0:Value}{n:Nat}{s:St}{Q:Value→St→Prop}(h: ∀tm,T.get tm 0=some a0→W (runF envS n ⟨146,89,Cv,tm,[.code T3], .run, .normal,none⟩) (s.cxN cxN) fun p s1=>Q p.1 (s1.cxN s.cx)):W (Ai envS (runF envS n) 146 [a0]) s Q:=
 W.call (by kernel_rfl) (by kernel_rfl) Wy (by kernel_rfl) rfl rfl (by simp) (h _ (by kernel_rfl))
theorem KM_:Try.f146.results.toList=[.cell 2 179]:=by kernel_rfl
def YC:List Item:=skim 64 [.code T3]
def BG_:List Item:=skim 64 YC.tail
def Ay_:List Item:=skim 64 BG_.tail
def KX:List Item:=skim 64 Ay_.tail
def MR:List Item:=skim 64 KX.tail
def Nh:List Item:=skim 64 (brT MR)
def Mk:List Item:=skim 64 (brF MR)
def Vf:List Item:=skim 64 Nh.tail
def KP:List Item:=skim 64 Mk.tail
theorem UQ_:skim 64 Vf.tail=KX:=by kernel_rfl
def Qk:List Item:=skim 64 KP.tail
def Qi:List Item:=skim 64 (brT Qk)
def OI:List Item:=skim 64 (brF Qk)
def PE:List Item:=skim 64 Qi.tail
def Es_:List Item:=skim 64 OI.tail
def Ab_:List Item:=skim 64 PE.tail
theorem MH_:skim 64 Ab_.tail=KP:=by kernel_rfl
def RM (E:Env)(call round:Ab)(tm:T Value):M (T Value):=
 M.bind (Bt E 179) fun v2=>
 setF 2 v2 tm fun tm1=>
 M.pure tm1
theorem JV_:RegEq 146 89 Cv YC RM:={}
def QK (E:Env)(call round:Ab)(tm:T Value):M (T Value):=
 M.bind (Bt E 179) fun v3=>
 setF 3 v3 tm fun tm1=>
 M.pure tm1
theorem Uv_:RegEq 146 89 Cv BG_ QK:={}
def Z5 (E:Env)(call round:Ab)(tm:T Value):M (T Value):=
 mv (some (.int .i64 0)) fun v4=>
 setF 4 v4 tm fun tm1=>
 M.pure tm1
theorem Iy_:RegEq 146 89 Cv Ay_ Z5:={}
def Mh (E:Env)(call round:Ab)(tm:T Value):M (T Value):=
 mv (T.get tm 4) fun v8=>
 M.bind (oS (some v8) fun a=>oS (some (.int .i64 16)) fun b=>Cl.get (aBin E .lss 3 (.tmp 8) (.const (.int .i64 16))) a b) fun v9=>
 setF 9 v9 tm fun tm1=>
 M.pure tm1
theorem Q7:RegEq 146 89 Cv KX Mh:={}
theorem Vp:A4 MR=some 9:=by kernel_rfl
def Sc (E:Env)(call round:Ab)(tm:T Value):M ((Rho×T Value)×List OpLog):=
 M.bind (apartO (oS (T.get tm 4) fun a=>M.pure a)) fun p0=>
 M.bind (apartO (oS (T.get tm 0) fun a=>M.pure a)) fun p1=>
 M.bind (apartO (oS (T.get tm 4) fun a=>M.pure a)) fun p2=>
 M.bind (apartO (oS (some (.int .i64 4)) fun a=>oS (some p2.1) fun b=>Cl.get (aBin E .mul 3 (.const (.int .i64 4)) (.tmp 14)) a b)) fun p3=>
 M.bind (apartO (oS (some p1.1) fun a=>oS (some p3.1) fun b=>AH E 22 a b)) fun p4=>
 M.bind (apartO (oS (some p4.1) fun a=>Ak E 5 a)) fun p5=>
 M.bind (apartO (oS (some p5.1) fun a=>Bc E 5 51 a)) fun p6=>
 M.bind (apartO (oS (some p6.1) fun a=>oS (some (.int .u64 24)) fun b=>Cl.get (aBin E .shl 51 (.tmp 18) (.const (.int .u64 24))) a b)) fun p7=>
 M.bind (apartO (oS (T.get tm 0) fun a=>M.pure a)) fun p8=>
 M.bind (apartO (oS (T.get tm 4) fun a=>M.pure a)) fun p9=>
 M.bind (apartO (oS (some (.int .i64 4)) fun a=>oS (some p9.1) fun b=>Cl.get (aBin E .mul 3 (.const (.int .i64 4)) (.tmp 21)) a b)) fun p10=>
 M.bind (apartO (oS (some p10.1) fun a=>oS (some (.int .i64 1)) fun b=>Cl.get (aBin E .add 3 (.tmp 22) (.const (.int .i64 1))) a b)) fun p11=>
 M.bind (apartO (oS (some p8.1) fun a=>oS (some p11.1) fun b=>AH E 22 a b)) fun p12=>
 M.bind (apartO (oS (some p12.1) fun a=>Ak E 5 a)) fun p13=>
 M.bind (apartO (oS (some p13.1) fun a=>Bc E 5 51 a)) fun p14=>
 M.bind (apartO (oS (some p14.1) fun a=>oS (some (.int .u64 16)) fun b=>Cl.get (aBin E .shl 51 (.tmp 26) (.const (.int .u64 16))) a b)) fun p15=>
 M.bind (apartO (oS (some p7.1) fun a=>oS (some p15.1) fun b=>Cl.get (aBin E .or 51 (.tmp 19) (.tmp 27)) a b)) fun p16=>
 M.bind (apartO (oS (T.get tm 0) fun a=>M.pure a)) fun p17=>
 M.bind (apartO (oS (T.get tm 4) fun a=>M.pure a)) fun p18=>
 M.bind (apartO (oS (some (.int .i64 4)) fun a=>oS (some p18.1) fun b=>Cl.get (aBin E .mul 3 (.const (.int .i64 4)) (.tmp 30)) a b)) fun p19=>
 M.bind (apartO (oS (some p19.1) fun a=>oS (some (.int .i64 2)) fun b=>Cl.get (aBin E .add 3 (.tmp 31) (.const (.int .i64 2))) a b)) fun p20=>
 M.bind (apartO (oS (some p17.1) fun a=>oS (some p20.1) fun b=>AH E 22 a b)) fun p21=>
 M.bind (apartO (oS (some p21.1) fun a=>Ak E 5 a)) fun p22=>
 M.bind (apartO (oS (some p22.1) fun a=>Bc E 5 51 a)) fun p23=>
 M.bind (apartO (oS (some p23.1) fun a=>oS (some (.int .u64 8)) fun b=>Cl.get (aBin E .shl 51 (.tmp 35) (.const (.int .u64 8))) a b)) fun p24=>
 M.bind (apartO (oS (some p16.1) fun a=>oS (some p24.1) fun b=>Cl.get (aBin E .or 51 (.tmp 28) (.tmp 36)) a b)) fun p25=>
 M.bind (apartO (oS (T.get tm 0) fun a=>M.pure a)) fun p26=>
 M.bind (apartO (oS (T.get tm 4) fun a=>M.pure a)) fun p27=>
 M.bind (apartO (oS (some (.int .i64 4)) fun a=>oS (some p27.1) fun b=>Cl.get (aBin E .mul 3 (.const (.int .i64 4)) (.tmp 39)) a b)) fun p28=>
 M.bind (apartO (oS (some p28.1) fun a=>oS (some (.int .i64 3)) fun b=>Cl.get (aBin E .add 3 (.tmp 40) (.const (.int .i64 3))) a b)) fun p29=>
 M.bind (apartO (oS (some p26.1) fun a=>oS (some p29.1) fun b=>AH E 22 a b)) fun p30=>
 M.bind (apartO (oS (some p30.1) fun a=>Ak E 5 a)) fun p31=>
 M.bind (apartO (oS (some p31.1) fun a=>Bc E 5 51 a)) fun p32=>
 M.bind (apartO (oS (some p25.1) fun a=>oS (some p32.1) fun b=>Cl.get (aBin E .or 51 (.tmp 37) (.tmp 44)) a b)) fun p33=>
 M.bind (apartO (oS (T.get tm 3) fun a=>oS (some p0.1) fun b=>AH E 179 a b)) fun p34=>
 M.pure (([p34.1,p33.1,p32.1,p31.1,p30.1,p29.1,p28.1,p27.1,p26.1,p25.1,p24.1,p23.1,p22.1,p21.1,p20.1,p19.1,p18.1,p17.1,p16.1,p15.1,p14.1,p13.1,p12.1,p11.1,p10.1,p9.1,p8.1,p7.1,p6.1,p5.1,p4.1,p3.1,p2.1,p1.1,p0.1],tm),[p34.2,p33.2,p32.2,p31.2,p30.2,p29.2,p28.2,p27.2,p26.2,p25.2,p24.2,p23.2,p22.2,p21.2,p20.2,p19.2,p18.2,p17.2,p16.2,p15.2,p14.2,p13.2,p12.2,p11.2,p10.2,p9.2,p8.2,p7.2,p6.2,p5.2,p4.2,p3.2,p2.2,p1.2,p0.2])
theorem Ach_:DrawEq 146 89 Cv Nh [0,0,0,4,14,30,62,126,0,0,512,1536,3840,7936,16128,32512,65534,0,0,262144,786432,1966080,4063232,8257536,16646144,33554430,0,0,134217728,402653184,1006632960,2080374784,4227858432,8589934590,17179869183,34359738367] Sc:={}
theorem JX_ (E:Env)(call round:Ab)(x12 x13 x14 x15 x16 x17 x18 x19 x20 x21 x22 x23 x24 x25 x26 x27 x28 x29 x30 x31 x32 x33 x34 x35 x36 x37 x38 x39 x40 x41 x42 x43 x44 x45 x46:Value)(tm:T Value)(s:St):Bw call round (BO E Cv 89 (hdC Nh)) [x46,x45,x44,x43,x42,x41,x40,x39,x38,x37,x36,x35,x34,x33,x32,x31,x30,x29,x28,x27,x26,x25,x24,x23,x22,x21,x20,x19,x18,x17,x16,x15,x14,x13,x12] tm s=(M.bind (oS (some x46) fun a=>oS (some x45) fun b=>A7 E 51 a b) fun _=>M.pure tm) s:=by kernel_rfl
def SH (E:Env)(call round:Ab)(tm:T Value):M (T Value):=
 mv (some (.int .i64 16)) fun v5=>
 setF 5 v5 tm fun tm1=>
 M.pure tm1
theorem Vj_:RegEq 146 89 Cv Mk SH:={}
def Eg_ (E:Env)(call round:Ab)(tm:T Value):M (T Value):=
 mv (T.get tm 4) fun v10=>
 M.bind (oS (some v10) fun a=>oS (some (.int .i64 1)) fun b=>Cl.get (aBin E .add 3 (.tmp 10) (.const (.int .i64 1))) a b) fun v11=>
 mv (some v11) fun v4=>
 setF 4 v4 tm fun tm1=>
 M.pure tm1
theorem Ry_:RegEq 146 89 Cv Vf Eg_:={}
def Oe (E:Env)(call round:Ab)(tm:T Value):M (T Value):=
 mv (T.get tm 5) fun v47=>
 M.bind (oS (some v47) fun a=>oS (some (.int .i64 64)) fun b=>Cl.get (aBin E .lss 3 (.tmp 47) (.const (.int .i64 64))) a b) fun v48=>
 setF 48 v48 tm fun tm1=>
 M.pure tm1
theorem GA_:RegEq 146 89 Cv KP Oe:={}
theorem EC_:A4 Qk=some 48:=by kernel_rfl
def Wt (E:Env)(call round:Ab)(tm:T Value):M ((Rho×T Value)×List OpLog):=
 M.bind (apartO (oS (T.get tm 5) fun a=>M.pure a)) fun p0=>
 M.bind (apartO (oS (some p0.1) fun a=>oS (some (.int .i64 15)) fun b=>Cl.get (aBin E .sub 3 (.tmp 51) (.const (.int .i64 15))) a b)) fun p1=>
 M.bind (apartO (oS (T.get tm 3) fun a=>oS (some p1.1) fun b=>AH E 179 a b)) fun p2=>
 M.bind (apartO (oS (some p2.1) fun a=>Ak E 51 a)) fun p3=>
 M.bind (apartO (oS (T.get tm 5) fun a=>M.pure a)) fun p4=>
 M.bind (apartO (oS (some p4.1) fun a=>oS (some (.int .i64 2)) fun b=>Cl.get (aBin E .sub 3 (.tmp 55) (.const (.int .i64 2))) a b)) fun p5=>
 M.bind (apartO (oS (T.get tm 3) fun a=>oS (some p5.1) fun b=>AH E 179 a b)) fun p6=>
 M.bind (apartO (oS (some p6.1) fun a=>Ak E 51 a)) fun p7=>
 M.bind (apartO (oS (some p3.1) fun a=>M.pure a)) fun p8=>
 setT 6 p8.1 tm fun tm1=>
 M.pure (([p8.1,p7.1,p6.1,p5.1,p4.1,p3.1,p2.1,p1.1,p0.1],tm1),[p8.2,p7.2,p6.2,p5.2,p4.2,p3.2,p2.2,p1.2,p0.2])
theorem ZM_:DrawEq 146 89 Cv Qi [0,1,3,7,0,16,48,112,15,511] Wt:={}
theorem To_ (E:Env)(call round:Ab)(x51 x52 x53 x54 x55 x56 x57 x58 x6:Value)(tm:T Value)(s:St):Bw call round (BO E Cv 89 (hdC Qi)) [x6,x58,x57,x56,x55,x54,x53,x52,x51] tm s=(M.bind (oS (some x58) fun a=>M.pure a) fun v7=>setT 7 v7 tm fun tm1=>M.pure tm1) s:=by kernel_rfl
def Aw_ (E:Env)(call round:Ab)(tm:T Value):M (T Value):=
 M.bind (oS (T.get tm 3) fun a=>Ak E 179 a) fun v88=>
 M.bind (oS (T.get tm 2) fun a=>oS (some v88) fun b=>A7 E 179 a b) fun _=>
 M.pure tm
theorem Wf_:RegEq 146 89 Cv OI Aw_:={}
def Ue (E:Env)(call round:Ab)(tm:T Value):M ((Rho×T Value)×List OpLog):=
 M.bind (apartO (oS (T.get tm 5) fun a=>M.pure a)) fun p0=>
 M.bind (apartO (oS (T.get tm 5) fun a=>M.pure a)) fun p1=>
 M.bind (apartO (oS (some p1.1) fun a=>oS (some (.int .i64 16)) fun b=>Cl.get (aBin E .sub 3 (.tmp 60) (.const (.int .i64 16))) a b)) fun p2=>
 M.bind (apartO (oS (T.get tm 3) fun a=>oS (some p2.1) fun b=>AH E 179 a b)) fun p3=>
 M.bind (apartO (oS (some p3.1) fun a=>Ak E 51 a)) fun p4=>
 M.bind (apartO (oS (T.get tm 6) fun a=>M.pure a)) fun p5=>
 M.bind (apartO (M.on (some (.func (.func 148) #[] #[])) fun f=>M.on (seqO [(some p5.1),(some (.int .i64 7))]) fun l=>AC call round f l)) fun p6=>
 M.bind (apartO (oS (T.get tm 6) fun a=>M.pure a)) fun p7=>
 M.bind (apartO (M.on (some (.func (.func 148) #[] #[])) fun f=>M.on (seqO [(some p7.1),(some (.int .i64 18))]) fun l=>AC call round f l)) fun p8=>
 M.bind (apartO (oS (some p6.1) fun a=>oS (some p8.1) fun b=>Cl.get (aBin E .xor 51 (.tmp 65) (.tmp 67)) a b)) fun p9=>
 M.bind (apartO (oS (T.get tm 6) fun a=>M.pure a)) fun p10=>
 M.bind (apartO (oS (some p10.1) fun a=>oS (some (.int .u64 3)) fun b=>Cl.get (aBin E .shr 51 (.tmp 69) (.const (.int .u64 3))) a b)) fun p11=>
 M.bind (apartO (oS (some p9.1) fun a=>oS (some p11.1) fun b=>Cl.get (aBin E .xor 51 (.tmp 68) (.tmp 70)) a b)) fun p12=>
 M.bind (apartO (oS (some p4.1) fun a=>oS (some p12.1) fun b=>Cl.get (aBin E .add 51 (.tmp 63) (.tmp 71)) a b)) fun p13=>
 M.bind (apartO (oS (T.get tm 5) fun a=>M.pure a)) fun p14=>
 M.bind (apartO (oS (some p14.1) fun a=>oS (some (.int .i64 7)) fun b=>Cl.get (aBin E .sub 3 (.tmp 73) (.const (.int .i64 7))) a b)) fun p15=>
 M.bind (apartO (oS (T.get tm 3) fun a=>oS (some p15.1) fun b=>AH E 179 a b)) fun p16=>
 M.bind (apartO (oS (some p16.1) fun a=>Ak E 51 a)) fun p17=>
 M.bind (apartO (oS (some p13.1) fun a=>oS (some p17.1) fun b=>Cl.get (aBin E .add 51 (.tmp 72) (.tmp 76)) a b)) fun p18=>
 M.bind (apartO (oS (T.get tm 7) fun a=>M.pure a)) fun p19=>
 M.bind (apartO (M.on (some (.func (.func 148) #[] #[])) fun f=>M.on (seqO [(some p19.1),(some (.int .i64 17))]) fun l=>AC call round f l)) fun p20=>
 M.bind (apartO (oS (T.get tm 7) fun a=>M.pure a)) fun p21=>
 M.bind (apartO (M.on (some (.func (.func 148) #[] #[])) fun f=>M.on (seqO [(some p21.1),(some (.int .i64 19))]) fun l=>AC call round f l)) fun p22=>
 M.bind (apartO (oS (some p20.1) fun a=>oS (some p22.1) fun b=>Cl.get (aBin E .xor 51 (.tmp 79) (.tmp 81)) a b)) fun p23=>
 M.bind (apartO (oS (T.get tm 7) fun a=>M.pure a)) fun p24=>
 M.bind (apartO (oS (some p24.1) fun a=>oS (some (.int .u64 10)) fun b=>Cl.get (aBin E .shr 51 (.tmp 83) (.const (.int .u64 10))) a b)) fun p25=>
 M.bind (apartO (oS (some p23.1) fun a=>oS (some p25.1) fun b=>Cl.get (aBin E .xor 51 (.tmp 82) (.tmp 84)) a b)) fun p26=>
 M.bind (apartO (oS (some p18.1) fun a=>oS (some p26.1) fun b=>Cl.get (aBin E .add 51 (.tmp 77) (.tmp 85)) a b)) fun p27=>
 M.bind (apartO (oS (T.get tm 3) fun a=>oS (some p0.1) fun b=>AH E 179 a b)) fun p28=>
 M.pure (([p28.1,p27.1,p26.1,p25.1,p24.1,p23.1,p22.1,p21.1,p20.1,p19.1,p18.1,p17.1,p16.1,p15.1,p14.1,p13.1,p12.1,p11.1,p10.1,p9.1,p8.1,p7.1,p6.1,p5.1,p4.1,p3.1,p2.1,p1.1,p0.1],tm),[p28.2,p27.2,p26.2,p25.2,p24.2,p23.2,p22.2,p21.2,p20.2,p19.2,p18.2,p17.2,p16.2,p15.2,p14.2,p13.2,p12.2,p11.2,p10.2,p9.2,p8.2,p7.2,p6.2,p5.2,p4.2,p3.2,p2.2,p1.2,p0.2])
theorem MQ_:DrawEq 146 89 Cv PE [0,0,2,6,14,0,32,0,224,480,0,1024,4064,8190,0,16384,49152,114688,262142,0,524768,0,3670496,7864800,0,16777216,66585056,134217726,268435455,536870911] Ue:={}
theorem XS_ (E:Env)(call round:Ab)(x59 x60 x61 x62 x63 x64 x65 x66 x67 x68 x69 x70 x71 x72 x73 x74 x75 x76 x77 x78 x79 x80 x81 x82 x83 x84 x85 x86 x87:Value)(tm:T Value)(s:St):Bw call round (BO E Cv 89 (hdC PE)) [x87,x86,x85,x84,x83,x82,x81,x80,x79,x78,x77,x76,x75,x74,x73,x72,x71,x70,x69,x68,x67,x66,x65,x64,x63,x62,x61,x60,x59] tm s=(M.bind (oS (some x87) fun a=>oS (some x86) fun b=>A7 E 51 a b) fun _=>M.pure tm) s:=by kernel_rfl
theorem AaW_: ∃k,Es_= .code .ret::k:=⟨Es_.tail,by kernel_rfl⟩
def SW (E:Env)(call round:Ab)(tm:T Value):M (T Value):=
 mv (T.get tm 5) fun v49=>
 M.bind (oS (some v49) fun a=>oS (some (.int .i64 1)) fun b=>Cl.get (aBin E .add 3 (.tmp 49) (.const (.int .i64 1))) a b) fun v50=>
 mv (some v50) fun v5=>
 setF 5 v5 tm fun tm1=>
 M.pure tm1
theorem Mo_:RegEq 146 89 Cv Ab_ SW:={}
def LB:Nat:=Bm Try.f147
def AQ_:Code:=Try.f147.body.getD .skip
theorem Z3:envS.fn.get 147=some Try.f147:=by kernel_rfl
theorem Qk_ {n:Nat}{s:St}{Q:Value→St→Prop}(h: ∀tm,W (runF envS n ⟨147,2,LB,tm,[.code AQ_], .run, .normal,none⟩) (s.cxN cxN) fun p s1=>Q p.1 (s1.cxN s.cx)):W (Ai envS (runF envS n) 147 []) s Q:=
 W.call (by kernel_rfl) (by kernel_rfl) Z3 (by kernel_rfl) rfl rfl (by simp) (h _)
theorem QT_:Try.f147.results.toList=[.cell 0 179]:=by kernel_rfl
def VC:List Item:=skim 64 [.code AQ_]
def U8:List Item:=skim 64 VC.tail
def AN_:List Item:=skim 64 U8.tail
def BT_ (E:Env)(call round:Ab)(tm:T Value):M (T Value):=
 M.bind (Bt E 179) fun v0=>
 setF 0 v0 tm fun tm1=>
 M.pure tm1
theorem ZG_:RegEq 147 2 LB VC BT_:={}
def EY_ (E:Env)(call round:Ab)(tm:T Value):M (T Value):=
 M.bind (oS (seqP [(0,(some (.int .u32 1116352408))),(1,(some (.int .u32 1899447441))),(2,(some (.int .u32 3049323471))),(3,(some (.int .u32 3921009573))),(4,(some (.int .u32 961987163))),(5,(some (.int .u32 1508970993))),(6,(some (.int .u32 2453635748))),(7,(some (.int .u32 2870763221))),(8,(some (.int .u32 3624381080))),(9,(some (.int .u32 310598401))),(10,(some (.int .u32 607225278))),(11,(some (.int .u32 1426881987))),(12,(some (.int .u32 1925078388))),(13,(some (.int .u32 2162078206))),(14,(some (.int .u32 2614888103))),(15,(some (.int .u32 3248222580))),(16,(some (.int .u32 3835390401))),(17,(some (.int .u32 4022224774))),(18,(some (.int .u32 264347078))),(19,(some (.int .u32 604807628))),(20,(some (.int .u32 770255983))),(21,(some (.int .u32 1249150122))),(22,(some (.int .u32 1555081692))),(23,(some (.int .u32 1996064986))),(24,(some (.int .u32 2554220882))),(25,(some (.int .u32 2821834349))),(26,(some (.int .u32 2952996808))),(27,(some (.int .u32 3210313671))),(28,(some (.int .u32 3336571891))),(29,(some (.int .u32 3584528711))),(30,(some (.int .u32 113926993))),(31,(some (.int .u32 338241895))),(32,(some (.int .u32 666307205))),(33,(some (.int .u32 773529912))),(34,(some (.int .u32 1294757372))),(35,(some (.int .u32 1396182291))),(36,(some (.int .u32 1695183700))),(37,(some (.int .u32 1986661051))),(38,(some (.int .u32 2177026350))),(39,(some (.int .u32 2456956037))),(40,(some (.int .u32 2730485921))),(41,(some (.int .u32 2820302411))),(42,(some (.int .u32 3259730800))),(43,(some (.int .u32 3345764771))),(44,(some (.int .u32 3516065817))),(45,(some (.int .u32 3600352804))),(46,(some (.int .u32 4094571909))),(47,(some (.int .u32 275423344))),(48,(some (.int .u32 430227734))),(49,(some (.int .u32 506948616))),(50,(some (.int .u32 659060556))),(51,(some (.int .u32 883997877))),(52,(some (.int .u32 958139571))),(53,(some (.int .u32 1322822218))),(54,(some (.int .u32 1537002063))),(55,(some (.int .u32 1747873779))),(56,(some (.int .u32 1955562222))),(57,(some (.int .u32 2024104815))),(58,(some (.int .u32 2227730452))),(59,(some (.int .u32 2361852424))),(60,(some (.int .u32 2428436474))),(61,(some (.int .u32 2756734187))),(62,(some (.int .u32 3204031479))),(63,(some (.int .u32 3329325298)))]) fun ps=>Cj E 179 ps) fun v1=>
 M.bind (oS (T.get tm 0) fun a=>oS (some v1) fun b=>A7 E 179 a b) fun _=>
 M.pure tm
theorem XD_:RegEq 147 2 LB U8 EY_:={}
theorem XM_: ∃k,AN_= .code .ret::k:=⟨AN_.tail,by kernel_rfl⟩
def J2:Nat:=Bm Try.f148
def SP:Code:=Try.f148.body.getD .skip
theorem Us:envS.fn.get 148=some Try.f148:=by kernel_rfl
theorem Uk_ {a0 a1:Value}{n:Nat}{s:St}{Q:Value→St→Prop}(h: ∀tm,T.get tm 0=some a0→T.get tm 1=some a1→W (runF envS n ⟨148,13,J2,tm,[.code SP], .run, .normal,none⟩) (s.cxN cxN) fun p s1=>Q p.1 (s1.cxN s.cx)):W (Ai envS (runF envS n) 148 [a0,a1]) s Q:=
 W.call (by kernel_rfl) (by kernel_rfl) Us (by kernel_rfl) rfl rfl (by simp) (h _ (by kernel_rfl) (by kernel_rfl))
theorem Xy_:Try.f148.results.toList=[.tmp 4]:=by kernel_rfl
def Vt:List Item:=skim 64 [.code SP]
def Nk:List Item:=skim 64 Vt.tail
def AY_:List Item:=skim 64 Nk.tail
def WG (E:Env)(call round:Ab)(tm:T Value):M (T Value):=
 mv (some (.int .u32 0)) fun v4=>
 setF 4 v4 tm fun tm1=>
 M.pure tm1
theorem Oj_:RegEq 148 13 J2 Vt WG:={}
def Hb_ (E:Env)(call round:Ab)(tm:T Value):M ((Rho×T Value)×List OpLog):=
 M.bind (apartO (oS (T.get tm 0) fun a=>M.pure a)) fun p0=>
 M.bind (apartO (oS (T.get tm 1) fun a=>M.pure a)) fun p1=>
 M.bind (apartO (oS (some p0.1) fun a=>oS (some p1.1) fun b=>Cl.get (aBin E .shr 51 (.tmp 5) (.tmp 6)) a b)) fun p2=>
 M.bind (apartO (oS (T.get tm 0) fun a=>M.pure a)) fun p3=>
 M.bind (apartO (oS (T.get tm 1) fun a=>M.pure a)) fun p4=>
 M.bind (apartO (oS (some (.int .i64 32)) fun a=>oS (some p4.1) fun b=>Cl.get (aBin E .sub 3 (.const (.int .i64 32)) (.tmp 9)) a b)) fun p5=>
 M.bind (apartO (oS (some p3.1) fun a=>oS (some p5.1) fun b=>Cl.get (aBin E .shl 51 (.tmp 8) (.tmp 10)) a b)) fun p6=>
 M.bind (apartO (oS (some p2.1) fun a=>oS (some p6.1) fun b=>Cl.get (aBin E .or 51 (.tmp 7) (.tmp 11)) a b)) fun p7=>
 M.pure (([p7.1,p6.1,p5.1,p4.1,p3.1,p2.1,p1.1,p0.1],tm),[p7.2,p6.2,p5.2,p4.2,p3.2,p2.2,p1.2,p0.2])
theorem Acd_:DrawEq 148 13 J2 Nk [0,0,3,0,0,16,56,127,255] Hb_:={}
theorem MV_ (E:Env)(call round:Ab)(x5 x6 x7 x8 x9 x10 x11 x12:Value)(tm:T Value)(s:St):Bw call round (BO E J2 13 (hdC Nk)) [x12,x11,x10,x9,x8,x7,x6,x5] tm s=(M.bind (oS (some x12) fun a=>M.pure a) fun v4=>setT 4 v4 tm fun tm1=>M.pure tm1) s:=by kernel_rfl
theorem XR_: ∃k,AY_= .code .ret::k:=⟨AY_.tail,by kernel_rfl⟩
theorem OY_ {x k:Nat}:x>>>k|||x<<<(32-k)%4294967296=rot x k:=by
 unfold rot
 rw[Nat.shiftRight_eq_div_pow,Nat.shiftLeft_eq]
theorem Pm_ {k n x:Nat}(hk:k≤32)(hx:x<4294967296)(hn:10≤n)(s:St):Ai envS (runF envS n) 148 [.int .u32 (x:Nat), .int .i64 (k:Nat)] s= .some (.int .u32 (rot x k:Nat)) s:=by
 have h:W (Ai envS (runF envS n) 148 [.int .u32 (x:Nat), .int .i64 (k:Nat)]) s fun v s1=>v= .int .u32 (rot x k:Nat)∧s1=s:=by
  refine Uk_ fun tm h0 h1=> ?_
  refine Oj_.w rfl (by omega) ?_
  simp only[WG,Aa,W_mv,Ac]
  refine Acd_.w rfl (by omega) ?_
  have e32:wrap64 ((32:Int)-(k:Nat))=((32-k:Nat):Int):=by
   rw[AP (by omega) (by omega)];omega
  simp only[Hb_,T.get_set,Nat.reduceEqDiff, ↓reduceIte,h0,h1,BG,Ap]
  rw[PL k rfl hk]
  simp only[Ap,Iq,e32]
  rw[IE (32-k) rfl (by omega)]
  simp only[Js]
  rw[OY_,Nat.mod_eq_of_lt (BA x k hx),Aa]
  refine⟨Dn (by simp) (by simp), ?_⟩
  refine W.cast (MV_ _ _ _ _ _ _ _ _ _ _ _ _ _) ?_
  simp only[Ad,W_oS,Aa,AJ]
  refine W.end' (rs:=[4]) (vs:=[.int .u32 (rot x k:Nat)]) rfl (.inl XR_) (by omega) Us Xy_ rfl (by simp[T.get_set]) ?_
  exact⟨rfl,rfl⟩
 obtain⟨v,s1,e,rfl,rfl⟩:=h
 exact e
theorem G4:Du envS 179=some (List.replicate 64 (.int .u32 0)):=by kernel_rfl
theorem FH:tyS envS 179=some (64,true):=by kernel_rfl
theorem Fe:arrN envS 179=some (64,1):=by kernel_rfl
theorem BD:tyS envS 51=some (1,false):=by kernel_rfl
def w32 (l:List Nat):List Value:=l.map fun n=> .int .u32 (n:Nat)
theorem Cb (l:List Nat):(w32 l).length=l.length:=List.length_map ..
theorem D0 {l:List Nat}{i:Nat}(h:i<l.length):(w32 l)[i]?=some (.int .u32 (l.getD i 0:Nat)):=by
 unfold w32
 rw[List.getElem?_map,List.getElem?_eq_getElem h,List.getD_eq_getElem?_getD,List.getElem?_eq_getElem h]
 rfl
theorem Ae.set {F:Nat→Prop}{s s':St}{b o i:Nat}{l:List Value}{v:Value}(h:Ae s b o l)(e:Ext F (In b (o+i) 1) s s')(k:Own s' b (o+i) v):Ae s' b o (l.set i v):=fun j u hj=>by
 rw[List.getElem?_set]at hj
 by_cases hij:i=j
 ·subst hij
  rw[if_pos rfl]at hj
  split at hj
  ·cases hj
   exact k
  ·cases hj
 ·rw[if_neg hij]at hj
  exact(h j u hj).ext e fun hx=>hij (by have h1:=hx.1;have h2:=hx.2;omega)
theorem Nq (l:List Nat)(i x:Nat):(w32 l).set i (.int .u32 (x:Nat))=w32 (l.set i x):=by
 unfold w32
 rw[List.map_set]
section
variable {E:Env}{t:Nat}{xo yo:Operand}{γ:Type}{f:Value×OpLog→M γ}{mem:T Cell}{next:Nat}{Q:γ→St→Prop}
theorem Jd {c:Nat}:W (M.bind (apartO (Bc envS 5 51 (.int .u8 (c:Nat)))) f) (dSt mem next) Q=W (f (.int .u32 (c%4294967296:Nat),⟨next,next,[],[]⟩)) (dSt mem next) Q:=by
 rw[W_dq fun s Q=>CO (s:=s) Tl Te Q,wrap_u32]
theorem Ji {i:Nat}(h:4*i≤9223372036854775807):W (M.bind (apartO (Cl.get (aBin E .mul t xo yo) (.int .i64 4) (.int .i64 (i:Nat)))) f) (dSt mem next) Q=W (f (.int .i64 (4*i:Nat),⟨next,next,[],[]⟩)) (dSt mem next) Q:=W_dq fun _ Q=>TD h Q
theorem KO {b o c k len:Nat}{kd:IntKind}(hk:k<len):W (M.bind (apartO (AH envS 22 (.slice (some ⟨b,o,none⟩) len c) (.int kd (k:Nat)))) f) (dSt mem next) Q=W (f (.pointer (some ⟨b,o+k*1,none⟩),⟨next,next,[],[]⟩)) (dSt mem next) Q:=W_dq fun _ Q=>CS AE hk Q
theorem D8 {call:Ab}{round:Ab}{i:Int}{n x:Nat}(k:Nat)(e:i=(k:Nat))(hk:k≤32)(hc:call=Ai envS (runF envS n))(hx:x<4294967296)(hn:10≤n):W (M.bind (apartO (AC call round (.func (.func 148) #[] #[]) [.int .u32 (x:Nat), .int .i64 i])) f) (dSt mem next) Q=W (f (.int .u32 (rot x k:Nat),⟨next,next,[],[]⟩)) (dSt mem next) Q:=by
 subst e;subst hc
 refine W_dq fun s Q=> ?_
 rw[Ar]
 exact Bl (Pm_ hk hx hn s)
end
theorem UX_ {a b c d:Nat}(ha:a<256)(hb:b<256)(hc:c<256)(hd:d<256):(((a%4294967296)<<<24%4294967296|||(b%4294967296)<<<16%4294967296)%4294967296|||(c%4294967296)<<<8%4294967296)%4294967296|||d%4294967296=Sha.be a b c d:=by
 unfold Sha.be
 rw[Nat.mod_eq_of_lt (show a<4294967296 by omega),Nat.mod_eq_of_lt (show b<4294967296 by omega),Nat.mod_eq_of_lt (show c<4294967296 by omega),Nat.mod_eq_of_lt (show d<4294967296 by omega),Nat.shiftLeft_eq,Nat.shiftLeft_eq,Nat.shiftLeft_eq,
  Nat.mod_eq_of_lt (show a*2^24<4294967296 by omega),Nat.mod_eq_of_lt (show b*2^16<4294967296 by omega),Nat.mod_eq_of_lt (show c*2^8<4294967296 by omega),Nat.mod_eq_of_lt (Sha.or_lt (show a*2^24<4294967296 by omega) (show b*2^16<4294967296 by omega)),Nat.mod_eq_of_lt (Sha.or_lt (Sha.or_lt (show a*2^24<4294967296 by omega) (show b*2^16<4294967296 by omega)) (show c*2^8<4294967296 by omega))]
section
variable {b o cc B C:Nat}{l:List Nat}{Q:Value×FrameMode→St→Prop}{s0:St}
theorem Xp_ (hb0:s0.lim≤s0.next)(hBl:s0.lim≤B)(hrow:Row s0 b o (u8l l))(hdis: ∀x,In b o 64 x→ ¬In B 0 64 x)(hl64:l.length=64)(hby:Byt l): ∀(k i n:Nat) (tm:T Value) (s:St) (td:List Item) (ws:List Nat),i+k=16→6*k+30≤n→skim 64 td=KX→Ext (In b o 64) (In B 0 64) s0 s→Ae s B 0 (w32 ws)→ws.length=64→(∀j,j<i→ws.getD j 0=Sha.sch (fun j=>l.getD j 0) j)→
  T.get tm 0=some (.slice (some ⟨b,o,none⟩) 64 cc)→T.get tm 2=some (.pointer (some ⟨C,0,none⟩))→T.get tm 3=some (.pointer (some ⟨B,0,none⟩))→T.get tm 4=some (.int .i64 (i:Nat))→
  (∀n' tm' s1 td' ws',n≤n'+6*k+10→skim 64 td'=Mk→Ext (In b o 64) (In B 0 64) s0 s1→Ae s1 B 0 (w32 ws')→ws'.length=64→(∀j,j<16→ws'.getD j 0=Sha.sch (fun j=>l.getD j 0) j)→T.get tm' 2=some (.pointer (some ⟨C,0,none⟩))→T.get tm' 3=some (.pointer (some ⟨B,0,none⟩))→W (runF envS n' ⟨146,KR,Cv,tm',td', .run, .normal,none⟩) s1 Q)→
  W (runF envS n ⟨146,KR,Cv,tm,td, .run, .normal,none⟩) s Q:=by
 intro k
 induction k with
 |zero=>
  intro i n tm s td ws hi hn hT hx ho hw hws h0 h2 h3 h4 q
  refine Q7.w hT (by omega) ?_
  simp only[Mh,Ad,W_oS,Aa,W_mv,Ac,Be,h4]
  refine W.cond (v:=false) rfl Vp (by simp[T.get_set];omega) (by omega) (fun h=>by cases h) fun _=> ?_
  obtain rfl:i=16:=by omega
  exact q _ _ _ _ ws (by omega) rfl hx ho hw hws (by simp[T.get_set,h2]) (by simp[T.get_set,h3])
 |succ k ih=>
  intro i n tm s td ws hi hn hT hx ho hw hws h0 h2 h3 h4 q
  refine Q7.w hT (by omega) ?_
  simp only[Mh,Ad,W_oS,Aa,W_mv,Ac,Be,h4]
  refine W.cond (v:=true) rfl Vp (by simp[T.get_set];omega) (by omega) (fun _=> ?_) fun h=>by cases h
  have hat: ∀j,j<64→At s b (o+j*1) (.int .u8 (l.getD j 0:Nat)):=fun j hj=>by
   have h1:At s0 b (o+j) (.int .u8 (l.getD j 0:Nat)):=hrow j _ (by unfold u8l;rw[List.getElem?_map,List.getD_eq_getElem?_getD,List.getElem?_eq_getElem (by omega)];rfl)
   rw[Nat.mul_one]
   exact h1.ext hx (hdis _ ⟨by omega,by omega⟩)
  have hc: ∀j,l.getD j 0<256:=fun j=>by
   rw[List.getD_eq_getElem?_getD]
   cases h:l[j]? with
   |none=>exact(by decide:0<256)
   |some x=>exact hby x (List.mem_of_getElem? h)
  obtain⟨F,hF⟩: ∃F:Nat→Prop,F=In b o 64:=⟨_,rfl⟩
  have w1:wrap64 (((4*i:Nat):Int)+1)=((4*i+1:Nat):Int):=by rw[AP (by omega) (by omega)];simp
  have w2:wrap64 (((4*i:Nat):Int)+2)=((4*i+2:Nat):Int):=by rw[AP (by omega) (by omega)];simp
  have w3:wrap64 (((4*i:Nat):Int)+3)=((4*i+3:Nat):Int):=by rw[AP (by omega) (by omega)];simp
  refine Ach_.rd (F:=F) rfl (by omega) ?_
  simp only[Sc,T.get_set,Nat.reduceEqDiff, ↓reduceIte,h0,h3,h4,BG,Ap,Ji (show 4*i≤9223372036854775807 by omega),KO (show 4*i<64 by omega)]
  refine W.dload CG ((hat (4*i) (by omega)).same rfl rfl) fun rd0 hr0=> ?_
  simp only[Ap,Jd,IE (i:=24) 24 rfl (by decide),Ji (show 4*i≤9223372036854775807 by omega),JN,w1,KO (show 4*i+1<64 by omega)]
  refine W.dload CG ((hat (4*i+1) (by omega)).same rfl rfl) fun rd1 hr1=> ?_
  simp only[Ap,Jd,IE (i:=16) 16 rfl (by decide),Js,Ji (show 4*i≤9223372036854775807 by omega),JN,w2,KO (show 4*i+2<64 by omega)]
  refine W.dload CG ((hat (4*i+2) (by omega)).same rfl rfl) fun rd2 hr2=> ?_
  simp only[Ap,Jd,IE (i:=8) 8 rfl (by decide),Js,Ji (show 4*i≤9223372036854775807 by omega),JN,w3,KO (show 4*i+3<64 by omega)]
  refine W.dload CG ((hat (4*i+3) (by omega)).same rfl rfl) fun rd3 hr3=> ?_
  simp only[Jd,Js,BY (i:=((i:Nat):Int)) (k:=i) rfl Fe (show i<64 by omega)]
  have l0: ∀x∈rd0,F x:=fun x hx=>by rw[hF,hr0 x hx];exact⟨by omega,by omega⟩
  have l1: ∀x∈rd1,F x:=fun x hx=>by rw[hF,hr1 x hx];exact⟨by omega,by omega⟩
  have l2: ∀x∈rd2,F x:=fun x hx=>by rw[hF,hr2 x hx];exact⟨by omega,by omega⟩
  have l3: ∀x∈rd3,F x:=fun x hx=>by rw[hF,hr3 x hx];exact⟨by omega,by omega⟩
  rw[UX_ (hc _) (hc _) (hc _) (hc _),Nat.mod_eq_of_lt (Sha.be_lt (hc _) (hc _) (hc _) (hc _)),←Sha.sch_lo (B:=fun j=>l.getD j 0) (show i<16 by omega),Aa]
  refine⟨rfl,by simp, ?_,fun s' m' n' x'=> ?_⟩
  ·dsimp only
   simp only[List.forall_mem_cons]
   repeat' apply And.intro
   all_goals first|trivial|assumption|(intro x hx;cases hx)
  refine W.cast (JX_ ..) ?_
  simp only[Ad,W_oS,Aa]
  have hb':s.lim≤s.next:=hx.bnd hb0
  have hx':Ext (In b o 64) (In B 0 64) s0 s':=hx.trans x' hb0 (fun y _ h=>by rw[hF]at h;exact h) fun _ _ h=>h.elim
  have ho':Ae s' B 0 (w32 ws):=fun j v e=>(ho j v e).ext x' id
  have hown:=ho' i _ (D0 (show i<ws.length by omega))
  refine W.store1 (o:=0+i*1) BD rfl (by rw[Nat.mul_one];exact hown) fun s2 n2 x2 o2=> ?_
  rw[Nat.mul_one]at x2 o2
  have ho2:Ae s2 B 0 (w32 (ws.set i (Sha.sch (fun j=>l.getD j 0) i))):=by
   rw[←Nq]
   exact ho'.set x2 o2
  have hx2:Ext (In b o 64) (In B 0 64) s0 s2:=hx'.trans x2 hb0 (fun y hy h=>by have h1:B+(0+i)≤y:=h.1;omega) fun y _ h=>by
   have h1:B+(0+i)≤y:=h.1
   have h2:y<B+(0+i)+1:=h.2
   exact⟨by omega,by omega⟩
  refine Ry_.w rfl (by omega) ?_
  have ei:wrap64 ((i:Nat)+1:Int)=((i+1:Nat):Int):=by
   rw[AP (by omega) (by omega)];simp
  simp only[Eg_,Ad,W_oS,Aa,W_mv,Ac,T.get_set,reduceIte,Nat.reduceEqDiff, ↓reduceIte,By,h4,ei]
  refine ih (i+1) _ _ _ _ (ws.set i (Sha.sch (fun j=>l.getD j 0) i)) (by omega) (by omega) UQ_ hx2 ho2 (by rw[List.length_set];exact hw) (fun j hj=> ?_) (by simp[T.get_set,h0]) (by simp[T.get_set,h2]) (by simp[T.get_set,h3]) (by simp[T.get_set]) fun n' tm' s3 td' ws' e=>q n' tm' s3 td' ws' (by omega)
  rw[List.getD_eq_getElem?_getD,List.getElem?_set]
  by_cases hij:i=j
  ·subst hij
   rw[if_pos rfl,if_pos (by omega)]
   rfl
  ·rw[if_neg hij,←List.getD_eq_getElem?_getD]
   exact hws j (by omega)
end
theorem Aap_ (s:St):Bc envS 22 9 (.slice none 0 0) s= .some (.string (txt [])) s:=by kernel_rfl
theorem W.strA {v:Value}{l:List Nat}{s:St}{Q:Value→St→Prop}(h:Bs s v l)(q: ∀s1,s1.mem=s.mem→s1.next=s.next→Ext (BsF v) Non s s1→Q (.string (txt l)) s1):W (Bc envS 22 9 v) s Q:=by
 rcases h with⟨rfl,rfl⟩|⟨b,o,c,rfl,h1,h2,h3⟩
 ·exact W.of (Aap_ s) (q s rfl rfl (Ext.refl _))
 ·exact W.str (.inr ⟨b,o,c,rfl,h1,h2,h3⟩) (.inr ⟨b,o,c,rfl⟩) NM_ Yb_ q
theorem Gx_ {va vb:Value}{l:List Nat}{n:Nat}{s:St}{Q:Value→St→Prop}(hbd:s.lim≤s.next)(ha:Bs s va l)(hb:Bs s vb l)(hn:20≤n)
  (q: ∀s1,Ext (fun x=>BsF va x∨BsF vb x) Non s s1→s1.mem=s.mem→s1.next=s.next→Q (.bool true) s1):W (Ai envS (runF envS n) 19 [va,vb]) s Q:=by
 refine RT_ fun tm h0 h1=> ?_
 have ha':Bs (s.cxN cxN) va l:=ha.same rfl rfl
 have hb':Bs (s.cxN cxN) vb l:=hb.same rfl rfl
 refine YR_.w rfl (by omega) ?_
 simp only[Fn_,Aa,W_mv,Ac]
 refine Abm_.w rfl (by omega) ?_
 simp only[CI_,Ad,W_oS,Aa,W_mv,Ac,T.get_set,reduceIte,Nat.reduceEqDiff,reduceCtorEq, ↓reduceIte,h0,h1]
 refine W.strA ha' fun sa ma na xa=> ?_
 try simp only[Ad,W_oS,W_on,Aa,W_mv,Ac,AJ,T.get_set,Ah,Ag,A8,A2,Af,Ar,reduceIte,Ax,Bp,Ba,Bv,A5,A9,Bb,Bo,AA,Bg,Nat.reduceEqDiff,reduceCtorEq, ↓reduceIte]
 refine W.strA (hb'.same ma na) fun sb mb nb xb=> ?_
 have hx:Ext (fun x=>BsF va x∨BsF vb x) Non (s.cxN cxN) sb:=(xa.weak hbd (fun _ _ h=> .inl h) fun _ _ h=>h).step xb hbd (fun _ _ h=> .inr h) fun _ h=>h.elim
 simp only[Vh_,beq_self_eq_true]
 refine W.end' (rs:=[4]) (vs:=[.bool true]) rfl (.inl Iz_) (by omega) RQ Kj_ hx.cx (by simp[T.get_set]) ?_
 exact q _ hx.cx' (mb.trans ma) (nb.trans na)
theorem EZ_: ∀{l m:List Nat},Byt l→Byt m→l.map UInt8.ofNat=m.map UInt8.ofNat→l=m
 |[],[],_,_,_=>rfl
 |[],_::_,_,_,e=>by cases e
 |_::_,[],_,_,e=>by cases e
 |a::l,b::m,h1,h2,e=>by
  have e1:UInt8.ofNat a=UInt8.ofNat b:=(List.cons.inj e).1
  have e2:l.map UInt8.ofNat=m.map UInt8.ofNat:=(List.cons.inj e).2
  have ha:=h1 a (by simp)
  have hb:=h2 b (by simp)
  have e3:=congrArg UInt8.toNat e1
  rw[UInt8.toNat_ofNat',UInt8.toNat_ofNat']at e3
  have:a=b:=by
   rw[Nat.mod_eq_of_lt ha,Nat.mod_eq_of_lt hb]at e3
   exact e3
  rw[this,EZ_ (fun x hx=>h1 x (by simp[hx])) (fun x hx=>h2 x (by simp[hx])) e2]
theorem SV {l m:List Nat}(h1:Byt l)(h2:Byt m):((txt l).data.toList==(txt m).data.toList)=decide (l=m):=by
 unfold txt
 show(((l.map UInt8.ofNat).toArray).toList==((m.map UInt8.ofNat).toArray).toList)=_
 by_cases h:l=m
 ·rw[h,decide_eq_true rfl,beq_self_eq_true]
 ·rw[decide_eq_false h]
  exact beq_eq_false_iff_ne.2 fun e=>h (EZ_ h1 h2 (by simpa using e))
theorem Jd_ {n:Nat}{s:St}{v:Value}{l:List Nat}{Q:Value→St→Prop}(hbd:s.lim≤s.next)(h:Bn s v l)(hb:Byt l)(h5:5≤l.length)(hz:l.length≤900000)(hn:120*l.length+400≤n)
  (q1:GOk l→ ∀s1 w b,s.next≤b→Ext (BsF v) Non s s1→EmB s1 (l.take (l.length-4)) w b→Q (.tuple #[w, .int .i64 0]) s1) (q2: ¬GOk l→ ∀s1,Ext (BsF v) Non s s1→Q (.tuple #[.slice none 0 0, .int .i64 4]) s1):
  W (Ai envS (runF envS n) 87 [v]) s Q:=by
 refine YS_ fun tm h0=> ?_
 have hc:Bn (s.cxN cxN) v l:=h.same rfl rfl
 refine Jo_.w rfl (by omega) ?_
 simp only[Rw,Aa,W_mv,Ac]
 refine YE_.w rfl (by omega) ?_
 simp only[Sb,Ad,W_oS,Aa,W_mv,Ac,T.get_set,Ah,Ag,Af,reduceIte,reduceCtorEq, ↓reduceIte,h0]
 rw[hc.bs.len AE]
 simp only[Be]
 refine W.cond (v:=false) rfl Zx_ (by simp[T.get_set];omega) (by omega) (fun h=>by cases h) fun _=> ?_
 refine Tc_.w rfl (by omega) ?_
 simp only[Eq_,Ad,W_oS,W_on,Aa,W_mv,Ac,T.get_set,Ah,Ag,A2,Af,reduceIte,reduceCtorEq, ↓reduceIte,h0]
 refine W.buildS (s:=s.cxN cxN) hbd (r:=[]) CU (by decide) rfl (Bh (by decide)) fun s1 n1 x1 r1=> ?_
 have hb1:s1.lim≤s1.next:=x1.bnd hbd
 have hx1:Ext (BsF v) Non (s.cxN cxN) s1:=(Ext.refl _).step x1 hbd (fun _ _ h=>h.elim) fun _ h=>h.elim
 have hc1:=hc.ext0 hx1
 have ek:wrap64 (((l.length:Nat):Int)-4)=((l.length-4:Nat):Int):=by
  rw[AP (by omega) (by omega)];omega
 rw[hc1.bs.len AE]
 simp only[Cm,ek]
 refine W.cut hc1 AE (i:=0) (j:=l.length-4) rfl rfl (Nat.zero_le _) (by omega) fun v2 hv2 hF2=> ?_
 have hcut:(l.take (l.length-4)).drop 0=l.take (l.length-4):=rfl
 rw[hcut]at hv2
 have hl1:(l.take (l.length-4)).length=l.length-4:=by rw[List.length_take];omega
 refine W.appBy hb1 EmB.nil hv2.bs (by show 0+_≤_;rw[hl1];omega) fun s3 w3 b3 hb3 h3 x3=> ?_
 have hnm: ∀y,¬MkF 1 ([]:List Nat).length s.next y:=fun y hy=>absurd hy.1 (by simp)
 have x3':Ext (BsF v) Non s1 s3:=x3.weak hb1 (fun y _ hy=>hy.elim (fun h=>hF2 y h) fun hy=>(hnm y hy).elim) fun y _ hy=>hnm y hy
 have hx3:Ext (BsF v) Non (s.cxN cxN) s3:=hx1.step x3' hbd (fun _ _ h=>h) fun _ h=>h.elim
 have hb3':s3.lim≤s3.next:=hx3.bnd hbd
 rw[List.nil_append]at h3
 have hB1:Byt (l.take (l.length-4)):=fun x hx=>hb x (List.mem_of_mem_take hx)
 have hs3:s.next≤b3:=by
  have:s.next≤s1.next:=x1.nxt
  rcases hb3 with rfl|hb3
  ·exact Nat.le_refl _
  ·omega
 have hn3:s.next≤s3.next:=hx3.nxt
 refine Aas_.w rfl (by omega) ?_
 simp only[Zw,T.get_set,Nat.reduceEqDiff, ↓reduceIte,h0,BG,Ck,Ah,Ag,Af,Dc,Ap]
 have h3n:Bn s3 w3 (l.take (l.length-4)):=h3.bn (by rw[hl1];omega)
 refine W.dop (NJ_ (Nat.le_refl _) (by rw[hl1];omega) (h3n.same (s':=oSt s3.mem s3.next) rfl rfl) hB1 (by rw[hl1];omega) fun s4 w4 b4 hb4 x4 h4=>⟨_,x4,fun rd4 hr4=> ?_⟩)
 have hn4:s3.next≤s4.next:=x4.nxt
 have hgl:(gput (l.take (l.length-4))).length=l.length:=by rw[Lr,hl1];omega
 have h4n:Bn s4 w4 (gput (l.take (l.length-4))):=h4.bn (by rw[hgl];omega)
 simp only[BG]
 refine W.dop (W.strA (h4n.bs.same (s':=oSt s4.mem s4.next) rfl rfl) fun s5 m5 n5 x5=>⟨_,x5,fun rd5 hr5=> ?_⟩)
 have n5':s5.next=s4.next:=n5
 simp only[Ap]
 have hc5:Bs (oSt s5.mem s5.next) v l:=((((hc.ext0 hx3).bs.same (s':=oSt s3.mem s3.next) rfl rfl).ext0 x4).same m5 n5')
 refine W.dop (W.strA hc5 fun s6 m6 n6 x6=>⟨_,x6,fun rd6 hr6=> ?_⟩)
 have n6':s6.next=s5.next:=n6
 rw[Aa]
 have hwF: ∀y,BsF w4 y→s3.next≤y:=fun y hy=>by
  obtain⟨c,rfl⟩:=h4.at
  have h1:b4+0≤y:=hy.1
  have h2:s3.next≤b4:=hb4
  omega
 refine⟨EJ ?_, ?_⟩
 ·simp only[List.reverse_cons,List.reverse_nil,List.nil_append,List.cons_append,allP,Dm,List.take,D9]
  have hold: ∀x,x∈rd6→ ¬s3.next≤x:=fun x hx=>Nat.not_le_of_lt ((hc.ext0 hx3).lt x (hr6 x hx).2)
  simp+contextual [n5',hold]
  exact .inl rfl
 ·refine W.cast (Is_ ..) ?_
  simp only[Ad,W_oS,Aa,AJ]
  have m7:s6.mem=s4.mem:=m6.trans m5
  have n7:s6.next=s4.next:=n6'.trans n5'
  generalize hs7:(⟨(dSt s6.mem s6.next).mem,(dSt s6.mem s6.next).next,s3.lim,_,_,s3.cx⟩:St)=s7
  have e7m:s7.mem=s4.mem:=by rw[←hs7];exact m7
  have e7n:s7.next=s4.next:=by rw[←hs7];exact n7
  have x7:Ext (fun y=>BsF v y∨s.next≤y) Non s3 s7:=by
   rw[←hs7]
   refine Ext.draw (by show s3.next≤s6.next;omega) (fun x hx=>by show T.get s6.mem x=_;rw[m7];exact x4.mem x hx id) (by simp) ?_
   simp only[List.mem_cons,List.not_mem_nil,or_false]
   rintro m (rfl|rfl|rfl|rfl|rfl) x hx _<;>first|(cases hx;done)|skip
   ·exact .inl (hr6 x hx).2
   ·exact .inr (by have:=hwF x (hr5 x hx).2;omega)
   ·have h1:=(hr4 x hx).2
    obtain⟨c,hc⟩:=h3.at
    rw[hc]at h1
    have h2:b3+0≤x:=h1.1
    exact .inr (by omega)
  have y7:Ext (BsF v) Non (s.cxN cxN) s7:=hx3.step x7 hbd (fun x hx h=>h.elim id fun h=>absurd hx (by show ¬x<s.lim;omega)) fun _ h=>h.elim
  rw[FX_,SV (Byt.gput hB1) hb]
  try simp only[Ad,W_oS,W_on,Aa,W_mv,Ac,AJ,T.get_set,Ah,Ag,A8,A2,Af,Ar,reduceIte,Ax,Bp,Ba,Bv,A5,A9,Bb,Bo,AA,Bg,Nat.reduceEqDiff,reduceCtorEq, ↓reduceIte]
  by_cases hg:gput (l.take (l.length-4))=l
  ·refine W.cond (v:=false) rfl BL_ (by simp[T.get_set,hg]) (by omega) (fun h=>by cases h) fun _=> ?_
   refine PR_.w rfl (by omega) ?_
   simp only[AK_,Aa,W_mv,Ac,T.get_set,reduceIte,Nat.reduceEqDiff, ↓reduceIte]
   refine W.end' (rs:=[2,3]) (vs:=[w3, .int .i64 0]) rfl (.inl Nj_) (by omega) Pd FB_ y7.cx (by simp[T.get_set]) ?_
   exact q1 ⟨by omega,hg⟩ _ w3 b3 hs3 y7.cx' ((((h3.same (s':=oSt s3.mem s3.next) rfl rfl).ext0 x4).same e7m e7n).same rfl rfl)
  ·refine W.cond (v:=true) rfl BL_ (by simp[T.get_set,hg]) (by omega) (fun _=> ?_) fun h=>by cases h
   refine XP_.w rfl (by omega) ?_
   simp only[CC_,Aa,W_mv,Ac]
   exact W.end' (rs:=[2,3]) (vs:=[.slice none 0 0, .int .i64 4]) rfl (.inl Zu_) (by omega) Pd FB_ y7.cx (by simp[T.get_set]) (q2 (fun h=>hg h.2) _ y7.cx')
theorem KH {n:Nat}{s:St}{Q:Value→St→Prop}(a:Int)(hn:20≤n)(q:Q (.int .i64 (CH a)) s):W (Ai envS (runF envS n) 21 [.int .i64 a]) s Q:=by
 refine Lw_ fun tm h0=> ?_
 refine Sm_.w rfl (by omega) ?_
 simp only[Zn,Aa,W_mv,Ac]
 refine La_.w rfl (by omega) ?_
 simp only[DL_,Ad,W_oS,W_on,Aa,W_mv,Ac,T.get_set,reduceIte,Ax,A9,AA,reduceCtorEq, ↓reduceIte,Be,h0]
 by_cases h1:a<1
 ·rw[decide_eq_true h1]
  simp only[Aa,reduceIte,Ba,Bo, ↓reduceIte]
  refine W.cond (v:=true) rfl MC (by simp[T.get_set]) (by omega) (fun _=> ?_) fun h=>by cases h
  refine Fg_.w rfl (by omega) ?_
  simp only[OP,Aa,W_mv,Ac]
  refine W.end' (rs:=[2]) (vs:=[.int .i64 0]) rfl (.inl Xd) (by omega) IV NK rfl (by simp[T.get_set]) ?_
  have e:CH a=0:=if_pos (.inl h1)
  rw[e]at q
  exact q
 ·rw[decide_eq_false h1]
  simp only[W_oS,Aa,reduceIte,A5,Bb,reduceCtorEq, ↓reduceIte,Dl]
  by_cases h2:1024<a
  ·refine W.cond (v:=true) rfl MC (by simp[T.get_set,h2]) (by omega) (fun _=> ?_) fun h=>by cases h
   refine Fg_.w rfl (by omega) ?_
   simp only[OP,Aa,W_mv,Ac]
   refine W.end' (rs:=[2]) (vs:=[.int .i64 0]) rfl (.inl Xd) (by omega) IV NK rfl (by simp[T.get_set]) ?_
   have e:CH a=0:=if_pos (.inr h2)
   rw[e]at q
   exact q
  ·refine W.cond (v:=false) rfl MC (by simp[T.get_set,h2]) (by omega) (fun h=>by cases h) fun _=> ?_
   refine Je_.w rfl (by omega) ?_
   have ea:wrap64 (a+26)=a+26:=AP (by omega) (by omega)
   simp only[TQ,Ad,W_oS,Aa,W_mv,Ac,T.get_set,reduceIte,reduceCtorEq, ↓reduceIte,By,h0,ea]
   refine W.end' (rs:=[2]) (vs:=[.int .i64 (a+26)]) rfl (.inl Kt_) (by omega) IV NK rfl (by simp[T.get_set]) ?_
   have e:CH a=a+26:=if_neg fun h=>h.elim h1 h2
   rw[e]at q
   exact q
section
variable {s:St}{E:Env}{t:Nat}{xo yo:Operand}
theorem Xm_ (m n:Nat)(hn:1≤n)(hm:m≤9223372036854775807):Cl.get (aBin E .quo t xo yo) (.int .i64 (m:Nat)) (.int .i64 (n:Nat)) s= .some (.int .i64 (m/n:Nat)) s:=by
 show int3 quoK (Bi E .quo t xo yo) (.int .i64 (.ofNat m)) (.int .i64 (.ofNat n)) s=_
 show Option.rec (motive:=fun _=>R Value) _ (fun v=> .some v s) (quoK .i64 .i64 m n)=_
 have:quoK .i64 .i64 m n=some (.int .i64 (m/n:Nat)):=by
  unfold quoK Ch
  rw[Nat.beq_refl,Nat.ble_eq_true_of_le hn]
  exact Ps (Nat.le_trans (Nat.div_le_self m n) hm)
 rw[this]
theorem XN {m n:Nat}(hn:1≤n)(hm:m≤9223372036854775807)(Q:Value→St→Prop):W (Cl.get (aBin E .quo t xo yo) (.int .i64 (m:Nat)) (.int .i64 (n:Nat))) s Q=Q (.int .i64 (m/n:Nat)) s:=Bl (Xm_ m n hn hm)
theorem Jr_ {m:Nat}(hm:m≤9223372036854775807)(Q:Value→St→Prop):W (Cl.get (aBin E .quo t xo yo) (.int .i64 (m:Nat)) (.int .i64 256)) s Q=Q (.int .i64 (m/256:Nat)) s:=XN (n:=256) (by decide) hm Q
theorem XI_ {m:Nat}(Q:Value→St→Prop):W (Cl.get (aBin E .rem t xo yo) (.int .i64 (m:Nat)) (.int .i64 256)) s Q=Q (.int .i64 (m%256:Nat)) s:=I9 (n:=256) (by decide) Q
end
theorem Yl_ {k:Nat}(hk:k≤65535):[k/256%256,k%256%256,(255-k/256)%256,(255-k%256)%256]=Cf k:=by
 have e:k>>>8=k/256:=Nat.shiftRight_eq_div_pow k 8
 unfold Cf
 rw[e,show k/256%256=k/256 by omega,show k%256%256=k%256 by omega,show(255-k/256)%256=255-k/256 by omega,show(255-k%256)%256=255-k%256 by omega]
theorem Aao_ {k n:Nat}{s:St}{Q:Value→St→Prop}(hk:k≤65535)(hbd:s.lim≤s.next)(hn:800≤n)(q: ∀s1 w b,s.next≤b→Ext Non Non s s1→EmB s1 (Do k) w b→Q w s1):W (Ai envS (runF envS n) 66 [.int .i64 (k:Nat)]) s Q:=by
 refine Abb_ fun tm h0=> ?_
 refine QJ_.w rfl (by omega) ?_
 simp only[Rs,Aa,W_mv,Ac]
 refine Na_.w rfl (by omega) ?_
 have e1:wrap64 ((255:Int)-(k/256:Nat))=((255-k/256:Nat):Int):=by
  rw[AP (by omega) (by omega)];omega
 have e2:wrap64 ((255:Int)-(k%256:Nat))=((255-k%256:Nat):Int):=by
  rw[AP (by omega) (by omega)];omega
 simp only[Sk,Ad,W_oS,Aa,W_mv,Ac,T.get_set,A8,A2,Af,reduceIte,reduceCtorEq, ↓reduceIte,Cm,h0,Jr_ (show k≤9223372036854775807 by omega),XI_,e1,e2,CO KI DP,wrap_u8]
 refine W.buildS (s:=s.cxN cxN) hbd (r:=u8l [k/256%256,k%256%256,(255-k/256)%256,(255-k%256)%256]) CU (by decide) rfl (Bh (by decide)) fun s1 n1 x1 r1=> ?_
 rw[Yl_ hk]at r1
 have hb1:s1.lim≤s1.next:=x1.bnd hbd
 have hB:Bn s1 (.slice (some ⟨s.next,0,none⟩) 4 4) (Cf k):=(Ae.bn (l:=Cf k) r1 (Bh (by simp[Cf]))).bn' (by simp[Cf])
 refine OV_.w rfl (by omega) ?_
 simp only[U5,Ad,W_on,Aa,W_mv,Ac,T.get_set,Ah,Ag,Af,Ar,reduceIte, ↓reduceIte]
 refine WM (l:=Cf k) hb1 (by simp[Cf];omega) hB (RE k) (by simp[Cf]) fun s2 m2 n2 x2=> ?_
 have hb2:s2.lim≤s2.next:=x2.bnd hb1
 have hx2:Ext Non Non (s.cxN cxN) s2:=x1.step x2 hbd (fun y hy h=>by
  have h6:y<s.lim:=hy
  have h7:s.next+0≤y:=h.1
  omega) fun _ h=>h.elim
 refine Acf_.w rfl (by omega) ?_
 generalize hS:Cu 0 (Cf k)=S
 simp only[W9,Ad,W_oS,Aa,W_mv,Ac,T.get_set,Ah,Ag,A8,A2,Af,reduceIte,Nat.reduceEqDiff, ↓reduceIte,CO Gg DP,wrap_u8,Gv (k:= .u32) (by decide)]
 refine W.buildS hb2 (r:=u8l [S%256,S>>>8%256]) CU (by decide) rfl (Bh (by decide)) fun s3 n3 x3 r3=> ?_
 have hb3:s3.lim≤s3.next:=x3.bnd hb2
 have hx3:=hx2.step x3 hbd (fun _ _ h=>h.elim) fun _ h=>h.elim
 have hB2:Bs s3 (.slice (some ⟨s2.next,0,none⟩) 2 2) [S%256,S>>>8%256]:=Ae.bn r3 (Bh (by simp))
 have hr1:Row s3 s.next 0 (u8l (Cf k)):=fun i v e=>((r1.row i v e).same m2 n2).ext x3 id
 rw[Eo]
 refine W.appLit hb3 Gq (len:=4) hr1 rfl hB2.src.g (Nat.succ_pos _) (by decide) (by decide) (by decide) (Nat.le_of_ble_eq_true rfl) (by rfl) (BT _) fun s4 w b hf x4=> ?_
 have hx4:Ext Non Non (s.cxN cxN) s4:=hx3.step x4 hbd (fun y hy h=>by
  have h6:y<s.lim:=hy
  have h8:s.next≤s2.next:=hx2.nxt
  rcases h with h|h
  ·have h7:s2.next+0≤y:=h.1
   omega
  ·have h7:s.next+0≤y:=h.1
   omega) fun _ h=>h.elim
 refine W.end' (rs:=[2]) (vs:=[w]) rfl (.inl Abs_) (by omega) ZU Sy_ hx4.cx (by simp[T.get_set]) ?_
 refine q _ _ b ?_ hx4.cx' ?_
 ·have h8:s.next≤s3.next:=hx3.nxt
  have:=hf.new
  omega
 ·have hm:EmB s4 (Do k) w b:=by
   refine .inr ⟨?_,Nat.succ_pos _⟩
   have e:u8l (Do k)=u8l (Cf k)++u8l [S%256,S>>>8%256]:=by
    rw[←hS]
    rfl
   rw[e]
   exact hf.marked
  exact hm.same rfl rfl
def okAt (l:List Nat)(a:Int):Bool:=decide (0≤a∧a+6≤(l.length:Nat))&&Cp l a.toNat
theorem Sk_ {a b:Nat}(hb:b<256):len2 a b=256*a+b:=by
 unfold len2
 rw[←Nat.shiftLeft_add_eq_or_of_lt (show b<2^8 from hb),Nat.shiftLeft_eq]
 omega
theorem Acj_ {E:Env}{t:Nat}{s:St}{n:Nat}{xo yo:Operand}(hn:256*n≤9223372036854775807)(Q:Value→St→Prop):W (Cl.get (aBin E .mul t xo yo) (.int .i64 256) (.int .i64 (n:Nat))) s Q=Q (.int .i64 (256*n:Nat)) s:=O7 (m:=256) hn Q
theorem Sh_ {n:Nat}{a:Int}{s:St}{v:Value}{l:List Nat}{Q:Value→St→Prop}(hbs:Bs s v l)(ha: ¬(0≤a∧a+6≤(l.length:Nat)))(hz:l.length≤1000000)(hn:60≤n)(q:Q (.tuple #[.int .i64 0, .bool false]) s):W (Ai envS (runF envS n) 69 [v, .int .i64 a]) s Q:=by
 refine Tr fun tm h0 h1=> ?_
 have hb0:Bs (s.cxN cxN) v l:=hbs.same rfl rfl
 refine Q2.w rfl (by omega) ?_
 simp only[MK,Aa,W_mv,Ac]
 refine Dr_.w rfl (by omega) ?_
 have e6:wrap64 (((l.length:Nat):Int)-6)=((l.length:Nat):Int)-6:=AP (by omega) (by omega)
 simp only[Ll,Ad,W_oS,W_on,Aa,W_mv,Ac,T.get_set,Ah,Ag,Af,reduceIte,Ax,A9,AA,Nat.reduceEqDiff,reduceCtorEq, ↓reduceIte,Be,h0,h1]
 have fin: ∀(n':Nat) (tm':T Value) (td:List Item),20≤n'→skim 64 td=Qd→W (runF envS n' ⟨69,RN,Dx,tm',td, .run, .normal,none⟩) (s.cxN cxN) fun p s1=>Q p.1 (s1.cxN s.cx):=fun n' tm' td hn' hT=>by
  refine UE_.w hT (by omega) ?_
  simp only[ER_,Aa,W_mv,Ac]
  exact W.end' (rs:=[4,5]) (vs:=[.int .i64 0, .bool false]) rfl (.inl LD_) (by omega) Ks Lw rfl (by simp[T.get_set]) q
 by_cases h:a<0
 ·rw[decide_eq_true h]
  simp only[Aa,reduceIte,Ba,Bo, ↓reduceIte]
  refine W.cond (v:=true) rfl NV (by simp[T.get_set]) (by omega) (fun _=> ?_) fun h=>by cases h
  exact fin _ _ _ (by omega) rfl
 ·rw[decide_eq_false h]
  simp only[W_oS,Aa,reduceIte,A5,Bb,reduceCtorEq, ↓reduceIte,Cm,Dl,hb0.len AE,e6]
  refine W.cond (v:=true) rfl NV (by simp[T.get_set];omega) (by omega) (fun _=> ?_) fun h=>by cases h
  exact fin _ _ _ (by omega) rfl
theorem QB_ {n k:Nat}{s:St}{v:Value}{l:List Nat}{Q:Value→St→Prop}(hbd:s.lim≤s.next)(hbs:Bs s v l)(hby:Byt l)(hk:k+6≤l.length)(hz:l.length≤1000000)(hn:1200≤n)
  (q1:Cp l k=true→ ∀s1,Ext (BsF v) Non s s1→Q (.tuple #[.int .i64 (A1 l k:Nat), .bool true]) s1) (q2:Cp l k=false→ ∀s1,Ext (BsF v) Non s s1→Q (.tuple #[.int .i64 0, .bool false]) s1):W (Ai envS (runF envS n) 69 [v, .int .i64 (k:Nat)]) s Q:=by
 refine Tr fun tm h0 h1=> ?_
 have hb0:Bs (s.cxN cxN) v l:=hbs.same rfl rfl
 have hka:k<l.length:=by omega
 have hkb:k+1<l.length:=by omega
 refine Q2.w rfl (by omega) ?_
 simp only[MK,Aa,W_mv,Ac]
 refine Dr_.w rfl (by omega) ?_
 have e6:wrap64 (((l.length:Nat):Int)-6)=((l.length-6:Nat):Int):=by
  rw[AP (by omega) (by omega)];omega
 simp only[Ll,Ad,W_oS,W_on,Aa,W_mv,Ac,T.get_set,Ah,Ag,Af,reduceIte,Ax,A9,AA,Nat.reduceEqDiff,reduceCtorEq, ↓reduceIte,Be,h0,h1]
 rw[decide_eq_false (show ¬((k:Nat):Int)<0 by omega)]
 simp only[W_oS,Aa,reduceIte,A5,Bb,reduceCtorEq, ↓reduceIte,Cm,Dl,hb0.len AE,e6]
 refine W.cond (v:=false) rfl NV (by simp[T.get_set];omega) (by omega) (fun h=>by cases h) fun _=> ?_
 obtain⟨ba,oa,ca,rfl,ga,fa⟩:=hb0.at hka
 obtain⟨bb,ob,cb,e,gb,fb⟩:=hb0.at hkb
 cases e
 refine Rp_.w rfl (by omega) ?_
 have hA:l[k]<256:=hby _ (List.getElem_mem hka)
 have hB:l[k+1]<256:=hby _ (List.getElem_mem hkb)
 have ei:wrap64 ((k:Nat)+1:Int)=((k+1:Nat):Int):=by
  rw[AP (by omega) (by omega)];simp
 simp only[SB,T.get_set,Nat.reduceEqDiff, ↓reduceIte,h0,h1,BG,Ap]
 rw[W_dq fun s Q=>CS (s:=s) AE hka Q]
 refine W.dload CG (ga.same rfl rfl) fun rd1 hr1=> ?_
 rw[W_dq fun s Q=>CO (s:=s) KN JS Q,wrap_i64 _ (by omega),W_dq fun s Q=>Acj_ (s:=s) (by omega) Q]
 simp only[Ap]
 rw[W_dq fun s Q=>By (s:=s) ((k:Nat):Int) 1,ei,W_dq fun s Q=>CS (s:=s) AE hkb Q]
 refine W.dload CG (gb.same rfl rfl) fun rd2 hr2=> ?_
 have es:wrap64 (((256*l[k]:Nat):Int)+((l[k+1]:Nat):Int))=((A1 l k:Nat):Int):=by
  rw[AP (by omega) (by omega)]
  unfold A1
  rw[List.getD_eq_getElem?_getD,List.getD_eq_getElem?_getD,List.getElem?_eq_getElem hka,List.getElem?_eq_getElem hkb]
  show _=((len2 l[k] l[k+1]:Nat):Int)
  rw[Sk_ hB]
  omega
 rw[W_dq fun s Q=>CO (s:=s) KN JS Q,wrap_i64 _ (by omega),W_dq fun s Q=>By (s:=s) _ _,es]
 rw[Aa]
 refine⟨Dn (by simp) (by simp), ?_⟩
 refine W.cast (SU_ ..) ?_
 simp only[Ad,W_oS,Aa,AJ]
 generalize hs':(⟨(dSt (s.cxN cxN).mem (s.cxN cxN).next).mem,(dSt (s.cxN cxN).mem (s.cxN cxN).next).next,(s.cxN cxN).lim,_,_,(s.cxN cxN).cx⟩:St)=s1
 have hx1:Ext (BsF (.slice (some ⟨ba,oa,none⟩) l.length ca)) Non (s.cxN cxN) s1:=by
  rw[←hs']
  refine Ext.draw (F:=BsF (.slice (some ⟨ba,oa,none⟩) l.length ca)) (Nat.le_refl _) (fun _ _=>rfl) (by simp) (by
   simp only[List.mem_cons,List.not_mem_nil,or_false]
   rintro m (rfl|rfl|rfl|rfl|rfl|rfl|rfl|rfl|rfl|rfl|rfl|rfl|rfl) x hx _<;>first|(exact fa _ (hr1 _ hx))|(exact fb _ (hr2 _ hx))|(cases hx))
 have hb1:s1.lim≤s1.next:=hx1.bnd hbd
 have hB1:Bn s1 (.slice (some ⟨ba,oa,none⟩) l.length ca) l:=by
  rcases hb0.ext0 hx1 with⟨h,_⟩|h
  ·cases h
  ·exact h
 have hN:A1 l k<65536:=by
  unfold A1
  rw[List.getD_eq_getElem?_getD,List.getD_eq_getElem?_getD,List.getElem?_eq_getElem hka,List.getElem?_eq_getElem hkb]
  exact(Ed_ hA hB).2
 unfold Cp at q1 q2
 generalize hNN:A1 l k=N at q1 q2 hN
 rw[←GZ_]at q1 q2
 refine TO_.w rfl (by omega) ?_
 simp only[Yx,T.get_set,Nat.reduceEqDiff, ↓reduceIte,h0,h1,BG,Ck,Ah,Ag,Af,Dc,Ap]
 refine W.dop0 (KH _ (by omega) ⟨rfl, ?_⟩)
 rw[W_dq fun s Q=>Fl (s:=s) _ _]
 simp only[Ap,Ax,Cw]
 have ep:decide (0<CH ((N:Nat):Int))= !decide (CH ((N:Nat):Int)=0):=by
  unfold CH
  split
  ·rfl
  ·rw[decide_eq_true (by omega),decide_eq_false (by omega)];rfl
 rw[ep]at q1 q2
 have fin0: ∀(n':Nat) (s2:St) (tm':T Value) (td:List Item),20≤n'→s2.cx=cxN→skim 64 td=PC→Q (.tuple #[.int .i64 0, .bool false]) (s2.cxN s.cx)→W (runF envS n' ⟨69,RN,Dx,tm',td, .run, .normal,none⟩) s2 fun p s1=>Q p.1 (s1.cxN s.cx):=fun n' s2 tm' td hn' hc hT q=>by
  refine HG_.w hT (by omega) ?_
  simp only[Td,Aa,W_mv,Ac]
  exact W.end' (rs:=[4,5]) (vs:=[.int .i64 0, .bool false]) rfl (.inl SE_) (by omega) Ks Lw hc (by simp[T.get_set]) q
 cases hp:decide (CH ((N:Nat):Int)=0)with
 |true=>
  rw[hp]at q2
  simp only[Ba,if_f,Ap]
  rw[Aa]
  refine⟨Dn (by simp) (by simp), ?_⟩
  refine W.cast (Sx ..) ?_
  simp only[Ad,W_on,Aa,AJ,reduceIte,AA, ↓reduceIte]
  generalize hs2:(⟨(dSt s1.mem s1.next).mem,(dSt s1.mem s1.next).next,s1.lim,_,_,s1.cx⟩:St)=s2
  have hx2:Ext (BsF (.slice (some ⟨ba,oa,none⟩) l.length ca)) Non (s.cxN cxN) s2:=by
   rw[←hs2]
   exact hx1.step (Ext.drawG (F:=Non) (G:=Non) (Nat.le_refl _) (fun _ _ _=>rfl) (by simp) (by simp)) hbd (fun _ _ h=>h.elim) fun _ h=>h.elim
  refine W.cond (v:=true) rfl MY (by simp[T.get_set]) (by omega) (fun _=> ?_) fun h=>by cases h
  exact fin0 _ _ _ _ (by omega) hx2.cx rfl (q2 rfl _ hx2.cx')
 |false=>
  rw[hp]at q1 q2
  have hsz:N≤1024:=by
   unfold CH at hp
   split at hp
   ·cases hp
   ·omega
  simp only[A5,if_t,Ap]
  have e6:wrap64 (((k:Nat):Int)+6)=((k+6:Nat):Int):=by
   rw[AP (by omega) (by omega)];omega
  rw[W_dq fun s Q=>By (s:=s) _ _,e6]
  have hBo:Bn (oSt s1.mem s1.next) (.slice (some ⟨ba,oa,none⟩) l.length ca) l:=hB1.same rfl rfl
  refine W.dop0 (W.cut hBo AE (i:=k) (j:=k+6) rfl rfl (by omega) hk fun v' hv' hF'=>⟨rfl, ?_⟩)
  simp only[Ap]
  generalize hseg:(l.take (k+6)).drop k=seg at *
  have hsegB:Byt seg:=H3 hby fun x hx=>by rw[←hseg]at hx;exact List.mem_of_mem_take (List.mem_of_mem_drop hx)
  refine W.dop (W.strA hv'.bs fun s2 m2 n2 x2=>⟨_,x2,fun rd2' hr2'=> ?_⟩)
  have n2':s2.next=s1.next:=n2
  simp only[Ap]
  refine W.dop (Aao_ (k:=N) (by omega) (Nat.le_refl _) (by omega) fun s3 w3 b3 hb3 x3 h3=>⟨_,x3,fun rd3 hr3=> ?_⟩)
  have n3':s2.next≤s3.next:=x3.nxt
  simp only[Ap]
  refine W.dop (W.strA ((h3.bn (by rw[ZG];decide)).bs.same (s':=oSt s3.mem s3.next) rfl rfl) fun s4 m4 n4 x4=>⟨_,x4,fun rd4 hr4=> ?_⟩)
  have n4':s4.next=s3.next:=n4
  simp only[Ap]
  have hHB:Byt (Do N):=QL_ N
  rw[W_dq fun s Q=>FX_ (s:=s) _ _ Q,SV hsegB hHB,Aa]
  have hold: ∀x,x∈rd2'→ ¬s1.next≤x:=fun x hx=>Nat.not_le_of_lt (hr2' x hx).1
  have hr3': ∀x,x∈rd3→False:=fun x hx=>(hr3 x hx).2
  have hr4': ∀x,x∈rd4→s2.next≤x:=fun x hx=>by
   have h1:=(hr4 x hx).2
   obtain⟨c,hc⟩:=h3.at
   rw[hc]at h1
   have h2:b3+0≤x:=h1.1
   have h4:s2.next≤b3:=hb3
   omega
  refine⟨EJ ?_, ?_⟩
  ·simp only[List.reverse_cons,List.reverse_nil,List.nil_append,List.cons_append,allP,Dm,List.take,D9]
   simp+contextual [n2',n4',hold]
   exact .inl rfl
  ·refine W.cast (Sx ..) ?_
   simp only[Ad,W_on,Aa,AJ,reduceIte,AA,reduceCtorEq, ↓reduceIte]
   generalize hs5:(⟨(dSt s4.mem s4.next).mem,(dSt s4.mem s4.next).next,s1.lim,_,_,s1.cx⟩:St)=s5
   have hx5:Ext (BsF (.slice (some ⟨ba,oa,none⟩) l.length ca)) Non (s.cxN cxN) s5:=by
    rw[←hs5]
    refine hx1.step (Ext.draw (F:=fun x=>BsF (.slice (some ⟨ba,oa,none⟩) l.length ca) x∨s1.next≤x) (by show s1.next≤s4.next;omega) (fun x hx=> ?_) (by simp) ?_) hbd (fun x hx h=> ?_) fun _ h=>h.elim
    ·show T.get s4.mem x=_
     have e4:T.get s4.mem x=T.get s3.mem x:=by rw[m4];rfl
     have e3:T.get s3.mem x=T.get s2.mem x:=x3.mem x (by show x<s2.next;omega) id
     have e2:T.get s2.mem x=T.get s1.mem x:=by rw[m2];rfl
     rw[e4,e3,e2]
    ·simp only[List.mem_cons,List.not_mem_nil,or_false]
     rintro m (rfl|rfl|rfl|rfl|rfl|rfl|rfl|rfl|rfl|rfl|rfl|rfl|rfl|rfl) x hx _<;>first|(cases hx;done)|(exact .inl (hF' _ (hr2' x hx).2))|(exact(hr3' x hx).elim)|(exact .inr (by have:=hr4' x hx;omega))
    ·have h2:x<s.lim:=hx
     have h3:s.next≤s1.next:=hx1.nxt
     rcases h with h|h
     ·exact h
     ·omega
   by_cases hq:seg=Do N
   ·rw[decide_eq_true hq]at q1
    refine W.cond (v:=false) rfl MY (by simp[T.get_set,hq]) (by omega) (fun h=>by cases h) fun _=> ?_
    refine SW_.w rfl (by omega) ?_
    simp only[CB_,Aa,W_mv,Ac,T.get_set,reduceIte,Nat.reduceEqDiff, ↓reduceIte]
    exact W.end' (rs:=[4,5]) (vs:=[.int .i64 (N:Nat), .bool true]) rfl (.inl Nb_) (by omega) Ks Lw hx5.cx (by simp[T.get_set]) (q1 rfl _ hx5.cx')
   ·rw[decide_eq_false hq]at q2
    refine W.cond (v:=true) rfl MY (by simp[T.get_set,hq]) (by omega) (fun _=> ?_) fun h=>by cases h
    exact fin0 _ _ _ _ (by omega) hx5.cx rfl (q2 rfl _ hx5.cx')
theorem Sz {n:Nat}{a:Int}{s:St}{v:Value}{l:List Nat}{Q:Value→St→Prop}(hbd:s.lim≤s.next)(hbs:Bs s v l)(hby:Byt l)(hz:l.length≤1000000)(hn:1200≤n)
  (q1:okAt l a=true→ ∀s1,Ext (BsF v) Non s s1→Q (.tuple #[.int .i64 (A1 l a.toNat:Nat), .bool true]) s1) (q2:okAt l a=false→ ∀s1,Ext (BsF v) Non s s1→Q (.tuple #[.int .i64 0, .bool false]) s1):W (Ai envS (runF envS n) 69 [v, .int .i64 a]) s Q:=by
 by_cases h:0≤a∧a+6≤(l.length:Nat)
 ·obtain⟨k,rfl⟩: ∃k:Nat,a=(k:Nat):=⟨a.toNat,by omega⟩
  unfold okAt at q1 q2
  rw[decide_eq_true h,Bool.true_and]at q1 q2
  exact QB_ hbd hbs hby (by omega) hz hn q1 q2
 ·exact Sh_ hbs h hz (by omega) (q2 (by unfold okAt;rw[decide_eq_false h,Bool.false_and]) s (Ext.refl _))
def blk (x:List Nat)(q:Nat):List Nat:=(x.take (64*q+64)).drop (64*q)
def C9 (x:List Nat):Nat→Sha.St8
 |0=>Dq
 |q+1=>Sha.next (C9 x q) fun j=>(blk x q).getD j 0
theorem UT_ {x y:List Nat}{q:Nat}(h:64*q+64≤x.length):blk (x++y) q=blk x q:=by
 unfold blk
 rw[List.take_append_of_le_length h]
theorem Pq {x y:List Nat}: ∀{q:Nat},64*q≤x.length→C9 (x++y) q=C9 x q
 |0,_=>rfl
 |q+1,h=>by
  unfold C9
  rw[Pq (q:=q) (by omega),UT_ (by omega)]
theorem Jy_ (x:List Nat): ∀q,(C9 x q).Ok
 |0=>Ai_
 |q+1=>Sha.plus_ok _ _
structure Told8 (d:DS)(x:List Nat):Prop where
 n:d.n=x.length
 len:d.w.length=64
 st:d.st=C9 x (x.length/64)
 w:d.w.take (x.length%64)=x.drop (64*(x.length/64))
theorem Told8.new:Told8 DS.new []:=⟨rfl,by simp[DS.new],rfl,rfl⟩
theorem Told8.step {d:DS}{x b:List Nat}(h:Told8 d x):Told8 (d.step b) (x++b.take (d.k b)):=by
 obtain⟨hn,hl,hs,hw⟩:=h
 have hm:x.length%64<64:=Nat.mod_lt _ (by decide)
 have hq:x.length=64*(x.length/64)+x.length%64:=by omega
 generalize hqe:x.length/64=q at *
 generalize hme:x.length%64=m at *
 have hdm:d.n%64=m:=by rw[hn,hme]
 have hk:d.k b=Nat.min (64-m) b.length:=by unfold DS.k;rw[hdm]
 have hk1:d.k b≤64-m:=by rw[hk];exact Nat.min_le_left _ _
 have hk2:d.k b≤b.length:=by rw[hk];exact Nat.min_le_right _ _
 have hkc:d.k b=64-m∨d.k b=b.length:=by
  rw[hk]
  rcases Nat.le_total (64-m) b.length with h|h
  ·exact .inl (Nat.min_eq_left h)
  ·exact .inr (Nat.min_eq_right h)
 have htl:(b.take (d.k b)).length=d.k b:=by rw[List.length_take];omega
 have hxl:(x++b.take (d.k b)).length=64*q+(m+d.k b):=by rw[List.length_append,htl];omega
 have hdl:(d.w.take m).length=m:=by rw[List.length_take];omega
 have hdrop:(x++b.take (d.k b)).drop (64*q)=d.w.take m++b.take (d.k b):=by
  rw[List.drop_append_of_le_length (by omega),hw]
 have hw':d.w' b=d.w.take m++(b.take (d.k b)++d.w.drop (m+d.k b)):=by unfold DS.w';rw[hdm]
 have hwl:(d.w' b).length=64:=by
  rw[hw',List.length_append,List.length_append,hdl,htl,List.length_drop]
  omega
 refine⟨?_,hwl, ?_, ?_⟩
 ·show d.n+d.k b=_
  rw[hxl,hn]
  omega
 ·show(if d.n%64+d.k b=64 then Sha.next d.st (fun j=>(d.w' b).getD j 0)else d.st)=_
  rw[hdm,hxl]
  by_cases he:m+d.k b=64
  ·rw[if_pos he,he,show(64*q+64)/64=q+1 by omega]
   show _=Sha.next (C9 (x++b.take (d.k b)) q) fun j=>(blk (x++b.take (d.k b)) q).getD j 0
   have e1:blk (x++b.take (d.k b)) q=d.w' b:=by
    unfold blk
    rw[List.take_of_length_le (by rw[hxl,he];exact Nat.le_refl _),hdrop,hw',he,List.drop_of_length_le (by rw[hl];exact Nat.le_refl _),List.append_nil]
   rw[e1,Pq (by omega),hs]
  ·rw[if_neg he,show(64*q+(m+d.k b))/64=q by omega,Pq (by omega),hs]
 ·rw[hxl]
  show(d.w' b).take _=_
  by_cases he:m+d.k b=64
  ·rw[he,show(64*q+64)%64=0 by omega,show(64*q+64)/64=q+1 by omega,List.take_zero,List.drop_of_length_le (by rw[hxl];omega)]
  ·rw[show(64*q+(m+d.k b))%64=m+d.k b by omega,show(64*q+(m+d.k b))/64=q by omega,hdrop,hw',←List.append_assoc,List.take_append_of_le_length (by rw[List.length_append,hdl,htl];exact Nat.le_refl _)]
   exact List.take_of_length_le (by rw[List.length_append,hdl,htl];exact Nat.le_refl _)
theorem Told8.write: ∀(f:Nat) {d:DS} {x b:List Nat},b.length≤f→Told8 d x→Told8 (DS.write f d b) (x++b)
 |0,d,x,b,hf,h=>by
  obtain rfl:b=[]:=List.eq_nil_of_length_eq_zero (by omega)
  rw[List.append_nil]
  exact h
 |f+1,d,x,b,hf,h=>by
  unfold DS.write
  by_cases hb:b.length=0
  ·obtain rfl:b=[]:=List.eq_nil_of_length_eq_zero hb
   rw[if_pos (show([]:List Nat).length=0 from rfl),List.append_nil]
   exact h
  ·rw[if_neg hb]
   have hk0:0<d.k b:=by
    have hm:d.n%64<64:=Nat.mod_lt _ (by decide)
    unfold DS.k
    exact Nat.lt_min.2 ⟨by omega,by omega⟩
   have:=Told8.write f (b:=b.drop (d.k b)) (by rw[List.length_drop];omega) (h.step (b:=b))
   rw[List.append_assoc,List.take_append_drop]at this
   exact this
def padB (n:Nat):List Nat:=128::List.replicate ((119-n%64)%64) 0++tl8 (8*n) 8
def Dz (b:List Nat):List Nat:=b++padB b.length
theorem Uo_ (n:Nat):(padB n).length=(119-n%64)%64+9:=by
 unfold padB
 rw[List.length_append,List.length_cons,List.length_replicate,O1]
theorem Xc (b:List Nat):(Dz b).length=64*((b.length+72)/64):=by
 unfold Dz
 rw[List.length_append,Uo_]
 omega
theorem Aat_ (n:Nat):Byt (padB n):=fun x hx=>by
 rcases List.mem_append.1 hx with hx|hx
 ·rcases List.mem_cons.1 hx with rfl|hx
  ·decide
  ·rw[List.mem_replicate]at hx;omega
 ·exact Lm _ _ x hx
theorem Vo_ {b:List Nat}(h:Byt b):Byt (Dz b):=fun x hx=>by
 rcases List.mem_append.1 hx with hx|hx
 ·exact h x hx
 ·exact Aat_ _ x hx
theorem QH_ (b:List Nat):sumB b=outs (st8L (C9 (Dz b) ((b.length+72)/64))):=by
 unfold sumB DS.sum DS.fin
 have h1:Told8 (DS.write b.length DS.new b) b:=Told8.write b.length (Nat.le_refl _) Told8.new
 generalize DS.write b.length DS.new b=d at *
 have hp:d.pad=padB b.length:=by
  unfold DS.pad DS.pad0 padB
  rw[h1.n]
 have h2:Told8 (DS.write d.pad.length d d.pad) (b++d.pad):=Told8.write _ (Nat.le_refl _) h1
 rw[h2.st,hp]
 have e:(b++padB b.length).length/64=(b.length+72)/64:=by
  have:=Xc b
  unfold Dz at this
  rw[this]
  omega
 rw[e]
 rfl
theorem xm32 {a b:Nat}(ha:a<4294967296)(hb:b<4294967296):(a^^^b)%4294967296=a^^^b:=Nat.mod_eq_of_lt (Sha.xor_lt ha hb)
theorem ZA_ {x:Nat}(hx:x<4294967296):((rot x 7^^^rot x 18)%4294967296^^^x>>>3)%4294967296=Sha.s0 x:=by
 have h3:x>>>3<4294967296:=Jt hx 3
 rw[xm32 (BA x 7 hx) (BA x 18 hx),xm32 (Sha.xor_lt (BA x 7 hx) (BA x 18 hx)) h3,Nat.shiftRight_eq_div_pow]
 rfl
theorem Yy_ {x:Nat}(hx:x<4294967296):((rot x 17^^^rot x 19)%4294967296^^^x>>>10)%4294967296=Sha.s1 x:=by
 have h3:x>>>10<4294967296:=Jt hx 10
 rw[xm32 (BA x 17 hx) (BA x 19 hx),xm32 (Sha.xor_lt (BA x 17 hx) (BA x 19 hx)) h3,Nat.shiftRight_eq_div_pow]
 rfl
def schL (f:Nat→Nat):List Nat:=(List.range 64).map (Sha.sch f)
theorem VD_ {f:Nat→Nat}{ws:List Nat}(hl:ws.length=64)(h: ∀j,j<64→ws.getD j 0=Sha.sch f j):ws=schL f:=by
 apply List.ext_getElem?
 intro j
 unfold schL
 rw[List.getElem?_map]
 by_cases hj:j<64
 ·have:=h j hj
  rw[List.getD_eq_getElem?_getD,List.getElem?_eq_getElem (by omega)]at this
  rw[List.getElem?_eq_getElem (by omega),List.getElem?_range hj]
  exact congrArg some this
 ·rw[List.getElem?_eq_none (by omega),List.getElem?_eq_none (by simp;omega)]
  rfl
section
variable {B C:Nat}{f:Nat→Nat}{Q:Value×FrameMode→St→Prop}{s0:St}
theorem Op_ (hb0:s0.lim≤s0.next)(hBl:s0.lim≤B)(hf: ∀j,f j<256): ∀(k i n:Nat) (tm:T Value) (s:St) (td:List Item) (ws:List Nat),i+k=64→16≤i→8*k+30≤n→skim 64 td=KP→Ext Non (In B 0 64) s0 s→Ae s B 0 (w32 ws)→ws.length=64→(∀j,j<i→ws.getD j 0=Sha.sch f j)→
  T.get tm 2=some (.pointer (some ⟨C,0,none⟩))→T.get tm 3=some (.pointer (some ⟨B,0,none⟩))→T.get tm 5=some (.int .i64 (i:Nat))→
  (∀n' tm' s1 td',n≤n'+8*k+10→skim 64 td'=OI→Ext Non (In B 0 64) s0 s1→Ae s1 B 0 (w32 (schL f))→T.get tm' 2=some (.pointer (some ⟨C,0,none⟩))→T.get tm' 3=some (.pointer (some ⟨B,0,none⟩))→W (runF envS n' ⟨146,KR,Cv,tm',td', .run, .normal,none⟩) s1 Q)→
  W (runF envS n ⟨146,KR,Cv,tm,td, .run, .normal,none⟩) s Q:=by
 intro k
 induction k with
 |zero=>
  intro i n tm s td ws hi hi16 hn hT hx ho hw hws h2 h3 h5 q
  refine GA_.w hT (by omega) ?_
  simp only[Oe,Ad,W_oS,Aa,W_mv,Ac,Be,h5]
  refine W.cond (v:=false) rfl EC_ (by simp[T.get_set];omega) (by omega) (fun h=>by cases h) fun _=> ?_
  obtain rfl:i=64:=by omega
  rw[VD_ hw hws]at ho
  exact q _ _ _ _ (by omega) rfl hx ho (by simp[T.get_set,h2]) (by simp[T.get_set,h3])
 |succ k ih=>
  intro i n tm s td ws hi hi16 hn hT hx ho hw hws h2 h3 h5 q
  refine GA_.w hT (by omega) ?_
  simp only[Oe,Ad,W_oS,Aa,W_mv,Ac,Be,h5]
  refine W.cond (v:=true) rfl EC_ (by simp[T.get_set];omega) (by omega) (fun _=> ?_) fun h=>by cases h
  have hb:s.lim≤s.next:=hx.bnd hb0
  have hat: ∀{s':St} (j:Nat),Ae s' B 0 (w32 ws)→j<i→At (dSt s'.mem s'.next) B (0+j*1) (.int .u32 (Sha.sch f j:Nat)):=fun{s'} j ho hj=>by
   have h1:=ho j _ (D0 (show j<ws.length by omega))
   rw[hws j hj]at h1
   rw[Nat.mul_one]
   exact h1.at'.same rfl rfl
  obtain⟨F,hF⟩: ∃F:Nat→Prop,F=In B 0 64:=⟨_,rfl⟩
  have w15:wrap64 ((i:Nat)-15:Int)=((i-15:Nat):Int):=by rw[AP (by omega) (by omega)];omega
  have w2:wrap64 ((i:Nat)-2:Int)=((i-2:Nat):Int):=by rw[AP (by omega) (by omega)];omega
  have w16:wrap64 ((i:Nat)-16:Int)=((i-16:Nat):Int):=by rw[AP (by omega) (by omega)];omega
  have w7:wrap64 ((i:Nat)-7:Int)=((i-7:Nat):Int):=by rw[AP (by omega) (by omega)];omega
  have hwk: ∀{F':Nat→Prop} {s':St},Ext F Non s s'→Ext Non (In B 0 64) s0 s':=fun x'=>hx.trans x' hb0 (fun y hy h=>by rw[hF]at h;have h1:=h.1;omega) fun _ _ h=>h.elim
  refine ZM_.rd (F:=F) rfl (by omega) ?_
  simp only[Wt,T.get_set,Nat.reduceEqDiff, ↓reduceIte,h3,h5,BG,Ap,Iq,w15,BY (i:=((i-15:Nat):Int)) (k:=i-15) rfl Fe (show i-15<64 by omega)]
  refine W.dload BD (hat (i-15) ho (by omega)) fun rd0 hr0=> ?_
  simp only[Ap,Iq,w2,BY (i:=((i-2:Nat):Int)) (k:=i-2) rfl Fe (show i-2<64 by omega)]
  refine W.dload BD (hat (i-2) ho (by omega)) fun rd1 hr1=> ?_
  simp only[Ap,AJ]
  rw[Aa]
  have l0: ∀x∈rd0,F x:=fun x hx=>by rw[hF,hr0 x hx];exact⟨by omega,by omega⟩
  have l1: ∀x∈rd1,F x:=fun x hx=>by rw[hF,hr1 x hx];exact⟨by omega,by omega⟩
  refine⟨rfl,by simp, ?_,fun s' m' n' x'=> ?_⟩
  ·dsimp only
   simp only[List.forall_mem_cons]
   repeat' apply And.intro
   all_goals first|trivial|assumption|(intro x hx;cases hx)
  refine W.cast (To_ ..) ?_
  simp only[Ad,W_oS,Aa,AJ]
  have hX:Sha.sch f (i-15)<4294967296:=Sha.sch_lt hf _
  have hY:Sha.sch f (i-2)<4294967296:=Sha.sch_lt hf _
  have hsch:=Sha.sch_hi (B:=f) hi16
  generalize hxe:Sha.sch f (i-15)=X at *
  generalize hye:Sha.sch f (i-2)=Y at *
  have ho':Ae s' B 0 (w32 ws):=fun j v e=>(ho j v e).ext x' id
  have hx':Ext Non (In B 0 64) s0 s':=hwk (F':=F) x'
  have hb':s'.lim≤s'.next:=hx'.bnd hb0
  have hat16:At (dSt s'.mem s'.next) B (0+(i-16)*1) (.int .u32 (Sha.sch f (i-16):Nat)):=by
   have h1:=ho' (i-16) _ (D0 (show i-16<ws.length by omega))
   rw[hws (i-16) (by omega)]at h1
   rw[Nat.mul_one]
   exact h1.at'.same rfl rfl
  have hat7:At (dSt s'.mem s'.next) B (0+(i-7)*1) (.int .u32 (Sha.sch f (i-7):Nat)):=by
   have h1:=ho' (i-7) _ (D0 (show i-7<ws.length by omega))
   rw[hws (i-7) (by omega)]at h1
   rw[Nat.mul_one]
   exact h1.at'.same rfl rfl
  refine MQ_.rd (F:=F) rfl (by omega) ?_
  simp only[Ue,T.get_set,Nat.reduceEqDiff, ↓reduceIte,h3,h5,BG,Ap,Iq,w16,BY (i:=((i-16:Nat):Int)) (k:=i-16) rfl Fe (show i-16<64 by omega)]
  refine W.dload BD hat16 fun rd2 hr2=> ?_
  simp only[Ck,Ah,Ag,Af,Ap,Iq,w7,D8 (i:=7) (n:=n-1-1-1-1) 7 rfl (by decide) rfl hX (by omega),D8 (i:=18) (n:=n-1-1-1-1) 18 rfl (by decide) rfl hX (by omega),Ev,PL (i:=3) 3 rfl (by decide),E5,BY (i:=((i-7:Nat):Int)) (k:=i-7) rfl Fe (show i-7<64 by omega)]
  refine W.dload BD hat7 fun rd3 hr3=> ?_
  simp only[Ap,D8 (i:=17) (n:=n-1-1-1-1) 17 rfl (by decide) rfl hY (by omega),D8 (i:=19) (n:=n-1-1-1-1) 19 rfl (by decide) rfl hY (by omega),Ev,PL (i:=10) 10 rfl (by decide),E5,BY (i:=((i:Nat):Int)) (k:=i) rfl Fe (show i<64 by omega)]
  rw[ZA_ hX,Yy_ hY,←hsch,Aa]
  have l2: ∀x∈rd2,F x:=fun x hx=>by rw[hF,hr2 x hx];exact⟨by omega,by omega⟩
  have l3: ∀x∈rd3,F x:=fun x hx=>by rw[hF,hr3 x hx];exact⟨by omega,by omega⟩
  refine⟨rfl,by simp, ?_,fun s2 m2 n2 x2=> ?_⟩
  ·dsimp only
   simp only[List.forall_mem_cons]
   repeat' apply And.intro
   all_goals first|trivial|assumption|(intro x hx;cases hx)
  refine W.cast (XS_ ..) ?_
  simp only[Ad,W_oS,Aa]
  have hx2:Ext Non (In B 0 64) s0 s2:=hx'.trans x2 hb0 (fun y hy h=>by rw[hF]at h;have h1:=h.1;omega) fun _ _ h=>h.elim
  have ho2:Ae s2 B 0 (w32 ws):=fun j v e=>(ho' j v e).ext x2 id
  have hown:=ho2 i _ (D0 (show i<ws.length by omega))
  refine W.store1 (o:=0+i*1) BD rfl (by rw[Nat.mul_one];exact hown) fun s3 n3 x3 o3=> ?_
  rw[Nat.mul_one]at x3 o3
  have ho3:Ae s3 B 0 (w32 (ws.set i (Sha.sch f i))):=by
   rw[←Nq]
   exact ho2.set x3 o3
  have hx3:Ext Non (In B 0 64) s0 s3:=hx2.trans x3 hb0 (fun y hy h=>by have h1:B+(0+i)≤y:=h.1;omega) fun y _ h=>by
   have h1:B+(0+i)≤y:=h.1
   have h2:y<B+(0+i)+1:=h.2
   exact⟨by omega,by omega⟩
  refine Mo_.w rfl (by omega) ?_
  have ei:wrap64 ((i:Nat)+1:Int)=((i+1:Nat):Int):=by
   rw[AP (by omega) (by omega)];simp
  simp only[SW,Ad,W_oS,Aa,W_mv,Ac,T.get_set,reduceIte,Nat.reduceEqDiff, ↓reduceIte,By,h5,ei]
  refine ih (i+1) _ _ _ _ (ws.set i (Sha.sch f i)) (by omega) (by omega) (by omega) MH_ hx3 ho3 (by rw[List.length_set];exact hw) (fun j hj=> ?_) (by simp[T.get_set,h2]) (by simp[T.get_set,h3]) (by simp[T.get_set]) fun n' tm' s3 td' e=>q n' tm' s3 td' (by omega)
  rw[List.getD_eq_getElem?_getD,List.getElem?_set]
  by_cases hij:i=j
  ·subst hij
   rw[if_pos rfl,if_pos (by omega)]
   rfl
  ·rw[if_neg hij,←List.getD_eq_getElem?_getD]
   exact hws j (by omega)
end
end Go.Proofs.Ytofanlcjeohcjaa.Am
end
