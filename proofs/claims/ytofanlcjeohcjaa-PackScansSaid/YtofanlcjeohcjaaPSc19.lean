import Derived.Test.YtofanlcjeohcjaaPSc18
import Derived.Test.YtofanlcjeohcjaaPSc14
import Derived.Test.YtofanlcjeohcjaaPSc07
import Derived.KernelRfl
import Derived.Test.YtofanlcjeohcjaaPSc08
noncomputable section
namespace Go.Proofs.Ytofanlcjeohcjaa.Am
open Go.RowKit
section
variable {P:Program}{E:Env}{s:St}{t:Nat}
def FA (P:Program)(t:Nat):Bool:=match P.underlying t with
 |some (.struct fs)=>(match fs.toList with
  | [f0, f1, f2] => f0.name != "_" && f1.name != "_" && f2.name != "_" && Nat.beq f0.offset 0 && Nat.beq f1.offset 16 && Nat.beq f2.offset 17 && !P.stoodInHeld t && !P.eqGuardType P.depth t &&
   (match P.underlying f0.type,P.info? f0.type,P.underlying f1.type,P.underlying f2.type with
   |some (.array 16 e),some i0,some (.int .i64),some (.int .i64)=>Nat.beq i0.size 16&&(match P.underlying e,P.info? e with|some (.int .u8),some i=>Nat.beq i.size 1|_,_=>false)
   |_,_,_,_=>false)
  |_=>false)
 |_=>false
theorem Rr_ {cs:Array Value}{off e:Nat}{i:TypeInfo}(hu:P.underlying t=some (.array 16 e))(hi:P.info? t=some i)(hz:i.size=16):semP P (part t cs off)=some (.agg (cs.extract off (off+16))):=by
 unfold part isAgg
 rw[Ce,Ce,GR hu]
 simp -implicitDefEqProofs only[Option.bind_some,DB,if_true,Ce,AD_ hi,hz]
theorem SI {d:Nat}{a:Int}(hu:P.underlying t=some (.int .i64)):semP P (Op.equalIn (d+1) t (.int .i64 a) (.int .i64 a))=some true:=by
 simp -implicitDefEqProofs only[Op.equalIn,Ce,GR hu,Option.bind_some,if_true,DB,beq_self_eq_true]
theorem YX_ {h:Hd}(h16:h.1.length=16):(AI h).toArray.extract 0 (0+16)=(u8l h.1).toArray:=by
 apply Array.ext'
 rw[Array.toList_extract]
 simp -implicitDefEqProofs only[List.extract,Nat.zero_add,List.drop_zero,Nat.sub_zero]
 unfold AI
 rw[List.take_left' (by rw[A6];exact h16)]
theorem Qq_ {h:Hd}(h16:h.1.length=16):(AI h).toArray[16]?=some (.int .i64 (h.2.1:Nat))∧(AI h).toArray[17]?=some (.int .i64 (h.2.2:Nat)):=by
 rw[List.getElem?_toArray,List.getElem?_toArray]
 exact GF h16
theorem YL_ (d:Nat){h:Hd}(h16:h.1.length=16)(hT:FA P t=true):semP P (Op.equalIn (d+3) t (.agg (AI h).toArray) (.agg (AI h).toArray))=some true:=by
 unfold FA at hT
 split at hT
 ·rename_i fs hu
  split at hT
  ·rename_i f0 f1 f2 hfs
   simp -implicitDefEqProofs only[Bool.and_eq_true,bne_iff_ne,ne_eq,Bool.not_eq_true']at hT
   obtain⟨⟨⟨⟨⟨⟨⟨⟨n0,n1⟩,n2⟩,o0⟩,o1⟩,o2⟩,st⟩,_⟩,rest⟩:=hT
   split at rest
   ·rename_i e i0 u0 i0' u1 u2
    rw[Bool.and_eq_true]at rest
    obtain⟨z0,rest⟩:=rest
    split at rest
    ·rename_i ie ue hie
     have o0:=Nat.eq_of_beq_eq_true o0
     have o1:=Nat.eq_of_beq_eq_true o1
     have o2:=Nat.eq_of_beq_eq_true o2
     have z0:=Nat.eq_of_beq_eq_true z0
     have z1:=Nat.eq_of_beq_eq_true rest
     obtain⟨hc1,hc2⟩:=Qq_ h16
     have hp:semP P program=some P:=rfl
     rw[show d+3=(d+2)+1 from rfl]
     unfold Op.equalIn
     simp -implicitDefEqProofs only[Ce,GR hu,Option.bind_some,hp,st,Bool.false_eq_true,if_false]
     rw[←Array.forIn_toList,hfs]
     simp -implicitDefEqProofs only[List.forIn_cons,List.forIn_nil,n0,n1,n2,not_false_eq_true,if_true,Ce,o0,o1,o2,ne_eq]
     rw[Rr_ u0 i0' z0,YX_ h16]
     simp -implicitDefEqProofs only[Option.bind_some]
     rw[show d+2=d+2 from rfl,PP d h.1 h.1 u0 hie z1 ue h16 h16]
     simp -implicitDefEqProofs only[Option.bind_some,decide_true,Bool.not_true,Bool.false_eq_true,if_false,DB,Ce]
     rw[Jy u1 hc1]
     simp -implicitDefEqProofs only[Option.bind_some]
     rw[show d+2=(d+1)+1 from rfl,SI u1]
     simp -implicitDefEqProofs only[Option.bind_some,Bool.not_true,Bool.false_eq_true,if_false,DB,Ce]
     rw[Jy u2 hc2]
     simp -implicitDefEqProofs only[Option.bind_some]
     rw[SI u2]
     simp -implicitDefEqProofs only[Option.bind_some,Bool.not_true,Bool.false_eq_true,if_false,DB]
    ·cases rest
   ·cases rest
  ·cases hT
 ·cases hT
theorem MD_ (h:Hd):plain (.agg (AI h).toArray)=true:=by
 show(AI h).toArray.toList.all (BF 3)=true
 rw[List.all_eq_true]
 intro v hv
 have hv':v∈AI h:=hv
 unfold AI at hv'
 rcases List.mem_append.1 hv' with hv|hv
 ·obtain⟨n,_,rfl⟩:=List.mem_map.1 hv
  rfl
 ·simp -implicitDefEqProofs only[List.mem_cons,List.not_mem_nil,or_false]at hv
  rcases hv with rfl|rfl<;>rfl
theorem Ni_ {xo yo:Operand}{cs cs':Array Value}(hg:P.eqGuardType P.depth t=false):semP P (eqGuard .neq t xo yo (.agg cs) (.agg cs'))=some ():=by
 have hp:semP P program=some P:=rfl
 unfold eqGuard
 simp -implicitDefEqProofs only[Bool.not_true,Bool.not_false,Bool.false_eq_true,if_false,if_true,Ce,hp,Option.bind_some,hg,DB]
theorem KS_ (h:FA P t=true):P.eqGuardType P.depth t=false:=by
 unfold FA at h
 split at h
 ·split at h
  ·simp -implicitDefEqProofs only[Bool.and_eq_true,bne_iff_ne,ne_eq,Bool.not_eq_true']at h
   exact h.1.2
  ·cases h
 ·cases h
theorem NX_ {h:Hd}{xo yo:Operand}(h16:h.1.length=16)(hT:FA E.P t=true):Cl.get (aBin E .neq t xo yo) (.agg (AI h).toArray) (.agg (AI h).toArray) s= .some (.bool false) s:=by
 show Bi E .neq t xo yo (.agg (AI h).toArray) (.agg (AI h).toArray) s=_
 unfold Bi
 rw[MD_]
 show M.on (semP E.P (do eqGuard .neq t xo yo (.agg (AI h).toArray) (.agg (AI h).toArray);binOp .neq t (.agg (AI h).toArray) (.agg (AI h).toArray))) pV s=_
 rw[Ce,Ni_ (KS_ hT)]
 show M.on (semP E.P (do pure (.bool (!(←Op.equalIn (9997+3) t (.agg (AI h).toArray) (.agg (AI h).toArray)))))) pV s=_
 rw[Ce,YL_ 9997 h16 hT]
 rfl
theorem MN_ {h:Hd}{xo yo:Operand}(h16:h.1.length=16)(hT:FA E.P t=true)(Q:Value→St→Prop):W (Cl.get (aBin E .neq t xo yo) (.agg (AI h).toArray) (.agg (AI h).toArray)) s Q=Q (.bool false) s:=Bl (NX_ h16 hT)
end
theorem Acc_:FA envS.P 35=true:=by kernel_rfl
def DT:Nat:=Bm Try.f16
abbrev Hr_:Nat:=31
def WJ:Code:=Try.f16.body.getD .skip
theorem Ee_:envS.fn.get 16=some Try.f16:=by kernel_rfl
theorem Ut_ {a0:Value}{n:Nat}{s:St}{Q:Value→St→Prop}(h: ∀tm,T.get tm 0=some a0→W (runF envS n ⟨16,31,DT,tm,[.code WJ], .run, .normal,none⟩) (s.cxN cxN) fun p s1=>Q p.1 (s1.cxN s.cx)):W (Ai envS (runF envS n) 16 [a0]) s Q:=
 W.call (by kernel_rfl) (by kernel_rfl) Ee_ (by kernel_rfl) rfl rfl (by simp) (h _ (by kernel_rfl))
theorem OU_:Try.f16.results.toList=[.tmp 2]:=by kernel_rfl
def Q8:List Item:=skim 64 [.code WJ]
def X3:List Item:=skim 64 Q8.tail
def UK:List Item:=skim 64 X3.tail
def Vl:List Item:=skim 64 UK.tail
def J8:List Item:=skim 64 Vl.tail
def LU:List Item:=skim 64 J8.tail
def Fr_:List Item:=skim 64 (brT LU)
def Oc:List Item:=skim 64 (brF LU)
def He_:List Item:=skim 64 Fr_.tail
def ZY:List Item:=skim 64 Oc.tail
theorem WP_:skim 64 He_.tail=J8:=by kernel_rfl
def Zm (E:Env)(call round:Ab)(tm:T Value):M (T Value):=
 mv (some (.slice none 0 0)) fun v2=>
 setF 2 v2 tm fun tm1=>
 M.pure tm1
theorem Ve_:RegEq 16 31 DT Q8 Zm:={}
def Rk (E:Env)(call round:Ab)(tm:T Value):M (T Value):=
 mv (T.get tm 0) fun v5=>
 M.bind (oS (seqO [(some v5)]) fun l=>Az E .len [22] l) fun v6=>
 M.bind (oS (some v6) fun a=>oS (some (.int .i64 3)) fun b=>Cl.get (aBin E .add 3 (.tmp 6) (.const (.int .i64 3))) a b) fun v7=>
 M.bind (oS (some v7) fun a=>oS (some v7) fun b=>Ea E 22 a b) fun v8=>
 mv (some v8) fun v3=>
 setF 3 v3 tm fun tm1=>
 M.pure tm1
theorem Acn_:RegEq 16 31 DT X3 Rk:={}
def FF_ (E:Env)(call round:Ab)(tm:T Value):M (T Value):=
 mv (T.get tm 3) fun v9=>
 mv (T.get tm 0) fun v10=>
 M.bind (oS (seqO [(some v9),(some v10)]) fun l=>Az E .copy [22,22] l) fun v11=>
 M.pure tm
theorem TX_:RegEq 16 31 DT UK FF_:={}
def CU_ (E:Env)(call round:Ab)(tm:T Value):M (T Value):=
 mv (T.get tm 0) fun v12=>
 M.bind (oS (seqO [(some v12)]) fun l=>Az E .len [22] l) fun v13=>
 mv (some v13) fun v4=>
 setF 4 v4 tm fun tm1=>
 M.pure tm1
theorem IQ_:RegEq 16 31 DT Vl CU_:={}
def Ma (E:Env)(call round:Ab)(tm:T Value):M (T Value):=
 mv (T.get tm 4) fun v14=>
 mv (T.get tm 3) fun v15=>
 M.bind (oS (seqO [(some v15)]) fun l=>Az E .len [22] l) fun v16=>
 M.bind (oS (some v14) fun a=>oS (some v16) fun b=>Cl.get (aBin E .lss 3 (.tmp 14) (.tmp 16)) a b) fun v17=>
 setF 17 v17 tm fun tm1=>
 M.pure tm1
theorem V7:RegEq 16 31 DT J8 Ma:={}
theorem W4:A4 LU=some 17:=by kernel_rfl
def XJ (E:Env)(call round:Ab)(tm:T Value):M (T Value):=
 mv (T.get tm 3) fun v20=>
 mv (T.get tm 4) fun v21=>
 mv (T.get tm 4) fun v22=>
 M.bind (oS (some v22) fun a=>oS (some (.int .i64 90)) fun b=>Cl.get (aBin E .rem 3 (.tmp 22) (.const (.int .i64 90))) a b) fun v23=>
 M.bind (oS (some (.int .i64 160)) fun a=>oS (some v23) fun b=>Cl.get (aBin E .add 3 (.const (.int .i64 160)) (.tmp 23)) a b) fun v24=>
 M.bind (oS (some v24) fun a=>Bc E 3 5 a) fun v25=>
 M.bind (oS (some v20) fun a=>oS (some v21) fun b=>AH E 22 a b) fun v26=>
 M.bind (oS (some v26) fun a=>oS (some v25) fun b=>A7 E 5 a b) fun _=>
 M.pure tm
theorem ZL_:RegEq 16 31 DT Fr_ XJ:={}
def Tg (E:Env)(call round:Ab)(tm:T Value):M (T Value):=
 mv (T.get tm 3) fun v27=>
 mv (T.get tm 0) fun v28=>
 M.bind (oS (seqO [(some v28)]) fun l=>Az E .len [22] l) fun v29=>
 M.bind (M.on (some v27) fun a=>M.on (some none) fun b=>M.on (onO (some v29) fun v=>some (some v)) fun c=>BB E 22 a b c) fun v30=>
 mv (some v30) fun v2=>
 setF 2 v2 tm fun tm1=>
 M.pure tm1
theorem OT_:RegEq 16 31 DT Oc Tg:={}
def Yj (E:Env)(call round:Ab)(tm:T Value):M (T Value):=
 mv (T.get tm 4) fun v18=>
 M.bind (oS (some v18) fun a=>oS (some (.int .i64 1)) fun b=>Cl.get (aBin E .add 3 (.tmp 18) (.const (.int .i64 1))) a b) fun v19=>
 mv (some v19) fun v4=>
 setF 4 v4 tm fun tm1=>
 M.pure tm1
theorem Kv_:RegEq 16 31 DT He_ Yj:={}
theorem Zv_: ∃k,ZY= .code .ret::k:=⟨ZY.tail,by kernel_rfl⟩
def Pf:Nat:=Bm Try.f19
def BU_:Code:=Try.f19.body.getD .skip
theorem RQ:envS.fn.get 19=some Try.f19:=by kernel_rfl
theorem RT_ {a0 a1:Value}{n:Nat}{s:St}{Q:Value→St→Prop}(h: ∀tm,T.get tm 0=some a0→T.get tm 1=some a1→W (runF envS n ⟨19,10,Pf,tm,[.code BU_], .run, .normal,none⟩) (s.cxN cxN) fun p s1=>Q p.1 (s1.cxN s.cx)):W (Ai envS (runF envS n) 19 [a0,a1]) s Q:=
 W.call (by kernel_rfl) (by kernel_rfl) RQ (by kernel_rfl) rfl rfl (by simp) (h _ (by kernel_rfl) (by kernel_rfl))
theorem Kj_:Try.f19.results.toList=[.tmp 4]:=by kernel_rfl
def ZP:List Item:=skim 64 [.code BU_]
def QM:List Item:=skim 64 ZP.tail
def RP:List Item:=skim 64 QM.tail
def Fn_ (E:Env)(call round:Ab)(tm:T Value):M (T Value):=
 mv (some (.bool false)) fun v4=>
 setF 4 v4 tm fun tm1=>
 M.pure tm1
theorem YR_:RegEq 19 10 Pf ZP Fn_:={}
def CI_ (E:Env)(call round:Ab)(tm:T Value):M (T Value):=
 mv (T.get tm 0) fun v5=>
 M.bind (oS (some v5) fun a=>Bc E 22 9 a) fun v6=>
 mv (T.get tm 1) fun v7=>
 M.bind (oS (some v7) fun a=>Bc E 22 9 a) fun v8=>
 M.bind (oS (some v6) fun a=>oS (some v8) fun b=>Cl.get (aBin E .eql 9 (.tmp 6) (.tmp 8)) a b) fun v9=>
 mv (some v9) fun v4=>
 setF 4 v4 tm fun tm1=>
 M.pure tm1
theorem Abm_:RegEq 19 10 Pf QM CI_:={}
theorem Iz_: ∃k,RP= .code .ret::k:=⟨RP.tail,by kernel_rfl⟩
def K3:Nat:=Bm Try.f23
def Dv_:Code:=Try.f23.body.getD .skip
theorem En_:envS.fn.get 23=some Try.f23:=by kernel_rfl
theorem Lu_ {a0 a1:Value}{n:Nat}{s:St}{Q:Value→St→Prop}(h: ∀tm,T.get tm 0=some a0→T.get tm 1=some a1→W (runF envS n ⟨23,23,K3,tm,[.code Dv_], .run, .normal,none⟩) (s.cxN cxN) fun p s1=>Q p.1 (s1.cxN s.cx)):W (Ai envS (runF envS n) 23 [a0,a1]) s Q:=
 W.call (by kernel_rfl) (by kernel_rfl) En_ (by kernel_rfl) rfl rfl (by simp) (h _ (by kernel_rfl) (by kernel_rfl))
theorem Wk_:Try.f23.results.toList=[.tmp 4]:=by kernel_rfl
def Xf:List Item:=skim 64 [.code Dv_]
def MX:List Item:=skim 64 Xf.tail
def Zi:List Item:=skim 64 MX.tail
def RO (E:Env)(call round:Ab)(tm:T Value):M (T Value):=
 mv (some (.bool false)) fun v4=>
 setF 4 v4 tm fun tm1=>
 M.pure tm1
theorem Nl_:RegEq 23 23 K3 Xf RO:={}
def Gw_ (E:Env)(call round:Ab)(tm:T Value):M ((Rho×T Value)×List OpLog):=
 M.bind (apartO (oS (T.get tm 0) fun a=>M.pure a)) fun p0=>
 M.bind (apartO (oS (seqO [(some p0.1)]) fun l=>Az E .len [22] l)) fun p1=>
 M.bind (apartO (oS (T.get tm 1) fun a=>M.pure a)) fun p2=>
 M.bind (apartO (oS (seqO [(some p2.1)]) fun l=>Az E .len [22] l)) fun p3=>
 M.bind (apartO (oS (some p1.1) fun a=>oS (some p3.1) fun b=>Cl.get (aBin E .eql 3 (.tmp 6) (.tmp 8)) a b)) fun p4=>
 M.bind (apartO (oS (some p4.1) fun a=>M.pure a)) fun p5=>
 M.bind (apartO (M.chk (isK p5.1) (M.if (isB p5.1 true) (oS (T.get tm 0) fun a=>M.pure a) (M.pure undef)))) fun p6=>
 M.bind (apartO (M.chk (isK p5.1) (M.if (isB p5.1 true) (oS (T.get tm 0) fun a=>M.pure a) (M.pure undef)))) fun p7=>
 M.bind (apartO (M.chk (isK p5.1) (M.if (isB p5.1 true) (oS (seqO [(some p7.1)]) fun l=>Az E .cap [22] l) (M.pure undef)))) fun p8=>
 M.bind (apartO (M.chk (isK p5.1) (M.if (isB p5.1 true) (M.on (some p6.1) fun a=>M.on (some none) fun b=>M.on (onO (some p8.1) fun v=>some (some v)) fun c=>BB E 22 a b c) (M.pure undef)))) fun p9=>
 M.bind (apartO (M.chk (isK p5.1) (M.if (isB p5.1 true) (oS (T.get tm 1) fun a=>M.pure a) (M.pure undef)))) fun p10=>
 M.bind (apartO (M.chk (isK p5.1) (M.if (isB p5.1 true) (M.on (some (.func (.func 16) #[] #[])) fun f=>M.on (seqO [(some p10.1)]) fun l=>AC call round f l) (M.pure undef)))) fun p11=>
 M.bind (apartO (M.chk (isK p5.1) (M.if (isB p5.1 true) (oS (T.get tm 1) fun a=>M.pure a) (M.pure undef)))) fun p12=>
 M.bind (apartO (M.chk (isK p5.1) (M.if (isB p5.1 true) (oS (seqO [(some p12.1)]) fun l=>Az E .len [22] l) (M.pure undef)))) fun p13=>
 M.bind (apartO (M.chk (isK p5.1) (M.if (isB p5.1 true) (oS (some p13.1) fun a=>oS (some (.int .i64 3)) fun b=>Cl.get (aBin E .add 3 (.tmp 18) (.const (.int .i64 3))) a b) (M.pure undef)))) fun p14=>
 M.bind (apartO (M.chk (isK p5.1) (M.if (isB p5.1 true) (M.on (some p11.1) fun a=>M.on (some none) fun b=>M.on (onO (some p14.1) fun v=>some (some v)) fun c=>BB E 22 a b c) (M.pure undef)))) fun p15=>
 M.bind (apartO (M.chk (isK p5.1) (M.if (isB p5.1 true) (M.on (some (.func (.func 19) #[] #[])) fun f=>M.on (seqO [(some p9.1),(some p15.1)]) fun l=>AC call round f l) (M.pure undef)))) fun p16=>
 M.bind (apartO (M.on (some p5.1) fun a=>M.on (some p16.1) fun b=>M.on (some (.bool false)) fun c=>BM a b c)) fun p17=>
 M.pure (([p17.1,p16.1,p15.1,p14.1,p13.1,p12.1,p11.1,p10.1,p9.1,p8.1,p7.1,p6.1,p5.1,p4.1,p3.1,p2.1,p1.1,p0.1],tm),[p17.2,p16.2,p15.2,p14.2,p13.2,p12.2,p11.2,p10.2,p9.2,p8.2,p7.2,p6.2,p5.2,p4.2,p3.2,p2.2,p1.2,p0.2])
theorem QX_:DrawEq 23 23 K3 MX [0,1,0,4,15,31,63,63,191,511,63,1087,63,4159,12351,31807,65535,131071,262143] Gw_:={}
theorem Lq_ (E:Env)(call round:Ab)(x5 x6 x7 x8 x9 x10 x11 x12 x13 x14 x15 x16 x17 x18 x19 x20 x21 x22:Value)(tm:T Value)(s:St):Bw call round (BO E K3 23 (hdC MX)) [x22,x21,x20,x19,x18,x17,x16,x15,x14,x13,x12,x11,x10,x9,x8,x7,x6,x5] tm s=(M.bind (oS (some x22) fun a=>M.pure a) fun v4=>setT 4 v4 tm fun tm1=>M.pure tm1) s:=by kernel_rfl
theorem SL_: ∃k,Zi= .code .ret::k:=⟨Zi.tail,by kernel_rfl⟩
def Ee:Nat:=Bm Try.f26
abbrev In_:Nat:=26
def El_:Code:=Try.f26.body.getD .skip
theorem Uu:envS.fn.get 26=some Try.f26:=by kernel_rfl
theorem ZW_ {a0 a1:Value}{n:Nat}{s:St}{Q:Value→St→Prop}(h: ∀tm,T.get tm 0=some a0→T.get tm 1=some a1→W (runF envS n ⟨26,26,Ee,tm,[.code El_], .run, .normal,none⟩) (s.cxN cxN) fun p s1=>Q p.1 (s1.cxN s.cx)):W (Ai envS (runF envS n) 26 [a0,a1]) s Q:=
 W.call (by kernel_rfl) (by kernel_rfl) Uu (by kernel_rfl) rfl rfl (by simp) (h _ (by kernel_rfl) (by kernel_rfl))
theorem IN_:Try.f26.results.toList=[.tmp 4]:=by kernel_rfl
def Rg:List Item:=skim 64 [.code El_]
def Cl_:List Item:=skim 64 Rg.tail
def Ho_:List Item:=skim 64 Cl_.tail
def S4:List Item:=skim 64 (brF Ho_)
def Le:List Item:=skim 64 S4.tail
def Pr:List Item:=skim 64 Le.tail
def PY:List Item:=skim 64 (brT Pr)
def Ro:List Item:=skim 64 (brF Pr)
def FD_:List Item:=skim 64 PY.tail
def X6:List Item:=skim 64 Ro.tail
def We:List Item:=skim 64 (brF FD_)
theorem Jk_:skim 64 We.tail=Le:=by kernel_rfl
def FK_ (E:Env)(call round:Ab)(tm:T Value):M (T Value):=
 mv (some (.bool false)) fun v4=>
 setF 4 v4 tm fun tm1=>
 M.pure tm1
theorem Te_:RegEq 26 26 Ee Rg FK_:={}
def FI_ (E:Env)(call round:Ab)(tm:T Value):M (T Value):=
 mv (T.get tm 0) fun v6=>
 M.bind (oS (seqO [(some v6)]) fun l=>Az E .len [36] l) fun v7=>
 mv (T.get tm 1) fun v8=>
 M.bind (oS (seqO [(some v8)]) fun l=>Az E .len [36] l) fun v9=>
 M.bind (oS (some v7) fun a=>oS (some v9) fun b=>Cl.get (aBin E .neq 3 (.tmp 7) (.tmp 9)) a b) fun v10=>
 setF 10 v10 tm fun tm1=>
 M.pure tm1
theorem IS_:RegEq 26 26 Ee Cl_ FI_:={}
theorem JH_:A4 Ho_=some 10:=by kernel_rfl
def Xq (E:Env)(call round:Ab)(tm:T Value):M (T Value):=
 mv (some (.int .i64 0)) fun v5=>
 setF 5 v5 tm fun tm1=>
 M.pure tm1
theorem Tr_:RegEq 26 26 Ee S4 Xq:={}
def O0 (E:Env)(call round:Ab)(tm:T Value):M (T Value):=
 mv (T.get tm 5) fun v11=>
 mv (T.get tm 0) fun v12=>
 M.bind (oS (seqO [(some v12)]) fun l=>Az E .len [36] l) fun v13=>
 M.bind (oS (some v11) fun a=>oS (some v13) fun b=>Cl.get (aBin E .lss 3 (.tmp 11) (.tmp 13)) a b) fun v14=>
 setF 14 v14 tm fun tm1=>
 M.pure tm1
theorem DG_:RegEq 26 26 Ee Le O0:={}
theorem GH_:A4 Pr=some 14:=by kernel_rfl
def Y2 (E:Env)(call round:Ab)(tm:T Value):M ((Rho×T Value)×List OpLog):=
 M.bind (apartO (oS (T.get tm 0) fun a=>M.pure a)) fun p0=>
 M.bind (apartO (oS (T.get tm 5) fun a=>M.pure a)) fun p1=>
 M.bind (apartO (oS (some p0.1) fun a=>oS (some p1.1) fun b=>AH E 36 a b)) fun p2=>
 M.bind (apartO (oS (some p2.1) fun a=>Ak E 35 a)) fun p3=>
 M.bind (apartO (oS (T.get tm 1) fun a=>M.pure a)) fun p4=>
 M.bind (apartO (oS (T.get tm 5) fun a=>M.pure a)) fun p5=>
 M.bind (apartO (oS (some p4.1) fun a=>oS (some p5.1) fun b=>AH E 36 a b)) fun p6=>
 M.bind (apartO (oS (some p6.1) fun a=>Ak E 35 a)) fun p7=>
 M.pure (([p7.1,p6.1,p5.1,p4.1,p3.1,p2.1,p1.1,p0.1],tm),[p7.2,p6.2,p5.2,p4.2,p3.2,p2.2,p1.2,p0.2])
theorem Px_:DrawEq 26 26 Ee PY [0,0,3,7,0,0,48,112,255] Y2:={}
theorem VW_ (E:Env)(call round:Ab)(x17 x18 x19 x20 x21 x22 x23 x24:Value)(tm:T Value)(s:St):Bw call round (BO E Ee 26 (hdC PY)) [x24,x23,x22,x21,x20,x19,x18,x17] tm s=(M.bind (oS (some x20) fun a=>oS (some x24) fun b=>Cl.get (aBin E .neq 35 (.tmp 20) (.tmp 24)) a b) fun v25=>setT 25 v25 tm fun tm1=>M.pure tm1) s:=by kernel_rfl
def Yo (E:Env)(call round:Ab)(tm:T Value):M (T Value):=
 mv (some (.bool true)) fun v4=>
 setF 4 v4 tm fun tm1=>
 M.pure tm1
theorem Jb_:RegEq 26 26 Ee Ro Yo:={}
theorem LA_:A4 FD_=some 25:=by kernel_rfl
theorem AaS_: ∃k,X6= .code .ret::k:=⟨X6.tail,by kernel_rfl⟩
def Wx (E:Env)(call round:Ab)(tm:T Value):M (T Value):=
 mv (T.get tm 5) fun v15=>
 M.bind (oS (some v15) fun a=>oS (some (.int .i64 1)) fun b=>Cl.get (aBin E .add 3 (.tmp 15) (.const (.int .i64 1))) a b) fun v16=>
 mv (some v16) fun v5=>
 setF 5 v5 tm fun tm1=>
 M.pure tm1
theorem SR_:RegEq 26 26 Ee We Wx:={}
theorem Ez:slN envS 36=some 18:=by kernel_rfl
def HsR (s:St)(v:Value)(hs:List Hd):Prop:=(v= .slice none 0 0∧hs=[])∨ ∃b o c,v= .slice (some ⟨b,o,none⟩) hs.length c∧Row s b o (Bu hs)
def HsF (v:Value)(x:Nat):Prop:=match v with| .slice (some a) n _=>In a.block a.off (n*18) x|_=>False
theorem HsR.same {s s':St}{v:Value}{hs:List Hd}(h:HsR s v hs)(hm:s'.mem=s.mem)(hn:s'.next=s.next):HsR s' v hs:=by
 rcases h with h|⟨b,o,c,h0,h3⟩
 ·exact .inl h
 ·exact .inr ⟨b,o,c,h0,fun i v e=>(h3 i v e).same hm hn⟩
theorem HsR.len {s s':St}{v:Value}{hs:List Hd}(h:HsR s v hs)(Q:Value→St→Prop):W (Az envS .len [36] [v]) s' Q=Q (.int .i64 (hs.length:Nat)) s':=by
 rcases h with⟨rfl,rfl⟩|⟨b,o,c,rfl,_⟩
 ·exact B5 Ez Q
 ·exact B5 Ez Q
theorem R5 (l:List Hd)(m:List Hd):Bu (l++m)=Bu l++Bu m:=by
 induction l with
 |nil=>rfl
 |cons h l ih=>show AI h++Bu (l++m)=(AI h++Bu l)++Bu m;rw[ih,List.append_assoc]
theorem Rl {hs:List Hd}(h16: ∀h∈hs,h.1.length=16){i:Nat}(hi:i<hs.length){j:Nat}(hj:j<18):(Bu hs)[i*18+j]?=(AI hs[i])[j]?:=by
 have e:hs=hs.take i++hs[i]::hs.drop (i+1):=by rw[List.getElem_cons_drop,List.take_append_drop]
 have hl:(Bu (hs.take i)).length=i*18:=by
  rw[J6 fun h hh=>h16 h (List.mem_of_mem_take hh),List.length_take]
  congr 1;omega
 have h18:(AI hs[i]).length=18:=DZ (h16 _ (List.getElem_mem hi))
 conv=>lhs;rw[e,R5]
 rw[List.getElem?_append_right (by omega),hl,show i*18+j-i*18=j by omega]
 show(AI hs[i]++Bu (hs.drop (i+1)))[j]?=_
 rw[List.getElem?_append_left (by omega)]
theorem HsR.at {s:St}{v:Value}{hs:List Hd}(h:HsR s v hs)(h16: ∀h∈hs,h.1.length=16){i:Nat}(hi:i<hs.length): ∃b o c,v= .slice (some ⟨b,o,none⟩) hs.length c∧Row s b (o+i*18) (AI hs[i])∧(∀x,In b (o+i*18) 18 x→HsF v x):=by
 rcases h with⟨rfl,rfl⟩|⟨b,o,c,rfl,h3⟩
 ·simp at hi
 ·refine⟨b,o,c,rfl,fun j u e=> ?_,fun x hx=>⟨by have:=hx.1;show b+o≤x;omega,by
   have h2:x<b+(o+i*18)+18:=hx.2
   show x<b+o+hs.length*18
   have:(i+1)*18≤hs.length*18:=Nat.mul_le_mul_right 18 hi
   omega⟩⟩
  have hj:j<18:=by
   have:=(List.getElem?_eq_some_iff.1 e).1
   rwa [DZ (h16 _ (List.getElem_mem hi))]at this
  have:=h3 (i*18+j) u (by rw[Rl h16 hi hj];exact e)
  rwa [show o+(i*18+j)=o+i*18+j by omega]at this
theorem OJ_ {va vb:Value}{hs:List Hd}{F:Nat→Prop}(hFa: ∀x,HsF va x→F x)(hFb: ∀x,HsF vb x→F x){Q:Value×FrameMode→St→Prop}{s0:St}(hb0:s0.lim≤s0.next)(ha:HsR s0 va hs)(hb:HsR s0 vb hs)(h16: ∀h∈hs,h.1.length=16)(hz:hs.length≤4611686018427387904)(hcx:s0.cx= .cx none (some []))(q: ∀s1,Ext F Non s0 s1→s1.mem=s0.mem→s1.next=s0.next→Q (.bool true, .run) s1):
  ∀(k i n:Nat) (tm:T Value) (s:St) (td:List Item),i+k=hs.length→7*k+20≤n→skim 64 td=Le→Ext F Non s0 s→s.mem=s0.mem→s.next=s0.next→
  T.get tm 0=some va→T.get tm 1=some vb→T.get tm 5=some (.int .i64 (i:Nat))→
  W (runF envS n ⟨26,In_,Ee,tm,td, .run, .normal,none⟩) s Q:=by
 intro k
 induction k with
 |zero=>
  intro i n tm s td hi hn hT hx hm hnx h0 h1 h5
  refine DG_.w hT (by omega) ?_
  simp -implicitDefEqProofs only[O0,Ad,W_oS,Aa,W_mv,Ac,Ah,Ag,Af,h0,h5]
  rw[ha.len]
  simp -implicitDefEqProofs only[Be]
  refine W.cond (v:=false) rfl GH_ (by simp[T.get_set];omega) (by omega) (fun h=>by cases h) fun _=> ?_
  refine Jb_.w rfl (by omega) ?_
  simp -implicitDefEqProofs only[Yo,Aa,W_mv,Ac]
  refine W.end' (rs:=[4]) (vs:=[.bool true]) rfl (.inl AaS_) (by omega) Uu IN_ (hx.cx.trans hcx) (by simp[T.get_set]) ?_
  exact q s hx hm hnx
 |succ k ih=>
  intro i n tm s td hi hn hT hx hm hnx h0 h1 h5
  have hil:i<hs.length:=by omega
  have hI:(AI hs[i]).length=18:=DZ (h16 _ (List.getElem_mem hil))
  obtain⟨ba,oa,ca,rfl,ga,fa⟩:=ha.at h16 hil
  obtain⟨bb,ob,cb,rfl,gb,fb⟩:=hb.at h16 hil
  refine DG_.w hT (by omega) ?_
  simp -implicitDefEqProofs only[O0,Ad,W_oS,Aa,W_mv,Ac,Ah,Ag,Af,h0,h5]
  rw[B5 Ez]
  simp -implicitDefEqProofs only[Be]
  refine W.cond (v:=true) rfl GH_ (by simp[T.get_set];omega) (by omega) (fun _=> ?_) fun h=>by cases h
  refine Px_.w rfl (by omega) ?_
  simp -implicitDefEqProofs only[Y2,T.get_set,Nat.reduceEqDiff, ↓reduceIte,h0,h1,h5,BG,Ap]
  rw[W_dq fun s Q=>CS (s:=s) Ez hil Q]
  refine W.dloadA GY (fun j u e=>(ga j u e).same hm hnx) hI fun m1 rd1 e1 hr1=> ?_
  subst e1
  simp -implicitDefEqProofs only[Ap]
  rw[W_dq fun s Q=>CS (s:=s) Ez hil Q]
  refine W.dloadA GY (fun j u e=>(gb j u e).same hm hnx) hI fun m2 rd2 e2 hr2=> ?_
  subst e2
  rw[Aa]
  refine⟨Dn (by simp) (by simp), ?_⟩
  refine W.cast (VW_ _ _ _ _ _ _ _ _ _ _ _ _ _) ?_
  simp -implicitDefEqProofs only[Ad,W_oS,Aa,AJ]
  rw[MN_ (h16 _ (List.getElem_mem hil)) Acc_]
  generalize hs':(⟨(dSt s.mem s.next).mem,(dSt s.mem s.next).next,s.lim,_,_,s.cx⟩:St)=s'
  have hx':Ext F Non s0 s':=by
   rw[←hs']
   refine hx.trans (Ext.draw (F:=F) (Nat.le_refl _) (fun _ _=>rfl) (by simp) (by
    simp -implicitDefEqProofs only[List.mem_cons,List.not_mem_nil,or_false]
    rintro m (rfl|rfl|rfl|rfl|rfl|rfl|rfl|rfl) x hx _<;>first|(exact hFa _ (fa _ (hr1 _ hx)))|(exact hFb _ (fb _ (hr2 _ hx)))|(cases hx))) hb0 (fun _ _ h=>h) fun _ _ h=>h
  have hm':s'.mem=s0.mem:=by rw[←hs'];exact hm
  have hn':s'.next=s0.next:=by rw[←hs'];exact hnx
  refine W.cond (v:=false) rfl LA_ (by simp[T.get_set]) (by omega) (fun h=>by cases h) fun _=> ?_
  refine SR_.w rfl (by omega) ?_
  have ei:wrap64 ((i:Nat)+1:Int)=((i+1:Nat):Int):=by
   rw[AP (by omega) (by omega)];simp
  simp -implicitDefEqProofs only[Wx,Ad,W_oS,Aa,W_mv,Ac,T.get_set,reduceIte,Nat.reduceEqDiff, ↓reduceIte,By,h5,ei]
  exact ih (i+1) _ _ _ _ (by omega) (by omega) Jk_ hx' hm' hn' (by simp[T.get_set,h0]) (by simp[T.get_set,h1]) (by simp[T.get_set])
theorem Uj_ {va vb:Value}{hs:List Hd}{n:Nat}{s:St}{Q:Value→St→Prop}(hbd:s.lim≤s.next)(ha:HsR s va hs)(hb:HsR s vb hs)(h16: ∀h∈hs,h.1.length=16)(hz:hs.length≤4611686018427387904)(hn:7*hs.length+40≤n)
  (q: ∀s1,Ext (fun x=>HsF va x∨HsF vb x) Non s s1→s1.mem=s.mem→s1.next=s.next→Q (.bool true) s1):W (Ai envS (runF envS n) 26 [va,vb]) s Q:=by
 refine ZW_ fun tm h0 h1=> ?_
 have ha':HsR (s.cxN cxN) va hs:=ha.same rfl rfl
 have hb':HsR (s.cxN cxN) vb hs:=hb.same rfl rfl
 refine Te_.w rfl (by omega) ?_
 simp -implicitDefEqProofs only[FK_,Aa,W_mv,Ac]
 refine IS_.w rfl (by omega) ?_
 simp -implicitDefEqProofs only[FI_,Ad,W_oS,Aa,W_mv,Ac,T.get_set,Ah,Ag,Af,reduceIte,Nat.reduceEqDiff,reduceCtorEq, ↓reduceIte,h0,h1]
 rw[ha'.len,hb'.len]
 simp -implicitDefEqProofs only[Dj]
 refine W.cond (v:=false) rfl JH_ (by simp[T.get_set]) (by omega) (fun h=>by cases h) fun _=> ?_
 refine Tr_.w rfl (by omega) ?_
 simp -implicitDefEqProofs only[Xq,Aa,W_mv,Ac]
 exact OJ_ (s0:=s.cxN cxN) (F:=fun x=>HsF va x∨HsF vb x) (fun _ h=> .inl h) (fun _ h=> .inr h) hbd ha' hb' h16 hz rfl (fun s1 x1 m1 n1=>q _ x1.cx' m1 n1) hs.length 0 _ _ _ _ (by omega) (by omega) rfl (Ext.refl _) rfl rfl (by simp[T.get_set,h0]) (by simp[T.get_set,h1]) (by simp[T.get_set])
theorem HsR.ext0 {F:Nat→Prop}{s s':St}{v:Value}{hs:List Hd}(h:HsR s v hs)(e:Ext F Non s s'):HsR s' v hs:=by
 rcases h with h|⟨b,o,c,h0,h3⟩
 ·exact .inl h
 ·exact .inr ⟨b,o,c,h0,h3.ext e fun _ _=>id⟩
theorem Ib.hsR {s s':St}{v:Value}{hs:List Hd}(h:Ib s s' v hs):HsR s' v hs:=by
 rcases h with h|⟨b,_,h,_⟩
 ·exact .inl h
 ·exact .inr ⟨b,0,_,h.val,fun i u e=>(h.own i u e).at'⟩
theorem Ib.new {s s':St}{v:Value}{hs:List Hd}(h:Ib s s' v hs): ∀x,HsF v x→s.next≤x:=by
 intro x hx
 rcases h with⟨rfl,_⟩|⟨b,h1,h,_⟩
 ·exact hx.elim
 ·rw[h.val]at hx
  have:=hx.1
  show s.next≤x
  have h2:b+0≤x:=hx.1
  omega
section
variable {parts:List (Value×List Nat)}{b o c:Nat}
end
section
variable {parts:List (Value×List Nat)}{b o c:Nat}
end
def EE:List (List Nat)→List Nat
 |[]=>[]
 |b::l=>recB b++EE l
def O5:Nat→List (List Nat)→List Nat
 |_,[]=>[]
 |k,b::l=>(k+(recB b).length)::O5 (k+(recB b).length) l
def Ph:Nat→List (List Nat)→List Hd
 |_,[]=>[]
 |k,b::l=>(idB b,k,b.length)::Ph (k+(recB b).length) l
def Ef_ (l:List Nat):List Value:=l.map fun n=> .int .i64 (n:Nat)
section
variable {parts:List (Value×List Nat)}{b o c:Nat}
def chs (parts:List (Value×List Nat))(i:Nat):List (List Nat):=(parts.take i).map (·.2)
structure AlI (s0:St)(parts:List (Value×List Nat))(b o c i:Nat)(tm:T Value)(s:St)(vb ve vh:Value)(b1 b2 b3:Nat):Prop where
 t0:T.get tm 0=some (.slice (some ⟨b,o,none⟩) parts.length c)
 t6:T.get tm 6=some vb
 t7:T.get tm 7=some ve
 t8:T.get tm 8=some vh
 t11:T.get tm 11=some (.int .i64 (i:Nat))
 mb:MkS s 1 (EE (chs parts i)).length (u8l (EE (chs parts i))) vb b1
 me:MkS s 1 i (Ef_ (O5 0 (chs parts i))) ve b2
 mh:MkS s 18 i (Bu (Ph 0 (chs parts i))) vh b3
 n1:s0.next≤b1
 n2:s0.next≤b2
 n3:s0.next≤b3
 d12: ∀x,MkF 1 (EE (chs parts i)).length b1 x→ ¬MkF 1 i b2 x
 d13: ∀x,MkF 1 (EE (chs parts i)).length b1 x→ ¬MkF 18 i b3 x
 d23: ∀x,MkF 1 i b2 x→ ¬MkF 18 i b3 x
 sm: ∀p∈parts.take i,1≤p.2.length∧p.2.length≤1024
theorem AaM_ {id:List Nat}(h:id.length=16)(a b:Nat)(s:St)(Q:Value→St→Prop):W (Cj envS 35 [(0, .agg (u8l id).toArray),(1, .int .i64 (a:Nat)),(2, .int .i64 (b:Nat))]) s Q=Q (.agg (AI (id,a,b)).toArray) s:=D6 (BY_ h a b) Q
end
structure RecAt (t:List Nat)(k:Nat)(b:List Nat):Prop where
 n:A1 t k=b.length
 ok:Cp t k=true
 len:k+26+b.length≤t.length
 rok:Cc t k=true
 good:BC t k b.length=true
 id:BI t k b.length=idB b
 body:BJ t k b.length=b
end Go.Proofs.Ytofanlcjeohcjaa.Am
end
