import Derived.Test.YtofanlcjeohcjaaPSc14
import Derived.Test.YtofanlcjeohcjaaPSc07
import Derived.KernelRfl
import Derived.Test.YtofanlcjeohcjaaPSc23
import Derived.Test.YtofanlcjeohcjaaPSc22
noncomputable section
namespace Go.Proofs.Ytofanlcjeohcjaa.Am
open Go.RowKit
def Cr:Nat:=Bm Try.f4
abbrev Zb:Nat:=106
def VV:Code:=Try.f4.body.getD .skip
theorem MM:envS.fn.get 4=some Try.f4:=by kernel_rfl
theorem WM_ {a0 a1:Value}{n:Nat}{s:St}{Q:Value→St→Prop}(h: ∀tm,T.get tm 0=some a0→T.get tm 1=some a1→W (runF envS n ⟨4,106,Cr,tm,[.code VV], .run, .normal,none⟩) (s.cxN cxN) fun p s1=>Q p.1 (s1.cxN s.cx)):W (Ai envS (runF envS n) 4 [a0,a1]) s Q:=
 W.call (by kernel_rfl) (by kernel_rfl) MM (by kernel_rfl) rfl rfl (by simp) (h _ (by kernel_rfl) (by kernel_rfl))
theorem DT_:Try.f4.results.toList=[.tmp 4]:=by kernel_rfl
def AT_:List Item:=skim 64 [.code VV]
def SL:List Item:=skim 64 AT_.tail
def Qq:List Item:=skim 64 SL.tail
def Ce_:List Item:=skim 64 (brT Qq)
def Cg_:List Item:=skim 64 (brF Qq)
def Uh:List Item:=skim 64 Ce_.tail
def SY:List Item:=skim 64 Cg_.tail
def W7:List Item:=skim 64 SY.tail
def XB:List Item:=skim 64 W7.tail
def Dy_:List Item:=skim 64 XB.tail
def Pt:List Item:=skim 64 (brF Dy_)
def Hi_:List Item:=skim 64 Pt.tail
def Jw:List Item:=skim 64 Hi_.tail
def OQ:List Item:=skim 64 Jw.tail
def Z9:List Item:=skim 64 (brT OQ)
def GB_:List Item:=skim 64 (brF OQ)
def Wm:List Item:=skim 64 Z9.tail
def AR_:List Item:=skim 64 GB_.tail
def QU:List Item:=skim 64 Wm.tail
def EG_:List Item:=skim 64 QU.tail
def RZ:List Item:=skim 64 (brF EG_)
def NO:List Item:=skim 64 RZ.tail
theorem JE_:skim 64 NO.tail=Jw:=by kernel_rfl
def BB_ (E:Env)(call round:Ab)(tm:T Value):M (T Value):=
 M.bind (oS (T.get tm 1) fun a=>kBox a) fun v3=>
 setF 3 v3 tm fun tm1=>
 mv (some (.bool false)) fun v4=>
 setF 4 v4 tm1 fun tm2=>
 M.pure tm2
theorem Aam_:RegEq 4 106 Cr AT_ BB_:={}
def XF (E:Env)(call round:Ab)(tm:T Value):M (T Value):=
 mv (T.get tm 0) fun v20=>
 M.bind (oS (seqO [(some v20)]) fun l=>Az E .len [22] l) fun v21=>
 M.bind (oS (some v21) fun a=>oS (some (.int .i64 6000)) fun b=>Cl.get (aBin E .gtr 3 (.tmp 21) (.const (.int .i64 6000))) a b) fun v22=>
 setF 22 v22 tm fun tm1=>
 M.pure tm1
theorem WO_:RegEq 4 106 Cr SL XF:={}
theorem TU:A4 Qq=some 22:=by kernel_rfl
def QJ (E:Env)(call round:Ab)(tm:T Value):M (T Value):=
 M.bind (M.on (some (.func (.func 15) #[] #[])) fun f=>M.on (seqO []) fun l=>AC call round f l) fun v23=>
 mv (some v23) fun v4=>
 setF 4 v4 tm fun tm1=>
 M.pure tm1
theorem IA_:RegEq 4 106 Cr Ce_ QJ:={}
def S5 (E:Env)(call round:Ab)(tm:T Value):M (T Value):=
 mv (T.get tm 0) fun v24=>
 M.bind (M.on (some (.func (.func 16) #[] #[])) fun f=>M.on (seqO [(some v24)]) fun l=>AC call round f l) fun v25=>
 mv (some v25) fun v5=>
 setF 5 v5 tm fun tm1=>
 M.pure tm1
theorem Ot_:RegEq 4 106 Cr Cg_ S5:={}
theorem HY_: ∃k,Uh= .code .ret::k:=⟨Uh.tail,by kernel_rfl⟩
def XX (E:Env)(call round:Ab)(tm:T Value):M (T Value):=
 mv (T.get tm 5) fun v27=>
 M.bind (M.on (some (.func (.func 24) #[] #[])) fun f=>M.on (seqO [(some v27)]) fun l=>AC call round f l) fun v28=>
 mv (some v28) fun v26=>
 M.bind (oS (some v26) fun a=>kExt 0 a) fun v29=>
 M.bind (oS (some v26) fun a=>kExt 1 a) fun v30=>
 M.bind (oS (some v26) fun a=>kExt 2 a) fun v31=>
 M.bind (oS (some v26) fun a=>kExt 3 a) fun v32=>
 mv (some v29) fun v6=>
 setF 6 v6 tm fun tm1=>
 mv (some v30) fun v7=>
 setF 7 v7 tm1 fun tm2=>
 mv (some v31) fun v8=>
 setF 8 v8 tm2 fun tm3=>
 mv (some v32) fun v9=>
 setF 9 v9 tm3 fun tm4=>
 M.pure tm4
theorem Pc_:RegEq 4 106 Cr SY XX:={}
def Ax_ (E:Env)(call round:Ab)(tm:T Value):M (T Value):=
 mv (T.get tm 0) fun v34=>
 M.bind (M.on (some (.func (.func 25) #[] #[])) fun f=>M.on (seqO [(some v34)]) fun l=>AC call round f l) fun v35=>
 mv (some v35) fun v33=>
 M.bind (oS (some v33) fun a=>kExt 0 a) fun v36=>
 M.bind (oS (some v33) fun a=>kExt 1 a) fun v37=>
 M.bind (oS (some v33) fun a=>kExt 2 a) fun v38=>
 M.bind (oS (some v33) fun a=>kExt 3 a) fun v39=>
 mv (some v36) fun v10=>
 setF 10 v10 tm fun tm1=>
 mv (some v37) fun v11=>
 setF 11 v11 tm1 fun tm2=>
 mv (some v38) fun v12=>
 setF 12 v12 tm2 fun tm3=>
 mv (some v39) fun v13=>
 setF 13 v13 tm3 fun tm4=>
 M.pure tm4
theorem IO_:RegEq 4 106 Cr W7 Ax_:={}
def UX (E:Env)(call round:Ab)(tm:T Value):M (T Value):=
 mv (T.get tm 7) fun v40=>
 mv (T.get tm 11) fun v41=>
 M.bind (oS (some v40) fun a=>oS (some v41) fun b=>Cl.get (aBin E .neq 3 (.tmp 40) (.tmp 41)) a b) fun v42=>
 mv (some v42) fun v43=>
 M.bind (M.chk (isK v43) (M.if (isB v43 false) (oS (T.get tm 8) fun a=>M.pure a) (M.pure undef))) fun v44=>
 M.bind (M.chk (isK v43) (M.if (isB v43 false) (oS (T.get tm 12) fun a=>M.pure a) (M.pure undef))) fun v45=>
 M.bind (M.chk (isK v43) (M.if (isB v43 false) (oS (some v44) fun a=>oS (some v45) fun b=>Cl.get (aBin E .neq 3 (.tmp 44) (.tmp 45)) a b) (M.pure undef))) fun v46=>
 M.bind (M.on (some v43) fun a=>M.on (some (.bool true)) fun b=>M.on (some v46) fun c=>BM a b c) fun v47=>
 mv (some v47) fun v48=>
 M.bind (M.chk (isK v48) (M.if (isB v48 false) (oS (T.get tm 9) fun a=>M.pure a) (M.pure undef))) fun v49=>
 M.bind (M.chk (isK v48) (M.if (isB v48 false) (oS (T.get tm 13) fun a=>M.pure a) (M.pure undef))) fun v50=>
 M.bind (M.chk (isK v48) (M.if (isB v48 false) (oS (some v49) fun a=>oS (some v50) fun b=>Cl.get (aBin E .neq 3 (.tmp 49) (.tmp 50)) a b) (M.pure undef))) fun v51=>
 M.bind (M.on (some v48) fun a=>M.on (some (.bool true)) fun b=>M.on (some v51) fun c=>BM a b c) fun v52=>
 mv (some v52) fun v53=>
 M.bind (M.chk (isK v53) (M.if (isB v53 false) (oS (T.get tm 6) fun a=>M.pure a) (M.pure undef))) fun v54=>
 M.bind (M.chk (isK v53) (M.if (isB v53 false) (oS (T.get tm 10) fun a=>M.pure a) (M.pure undef))) fun v55=>
 M.bind (M.chk (isK v53) (M.if (isB v53 false) (M.on (some (.func (.func 26) #[] #[])) fun f=>M.on (seqO [(some v54),(some v55)]) fun l=>AC call round f l) (M.pure undef))) fun v56=>
 M.bind (M.chk (isK v53) (M.if (isB v53 false) (oS (some v56) fun a=>kUn E.P .not a) (M.pure undef))) fun v57=>
 M.bind (M.on (some v53) fun a=>M.on (some (.bool true)) fun b=>M.on (some v57) fun c=>BM a b c) fun v58=>
 setF 58 v58 tm fun tm1=>
 M.pure tm1
theorem Lp_:RegEq 4 106 Cr XB UX:={}
theorem Vp_:A4 Dy_=some 58:=by kernel_rfl
def RS (E:Env)(call round:Ab)(tm:T Value):M ((Rho×T Value)×List OpLog):=
 M.bind (apartO (oS (seqP []) fun ps=>BZ E 36 0 ps)) fun p0=>
 M.bind (apartO (oS (T.get tm 10) fun a=>M.pure a)) fun p1=>
 M.bind (apartO (oS (seqO [(some p0.1),(some p1.1)]) fun l=>Az E .append [36,36] l)) fun p2=>
 M.bind (apartO (oS (T.get tm 3) fun a=>Ak E 35 a)) fun p3=>
 M.bind (apartO (oS (seqP [(0,(some p3.1))]) fun ps=>BZ E 36 1 ps)) fun p4=>
 M.bind (apartO (oS (seqO [(some p2.1),(some p4.1)]) fun l=>Az E .append [36,36] l)) fun p5=>
 M.pure (([p5.1,p4.1,p3.1,p2.1,p1.1,p0.1],tm),[p5.2,p4.2,p3.2,p2.2,p1.2,p0.2])
theorem Qx_:DrawEq 4 106 Cr Pt [0,0,3,0,8,31,63] RS:={}
theorem PG_ (E:Env)(call round:Ab)(x59 x60 x61 x62 x63 x64:Value)(tm:T Value)(s:St):Bw call round (BO E Cr 106 (hdC Pt)) [x64,x63,x62,x61,x60,x59] tm s=(M.bind (oS (some x64) fun a=>M.pure a) fun v14=>setT 14 v14 tm fun tm1=>M.pure tm1) s:=by kernel_rfl
def Cm_ (E:Env)(call round:Ab)(tm:T Value):M (T Value):=
 mv (some (.int .i64 0)) fun v15=>
 setF 15 v15 tm fun tm1=>
 M.pure tm1
theorem Wc_:RegEq 4 106 Cr Hi_ Cm_:={}
def Ng (E:Env)(call round:Ab)(tm:T Value):M (T Value):=
 mv (T.get tm 15) fun v65=>
 mv (T.get tm 14) fun v66=>
 M.bind (oS (seqO [(some v66)]) fun l=>Az E .len [36] l) fun v67=>
 M.bind (oS (some v65) fun a=>oS (some v67) fun b=>Cl.get (aBin E .lss 3 (.tmp 65) (.tmp 67)) a b) fun v68=>
 setF 68 v68 tm fun tm1=>
 M.pure tm1
theorem Wb:RegEq 4 106 Cr Jw Ng:={}
theorem TM:A4 OQ=some 68:=by kernel_rfl
def Bt_ (E:Env)(call round:Ab)(tm:T Value):M (T Value):=
 mv (T.get tm 5) fun v72=>
 mv (T.get tm 14) fun v73=>
 mv (T.get tm 15) fun v74=>
 M.bind (oS (some v73) fun a=>oS (some v74) fun b=>AH E 36 a b) fun v75=>
 M.bind (oS (some v75) fun a=>Ak E 35 a) fun v76=>
 M.bind (M.on (some (.func (.func 27) #[] #[])) fun f=>M.on (seqO [(some v72),(some v76)]) fun l=>AC call round f l) fun v77=>
 mv (some v77) fun v71=>
 M.bind (oS (some v71) fun a=>kExt 0 a) fun v78=>
 M.bind (oS (some v71) fun a=>kExt 1 a) fun v79=>
 mv (some v78) fun v16=>
 setF 16 v16 tm fun tm1=>
 mv (some v79) fun v17=>
 setF 17 v17 tm1 fun tm2=>
 M.pure tm2
theorem Qs_:RegEq 4 106 Cr Z9 Bt_:={}
def Xm (E:Env)(call round:Ab)(tm:T Value):M (T Value):=
 mv (T.get tm 5) fun v100=>
 mv (T.get tm 0) fun v101=>
 M.bind (M.on (some (.func (.func 23) #[] #[])) fun f=>M.on (seqO [(some v100),(some v101)]) fun l=>AC call round f l) fun v102=>
 mv (some v102) fun v103=>
 M.bind (M.chk (isK v103) (M.if (isB v103 true) (M.on (some (.func (.func 15) #[] #[])) fun f=>M.on (seqO []) fun l=>AC call round f l) (M.pure undef))) fun v104=>
 M.bind (M.on (some v103) fun a=>M.on (some v104) fun b=>M.on (some (.bool false)) fun c=>BM a b c) fun v105=>
 mv (some v105) fun v4=>
 setF 4 v4 tm fun tm1=>
 M.pure tm1
theorem Zr_:RegEq 4 106 Cr GB_ Xm:={}
def AX_ (E:Env)(call round:Ab)(tm:T Value):M (T Value):=
 mv (T.get tm 0) fun v81=>
 mv (T.get tm 14) fun v82=>
 mv (T.get tm 15) fun v83=>
 M.bind (oS (some v82) fun a=>oS (some v83) fun b=>AH E 36 a b) fun v84=>
 M.bind (oS (some v84) fun a=>Ak E 35 a) fun v85=>
 M.bind (M.on (some (.func (.func 28) #[] #[])) fun f=>M.on (seqO [(some v81),(some v85)]) fun l=>AC call round f l) fun v86=>
 mv (some v86) fun v80=>
 M.bind (oS (some v80) fun a=>kExt 0 a) fun v87=>
 M.bind (oS (some v80) fun a=>kExt 1 a) fun v88=>
 mv (some v87) fun v18=>
 setF 18 v18 tm fun tm1=>
 mv (some v88) fun v19=>
 setF 19 v19 tm1 fun tm2=>
 M.pure tm2
theorem Aaf_:RegEq 4 106 Cr Wm AX_:={}
theorem Mc_: ∃k,AR_= .code .ret::k:=⟨AR_.tail,by kernel_rfl⟩
def RV (E:Env)(call round:Ab)(tm:T Value):M (T Value):=
 mv (T.get tm 17) fun v89=>
 mv (T.get tm 19) fun v90=>
 M.bind (oS (some v89) fun a=>oS (some v90) fun b=>Cl.get (aBin E .neq 27 (.tmp 89) (.tmp 90)) a b) fun v91=>
 mv (some v91) fun v92=>
 M.bind (M.chk (isK v92) (M.if (isB v92 false) (oS (T.get tm 16) fun a=>M.pure a) (M.pure undef))) fun v93=>
 M.bind (M.chk (isK v92) (M.if (isB v92 false) (oS (T.get tm 18) fun a=>M.pure a) (M.pure undef))) fun v94=>
 M.bind (M.chk (isK v92) (M.if (isB v92 false) (M.on (some (.func (.func 19) #[] #[])) fun f=>M.on (seqO [(some v93),(some v94)]) fun l=>AC call round f l) (M.pure undef))) fun v95=>
 M.bind (M.chk (isK v92) (M.if (isB v92 false) (oS (some v95) fun a=>kUn E.P .not a) (M.pure undef))) fun v96=>
 M.bind (M.on (some v92) fun a=>M.on (some (.bool true)) fun b=>M.on (some v96) fun c=>BM a b c) fun v97=>
 setF 97 v97 tm fun tm1=>
 M.pure tm1
theorem IE_:RegEq 4 106 Cr QU RV:={}
theorem NE_:A4 EG_=some 97:=by kernel_rfl
def UY (E:Env)(call round:Ab)(tm:T Value):M (T Value):=
 mv (T.get tm 16) fun v98=>
 M.bind (M.on (some (.func (.func 22) #[] #[])) fun f=>M.on (seqO [(some v98)]) fun l=>AC call round f l) fun v99=>
 M.pure tm
theorem So_:RegEq 4 106 Cr RZ UY:={}
def YQ (E:Env)(call round:Ab)(tm:T Value):M (T Value):=
 mv (T.get tm 15) fun v69=>
 M.bind (oS (some v69) fun a=>oS (some (.int .i64 1)) fun b=>Cl.get (aBin E .add 3 (.tmp 69) (.const (.int .i64 1))) a b) fun v70=>
 mv (some v70) fun v15=>
 setF 15 v15 tm fun tm1=>
 M.pure tm1
theorem Oh_:RegEq 4 106 Cr NO YQ:={}
theorem Zk:envS.orc.get 15=some (MI (.bool true)):=by kernel_rfl
theorem Row.lt {s:St}{b o:Nat}{l:List Value}(h:Row s b o l){i:Nat}(hi:i<l.length):b+(o+i)<s.next:=(h i _ (List.getElem?_eq_getElem hi)).1
theorem YF_ {v:Value}{b:List Nat}{L ba ca:Nat}{es:List HdZ}{s0:St}(hby:Byt b)(hz:b.length≤6000)(h16: ∀h∈es,h.1.length=16)(hes:es.length≤10000): ∀(k i n:Nat) (tm:T Value) (s:St) (td:List Item),i+k=es.length→211000+20*k≤n→skim 64 td=Jw→s.lim≤s.next→s.cx=cxN→Bs s v b→Ae s L 0 (u8l (CN b))→Row s ba 0 (CW es)→
  T.get tm 0=some v→T.get tm 5=some (.slice (some ⟨L,0,none⟩) b.length (b.length+3))→T.get tm 14=some (.slice (some ⟨ba,0,none⟩) es.length ca)→T.get tm 15=some (.int .i64 (i:Nat))→
  W (runF envS n ⟨4,Zb,Cr,tm,td, .run, .normal,none⟩) s fun p s1=>(fun(u:Value) (_:St)=>u= .bool true) p.1 (s1.cxN s0.cx):=by
 intro k
 induction k with
 |zero=>
  intro i n tm s td hi hn hT hbd hcx hB hL hE h0 h5 h14 h15
  refine Wb.w hT (by omega) ?_
  simp only[Ng,Ad,W_oS,Aa,W_mv,Ac,Ah,Ag,Af,Be,h14,h15,B5 Ez]
  refine W.cond (v:=false) rfl TM (by simp[T.get_set];omega) (by omega) (fun h=>by cases h) fun _=> ?_
  refine Zr_.w rfl (by omega) ?_
  simp only[Xm,Ad,W_on,Aa,W_mv,Ac,T.get_set,Ah,Ag,Af,Ar,reduceIte,Nat.reduceEqDiff,reduceCtorEq, ↓reduceIte,h0,h5]
  refine QN_ hbd hB (by omega) hL.row (by omega) fun s12 x12=> ?_
  simp only[W_on,Ar,reduceIte,Ax,Bp,A9,Bb,AA, ↓reduceIte,Ax,Bp]
  refine W.orc Zk (W.pure ?_)
  try simp only[Ad,W_oS,W_on,Aa,W_mv,Ac,AJ,T.get_set,Ah,Ag,A8,A2,Af,Ar,reduceIte,Ax,Bp,Ba,Bv,A5,A9,Bb,Bo,AA,Bg,Nat.reduceEqDiff,reduceCtorEq, ↓reduceIte,Ax,Bp]
  exact W.end' (rs:=[4]) (vs:=[.bool true]) rfl (.inl Mc_) (by omega) MM DT_ (x12.cx.trans hcx) (by simp[T.get_set]) rfl
 |succ k ih=>
  intro i n tm s td hi hn hT hbd hcx hB hL hE h0 h5 h14 h15
  have hil:i<es.length:=by omega
  have hU:b.length+3<capU:=Bh (by omega)
  have hlv: ∀s:St,Ae s L 0 (u8l (CN b))→Bs s (.slice (some ⟨L,0,none⟩) b.length (b.length+3)) b:=fun s h=> .inr ⟨L,0,b.length+3,rfl,by rw[Nat.mod_eq_of_lt hU];omega,DX hU,fun i u e=>(h i u (by
   unfold CN u8l
   rw[List.map_append,List.getElem?_append_left (List.getElem?_eq_some_iff.1 e).1]
   exact e)).at'⟩
  have hid:es[i].1.length=16:=h16 _ (List.getElem_mem hil)
  have hEi:=R4 h16 hE hil
  refine Wb.w hT (by omega) ?_
  simp only[Ng,Ad,W_oS,Aa,W_mv,Ac,Ah,Ag,Af,Be,h14,h15,B5 Ez]
  refine W.cond (v:=true) rfl TM (by simp[T.get_set];omega) (by omega) (fun _=> ?_) fun h=>by cases h
  refine Qs_.w rfl (by omega) ?_
  simp only[Bt_,Ad,W_oS,W_on,Aa,W_mv,Ac,T.get_set,Ah,Ag,Af,Ar,reduceIte,Nat.reduceEqDiff, ↓reduceIte,h5,h14,h15,CS Ez hil]
  refine W.loadA GY hEi (GG hid) fun s1 m1 n1 x1=> ?_
  have b1:=x1.bnd hbd
  refine W.mono (Wr_ b1 ((hlv s hL).same m1 n1) hby (by omega) hid (by omega)) ?_
  rintro _ s2 ⟨x,rfl,x2,hX⟩
  generalize hR:getR b es[i].1 es[i].2.1 es[i].2.2=R at *
  obtain⟨r,e⟩:=R
  rw[Bq (k:=0) rfl,Bq (k:=1) rfl]
  try simp only[Ad]
  have y2:Ext Any Non s s2:=(Ext.anyG x1 hbd).then0 x2 hbd
  refine Aaf_.w rfl (by omega) ?_
  simp only[AX_,Ad,W_oS,W_on,Aa,W_mv,Ac,T.get_set,Ah,Ag,Af,Ar,reduceIte,Nat.reduceEqDiff,reduceCtorEq, ↓reduceIte,h0,h14,h15,CS Ez hil]
  refine W.loadA GY (hEi.ext0 y2) (GG hid) fun s3 m3 n3 x3=> ?_
  have y3:=y2.then0 x3 hbd
  refine W.mono (Pb_ (y3.bnd hbd) (hB.ext0 y3) hby (by omega) hid (by omega)) ?_
  rintro _ s4 ⟨z,rfl,x4,hZ⟩
  rw[hR]at hZ ⊢
  rw[Bq (k:=0) rfl,Bq (k:=1) rfl]
  try simp only[Ad]
  have y4:=y3.then0 x4 hbd
  have hX4:DI s4 x r s1.next s2.next:=(hX.ext x3 fun _ _ _ h=>h).ext x4 fun _ _ _ h=>h
  refine IE_.w rfl (by omega) ?_
  simp only[RV,Ad,W_oS,W_on,Aa,W_mv,Ac,T.get_set,Ah,Ag,Af,Ar,reduceIte,Ax,A5,A9,Bb,AA,Nat.reduceEqDiff,reduceCtorEq, ↓reduceIte,Dj,decide_true,Bool.not_true,Ax,A5]
  refine Gx_ (y4.bnd hbd) hX4.bs hZ (by omega) fun s5 x5 m5 n5=> ?_
  have y5:=y4.then0 x5 hbd
  simp only[CJ,Bool.not_true]
  refine W.cond (v:=false) rfl NE_ (by simp[T.get_set]) (by omega) (fun h=>by cases h) fun _=> ?_
  refine So_.w rfl (by omega) ?_
  simp only[UY,Ad,W_on,Aa,W_mv,T.get_set,Ah,Ag,Af,Ar,reduceIte,Nat.reduceEqDiff, ↓reduceIte]
  have ei:wrap64 ((i:Nat)+1:Int)=((i+1:Nat):Int):=by
   rw[AP (by omega) (by omega)];simp
  have next: ∀(s6:St) (n':Nat) (tm':T Value) (td':List Item),s6.lim≤s6.next→s6.cx=cxN→Bs s6 v b→Ae s6 L 0 (u8l (CN b))→Row s6 ba 0 (CW es)→211000+20*k+5≤n'→skim 64 td'=NO→T.get tm' 0=some v→T.get tm' 5=some (.slice (some ⟨L,0,none⟩) b.length (b.length+3))→T.get tm' 14=some (.slice (some ⟨ba,0,none⟩) es.length ca)→T.get tm' 15=some (.int .i64 (i:Nat))→
    W (runF envS n' ⟨4,Zb,Cr,tm',td', .run, .normal,none⟩) s6 fun p s1=>(fun(u:Value) (_:St)=>u= .bool true) p.1 (s1.cxN s0.cx):=by
   intro s6 n' tm' td' hb6 hc6 hB6 hL6 hE6 hn' hT' k0 k5 k14 k15
   refine Oh_.w hT' (by omega) ?_
   simp only[YQ,Ad,W_oS,Aa,W_mv,Ac,By,k15,ei]
   exact ih (i+1) _ _ s6 _ (by omega) (by omega) JE_ hb6 hc6 hB6 hL6 hE6 (by simp[T.get_set,k0]) (by simp[T.get_set,k5]) (by simp[T.get_set,k14]) (by simp[T.get_set])
  have hX5:DI s5 x r s1.next s2.next:=hX4.same m5 n5
  have hB5:=hB.ext0 y5
  have hL5:Ae s5 L 0 (u8l (CN b)):=hL.ext0 y5
  have hE5:=hE.ext0 y5
  have n1':s1.next=s.next:=n1
  rcases hX5 with⟨rfl,_⟩|⟨nb,o,h,h2,h3,h4,h6⟩
  ·refine W.orc (m:=EG) (by kernel_rfl) (W.pure ?_)
   try simp only[Ad,W_oS,W_on,Aa,W_mv,Ac,AJ,T.get_set,Ah,Ag,A8,A2,Af,Ar,reduceIte,Ax,Bp,Ba,Bv,A5,A9,Bb,Bo,AA,Bg,Nat.reduceEqDiff,reduceCtorEq, ↓reduceIte]
   exact next s5 _ _ _ (y5.bnd hbd) (y5.cx.trans hcx) hB5 hL5 hE5 (by omega) rfl (by simp[T.get_set,h0]) (by simp[T.get_set,h5]) (by simp[T.get_set,h14]) (by simp[T.get_set,h15])
  ·refine AaG_ (y5.bnd hbd) h h2 (by omega) fun s6 x6=> ?_
   try simp only[Ad,W_oS,W_on,Aa,W_mv,Ac,AJ,T.get_set,Ah,Ag,A8,A2,Af,Ar,reduceIte,Ax,Bp,Ba,Bv,A5,A9,Bb,Bo,AA,Bg,Nat.reduceEqDiff,reduceCtorEq, ↓reduceIte]
   refine next s6 _ _ _ (x6.bnd (y5.bnd hbd)) (x6.cx.trans (y5.cx.trans hcx)) (hB5.ext x6 fun q hq h=> ?_) (hL5.ext x6 fun j hj h=> ?_) (hE5.ext x6 fun j hj h=> ?_) (by omega) rfl (by simp[T.get_set,h0]) (by simp[T.get_set,h5]) (by simp[T.get_set,h14]) (by simp[T.get_set,h15])
   ·have h7:=h.1
    have h8:=hB.lt' q hq
    omega
   ·have h7:=h.1
    have h8:=Row.lt hL.row hj
    omega
   ·have h7:=h.1
    have h8:=Row.lt hE hj
    omega
theorem Zl_ {id:List Nat}(h:id.length=16)(a z:Int):DQ (fun k=>some (k*18,18)) [(0, .agg (Bj id a z).toArray)] (rep 1 (List.replicate 16 (.int .u8 0)++[.int .i64 0, .int .i64 0]))=some (Bj id a z):=by
 match id,h with
 |[x0,x1,x2,x3,x4,x5,x6,x7,x8,x9,x10,x11,x12,x13,x14,x15],_=>rfl
theorem Om_ {n:Nat}{id:List Nat}{a z:Int}{v:Value}{b:List Nat}{s:St}(hbd:s.lim≤s.next)(hbs:Bs s v b)(hlt: ∀x,BsF v x→x<s.next)(hby:Byt b)(h16:id.length=16)(hn:700000≤n):W (Ai envS (runF envS n) 4 [v, .agg (Bj id a z).toArray]) s fun u _=>u= .bool true:=by
 refine WM_ fun tm h0 h1=> ?_
 have hb0:(s.cxN cxN).lim≤(s.cxN cxN).next:=hbd
 have hB:Bs (s.cxN cxN) v b:=hbs.same rfl rfl
 refine Aam_.w rfl (by omega) ?_
 simp only[BB_,Ad,W_oS,Aa,W_mv,Ac,h1]
 refine W.box fun sa na xa oa=> ?_
 have hcel:cellsOf (.agg (Bj id a z).toArray)=Bj id a z:=rfl
 have hl18:(Bj id a z).length=18:=GG h16
 rw[hcel]at na oa
 have na':sa.next=s.next+19:=by rw[na,hl18];rfl
 have oa':Ae sa s.next 0 (Bj id a z):=oa
 try simp only[Ad,W_oS,W_on,Aa,W_mv,Ac,AJ,T.get_set,Ah,Ag,A8,A2,Af,Ar,reduceIte,Ax,Bp,Ba,Bv,A5,A9,Bb,Bo,AA,Bg,Nat.reduceEqDiff,reduceCtorEq, ↓reduceIte]
 have ya:Ext Any Non (s.cxN cxN) sa:=(Ext.refl _).then0 xa hb0
 refine WO_.w rfl (by omega) ?_
 simp only[XF,Ad,W_oS,Aa,W_mv,Ac,T.get_set,Ah,Ag,Af,reduceIte,reduceCtorEq, ↓reduceIte,h0]
 rw[(hB.ext0 ya).len AE]
 simp only[Dl]
 by_cases hz:6000<b.length
 ·refine W.cond (v:=true) rfl TU (by simp[T.get_set];omega) (by omega) (fun _=> ?_) fun h=>by cases h
  refine IA_.w rfl (by omega) ?_
  simp only[QJ,Ad,W_on,Aa,W_mv,Ac,Ag,Ar]
  refine W.orc Zk (W.pure ?_)
  try simp only[Ad,W_oS,W_on,Aa,W_mv,Ac,AJ,T.get_set,Ah,Ag,A8,A2,Af,Ar,reduceIte,Ax,Bp,Ba,Bv,A5,A9,Bb,Bo,AA,Bg,Nat.reduceEqDiff,reduceCtorEq, ↓reduceIte]
  exact W.end' (rs:=[4]) (vs:=[.bool true]) rfl (.inl HY_) (by omega) MM DT_ ya.cx (by simp[T.get_set]) rfl
 refine W.cond (v:=false) rfl TU (by simp[T.get_set];omega) (by omega) (fun h=>by cases h) fun _=> ?_
 refine Ot_.w rfl (by omega) ?_
 simp only[S5,Ad,W_on,Aa,W_mv,Ac,T.get_set,Ah,Ag,Af,Ar,reduceIte,reduceCtorEq, ↓reduceIte,h0]
 refine FO_ (ya.bnd hb0) (hB.ext0 ya) (by omega) (by omega) fun s1 x1 o1 l1=> ?_
 have y1:=ya.then0 x1 hb0
 have hU:b.length+3<capU:=Bh (by omega)
 have hlv: ∀s:St,Ae s sa.next 0 (u8l (CN b))→Bs s (.slice (some ⟨sa.next,0,none⟩) b.length (b.length+3)) b:=fun s h=> .inr ⟨sa.next,0,b.length+3,rfl,by rw[Nat.mod_eq_of_lt hU];omega,DX hU,fun i u e=>(h i u (by
  unfold CN u8l
  rw[List.map_append,List.getElem?_append_left (List.getElem?_eq_some_iff.1 e).1]
  exact e)).at'⟩
 refine Pc_.w rfl (by omega) ?_
 simp only[XX,Ad,W_oS,W_on,Aa,W_mv,Ac,T.get_set,Ah,Ag,Af,Ar,reduceIte, ↓reduceIte]
 refine Ln_ (y1.bnd hb0) (hlv s1 o1) (fun x hx=>(hlv s1 o1).lt' x hx) hby (by omega) (by omega) fun s2 w2 x2 h2=> ?_
 have y2:=y1.then0 x2 hb0
 rw[Bq (k:=0) rfl,Bq (k:=1) rfl,Bq (k:=2) rfl,Bq (k:=3) rfl]
 try simp only[Ad,W_oS,W_on,Aa,W_mv,Ac,AJ,T.get_set,Ah,Ag,A8,A2,Af,Ar,reduceIte,Ax,Bp,Ba,Bv,A5,A9,Bb,Bo,AA,Bg,Nat.reduceEqDiff,reduceCtorEq, ↓reduceIte]
 refine IO_.w rfl (by omega) ?_
 simp only[Ax_,Ad,W_oS,W_on,Aa,W_mv,Ac,T.get_set,Ah,Ag,Af,Ar,reduceIte,reduceCtorEq, ↓reduceIte,h0]
 refine Xc_ (y2.bnd hb0) (hB.ext0 y2) hby (by omega) (by omega) fun s3 w3 b3 x3 h3 hF3=> ?_
 have y3:=y2.then0 x3 hb0
 rw[Bq (k:=0) rfl,Bq (k:=1) rfl,Bq (k:=2) rfl,Bq (k:=3) rfl]
 try simp only[Ad,W_oS,W_on,Aa,W_mv,Ac,AJ,T.get_set,Ah,Ag,A8,A2,Af,Ar,reduceIte,Ax,Bp,Ba,Bv,A5,A9,Bb,Bo,AA,Bg,Nat.reduceEqDiff,reduceCtorEq, ↓reduceIte]
 have hall: ∀h∈(Ci b).1,h.1.length=16:=fun h hh=>((KR_ b).2.2.1 h hh).facts.2.2.2.2.2.1
 have hlen:=SO_ b
 generalize hsA:Ci b=A at *
 obtain⟨hs,bad,size,rest⟩:=A
 have hlen:hs.length*27≤b.length:=hlen
 refine Lp_.w rfl (by omega) ?_
 simp only[UX,Ad,W_oS,W_on,Aa,W_mv,Ac,T.get_set,Ah,Ag,Af,Ar,reduceIte,Ax,A5,A9,Bb,AA,Nat.reduceEqDiff,reduceCtorEq, ↓reduceIte,Dj,decide_true,Bool.not_true,Ax,A5]
 refine Uj_ (y3.bnd hb0) (h2.hsR.ext0 x3) (h3.hsR rfl) hall (by omega) (by omega) fun s4 x4 m4 n4=> ?_
 have y4:=y3.then0 x4 hb0
 simp only[CJ,Bool.not_true]
 refine W.cond (v:=false) rfl Vp_ (by simp[T.get_set]) (by omega) (fun h=>by cases h) fun _=> ?_
 refine Qx_.w rfl (by omega) ?_
 have h3':MkS s4 18 hs.length (Bu hs) w3 b3:=h3.same m4 n4
 have oE:Ae s4 s.next 0 (Bj id a z):=fun i u e=>((((oa' i u e).ext0 x1).ext0 x2).ext0 x3).ext0 x4
 simp only[RS,T.get_set,Nat.reduceEqDiff, ↓reduceIte,BG,Ah,Ag,A8,A2,Af]
 refine W.dop (W.buildS (s:=oSt s4.mem s4.next) (Nat.le_refl _) (r:=[]) Jn (by decide) rfl (Bh (by decide)) fun s5 n5 x5 o5=>⟨Non,x5,fun rd5 hr5=> ?_⟩)
 have n5':s5.next=s4.next+1:=n5
 have h5:MkS s5 18 hs.length (Bu hs) w3 b3:=(h3'.same (s':=oSt s4.mem s4.next) rfl rfl).ext0 x5
 have hsrc5:=((((h5.hsR rfl).same (s':=oSt s5.mem s5.next) rfl rfl)).src hall).g (by':=32) (z:=List.replicate 16 (.int .u8 0)++[.int .i64 0, .int .i64 0])
 simp only[Ap]
 refine W.dopG ?_
 rw[Eo]
 refine W.appE (s:=oSt s5.mem s5.next) (b:=s4.next) (Nat.le_refl _) H9 (.inl ⟨rfl,rfl,rfl⟩) hsrc5 (by decide) (by decide) (by omega) (by rw[J6 hall]) (Zd _) fun s6 v6 b6 hb6 h6 x6=>⟨_,_,x6,fun rd6 wr6 hr6 hw6=> ?_⟩
 have hnm: ∀y,¬MkF 18 0 s4.next y:=fun y hy=>absurd hy.1 (by simp)
 have n6':s5.next≤s6.next:=x6.nxt
 have oE6:Ae s6 s.next 0 (Bj id a z):=fun i u e=>((((oE i u e).same (s':=oSt s4.mem s4.next) rfl rfl).ext0 x5).same (s':=oSt s5.mem s5.next) rfl rfl).ext x6 (hnm _)
 simp only[BG]
 refine W.dloadA GY (fun i u e=>((oE6 i u e).same (s':=dSt s6.mem s6.next) rfl rfl).at') (GG h16) fun mem7 rd7 hm7 hr7=> ?_
 subst hm7
 simp only[BG]
 refine W.dop (W.buildS (s:=oSt s6.mem s6.next) (Nat.le_refl _) (r:=Bj id a z) Jn (by decide) (Zl_ h16 a z) (Bh (by decide)) fun s8 n8 x8 o8=>⟨Non,x8,fun rd8 hr8=> ?_⟩)
 have n8':s8.next=s6.next+19:=by rw[n8,hl18];rfl
 have o8':Ae s8 s6.next 0 (Bj id a z):=o8
 have hsrc8:SrcG (oSt s8.mem s8.next) 18 32 false (List.replicate 16 (.int .u8 0)++[.int .i64 0, .int .i64 0]) (.slice (some ⟨s6.next,0,none⟩) 1 1) 1 (Bj id a z) (In s6.next 0 (1*18)):=(H0 (fun j u e=>((o8' j u e).same (s':=oSt s8.mem s8.next) rfl rfl).at') (by rw[hl18])).g
 have h8:EmS (oSt s8.mem s8.next) 18 (0+hs.length) ([]++Bu hs) v6 b6:=by
  have h7:=h6.same (s':=oSt s6.mem s6.next) rfl rfl
  rcases h7 with h7|⟨h7,h9⟩
  ·exact .inl h7
  ·exact .inr ⟨(h7.ext x8 fun _ _ h=>h).same rfl rfl,h9⟩
 simp only[BG]
 refine W.dopG ?_
 rw[Eo]
 refine W.appE (s:=oSt s8.mem s8.next) (Nat.le_refl _) H9 h8 hsrc8 (by decide) (by decide) (by omega) (by rw[hl18]) (Abp_ _ _ _) fun s9 v9 b9 hb9 h9 x9=>⟨_,_,x9,fun rd9 wr9 hr9 hw9=> ?_⟩
 have n9':s8.next≤s9.next:=x9.nxt
 rw[Aa]
 have hb6':s4.next≤b6:=by
  have h1:(oSt s5.mem s5.next).next=s5.next:=rfl
  rcases hb6 with rfl|h
  ·exact Nat.le_refl _
  ·omega
 have hmk9: ∀y,MkF 18 (0+hs.length) b6 y→s4.next≤y:=fun y h=>by have:=h.2.1;omega
 have lts: ∀x,s4.next≤x→ ¬x<s4.next:=fun x h=>by omega
 refine⟨EJ ?_, ?_⟩
 ·simp only[List.reverse_cons,List.reverse_nil,List.nil_append,List.cons_append,allP,Dm,List.take,D9]
  have f5: ∀x,x∈rd5→False:=fun x hx=>(hr5 x hx).2
  have f8: ∀x,x∈rd8→False:=fun x hx=>(hr8 x hx).2
  have w6: ∀x,x∈wr6→False:=fun x hx=>hnm x (hw6 x hx).2
  have f7: ∀x,x∈rd7→ ¬s4.next≤x:=fun x hx=>by
   have h1:=(hr7 x hx).2
   have h2:=(oE 17 _ (Ej h16).2).1
   omega
  have w9: ∀x,x∈wr9→s4.next≤x:=fun x hx=>hmk9 x (hw9 x hx).2
  have e5:rd5=[]:=List.eq_nil_iff_forall_not_mem.2 f5
  have e8:rd8=[]:=List.eq_nil_iff_forall_not_mem.2 f8
  have e6:wr6=[]:=List.eq_nil_iff_forall_not_mem.2 w6
  subst e5 e8 e6
  simp+contextual [f7]
  exact⟨.inl rfl, .inl rfl, .inl rfl⟩
 ·refine W.cast (PG_ ..) ?_
  simp only[Ad,W_oS,Aa,AJ]
  generalize hs10:(⟨(dSt s9.mem s9.next).mem,(dSt s9.mem s9.next).next,s4.lim,_,_,s4.cx⟩:St)=s10
  have m10:s10.mem=s9.mem:=by rw[←hs10];rfl
  have n10:s10.next=s9.next:=by rw[←hs10];rfl
  have x10:Ext Any Non s4 s10:=by
   rw[←hs10]
   refine Ext.drawG (by show s4.next≤s9.next;omega) (fun x hx _=> ?_) ?_ fun _ _ _ _ _=>trivial
   ·have e9:T.get s9.mem x=T.get s8.mem x:=x9.mem x (by show x<s8.next;omega) fun h=>by have:=hmk9 x h;omega
    have e8:T.get s8.mem x=T.get s6.mem x:=x8.mem x (by show x<s6.next;omega) fun h=>h
    have e6:T.get s6.mem x=T.get s5.mem x:=x6.mem x (by show x<s5.next;omega) (hnm x)
    have e5:T.get s5.mem x=T.get s4.mem x:=x5.mem x hx fun h=>h
    exact e9.trans (e8.trans (e6.trans e5))
   ·simp only[List.mem_cons,List.not_mem_nil,or_false]
    rintro m (rfl|rfl|rfl|rfl|rfl|rfl) x hx hl<;>first|(cases hx;done)|(exact(hnm x (hw6 x hx).2).elim)|skip
    have h1:=hmk9 x (hw9 x hx).2
    have h2:s4.lim≤s4.next:=y4.bnd hb0
    omega
  have y10:=y4.then0 x10 hb0
  obtain⟨c9,rfl,r9⟩:=EmS.row h9
  refine Wc_.w rfl (by omega) ?_
  simp only[Cm_,Aa,W_mv,Ac]
  have hel:(hs.map toZ++[(id,a,z)]).length=0+hs.length+1:=by rw[List.length_append,List.length_map];simp
  have hev:CW (hs.map toZ++[(id,a,z)])=[]++Bu hs++Bj id a z:=by
   rw[Wa_,TL]
   show Bu hs++(Bj id a z++[])=_
   rw[List.append_nil,List.nil_append]
  refine YF_ (es:=hs.map toZ++[(id,a,z)]) (L:=sa.next) (ba:=b9) (ca:=c9) (v:=v) (b:=b) (s0:=s) hby (by omega) ?_ (by rw[hel];omega) (0+hs.length+1) 0 _ _ s10 _ (by rw[hel];omega) (by omega) rfl (y10.bnd hb0) y10.cx (hB.ext0 y10) (fun i u e=>((((o1 i u e).ext0 x2).ext0 x3).ext0 x4).ext0 x10) ?_ (by simp[T.get_set,h0]) (by simp[T.get_set]) (by rw[hel];simp[T.get_set]) (by simp[T.get_set])
  ·intro h hh
   rcases List.mem_append.1 hh with hh|hh
   ·obtain⟨g,hg,rfl⟩:=List.mem_map.1 hh
    exact hall g hg
   ·rw[List.mem_singleton]at hh
    rw[hh]
    exact h16
  ·rw[hev]
   exact fun i u e=>(r9 i u e).same m10 n10
open Go.RowKit Go.ChangeShapes Go.WideShapes
attribute [local irreducible] Bd
theorem Ur_ {P:Program}{N F:Nat}{s:St}{t e:TypeId}{us:List Value}(ht:P.underlying t=some (.slice e))(he:P.underlying e=some (.int .u8))(hc:P.cellsOf e=1)(h:Bd P N s (F+2) t us): ∃v l,us=[v]∧Bs s v l∧Byt l∧l.length≤N:=by
 obtain⟨v,es,rfl,hE,_,hN,ha⟩:=Bd.slice ht (by rw[hc];decide) h
 have h1: ∀i,i<es.length→ ∃n:Nat,n<256∧es[i]?=some [.int .u8 (n:Nat)]:=fun i hi=>by
  obtain⟨_,hx⟩:=ha _ (List.getElem_mem hi)
  obtain⟨n,e1,e2⟩:=hx.int' he
  have h2:(0:Int)≤n∧n≤255:=by
   have e3:(decide ((0:Int)≤n)&&decide (n≤(255:Int)))=true:=e2
   rw[Bool.and_eq_true]at e3
   exact⟨of_decide_eq_true e3.1,of_decide_eq_true e3.2⟩
  exact⟨n.toNat,by omega,by rw[List.getElem?_eq_getElem hi,e1,Int.toNat_of_nonneg h2.1]⟩
 obtain⟨l,hl,hp⟩:=Lg h1
 refine⟨v,l,rfl, ?_,fun x hx=> ?_,by omega⟩
 ·rcases hE with⟨rfl,rfl⟩|⟨b,c,rfl,hc1,hc2,hr⟩
  ·exact .inl ⟨rfl,List.eq_nil_of_length_eq_zero hl⟩
  ·rw[hc]at hc2 hr
   refine .inr ⟨b,0,c,by rw[hl],by rw[hl];exact hc1,hc2,fun i x e=> ?_⟩
   obtain⟨n,e1,rfl⟩: ∃n,l[i]?=some n∧Value.int .u8 (n:Nat)=x:=by
    rw[List.getElem?_map]at e
    exact Option.map_eq_some_iff.1 e
   have:=hr i _ (hp i n e1).2 0 _ rfl
   rw[Nat.mul_one]at this
   rw[Nat.zero_add]
   exact this
 ·obtain⟨i,hi⟩:=List.getElem?_of_mem hx
  exact(hp i x hi).1
theorem Aaq_:envS.P=Try.prog:=by kernel_rfl
theorem AbZ_:Try.prog.underlying 22=some (.slice 5):=by kernel_rfl
theorem FZ_:Try.prog.underlying 5=some (.int .u8):=by kernel_rfl
theorem Z6:Try.prog.underlying 3=some (.int .i64):=by kernel_rfl
theorem Sa:Try.prog.cellsOf 5=1:=by kernel_rfl
theorem Vr_:aggT Try.prog 22=false:=by kernel_rfl
theorem Bd.arrayS {P:Program}{N F n:Nat}{s:St}{t e:TypeId}{us:List Value}(hu:P.underlying t=some (.array n e))(h:Bd P N s (F+1) t us):us.length=P.cellsOf t∧ ∀i,i<n→Bd P N s F e ((us.drop (i*P.cellsOf e)).take (P.cellsOf e)):=by
 unfold Bd at h
 rw[hu]at h
 exact h
theorem Ta_:Try.prog.underlying 26=some (.array 16 5):=by kernel_rfl
theorem Zr:Try.prog.cellsOf 26=16:=by kernel_rfl
theorem VU_:Try.prog.cellsOf 3=1:=by kernel_rfl
theorem ZN_:Py Try.prog 35 [(26,0),(3,16),(3,17)]=true:=by kernel_rfl
theorem ZT_:Try.prog.cellsOf 35=18:=by kernel_rfl
theorem RN_ {us:List Value}{l:List Nat}(hl:l.length=us.length)(h: ∀(i n:Nat),l[i]?=some n→us[i]?=some (Value.int .u8 (n:Nat))):us=u8l l:=by
 apply List.ext_getElem?
 intro i
 unfold u8l
 rw[List.getElem?_map]
 cases hq:l[i]? with
 |none=>
  have:=List.getElem?_eq_none_iff.1 hq
  rw[Option.map_none]
  exact List.getElem?_eq_none_iff.2 (by omega)
 |some n=>rw[h i n hq,Option.map_some]
theorem XG_ {N F:Nat}{s:St}{us:List Value}(h:Bd Try.prog N s (F+2) 26 us): ∃id,us=u8l id∧id.length=16∧Byt id:=by
 obtain⟨h1,h2⟩:=h.arrayS Ta_
 rw[Zr]at h1
 rw[Sa]at h2
 obtain⟨id,hl,hp⟩:=Lg (n:=16) (p:=fun i (x:Nat)=>us[i]?=some (Value.int .u8 (x:Nat))∧x<256) fun i hi=>by
  obtain⟨n,e1,e2⟩:=(h2 i hi).int' FZ_
  have h3:(0:Int)≤n∧n≤255:=by
   have e3:(decide ((0:Int)≤n)&&decide (n≤(255:Int)))=true:=e2
   rw[Bool.and_eq_true]at e3
   exact⟨of_decide_eq_true e3.1,of_decide_eq_true e3.2⟩
  refine⟨n.toNat, ?_,by omega⟩
  rw[Nat.mul_one]at e1
  have:((us.drop i).take 1)[0]?=some (.int .u8 n):=by rw[e1];rfl
  rw[List.getElem?_take,if_pos (by decide),List.getElem?_drop,Nat.add_zero]at this
  rw[this,Int.toNat_of_nonneg h3.1]
 exact⟨id,RN_ (by omega) fun i n h=>(hp i n h).1,hl,fun x hx=>by
  obtain⟨i,hi⟩:=List.getElem?_of_mem hx
  exact(hp i x hi).2⟩
theorem E2.aggS {P:Program}{N F:Nat}{s:St}{t:TypeId}{u:Value}(hb:aggT P t=true)(h:E2 P N s F t u): ∃us,u= .agg us.toArray∧Bd P N s F t us:=by
 obtain⟨us,h1,⟨_,rfl⟩|⟨h2,_⟩⟩:=h
 ·exact⟨us,rfl,h1⟩
 ·rw[hb]at h2;cases h2
theorem Aaj_ {N F:Nat}{s:St}{x:List Value}(h:Bd Try.prog N s (F+3) 35 x): ∃id a z,x=Bj id a z∧id.length=16:=by
 obtain⟨hx2,hx⟩:=h.struct ZN_
 rw[ZT_]at hx2
 have k1:=hx (26,0) (by simp)
 have k2:=hx (3,16) (by simp)
 have k3:=hx (3,17) (by simp)
 simp only[VU_,Zr]at k1 k2 k3
 obtain⟨id,e1,hid,_⟩:=XG_ k1
 obtain⟨a,e2,_⟩:=k2.int' Z6
 obtain⟨z,e3,_⟩:=k3.int' Z6
 refine⟨id,a,z, ?_,hid⟩
 rw[List.drop_zero]at e1
 have d1:x=x.take 16++x.drop 16:=(List.take_append_drop 16 x).symm
 have d2:x.drop 16=(x.drop 16).take 1++(x.drop 16).drop 1:=(List.take_append_drop 1 _).symm
 have d3:(x.drop 16).drop 1=(x.drop 17).take 1:=by
  rw[List.drop_drop]
  exact(List.take_of_length_le (by rw[List.length_drop];omega)).symm
 rw[d1,d2,d3,e1,e2,e3]
 rfl
theorem Za:Try.f4.params.toList=[22,35]:=by kernel_rfl
theorem Ol_:envS.orc.get 4=none:=by kernel_rfl
theorem AaD_:envS.ext.get 4=none:=by kernel_rfl
theorem LK_:[22,35].all (DJ Try.prog 8)=true:=by kernel_rfl
theorem LB_:aggT Try.prog 35=true:=by kernel_rfl
set_option maxRecDepth 1000000 in
theorem walkScans {H:Type}{enc:TypeId×Value→H}{w:World}{base:Nat}{args:Array Value}{ds:List (DataW H)}{ps:List MemPlace}(hA:DataW.TrodAll enc Try.prog w 0 (fun _=>true) true Try.f4.params.toList args.toList ds ps)
  (hv: ∀(j:Nat) t v,Try.f4.params[j]?=some t→args[j]?=some v→Value.okWide Try.prog w .any base t v):Calls Try.prog 4 args w fun e w'=>e= .returned (.bool true)∧Below w.heap.size w w':=by
 have hv': ∀(j:Nat) t v,[22,35][j]?=some t→args.toList[j]?=some v→Value.okWide Try.prog w .any base t v:=fun j t v e1 e2=>by
  rw[←Za]at e1
  rw[Array.getElem?_toList]at e1 e2
  exact hv j t v e1 e2
 rw[Za]at hA
 have hE:envS.P=Try.prog:=Aaq_
 have h:=Aaw_ (E:=envS) (fuel:=700000) (f:=4) (F:=8) (N:=maxLen) (v:= .bool true) (ts:=[22,35]) Sj_ Ol_ AaD_ rfl (by rw[hE];exact hA) (by rw[hE];exact hv') (by rw[hE];exact LK_) (.inl (Nat.le_refl _)) (fun m nx us hus hu=>by
  rw[hE]at hu
  match us,hus,hu with
  |[u0,u1],_,hu=>
   have k0:=(hu 0 _ u0 rfl rfl).one Vr_
   obtain⟨us1,rfl,k1⟩:=(hu 1 _ u1 rfl rfl).aggS LB_
   obtain⟨v,b,e0,hB,hby,_⟩:=Ur_ AbZ_ FZ_ Sa k0
   obtain⟨id,a,z,rfl,h16⟩:=Aaj_ k1
   cases e0
   exact Om_ (Nat.zero_le _) hB hB.lt' hby h16 (by omega))
 rw[hE]at h
 exact h
end Go.Proofs.Ytofanlcjeohcjaa.Am
end
