/- What each region of some functions comes to,as a word of the evaluator:equations,each checked by the kernel. Printed by a program. -/
import Derived.Test.YtapojfiplajfaaaGreatDoorWnn38
import Derived.Test.YtapojfiplajfaaaGreatDoorWnn21
import Derived.KernelRfl
import Derived.Test.YtapojfiplajfaaaGreatDoorWnn22
namespace Go.Proofs.YtapojfiplajfaaaGreatDoor.Am
open Go.RowKit
/-! ### satchel/satchellaw31.WorldNone -/
noncomputable def law31_None_g:Nat:=globOf Tryz.f4
abbrev law31_None_nt:Nat:=83
noncomputable def law31_None_body:Code:=Tryz.f4.body.getD .skip
theorem law31_None_fn:envS.fn.get 4=some Tryz.f4:=by kernel_rfl
theorem law31_None_W {a0 a1:Value}{n:Nat}{s:St}{Q:Value→St→Prop}(h: ∀tm,T.get tm 0=some a0→T.get tm 1=some a1→W (runF envS n ⟨4,83,law31_None_g,tm,[.code law31_None_body], .run, .normal,none⟩) (s.cxN cxN) fun p s1=>Q p.1 (s1.cxN s.cx)):W (callW envS (runF envS n) 4 [a0,a1]) s Q:=
 W.call (by kernel_rfl) (by kernel_rfl) law31_None_fn (by kernel_rfl) rfl rfl (by simp) (h _ (by kernel_rfl) (by kernel_rfl))
theorem law31_None_res:Tryz.f4.results.toList=[.tmp 4]:=by kernel_rfl
noncomputable def law31_None_P0:List Item:=skim 64 [.code law31_None_body]
noncomputable def law31_None_P1:List Item:=skim 64 law31_None_P0.tail
theorem law31_None_S0_1:skim 64 law31_None_P0.tail=law31_None_P1:=by kernel_rfl
noncomputable def law31_None_P2:List Item:=skim 64 law31_None_P1.tail
theorem law31_None_S1_2:skim 64 law31_None_P1.tail=law31_None_P2:=by kernel_rfl
noncomputable def law31_None_P3:List Item:=skim 64 (brT law31_None_P2)
theorem law31_None_S2_3:skim 64 (brT law31_None_P2)=law31_None_P3:=by kernel_rfl
noncomputable def law31_None_P4:List Item:=skim 64 (brF law31_None_P2)
theorem law31_None_S2_4:skim 64 (brF law31_None_P2)=law31_None_P4:=by kernel_rfl
noncomputable def law31_None_P5:List Item:=skim 64 law31_None_P3.tail
theorem law31_None_S3_5:skim 64 law31_None_P3.tail=law31_None_P5:=by kernel_rfl
noncomputable def law31_None_P6:List Item:=skim 64 law31_None_P4.tail
theorem law31_None_S4_6:skim 64 law31_None_P4.tail=law31_None_P6:=by kernel_rfl
noncomputable def law31_None_P7:List Item:=skim 64 law31_None_P6.tail
theorem law31_None_S6_7:skim 64 law31_None_P6.tail=law31_None_P7:=by kernel_rfl
noncomputable def law31_None_P8:List Item:=skim 64 law31_None_P7.tail
theorem law31_None_S7_8:skim 64 law31_None_P7.tail=law31_None_P8:=by kernel_rfl
noncomputable def law31_None_P9:List Item:=skim 64 (brT law31_None_P8)
theorem law31_None_S8_9:skim 64 (brT law31_None_P8)=law31_None_P9:=by kernel_rfl
noncomputable def law31_None_P10:List Item:=skim 64 (brF law31_None_P8)
theorem law31_None_S8_10:skim 64 (brF law31_None_P8)=law31_None_P10:=by kernel_rfl
noncomputable def law31_None_P11:List Item:=skim 64 law31_None_P9.tail
theorem law31_None_S9_11:skim 64 law31_None_P9.tail=law31_None_P11:=by kernel_rfl
noncomputable def law31_None_P12:List Item:=skim 64 law31_None_P10.tail
theorem law31_None_S10_12:skim 64 law31_None_P10.tail=law31_None_P12:=by kernel_rfl
noncomputable def law31_None_P13:List Item:=skim 64 law31_None_P11.tail
theorem law31_None_S11_13:skim 64 law31_None_P11.tail=law31_None_P13:=by kernel_rfl
noncomputable def law31_None_P14:List Item:=skim 64 law31_None_P13.tail
theorem law31_None_S13_14:skim 64 law31_None_P13.tail=law31_None_P14:=by kernel_rfl
noncomputable def law31_None_P16:List Item:=skim 64 (brF law31_None_P14)
theorem law31_None_S14_16:skim 64 (brF law31_None_P14)=law31_None_P16:=by kernel_rfl
theorem law31_None_S16_7:skim 64 law31_None_P16.tail=law31_None_P7:=by kernel_rfl
/-- law.go:104 -/
noncomputable def law31_None_r0 (_:Env)(_ _:CallT)(tm:T Value):M (T Value):=
 M.bind (oS (T.get tm 0) fun a=>kBox a) fun v2=>
 setF 2 v2 tm fun tm1=>
 mv (some (.bool false)) fun v4=>
 setF 4 v4 tm1 fun tm2=>
 M.pure tm2
theorem law31_None_q0:RegEq 4 83 law31_None_g law31_None_P0 law31_None_r0:=⟨by kernel_rfl,fun _ _ _ _ _ _ _ _ _=>by kernel_rfl⟩
/-- law.go:105 -/
noncomputable def law31_None_r1 (E:Env)(call round:CallT)(tm:T Value):M (T Value):=
 M.bind (oS (T.get tm 2) fun a=>kLoad E 43 a) fun v10=>
 M.bind (oS (seqP [(0,(some v10))]) fun ps=>aBuildS E 52 1 ps) fun v11=>
 M.bind (M.on (some (.func (.func 13) #[] #[])) fun f=>M.on (seqO [(some v11)]) fun l=>callV call round f l) fun v12=>
 setF 12 v12 tm fun tm1=>
 M.pure tm1
theorem law31_None_q1:RegEq 4 83 law31_None_g law31_None_P1 law31_None_r1:=⟨by kernel_rfl,fun _ _ _ _ _ _ _ _ _=>by kernel_rfl⟩
theorem law31_None_C2:condX law31_None_P2=some 12:=by kernel_rfl
/-- law.go:106 -/
noncomputable def law31_None_r3 (_:Env)(call round:CallT)(tm:T Value):M (T Value):=
 M.bind (M.on (some (.func (.func 11) #[] #[])) fun f=>M.on (seqO []) fun l=>callV call round f l) fun v13=>
 mv (some v13) fun v4=>
 setF 4 v4 tm fun tm1=>
 M.pure tm1
theorem law31_None_q3:RegEq 4 83 law31_None_g law31_None_P3 law31_None_r3:=⟨by kernel_rfl,fun _ _ _ _ _ _ _ _ _=>by kernel_rfl⟩
/-- law.go:108 -/
noncomputable def law31_None_r4 (E:Env)(_ _:CallT)(tm:T Value):M (T Value):=
 M.bind (oS (seqP []) fun ps=>aBuild E 58 ps) fun v14=>
 M.bind (oS (some v14) fun a=>kBox a) fun v15=>
 M.bind (oS (seqP [(0,(some (.pointer none))),(1,(some v15))]) fun ps=>aBuildS E 59 2 ps) fun v16=>
 mv (some v16) fun v5=>
 setF 5 v5 tm fun tm1=>
 M.pure tm1
theorem law31_None_q4:RegEq 4 83 law31_None_g law31_None_P4 law31_None_r4:=⟨by kernel_rfl,fun _ _ _ _ _ _ _ _ _=>by kernel_rfl⟩
theorem law31_None_E5: ∃k,law31_None_P5= .code .ret::k:=⟨law31_None_P5.tail,by kernel_rfl⟩
/-- law.go:109 -/
noncomputable def law31_None_r6 (_:Env)(_ _:CallT)(tm:T Value):M (T Value):=
 mv (some (.int .i64 0)) fun v6=>
 setF 6 v6 tm fun tm1=>
 M.pure tm1
theorem law31_None_q6:RegEq 4 83 law31_None_g law31_None_P6 law31_None_r6:=⟨by kernel_rfl,fun _ _ _ _ _ _ _ _ _=>by kernel_rfl⟩
/-- law.go:109 -/
noncomputable def law31_None_r7 (E:Env)(_ _:CallT)(tm:T Value):M (T Value):=
 mv (T.get tm 6) fun v17=>
 mv (T.get tm 5) fun v18=>
 M.bind (oS (seqO [(some v18)]) fun l=>aBuiltin E .len [59] l) fun v19=>
 M.bind (oS (some v17) fun a=>oS (some v19) fun b=>Cl.get (aBin E .lss 3 (.tmp 17) (.tmp 19)) a b) fun v20=>
 setF 20 v20 tm fun tm1=>
 M.pure tm1
theorem law31_None_q7:RegEq 4 83 law31_None_g law31_None_P7 law31_None_r7:=⟨by kernel_rfl,fun _ _ _ _ _ _ _ _ _=>by kernel_rfl⟩
theorem law31_None_C8:condX law31_None_P8=some 20:=by kernel_rfl
/-- law.go:110 -/
noncomputable def law31_None_r9 (E:Env)(_ _:CallT)(tm:T Value):M (T Value):=
 mv (T.get tm 5) fun v23=>
 mv (T.get tm 6) fun v24=>
 M.bind (oS (some v23) fun a=>oS (some v24) fun b=>kIdxA E 59 a b) fun v25=>
 M.bind (oS (some v25) fun a=>kLoad E 22 a) fun v26=>
 mv (some v26) fun v7=>
 setF 7 v7 tm fun tm1=>
 M.pure tm1
theorem law31_None_q9:RegEq 4 83 law31_None_g law31_None_P9 law31_None_r9:=⟨by kernel_rfl,fun _ _ _ _ _ _ _ _ _=>by kernel_rfl⟩
/-- law.go:116 -/
noncomputable def law31_None_r10 (_:Env)(call round:CallT)(tm:T Value):M (T Value):=
 M.bind (M.on (some (.func (.func 11) #[] #[])) fun f=>M.on (seqO []) fun l=>callV call round f l) fun v82=>
 mv (some v82) fun v4=>
 setF 4 v4 tm fun tm1=>
 M.pure tm1
theorem law31_None_q10:RegEq 4 83 law31_None_g law31_None_P10 law31_None_r10:=⟨by kernel_rfl,fun _ _ _ _ _ _ _ _ _=>by kernel_rfl⟩
/-- law.go:111 -/
noncomputable def law31_None_r11 (_:Env)(call round:CallT)(tm:T Value):M (T Value):=
 mv (T.get tm 7) fun v28=>
 mv (T.get tm 1) fun v29=>
 mv (T.get tm 1) fun v30=>
 M.bind (M.on (some (.func (.func 14) #[] #[])) fun f=>M.on (seqO [(some v28),(some v29),(some v30)]) fun l=>callV call round f l) fun v31=>
 mv (some v31) fun v27=>
 M.bind (oS (some v27) fun a=>kExt 0 a) fun v32=>
 M.bind (oS (some v27) fun a=>kExt 1 a) fun v33=>
 mv (some v32) fun v8=>
 setF 8 v8 tm fun tm1=>
 mv (some v33) fun v9=>
 setF 9 v9 tm1 fun tm2=>
 M.pure tm2
theorem law31_None_q11:RegEq 4 83 law31_None_g law31_None_P11 law31_None_r11:=⟨by kernel_rfl,fun _ _ _ _ _ _ _ _ _=>by kernel_rfl⟩
theorem law31_None_E12: ∃k,law31_None_P12= .code .ret::k:=⟨law31_None_P12.tail,by kernel_rfl⟩
/-- law.go:112 -/
noncomputable def law31_None_r13 (E:Env)(call round:CallT)(tm:T Value):M (T Value):=
 mv (T.get tm 7) fun v34=>
 M.bind (oS (T.get tm 2) fun a=>kLoad E 43 a) fun v35=>
 M.bind (M.on (some (.func (.func 8) #[] #[])) fun f=>M.on (seqO [(some v34),(some v35)]) fun l=>callV call round f l) fun v36=>
 M.bind (oS (some v36) fun a=>oS (some (.int .i64 1)) fun b=>Cl.get (aBin E .neq 23 (.tmp 36) (.const (.int .i64 1))) a b) fun v37=>
 mv (some v37) fun v38=>
 M.bind (M.chk (isK v38) (M.if (isB v38 false) (oS (T.get tm 7) fun a=>M.pure a) (M.pure undef))) fun v39=>
 M.bind (M.chk (isK v38) (M.if (isB v38 false) (oS (T.get tm 1) fun a=>M.pure a) (M.pure undef))) fun v40=>
 M.bind (M.chk (isK v38) (M.if (isB v38 false) (M.on (some (.func (.func 15) #[] #[])) fun f=>M.on (seqO [(some v39),(some v40)]) fun l=>callV call round f l) (M.pure undef))) fun v41=>
 M.bind (M.chk (isK v38) (M.if (isB v38 false) (oS (seqO [(some v41)]) fun l=>aBuiltin E .len [62] l) (M.pure undef))) fun v42=>
 M.bind (M.chk (isK v38) (M.if (isB v38 false) (oS (some v42) fun a=>oS (some (.int .i64 0)) fun b=>Cl.get (aBin E .gtr 3 (.tmp 42) (.const (.int .i64 0))) a b) (M.pure undef))) fun v43=>
 M.bind (M.on (some v38) fun a=>M.on (some (.bool true)) fun b=>M.on (some v43) fun c=>kPick a b c) fun v44=>
 mv (some v44) fun v45=>
 M.bind (M.chk (isK v45) (M.if (isB v45 false) (oS (T.get tm 7) fun a=>M.pure a) (M.pure undef))) fun v46=>
 M.bind (M.chk (isK v45) (M.if (isB v45 false) (oS (T.get tm 1) fun a=>M.pure a) (M.pure undef))) fun v47=>
 M.bind (M.chk (isK v45) (M.if (isB v45 false) (M.on (some (.func (.func 16) #[] #[])) fun f=>M.on (seqO [(some v46),(some v47)]) fun l=>callV call round f l) (M.pure undef))) fun v48=>
 M.bind (M.on (some v45) fun a=>M.on (some (.bool true)) fun b=>M.on (some v48) fun c=>kPick a b c) fun v49=>
 mv (some v49) fun v50=>
 M.bind (M.chk (isK v50) (M.if (isB v50 false) (oS (T.get tm 7) fun a=>M.pure a) (M.pure undef))) fun v51=>
 M.bind (M.chk (isK v50) (M.if (isB v50 false) (oS (T.get tm 1) fun a=>M.pure a) (M.pure undef))) fun v52=>
 M.bind (M.chk (isK v50) (M.if (isB v50 false) (M.on (some (.func (.func 17) #[] #[])) fun f=>M.on (seqO [(some v51),(some v52)]) fun l=>callV call round f l) (M.pure undef))) fun v53=>
 M.bind (M.chk (isK v50) (M.if (isB v50 false) (oS (seqO [(some v53)]) fun l=>aBuiltin E .len [64] l) (M.pure undef))) fun v54=>
 M.bind (M.chk (isK v50) (M.if (isB v50 false) (oS (some v54) fun a=>oS (some (.int .i64 0)) fun b=>Cl.get (aBin E .gtr 3 (.tmp 54) (.const (.int .i64 0))) a b) (M.pure undef))) fun v55=>
 M.bind (M.on (some v50) fun a=>M.on (some (.bool true)) fun b=>M.on (some v55) fun c=>kPick a b c) fun v56=>
 mv (some v56) fun v57=>
 M.bind (M.chk (isK v57) (M.if (isB v57 false) (oS (T.get tm 8) fun a=>M.pure a) (M.pure undef))) fun v58=>
 M.bind (M.chk (isK v57) (M.if (isB v57 false) (oS (seqO [(some v58)]) fun l=>aBuiltin E .len [38] l) (M.pure undef))) fun v59=>
 M.bind (M.chk (isK v57) (M.if (isB v57 false) (oS (some v59) fun a=>oS (some (.int .i64 0)) fun b=>Cl.get (aBin E .gtr 3 (.tmp 59) (.const (.int .i64 0))) a b) (M.pure undef))) fun v60=>
 M.bind (M.on (some v57) fun a=>M.on (some (.bool true)) fun b=>M.on (some v60) fun c=>kPick a b c) fun v61=>
 mv (some v61) fun v62=>
 M.bind (M.chk (isK v62) (M.if (isB v62 false) (oS (T.get tm 9) fun a=>M.pure a) (M.pure undef))) fun v63=>
 M.bind (M.chk (isK v62) (M.if (isB v62 false) (oS (some v63) fun a=>oS (some (.int .i64 1)) fun b=>Cl.get (aBin E .neq 23 (.tmp 63) (.const (.int .i64 1))) a b) (M.pure undef))) fun v64=>
 M.bind (M.on (some v62) fun a=>M.on (some (.bool true)) fun b=>M.on (some v64) fun c=>kPick a b c) fun v65=>
 mv (some v65) fun v66=>
 M.bind (M.chk (isK v66) (M.if (isB v66 false) (oS (T.get tm 7) fun a=>M.pure a) (M.pure undef))) fun v67=>
 M.bind (M.chk (isK v66) (M.if (isB v66 false) (oS (T.get tm 1) fun a=>M.pure a) (M.pure undef))) fun v68=>
 M.bind (M.chk (isK v66) (M.if (isB v66 false) (M.on (some (.func (.func 9) #[] #[])) fun f=>M.on (seqO [(some v67),(some v68)]) fun l=>callV call round f l) (M.pure undef))) fun v69=>
 M.bind (M.on (some v66) fun a=>M.on (some (.bool true)) fun b=>M.on (some v69) fun c=>kPick a b c) fun v70=>
 mv (some v70) fun v71=>
 M.bind (M.chk (isK v71) (M.if (isB v71 false) (oS (T.get tm 7) fun a=>M.pure a) (M.pure undef))) fun v72=>
 M.bind (M.chk (isK v71) (M.if (isB v71 false) (M.on (some (.func (.func 18) #[] #[])) fun f=>M.on (seqO [(some v72)]) fun l=>callV call round f l) (M.pure undef))) fun v73=>
 M.bind (M.chk (isK v71) (M.if (isB v71 false) (oS (some v73) fun a=>oS (some (.int .i64 0)) fun b=>Cl.get (aBin E .neq 3 (.tmp 73) (.const (.int .i64 0))) a b) (M.pure undef))) fun v74=>
 M.bind (M.on (some v71) fun a=>M.on (some (.bool true)) fun b=>M.on (some v74) fun c=>kPick a b c) fun v75=>
 mv (some v75) fun v76=>
 M.bind (M.chk (isK v76) (M.if (isB v76 false) (oS (T.get tm 7) fun a=>M.pure a) (M.pure undef))) fun v77=>
 M.bind (M.chk (isK v76) (M.if (isB v76 false) (M.on (some (.func (.func 19) #[] #[])) fun f=>M.on (seqO [(some v77)]) fun l=>callV call round f l) (M.pure undef))) fun v78=>
 M.bind (M.chk (isK v76) (M.if (isB v76 false) (oS (seqO [(some v78)]) fun l=>aBuiltin E .len [67] l) (M.pure undef))) fun v79=>
 M.bind (M.chk (isK v76) (M.if (isB v76 false) (oS (some v79) fun a=>oS (some (.int .i64 0)) fun b=>Cl.get (aBin E .gtr 3 (.tmp 79) (.const (.int .i64 0))) a b) (M.pure undef))) fun v80=>
 M.bind (M.on (some v76) fun a=>M.on (some (.bool true)) fun b=>M.on (some v80) fun c=>kPick a b c) fun v81=>
 setF 81 v81 tm fun tm1=>
 M.pure tm1
theorem law31_None_q13:RegEq 4 83 law31_None_g law31_None_P13 law31_None_r13:=⟨by kernel_rfl,fun _ _ _ _ _ _ _ _ _=>by kernel_rfl⟩
theorem law31_None_C14:condX law31_None_P14=some 81:=by kernel_rfl
/-- law.go:109 -/
noncomputable def law31_None_r16 (E:Env)(_ _:CallT)(tm:T Value):M (T Value):=
 mv (T.get tm 6) fun v21=>
 M.bind (oS (some v21) fun a=>oS (some (.int .i64 1)) fun b=>Cl.get (aBin E .add 3 (.tmp 21) (.const (.int .i64 1))) a b) fun v22=>
 mv (some v22) fun v6=>
 setF 6 v6 tm fun tm1=>
 M.pure tm1
theorem law31_None_q16:RegEq 4 83 law31_None_g law31_None_P16 law31_None_r16:=⟨by kernel_rfl,fun _ _ _ _ _ _ _ _ _=>by kernel_rfl⟩
-- points:0:region>[1],1:region>[2],2:cond>[3,4],3:region>[5],4:region>[6],5:ret>,6:region>[7],7:region>[8],8:cond>[9,10],9:region>[11],10:region>[12],11:region>[13],12:ret>,13:region>[14],14:cond>[15,16],15:region>[17],16:region>[7],17:ret>
/-! ### satchel/satchellaw31.long -/
noncomputable def law31_long_g:Nat:=globOf Tryz.f13
abbrev law31_long_nt:Nat:=66
noncomputable def law31_long_body:Code:=Tryz.f13.body.getD .skip
theorem law31_long_fn:envS.fn.get 13=some Tryz.f13:=by kernel_rfl
theorem law31_long_W {a0:Value}{n:Nat}{s:St}{Q:Value→St→Prop}(h: ∀tm,T.get tm 0=some a0→W (runF envS n ⟨13,66,law31_long_g,tm,[.code law31_long_body], .run, .normal,none⟩) (s.cxN cxN) fun p s1=>Q p.1 (s1.cxN s.cx)):W (callW envS (runF envS n) 13 [a0]) s Q:=
 W.call (by kernel_rfl) (by kernel_rfl) law31_long_fn (by kernel_rfl) rfl rfl (by simp) (h _ (by kernel_rfl))
theorem law31_long_res:Tryz.f13.results.toList=[.tmp 2]:=by kernel_rfl
noncomputable def law31_long_P0:List Item:=skim 64 [.code law31_long_body]
noncomputable def law31_long_P1:List Item:=skim 64 law31_long_P0.tail
theorem law31_long_S0_1:skim 64 law31_long_P0.tail=law31_long_P1:=by kernel_rfl
noncomputable def law31_long_P2:List Item:=skim 64 law31_long_P1.tail
theorem law31_long_S1_2:skim 64 law31_long_P1.tail=law31_long_P2:=by kernel_rfl
noncomputable def law31_long_P3:List Item:=skim 64 law31_long_P2.tail
theorem law31_long_S2_3:skim 64 law31_long_P2.tail=law31_long_P3:=by kernel_rfl
noncomputable def law31_long_P4:List Item:=skim 64 law31_long_P3.tail
theorem law31_long_S3_4:skim 64 law31_long_P3.tail=law31_long_P4:=by kernel_rfl
noncomputable def law31_long_P5:List Item:=skim 64 (brT law31_long_P4)
theorem law31_long_S4_5:skim 64 (brT law31_long_P4)=law31_long_P5:=by kernel_rfl
noncomputable def law31_long_P6:List Item:=skim 64 (brF law31_long_P4)
theorem law31_long_S4_6:skim 64 (brF law31_long_P4)=law31_long_P6:=by kernel_rfl
noncomputable def law31_long_P7:List Item:=skim 64 law31_long_P5.tail
theorem law31_long_S5_7:skim 64 law31_long_P5.tail=law31_long_P7:=by kernel_rfl
noncomputable def law31_long_P8:List Item:=skim 64 law31_long_P6.tail
theorem law31_long_S6_8:skim 64 law31_long_P6.tail=law31_long_P8:=by kernel_rfl
noncomputable def law31_long_P9:List Item:=skim 64 (brT law31_long_P7)
theorem law31_long_S7_9:skim 64 (brT law31_long_P7)=law31_long_P9:=by kernel_rfl
noncomputable def law31_long_P10:List Item:=skim 64 (brF law31_long_P7)
theorem law31_long_S7_10:skim 64 (brF law31_long_P7)=law31_long_P10:=by kernel_rfl
noncomputable def law31_long_P11:List Item:=skim 64 law31_long_P9.tail
theorem law31_long_S9_11:skim 64 law31_long_P9.tail=law31_long_P11:=by kernel_rfl
noncomputable def law31_long_P12:List Item:=skim 64 law31_long_P10.tail
theorem law31_long_S10_12:skim 64 law31_long_P10.tail=law31_long_P12:=by kernel_rfl
noncomputable def law31_long_P13:List Item:=skim 64 (brT law31_long_P12)
theorem law31_long_S12_13:skim 64 (brT law31_long_P12)=law31_long_P13:=by kernel_rfl
noncomputable def law31_long_P14:List Item:=skim 64 (brF law31_long_P12)
theorem law31_long_S12_14:skim 64 (brF law31_long_P12)=law31_long_P14:=by kernel_rfl
noncomputable def law31_long_P15:List Item:=skim 64 law31_long_P13.tail
theorem law31_long_S13_15:skim 64 law31_long_P13.tail=law31_long_P15:=by kernel_rfl
noncomputable def law31_long_P16:List Item:=skim 64 law31_long_P14.tail
theorem law31_long_S14_16:skim 64 law31_long_P14.tail=law31_long_P16:=by kernel_rfl
noncomputable def law31_long_P17:List Item:=skim 64 (brT law31_long_P16)
theorem law31_long_S16_17:skim 64 (brT law31_long_P16)=law31_long_P17:=by kernel_rfl
noncomputable def law31_long_P18:List Item:=skim 64 (brF law31_long_P16)
theorem law31_long_S16_18:skim 64 (brF law31_long_P16)=law31_long_P18:=by kernel_rfl
theorem law31_long_S17_18:skim 64 law31_long_P17.tail=law31_long_P18:=by kernel_rfl
theorem law31_long_S18_3:skim 64 law31_long_P18.tail=law31_long_P3:=by kernel_rfl
/-- law.go:13 -/
noncomputable def law31_long_r0 (_:Env)(_ _:CallT)(tm:T Value):M (T Value):=
 mv (some (.bool false)) fun v2=>
 setF 2 v2 tm fun tm1=>
 M.pure tm1
theorem law31_long_q0:RegEq 13 66 law31_long_g law31_long_P0 law31_long_r0:=⟨by kernel_rfl,fun _ _ _ _ _ _ _ _ _=>by kernel_rfl⟩
/-- law.go:14 -/
noncomputable def law31_long_r1 (_:Env)(_ _:CallT)(tm:T Value):M (T Value):=
 mv (some (.int .i64 0)) fun v3=>
 setF 3 v3 tm fun tm1=>
 M.pure tm1
theorem law31_long_q1:RegEq 13 66 law31_long_g law31_long_P1 law31_long_r1:=⟨by kernel_rfl,fun _ _ _ _ _ _ _ _ _=>by kernel_rfl⟩
/-- law.go:15 -/
noncomputable def law31_long_r2 (_:Env)(_ _:CallT)(tm:T Value):M (T Value):=
 mv (some (.int .i64 0)) fun v4=>
 setF 4 v4 tm fun tm1=>
 M.pure tm1
theorem law31_long_q2:RegEq 13 66 law31_long_g law31_long_P2 law31_long_r2:=⟨by kernel_rfl,fun _ _ _ _ _ _ _ _ _=>by kernel_rfl⟩
/-- law.go:15 -/
noncomputable def law31_long_r3 (E:Env)(_ _:CallT)(tm:T Value):M (T Value):=
 mv (T.get tm 4) fun v5=>
 mv (T.get tm 0) fun v6=>
 M.bind (oS (seqO [(some v6)]) fun l=>aBuiltin E .len [52] l) fun v7=>
 M.bind (oS (some v5) fun a=>oS (some v7) fun b=>Cl.get (aBin E .lss 3 (.tmp 5) (.tmp 7)) a b) fun v8=>
 mv (some v8) fun v9=>
 M.bind (M.chk (isK v9) (M.if (isB v9 true) (oS (T.get tm 4) fun a=>M.pure a) (M.pure undef))) fun v10=>
 M.bind (M.chk (isK v9) (M.if (isB v9 true) (oS (some v10) fun a=>oS (some (.int .i64 121)) fun b=>Cl.get (aBin E .lss 3 (.tmp 10) (.const (.int .i64 121))) a b) (M.pure undef))) fun v11=>
 M.bind (M.on (some v9) fun a=>M.on (some v11) fun b=>M.on (some (.bool false)) fun c=>kPick a b c) fun v12=>
 setF 12 v12 tm fun tm1=>
 M.pure tm1
theorem law31_long_q3:RegEq 13 66 law31_long_g law31_long_P3 law31_long_r3:=⟨by kernel_rfl,fun _ _ _ _ _ _ _ _ _=>by kernel_rfl⟩
theorem law31_long_C4:condX law31_long_P4=some 12:=by kernel_rfl
/-- law.go:16 -/
noncomputable def law31_long_r5 (E:Env)(call round:CallT)(tm:T Value):M (T Value):=
 mv (T.get tm 0) fun v15=>
 mv (T.get tm 4) fun v16=>
 M.bind (oS (some v15) fun a=>oS (some v16) fun b=>kIdxA E 52 a b) fun v17=>
 M.bind (oS (some v17) fun a=>kFld E 43 a 4) fun v18=>
 M.bind (oS (some v18) fun a=>kFld E 40 a 3) fun v19=>
 M.bind (oS (some v19) fun a=>kLoad E 38 a) fun v20=>
 M.bind (M.on (some (.func (.func 45) #[] #[])) fun f=>M.on (seqO [(some v20),(some (.int .i64 10)),(some (.int .i64 4000))]) fun l=>callV call round f l) fun v21=>
 mv (some v21) fun v22=>
 M.bind (M.chk (isK v22) (M.if (isB v22 false) (oS (T.get tm 0) fun a=>M.pure a) (M.pure undef))) fun v23=>
 M.bind (M.chk (isK v22) (M.if (isB v22 false) (oS (T.get tm 4) fun a=>M.pure a) (M.pure undef))) fun v24=>
 M.bind (M.chk (isK v22) (M.if (isB v22 false) (oS (some v23) fun a=>oS (some v24) fun b=>kIdxA E 52 a b) (M.pure undef))) fun v25=>
 M.bind (M.chk (isK v22) (M.if (isB v22 false) (oS (some v25) fun a=>kFld E 43 a 5) (M.pure undef))) fun v26=>
 M.bind (M.chk (isK v22) (M.if (isB v22 false) (oS (some v26) fun a=>kLoad E 41 a) (M.pure undef))) fun v27=>
 M.bind (M.chk (isK v22) (M.if (isB v22 false) (oS (seqO [(some v27)]) fun l=>aBuiltin E .len [41] l) (M.pure undef))) fun v28=>
 M.bind (M.chk (isK v22) (M.if (isB v22 false) (oS (some v28) fun a=>oS (some (.int .i64 60)) fun b=>Cl.get (aBin E .gtr 3 (.tmp 28) (.const (.int .i64 60))) a b) (M.pure undef))) fun v29=>
 M.bind (M.on (some v22) fun a=>M.on (some (.bool true)) fun b=>M.on (some v29) fun c=>kPick a b c) fun v30=>
 setF 30 v30 tm fun tm1=>
 M.pure tm1
theorem law31_long_q5:RegEq 13 66 law31_long_g law31_long_P5 law31_long_r5:=⟨by kernel_rfl,fun _ _ _ _ _ _ _ _ _=>by kernel_rfl⟩
/-- law.go:26 -/
noncomputable def law31_long_r6 (E:Env)(_ _:CallT)(tm:T Value):M (T Value):=
 mv (T.get tm 0) fun v59=>
 M.bind (oS (seqO [(some v59)]) fun l=>aBuiltin E .len [52] l) fun v60=>
 M.bind (oS (some v60) fun a=>oS (some (.int .i64 120)) fun b=>Cl.get (aBin E .gtr 3 (.tmp 60) (.const (.int .i64 120))) a b) fun v61=>
 mv (some v61) fun v62=>
 M.bind (M.chk (isK v62) (M.if (isB v62 false) (oS (T.get tm 3) fun a=>M.pure a) (M.pure undef))) fun v63=>
 M.bind (M.chk (isK v62) (M.if (isB v62 false) (oS (some v63) fun a=>oS (some (.int .i64 1500)) fun b=>Cl.get (aBin E .gtr 3 (.tmp 63) (.const (.int .i64 1500))) a b) (M.pure undef))) fun v64=>
 M.bind (M.on (some v62) fun a=>M.on (some (.bool true)) fun b=>M.on (some v64) fun c=>kPick a b c) fun v65=>
 mv (some v65) fun v2=>
 setF 2 v2 tm fun tm1=>
 M.pure tm1
theorem law31_long_q6:RegEq 13 66 law31_long_g law31_long_P6 law31_long_r6:=⟨by kernel_rfl,fun _ _ _ _ _ _ _ _ _=>by kernel_rfl⟩
theorem law31_long_C7:condX law31_long_P7=some 30:=by kernel_rfl
theorem law31_long_E8: ∃k,law31_long_P8= .code .ret::k:=⟨law31_long_P8.tail,by kernel_rfl⟩
/-- law.go:17 -/
noncomputable def law31_long_r9 (_:Env)(_ _:CallT)(tm:T Value):M (T Value):=
 mv (some (.bool true)) fun v2=>
 setF 2 v2 tm fun tm1=>
 M.pure tm1
theorem law31_long_q9:RegEq 13 66 law31_long_g law31_long_P9 law31_long_r9:=⟨by kernel_rfl,fun _ _ _ _ _ _ _ _ _=>by kernel_rfl⟩
/-- law.go:19 -/
noncomputable def law31_long_r10 (E:Env)(_ _:CallT)(tm:T Value):M (T Value):=
 mv (T.get tm 0) fun v31=>
 mv (T.get tm 4) fun v32=>
 M.bind (oS (some v31) fun a=>oS (some v32) fun b=>kIdxA E 52 a b) fun v33=>
 M.bind (oS (some v33) fun a=>kFld E 43 a 0) fun v34=>
 M.bind (oS (some v34) fun a=>kLoad E 3 a) fun v35=>
 M.bind (oS (some v35) fun a=>oS (some (.int .i64 14)) fun b=>Cl.get (aBin E .eql 3 (.tmp 35) (.const (.int .i64 14))) a b) fun v36=>
 mv (some v36) fun v37=>
 M.bind (M.chk (isK v37) (M.if (isB v37 true) (oS (T.get tm 0) fun a=>M.pure a) (M.pure undef))) fun v38=>
 M.bind (M.chk (isK v37) (M.if (isB v37 true) (oS (T.get tm 4) fun a=>M.pure a) (M.pure undef))) fun v39=>
 M.bind (M.chk (isK v37) (M.if (isB v37 true) (oS (some v38) fun a=>oS (some v39) fun b=>kIdxA E 52 a b) (M.pure undef))) fun v40=>
 M.bind (M.chk (isK v37) (M.if (isB v37 true) (oS (some v40) fun a=>kFld E 43 a 2) (M.pure undef))) fun v41=>
 M.bind (M.chk (isK v37) (M.if (isB v37 true) (oS (some v41) fun a=>kLoad E 3 a) (M.pure undef))) fun v42=>
 M.bind (M.chk (isK v37) (M.if (isB v37 true) (oS (some v42) fun a=>oS (some (.int .i64 300)) fun b=>Cl.get (aBin E .gtr 3 (.tmp 42) (.const (.int .i64 300))) a b) (M.pure undef))) fun v43=>
 M.bind (M.on (some v37) fun a=>M.on (some v43) fun b=>M.on (some (.bool false)) fun c=>kPick a b c) fun v44=>
 setF 44 v44 tm fun tm1=>
 M.pure tm1
theorem law31_long_q10:RegEq 13 66 law31_long_g law31_long_P10 law31_long_r10:=⟨by kernel_rfl,fun _ _ _ _ _ _ _ _ _=>by kernel_rfl⟩
theorem law31_long_E11: ∃k,law31_long_P11= .code .ret::k:=⟨law31_long_P11.tail,by kernel_rfl⟩
theorem law31_long_C12:condX law31_long_P12=some 44:=by kernel_rfl
/-- law.go:20 -/
noncomputable def law31_long_r13 (_:Env)(_ _:CallT)(tm:T Value):M (T Value):=
 mv (some (.bool true)) fun v2=>
 setF 2 v2 tm fun tm1=>
 M.pure tm1
theorem law31_long_q13:RegEq 13 66 law31_long_g law31_long_P13 law31_long_r13:=⟨by kernel_rfl,fun _ _ _ _ _ _ _ _ _=>by kernel_rfl⟩
/-- law.go:22 -/
noncomputable def law31_long_r14 (E:Env)(_ _:CallT)(tm:T Value):M (T Value):=
 mv (T.get tm 0) fun v45=>
 mv (T.get tm 4) fun v46=>
 M.bind (oS (some v45) fun a=>oS (some v46) fun b=>kIdxA E 52 a b) fun v47=>
 M.bind (oS (some v47) fun a=>kFld E 43 a 0) fun v48=>
 M.bind (oS (some v48) fun a=>kLoad E 3 a) fun v49=>
 M.bind (oS (some v49) fun a=>oS (some (.int .i64 14)) fun b=>Cl.get (aBin E .eql 3 (.tmp 49) (.const (.int .i64 14))) a b) fun v50=>
 setF 50 v50 tm fun tm1=>
 M.pure tm1
theorem law31_long_q14:RegEq 13 66 law31_long_g law31_long_P14 law31_long_r14:=⟨by kernel_rfl,fun _ _ _ _ _ _ _ _ _=>by kernel_rfl⟩
theorem law31_long_E15: ∃k,law31_long_P15= .code .ret::k:=⟨law31_long_P15.tail,by kernel_rfl⟩
theorem law31_long_C16:condX law31_long_P16=some 50:=by kernel_rfl
/-- law.go:23 -/
noncomputable def law31_long_r17 (E:Env)(_ _:CallT)(tm:T Value):M (T Value):=
 mv (T.get tm 3) fun v51=>
 mv (T.get tm 0) fun v52=>
 mv (T.get tm 4) fun v53=>
 M.bind (oS (some v52) fun a=>oS (some v53) fun b=>kIdxA E 52 a b) fun v54=>
 M.bind (oS (some v54) fun a=>kFld E 43 a 2) fun v55=>
 M.bind (oS (some v55) fun a=>kLoad E 3 a) fun v56=>
 M.bind (oS (seqO [(some v56),(some (.int .i64 0))]) fun l=>aBuiltin E .max [3,3] l) fun v57=>
 M.bind (oS (some v51) fun a=>oS (some v57) fun b=>Cl.get (aBin E .add 3 (.tmp 51) (.tmp 57)) a b) fun v58=>
 mv (some v58) fun v3=>
 setF 3 v3 tm fun tm1=>
 M.pure tm1
theorem law31_long_q17:RegEq 13 66 law31_long_g law31_long_P17 law31_long_r17:=⟨by kernel_rfl,fun _ _ _ _ _ _ _ _ _=>by kernel_rfl⟩
/-- law.go:15 -/
noncomputable def law31_long_r18 (E:Env)(_ _:CallT)(tm:T Value):M (T Value):=
 mv (T.get tm 4) fun v13=>
 M.bind (oS (some v13) fun a=>oS (some (.int .i64 1)) fun b=>Cl.get (aBin E .add 3 (.tmp 13) (.const (.int .i64 1))) a b) fun v14=>
 mv (some v14) fun v4=>
 setF 4 v4 tm fun tm1=>
 M.pure tm1
theorem law31_long_q18:RegEq 13 66 law31_long_g law31_long_P18 law31_long_r18:=⟨by kernel_rfl,fun _ _ _ _ _ _ _ _ _=>by kernel_rfl⟩
-- points:0:region>[1],1:region>[2],2:region>[3],3:region>[4],4:cond>[5,6],5:region>[7],6:region>[8],7:cond>[9,10],8:ret>,9:region>[11],10:region>[12],11:ret>,12:cond>[13,14],13:region>[15],14:region>[16],15:ret>,16:cond>[17,18],17:region>[18],18:region>[3]
/-! ### satchel/satchelkit.BigTree -/
noncomputable def kit_BigTree_g:Nat:=globOf Tryz.f45
abbrev kit_BigTree_nt:Nat:=51
noncomputable def kit_BigTree_body:Code:=Tryz.f45.body.getD .skip
theorem kit_BigTree_fn:envS.fn.get 45=some Tryz.f45:=by kernel_rfl
theorem kit_BigTree_W {a0 a1 a2:Value}{n:Nat}{s:St}{Q:Value→St→Prop}(h: ∀tm,T.get tm 0=some a0→T.get tm 1=some a1→T.get tm 2=some a2→W (runF envS n ⟨45,51,kit_BigTree_g,tm,[.code kit_BigTree_body], .run, .normal,none⟩) (s.cxN cxN) fun p s1=>Q p.1 (s1.cxN s.cx)):W (callW envS (runF envS n) 45 [a0,a1,a2]) s Q:=
 W.call (by kernel_rfl) (by kernel_rfl) kit_BigTree_fn (by kernel_rfl) rfl rfl (by simp) (h _ (by kernel_rfl) (by kernel_rfl) (by kernel_rfl))
theorem kit_BigTree_res:Tryz.f45.results.toList=[.tmp 6]:=by kernel_rfl
noncomputable def kit_BigTree_P0:List Item:=skim 64 [.code kit_BigTree_body]
noncomputable def kit_BigTree_P1:List Item:=skim 64 kit_BigTree_P0.tail
theorem kit_BigTree_S0_1:skim 64 kit_BigTree_P0.tail=kit_BigTree_P1:=by kernel_rfl
noncomputable def kit_BigTree_P2:List Item:=skim 64 kit_BigTree_P1.tail
theorem kit_BigTree_S1_2:skim 64 kit_BigTree_P1.tail=kit_BigTree_P2:=by kernel_rfl
noncomputable def kit_BigTree_P3:List Item:=skim 64 kit_BigTree_P2.tail
theorem kit_BigTree_S2_3:skim 64 kit_BigTree_P2.tail=kit_BigTree_P3:=by kernel_rfl
noncomputable def kit_BigTree_P4:List Item:=skim 64 kit_BigTree_P3.tail
theorem kit_BigTree_S3_4:skim 64 kit_BigTree_P3.tail=kit_BigTree_P4:=by kernel_rfl
noncomputable def kit_BigTree_P5:List Item:=skim 64 (brT kit_BigTree_P4)
theorem kit_BigTree_S4_5:skim 64 (brT kit_BigTree_P4)=kit_BigTree_P5:=by kernel_rfl
noncomputable def kit_BigTree_P6:List Item:=skim 64 (brF kit_BigTree_P4)
theorem kit_BigTree_S4_6:skim 64 (brF kit_BigTree_P4)=kit_BigTree_P6:=by kernel_rfl
noncomputable def kit_BigTree_P7:List Item:=skim 64 kit_BigTree_P5.tail
theorem kit_BigTree_S5_7:skim 64 kit_BigTree_P5.tail=kit_BigTree_P7:=by kernel_rfl
noncomputable def kit_BigTree_P8:List Item:=skim 64 kit_BigTree_P6.tail
theorem kit_BigTree_S6_8:skim 64 kit_BigTree_P6.tail=kit_BigTree_P8:=by kernel_rfl
theorem kit_BigTree_S7_3:skim 64 kit_BigTree_P7.tail=kit_BigTree_P3:=by kernel_rfl
/-- trees.go:36 -/
noncomputable def kit_BigTree_r0 (_:Env)(_ _:CallT)(tm:T Value):M (T Value):=
 mv (some (.bool false)) fun v6=>
 setF 6 v6 tm fun tm1=>
 M.pure tm1
theorem kit_BigTree_q0:RegEq 45 51 kit_BigTree_g kit_BigTree_P0 kit_BigTree_r0:=⟨by kernel_rfl,fun _ _ _ _ _ _ _ _ _=>by kernel_rfl⟩
/-- trees.go:37 -/
noncomputable def kit_BigTree_r1 (_:Env)(_ _:CallT)(tm:T Value):M (T Value):=
 mv (some (.int .i64 0)) fun v7=>
 setF 7 v7 tm fun tm1=>
 M.pure tm1
theorem kit_BigTree_q1:RegEq 45 51 kit_BigTree_g kit_BigTree_P1 kit_BigTree_r1:=⟨by kernel_rfl,fun _ _ _ _ _ _ _ _ _=>by kernel_rfl⟩
/-- trees.go:38 -/
noncomputable def kit_BigTree_r2 (_:Env)(_ _:CallT)(tm:T Value):M (T Value):=
 mv (some (.int .i64 0)) fun v8=>
 setF 8 v8 tm fun tm1=>
 M.pure tm1
theorem kit_BigTree_q2:RegEq 45 51 kit_BigTree_g kit_BigTree_P2 kit_BigTree_r2:=⟨by kernel_rfl,fun _ _ _ _ _ _ _ _ _=>by kernel_rfl⟩
/-- trees.go:38 -/
noncomputable def kit_BigTree_r3 (E:Env)(_ _:CallT)(tm:T Value):M (T Value):=
 mv (T.get tm 8) fun v9=>
 mv (T.get tm 0) fun v10=>
 M.bind (oS (seqO [(some v10)]) fun l=>aBuiltin E .len [38] l) fun v11=>
 M.bind (oS (some v9) fun a=>oS (some v11) fun b=>Cl.get (aBin E .lss 3 (.tmp 9) (.tmp 11)) a b) fun v12=>
 mv (some v12) fun v13=>
 M.bind (M.chk (isK v13) (M.if (isB v13 true) (oS (T.get tm 8) fun a=>M.pure a) (M.pure undef))) fun v14=>
 M.bind (M.chk (isK v13) (M.if (isB v13 true) (oS (T.get tm 1) fun a=>M.pure a) (M.pure undef))) fun v15=>
 M.bind (M.chk (isK v13) (M.if (isB v13 true) (oS (some v14) fun a=>oS (some v15) fun b=>Cl.get (aBin E .leq 3 (.tmp 14) (.tmp 15)) a b) (M.pure undef))) fun v16=>
 M.bind (M.on (some v13) fun a=>M.on (some v16) fun b=>M.on (some (.bool false)) fun c=>kPick a b c) fun v17=>
 setF 17 v17 tm fun tm1=>
 M.pure tm1
theorem kit_BigTree_q3:RegEq 45 51 kit_BigTree_g kit_BigTree_P3 kit_BigTree_r3:=⟨by kernel_rfl,fun _ _ _ _ _ _ _ _ _=>by kernel_rfl⟩
theorem kit_BigTree_C4:condX kit_BigTree_P4=some 17:=by kernel_rfl
/-- trees.go:39;the order is open -/
noncomputable def kit_BigTree_d5 (E:Env)(_ _:CallT)(tm:T Value):M ((Rho×T Value)×List OpLog):=
 M.bind (apartO (oS (T.get tm 7) fun a=>M.pure a)) fun p0=>
 M.bind (apartO (oS (T.get tm 0) fun a=>M.pure a)) fun p1=>
 M.bind (apartO (oS (T.get tm 8) fun a=>M.pure a)) fun p2=>
 M.bind (apartO (oS (some p1.1) fun a=>oS (some p2.1) fun b=>kIdxA E 38 a b)) fun p3=>
 M.bind (apartO (oS (some p3.1) fun a=>kFld E 102 a 0)) fun p4=>
 M.bind (apartO (oS (some p4.1) fun a=>kLoad E 9 a)) fun p5=>
 M.bind (apartO (oS (seqO [(some p5.1)]) fun l=>aBuiltin E .len [9] l)) fun p6=>
 M.bind (apartO (oS (some p0.1) fun a=>oS (some p6.1) fun b=>Cl.get (aBin E .add 3 (.tmp 20) (.tmp 26)) a b)) fun p7=>
 M.bind (apartO (oS (T.get tm 0) fun a=>M.pure a)) fun p8=>
 M.bind (apartO (oS (T.get tm 8) fun a=>M.pure a)) fun p9=>
 M.bind (apartO (oS (some p8.1) fun a=>oS (some p9.1) fun b=>kIdxA E 38 a b)) fun p10=>
 M.bind (apartO (oS (some p10.1) fun a=>kFld E 102 a 3)) fun p11=>
 M.bind (apartO (oS (some p11.1) fun a=>kLoad E 100 a)) fun p12=>
 M.bind (apartO (oS (seqO [(some p12.1)]) fun l=>aBuiltin E .len [100] l)) fun p13=>
 M.bind (apartO (oS (some p7.1) fun a=>oS (some p13.1) fun b=>Cl.get (aBin E .add 3 (.tmp 27) (.tmp 33)) a b)) fun p14=>
 M.bind (apartO (oS (T.get tm 0) fun a=>M.pure a)) fun p15=>
 M.bind (apartO (oS (T.get tm 8) fun a=>M.pure a)) fun p16=>
 M.bind (apartO (oS (some p15.1) fun a=>oS (some p16.1) fun b=>kIdxA E 38 a b)) fun p17=>
 M.bind (apartO (oS (some p17.1) fun a=>kFld E 102 a 4)) fun p18=>
 M.bind (apartO (oS (some p18.1) fun a=>kLoad E 9 a)) fun p19=>
 M.bind (apartO (oS (seqO [(some p19.1)]) fun l=>aBuiltin E .len [9] l)) fun p20=>
 M.bind (apartO (oS (some p14.1) fun a=>oS (some p20.1) fun b=>Cl.get (aBin E .add 3 (.tmp 34) (.tmp 40)) a b)) fun p21=>
 M.pure (([p21.1,p20.1,p19.1,p18.1,p17.1,p16.1,p15.1,p14.1,p13.1,p12.1,p11.1,p10.1,p9.1,p8.1,p7.1,p6.1,p5.1,p4.1,p3.1,p2.1,p1.1,p0.1],tm),[p21.2,p20.2,p19.2,p18.2,p17.2,p16.2,p15.2,p14.2,p13.2,p12.2,p11.2,p10.2,p9.2,p8.2,p7.2,p6.2,p5.2,p4.2,p3.2,p2.2,p1.2,p0.2])
theorem kit_BigTree_q5:DrawEq 45 51 kit_BigTree_g kit_BigTree_P5 [0,0,0,6,14,30,62,127,0,0,768,1792,3840,7936,16383,0,0,98304,229376,491520,1015808,2097151,4194303] kit_BigTree_d5:=⟨by kernel_rfl,by kernel_rfl,fun _ _ _ _ _ _ _ _ _=>by kernel_rfl⟩
theorem kit_BigTree_L5 (E:Env)(call round:CallT)(x20 x21 x22 x23 x24 x25 x26 x27 x28 x29 x30 x31 x32 x33 x34 x35 x36 x37 x38 x39 x40 x41:Value)(tm:T Value)(s:St):opsIn call round (lastOps E kit_BigTree_g 51 (hdC kit_BigTree_P5)) [x41,x40,x39,x38,x37,x36,x35,x34,x33,x32,x31,x30,x29,x28,x27,x26,x25,x24,x23,x22,x21,x20] tm s=(M.bind (oS (some x41) fun a=>M.pure a) fun v7=>setT 7 v7 tm fun tm1=>M.pure tm1) s:=by kernel_rfl
/-- trees.go:41 -/
noncomputable def kit_BigTree_r6 (E:Env)(_ _:CallT)(tm:T Value):M (T Value):=
 mv (T.get tm 0) fun v42=>
 M.bind (oS (seqO [(some v42)]) fun l=>aBuiltin E .len [38] l) fun v43=>
 mv (T.get tm 1) fun v44=>
 M.bind (oS (some v43) fun a=>oS (some v44) fun b=>Cl.get (aBin E .gtr 3 (.tmp 43) (.tmp 44)) a b) fun v45=>
 mv (some v45) fun v46=>
 M.bind (M.chk (isK v46) (M.if (isB v46 false) (oS (T.get tm 7) fun a=>M.pure a) (M.pure undef))) fun v47=>
 M.bind (M.chk (isK v46) (M.if (isB v46 false) (oS (T.get tm 2) fun a=>M.pure a) (M.pure undef))) fun v48=>
 M.bind (M.chk (isK v46) (M.if (isB v46 false) (oS (some v47) fun a=>oS (some v48) fun b=>Cl.get (aBin E .gtr 3 (.tmp 47) (.tmp 48)) a b) (M.pure undef))) fun v49=>
 M.bind (M.on (some v46) fun a=>M.on (some (.bool true)) fun b=>M.on (some v49) fun c=>kPick a b c) fun v50=>
 mv (some v50) fun v6=>
 setF 6 v6 tm fun tm1=>
 M.pure tm1
theorem kit_BigTree_q6:RegEq 45 51 kit_BigTree_g kit_BigTree_P6 kit_BigTree_r6:=⟨by kernel_rfl,fun _ _ _ _ _ _ _ _ _=>by kernel_rfl⟩
/-- trees.go:38 -/
noncomputable def kit_BigTree_r7 (E:Env)(_ _:CallT)(tm:T Value):M (T Value):=
 mv (T.get tm 8) fun v18=>
 M.bind (oS (some v18) fun a=>oS (some (.int .i64 1)) fun b=>Cl.get (aBin E .add 3 (.tmp 18) (.const (.int .i64 1))) a b) fun v19=>
 mv (some v19) fun v8=>
 setF 8 v8 tm fun tm1=>
 M.pure tm1
theorem kit_BigTree_q7:RegEq 45 51 kit_BigTree_g kit_BigTree_P7 kit_BigTree_r7:=⟨by kernel_rfl,fun _ _ _ _ _ _ _ _ _=>by kernel_rfl⟩
theorem kit_BigTree_E8: ∃k,kit_BigTree_P8= .code .ret::k:=⟨kit_BigTree_P8.tail,by kernel_rfl⟩
-- points:0:region>[1],1:region>[2],2:region>[3],3:region>[4],4:cond>[5,6],5:region>[7],6:region>[8],7:region>[3],8:ret>
/-! ### (*satchel/world.World).none -/
noncomputable def wo_none_g:Nat:=globOf Tryz.f24
noncomputable def wo_none_body:Code:=Tryz.f24.body.getD .skip
theorem wo_none_fn:envS.fn.get 24=some Tryz.f24:=by kernel_rfl
theorem wo_none_W {a0:Value}{n:Nat}{s:St}{Q:Value→St→Prop}(h: ∀tm,T.get tm 0=some a0→W (runF envS n ⟨24,12,wo_none_g,tm,[.code wo_none_body], .run, .normal,none⟩) (s.cxN cxN) fun p s1=>Q p.1 (s1.cxN s.cx)):W (callW envS (runF envS n) 24 [a0]) s Q:=
 W.call (by kernel_rfl) (by kernel_rfl) wo_none_fn (by kernel_rfl) rfl rfl (by simp) (h _ (by kernel_rfl))
theorem wo_none_res:Tryz.f24.results.toList=[.tmp 2]:=by kernel_rfl
noncomputable def wo_none_P0:List Item:=skim 64 [.code wo_none_body]
noncomputable def wo_none_P1:List Item:=skim 64 wo_none_P0.tail
theorem wo_none_S0_1:skim 64 wo_none_P0.tail=wo_none_P1:=by kernel_rfl
noncomputable def wo_none_P2:List Item:=skim 64 wo_none_P1.tail
theorem wo_none_S1_2:skim 64 wo_none_P1.tail=wo_none_P2:=by kernel_rfl
/-- world.go:46 -/
noncomputable def wo_none_r0 (_:Env)(_ _:CallT)(tm:T Value):M (T Value):=
 mv (some (.bool false)) fun v2=>
 setF 2 v2 tm fun tm1=>
 M.pure tm1
theorem wo_none_q0:RegEq 24 12 wo_none_g wo_none_P0 wo_none_r0:=⟨by kernel_rfl,fun _ _ _ _ _ _ _ _ _=>by kernel_rfl⟩
/-- world.go:46 -/
noncomputable def wo_none_r1 (E:Env)(_ _:CallT)(tm:T Value):M (T Value):=
 mv (T.get tm 0) fun v3=>
 M.bind (oS (some v3) fun a=>oS (some (.pointer none)) fun b=>Cl.get (aBin E .eql 22 (.tmp 3) (.const (.pointer none))) a b) fun v4=>
 mv (some v4) fun v5=>
 M.bind (M.chk (isK v5) (M.if (isB v5 false) (oS (T.get tm 0) fun a=>M.pure a) (M.pure undef))) fun v6=>
 M.bind (M.chk (isK v5) (M.if (isB v5 false) (oS (some v6) fun a=>kNil a) (M.pure undef))) fun v7=>
 M.bind (M.chk (isK v5) (M.if (isB v5 false) (oS (some v7) fun a=>kFld E 58 a 2) (M.pure undef))) fun v8=>
 M.bind (M.chk (isK v5) (M.if (isB v5 false) (oS (some v8) fun a=>kLoad E 53 a) (M.pure undef))) fun v9=>
 M.bind (M.chk (isK v5) (M.if (isB v5 false) (oS (some v9) fun a=>oS (some (.pointer none)) fun b=>Cl.get (aBin E .eql 53 (.tmp 9) (.const (.pointer none))) a b) (M.pure undef))) fun v10=>
 M.bind (M.on (some v5) fun a=>M.on (some (.bool true)) fun b=>M.on (some v10) fun c=>kPick a b c) fun v11=>
 mv (some v11) fun v2=>
 setF 2 v2 tm fun tm1=>
 M.pure tm1
theorem wo_none_q1:RegEq 24 12 wo_none_g wo_none_P1 wo_none_r1:=⟨by kernel_rfl,fun _ _ _ _ _ _ _ _ _=>by kernel_rfl⟩
theorem wo_none_E2: ∃k,wo_none_P2= .code .ret::k:=⟨wo_none_P2.tail,by kernel_rfl⟩
-- points:0:region>[1],1:region>[2],2:ret>
/-! ### (*satchel/world.World).client -/
noncomputable def wo_client_g:Nat:=globOf Tryz.f47
noncomputable def wo_client_body:Code:=Tryz.f47.body.getD .skip
theorem wo_client_fn:envS.fn.get 47=some Tryz.f47:=by kernel_rfl
theorem wo_client_W {a0 a1:Value}{n:Nat}{s:St}{Q:Value→St→Prop}(h: ∀tm,T.get tm 0=some a0→T.get tm 1=some a1→W (runF envS n ⟨47,28,wo_client_g,tm,[.code wo_client_body], .run, .normal,none⟩) (s.cxN cxN) fun p s1=>Q p.1 (s1.cxN s.cx)):W (callW envS (runF envS n) 47 [a0,a1]) s Q:=
 W.call (by kernel_rfl) (by kernel_rfl) wo_client_fn (by kernel_rfl) rfl rfl (by simp) (h _ (by kernel_rfl) (by kernel_rfl))
theorem wo_client_res:Tryz.f47.results.toList=[.tmp 4]:=by kernel_rfl
noncomputable def wo_client_P0:List Item:=skim 64 [.code wo_client_body]
noncomputable def wo_client_P1:List Item:=skim 64 wo_client_P0.tail
theorem wo_client_S0_1:skim 64 wo_client_P0.tail=wo_client_P1:=by kernel_rfl
noncomputable def wo_client_P2:List Item:=skim 64 wo_client_P1.tail
theorem wo_client_S1_2:skim 64 wo_client_P1.tail=wo_client_P2:=by kernel_rfl
noncomputable def wo_client_P3:List Item:=skim 64 (brT wo_client_P2)
theorem wo_client_S2_3:skim 64 (brT wo_client_P2)=wo_client_P3:=by kernel_rfl
noncomputable def wo_client_P5:List Item:=skim 64 wo_client_P3.tail
theorem wo_client_S3_5:skim 64 wo_client_P3.tail=wo_client_P5:=by kernel_rfl
/-- world.go:49 -/
noncomputable def wo_client_r0 (_:Env)(_ _:CallT)(tm:T Value):M (T Value):=
 mv (some (.pointer none)) fun v4=>
 setF 4 v4 tm fun tm1=>
 M.pure tm1
theorem wo_client_q0:RegEq 47 28 wo_client_g wo_client_P0 wo_client_r0:=⟨by kernel_rfl,fun _ _ _ _ _ _ _ _ _=>by kernel_rfl⟩
/-- world.go:50 -/
noncomputable def wo_client_r1 (E:Env)(call round:CallT)(tm:T Value):M (T Value):=
 mv (T.get tm 0) fun v5=>
 M.bind (M.on (some (.func (.func 24) #[] #[])) fun f=>M.on (seqO [(some v5)]) fun l=>callV call round f l) fun v6=>
 mv (some v6) fun v7=>
 M.bind (M.chk (isK v7) (M.if (isB v7 false) (oS (T.get tm 1) fun a=>M.pure a) (M.pure undef))) fun v8=>
 M.bind (M.chk (isK v7) (M.if (isB v7 false) (oS (some v8) fun a=>oS (some (.int .i64 1)) fun b=>Cl.get (aBin E .lss 3 (.tmp 8) (.const (.int .i64 1))) a b) (M.pure undef))) fun v9=>
 M.bind (M.on (some v7) fun a=>M.on (some (.bool true)) fun b=>M.on (some v9) fun c=>kPick a b c) fun v10=>
 mv (some v10) fun v11=>
 M.bind (M.chk (isK v11) (M.if (isB v11 false) (oS (T.get tm 1) fun a=>M.pure a) (M.pure undef))) fun v12=>
 M.bind (M.chk (isK v11) (M.if (isB v11 false) (oS (T.get tm 0) fun a=>M.pure a) (M.pure undef))) fun v13=>
 M.bind (M.chk (isK v11) (M.if (isB v11 false) (oS (some v13) fun a=>kNil a) (M.pure undef))) fun v14=>
 M.bind (M.chk (isK v11) (M.if (isB v11 false) (oS (some v14) fun a=>kFld E 58 a 5) (M.pure undef))) fun v15=>
 M.bind (M.chk (isK v11) (M.if (isB v11 false) (oS (some v15) fun a=>kLoad E 56 a) (M.pure undef))) fun v16=>
 M.bind (M.chk (isK v11) (M.if (isB v11 false) (oS (seqO [(some v16)]) fun l=>aBuiltin E .len [56] l) (M.pure undef))) fun v17=>
 M.bind (M.chk (isK v11) (M.if (isB v11 false) (oS (some v12) fun a=>oS (some v17) fun b=>Cl.get (aBin E .gtr 3 (.tmp 12) (.tmp 17)) a b) (M.pure undef))) fun v18=>
 M.bind (M.on (some v11) fun a=>M.on (some (.bool true)) fun b=>M.on (some v18) fun c=>kPick a b c) fun v19=>
 setF 19 v19 tm fun tm1=>
 M.pure tm1
theorem wo_client_q1:RegEq 47 28 wo_client_g wo_client_P1 wo_client_r1:=⟨by kernel_rfl,fun _ _ _ _ _ _ _ _ _=>by kernel_rfl⟩
theorem wo_client_C2:condX wo_client_P2=some 19:=by kernel_rfl
/-- world.go:51 -/
noncomputable def wo_client_r3 (_:Env)(_ _:CallT)(tm:T Value):M (T Value):=
 mv (some (.pointer none)) fun v4=>
 setF 4 v4 tm fun tm1=>
 M.pure tm1
theorem wo_client_q3:RegEq 47 28 wo_client_g wo_client_P3 wo_client_r3:=⟨by kernel_rfl,fun _ _ _ _ _ _ _ _ _=>by kernel_rfl⟩
theorem wo_client_E5: ∃k,wo_client_P5= .code .ret::k:=⟨wo_client_P5.tail,by kernel_rfl⟩
-- points:0:region>[1],1:region>[2],2:cond>[3,4],3:region>[5],4:region>[6],5:ret>,6:ret>
/-! ### (*satchel/world.World).machine -/
noncomputable def wo_machine_g:Nat:=globOf Tryz.f40
noncomputable def wo_machine_body:Code:=Tryz.f40.body.getD .skip
theorem wo_machine_fn:envS.fn.get 40=some Tryz.f40:=by kernel_rfl
theorem wo_machine_W {a0 a1:Value}{n:Nat}{s:St}{Q:Value→St→Prop}(h: ∀tm,T.get tm 0=some a0→T.get tm 1=some a1→W (runF envS n ⟨40,28,wo_machine_g,tm,[.code wo_machine_body], .run, .normal,none⟩) (s.cxN cxN) fun p s1=>Q p.1 (s1.cxN s.cx)):W (callW envS (runF envS n) 40 [a0,a1]) s Q:=
 W.call (by kernel_rfl) (by kernel_rfl) wo_machine_fn (by kernel_rfl) rfl rfl (by simp) (h _ (by kernel_rfl) (by kernel_rfl))
theorem wo_machine_res:Tryz.f40.results.toList=[.tmp 4, .tmp 5]:=by kernel_rfl
noncomputable def wo_machine_P0:List Item:=skim 64 [.code wo_machine_body]
noncomputable def wo_machine_P1:List Item:=skim 64 wo_machine_P0.tail
theorem wo_machine_S0_1:skim 64 wo_machine_P0.tail=wo_machine_P1:=by kernel_rfl
noncomputable def wo_machine_P2:List Item:=skim 64 wo_machine_P1.tail
theorem wo_machine_S1_2:skim 64 wo_machine_P1.tail=wo_machine_P2:=by kernel_rfl
noncomputable def wo_machine_P3:List Item:=skim 64 (brT wo_machine_P2)
theorem wo_machine_S2_3:skim 64 (brT wo_machine_P2)=wo_machine_P3:=by kernel_rfl
noncomputable def wo_machine_P5:List Item:=skim 64 wo_machine_P3.tail
theorem wo_machine_S3_5:skim 64 wo_machine_P3.tail=wo_machine_P5:=by kernel_rfl
/-- world.go:57 -/
noncomputable def wo_machine_r0 (_:Env)(_ _:CallT)(tm:T Value):M (T Value):=
 mv (some .nilIface) fun v4=>
 setF 4 v4 tm fun tm1=>
 mv (some (.bool false)) fun v5=>
 setF 5 v5 tm1 fun tm2=>
 M.pure tm2
theorem wo_machine_q0:RegEq 40 28 wo_machine_g wo_machine_P0 wo_machine_r0:=⟨by kernel_rfl,fun _ _ _ _ _ _ _ _ _=>by kernel_rfl⟩
/-- world.go:58 -/
noncomputable def wo_machine_r1 (E:Env)(call round:CallT)(tm:T Value):M (T Value):=
 mv (T.get tm 0) fun v6=>
 M.bind (M.on (some (.func (.func 24) #[] #[])) fun f=>M.on (seqO [(some v6)]) fun l=>callV call round f l) fun v7=>
 mv (some v7) fun v8=>
 M.bind (M.chk (isK v8) (M.if (isB v8 false) (oS (T.get tm 1) fun a=>M.pure a) (M.pure undef))) fun v9=>
 M.bind (M.chk (isK v8) (M.if (isB v8 false) (oS (some v9) fun a=>oS (some (.int .i64 0)) fun b=>Cl.get (aBin E .lss 3 (.tmp 9) (.const (.int .i64 0))) a b) (M.pure undef))) fun v10=>
 M.bind (M.on (some v8) fun a=>M.on (some (.bool true)) fun b=>M.on (some v10) fun c=>kPick a b c) fun v11=>
 mv (some v11) fun v12=>
 M.bind (M.chk (isK v12) (M.if (isB v12 false) (oS (T.get tm 1) fun a=>M.pure a) (M.pure undef))) fun v13=>
 M.bind (M.chk (isK v12) (M.if (isB v12 false) (oS (T.get tm 0) fun a=>M.pure a) (M.pure undef))) fun v14=>
 M.bind (M.chk (isK v12) (M.if (isB v12 false) (oS (some v14) fun a=>kNil a) (M.pure undef))) fun v15=>
 M.bind (M.chk (isK v12) (M.if (isB v12 false) (oS (some v15) fun a=>kFld E 58 a 4) (M.pure undef))) fun v16=>
 M.bind (M.chk (isK v12) (M.if (isB v12 false) (oS (some v16) fun a=>kLoad E 55 a) (M.pure undef))) fun v17=>
 M.bind (M.chk (isK v12) (M.if (isB v12 false) (oS (seqO [(some v17)]) fun l=>aBuiltin E .len [55] l) (M.pure undef))) fun v18=>
 M.bind (M.chk (isK v12) (M.if (isB v12 false) (oS (some v13) fun a=>oS (some v18) fun b=>Cl.get (aBin E .geq 3 (.tmp 13) (.tmp 18)) a b) (M.pure undef))) fun v19=>
 M.bind (M.on (some v12) fun a=>M.on (some (.bool true)) fun b=>M.on (some v19) fun c=>kPick a b c) fun v20=>
 setF 20 v20 tm fun tm1=>
 M.pure tm1
theorem wo_machine_q1:RegEq 40 28 wo_machine_g wo_machine_P1 wo_machine_r1:=⟨by kernel_rfl,fun _ _ _ _ _ _ _ _ _=>by kernel_rfl⟩
theorem wo_machine_C2:condX wo_machine_P2=some 20:=by kernel_rfl
/-- world.go:59 -/
noncomputable def wo_machine_r3 (_:Env)(_ _:CallT)(tm:T Value):M (T Value):=
 mv (some .nilIface) fun v4=>
 setF 4 v4 tm fun tm1=>
 mv (some (.bool false)) fun v5=>
 setF 5 v5 tm1 fun tm2=>
 M.pure tm2
theorem wo_machine_q3:RegEq 40 28 wo_machine_g wo_machine_P3 wo_machine_r3:=⟨by kernel_rfl,fun _ _ _ _ _ _ _ _ _=>by kernel_rfl⟩
theorem wo_machine_E5: ∃k,wo_machine_P5= .code .ret::k:=⟨wo_machine_P5.tail,by kernel_rfl⟩
-- points:0:region>[1],1:region>[2],2:cond>[3,4],3:region>[5],4:region>[6],5:ret>,6:ret>
/-! ### (*satchel/world.World).Do -/
noncomputable def wo_Do_g:Nat:=globOf Tryz.f8
noncomputable def wo_Do_body:Code:=Tryz.f8.body.getD .skip
theorem wo_Do_fn:envS.fn.get 8=some Tryz.f8:=by kernel_rfl
theorem wo_Do_W {a0 a1:Value}{n:Nat}{s:St}{Q:Value→St→Prop}(h: ∀tm,T.get tm 0=some a0→T.get tm 1=some a1→W (runF envS n ⟨8,117,wo_Do_g,tm,[.code wo_Do_body], .run, .normal,none⟩) (s.cxN cxN) fun p s1=>Q p.1 (s1.cxN s.cx)):W (callW envS (runF envS n) 8 [a0,a1]) s Q:=
 W.call (by kernel_rfl) (by kernel_rfl) wo_Do_fn (by kernel_rfl) rfl rfl (by simp) (h _ (by kernel_rfl) (by kernel_rfl))
theorem wo_Do_res:Tryz.f8.results.toList=[.tmp 4]:=by kernel_rfl
noncomputable def wo_Do_P0:List Item:=skim 64 [.code wo_Do_body]
noncomputable def wo_Do_P1:List Item:=skim 64 wo_Do_P0.tail
theorem wo_Do_S0_1:skim 64 wo_Do_P0.tail=wo_Do_P1:=by kernel_rfl
noncomputable def wo_Do_P2:List Item:=skim 64 wo_Do_P1.tail
theorem wo_Do_S1_2:skim 64 wo_Do_P1.tail=wo_Do_P2:=by kernel_rfl
noncomputable def wo_Do_P3:List Item:=skim 64 (brT wo_Do_P2)
theorem wo_Do_S2_3:skim 64 (brT wo_Do_P2)=wo_Do_P3:=by kernel_rfl
noncomputable def wo_Do_P5:List Item:=skim 64 wo_Do_P3.tail
theorem wo_Do_S3_5:skim 64 wo_Do_P3.tail=wo_Do_P5:=by kernel_rfl
/-- world.go:65 -/
noncomputable def wo_Do_r0 (_:Env)(_ _:CallT)(tm:T Value):M (T Value):=
 M.bind (oS (T.get tm 1) fun a=>kBox a) fun v3=>
 setF 3 v3 tm fun tm1=>
 mv (some (.int .i64 0)) fun v4=>
 setF 4 v4 tm1 fun tm2=>
 M.pure tm2
theorem wo_Do_q0:RegEq 8 117 wo_Do_g wo_Do_P0 wo_Do_r0:=⟨by kernel_rfl,fun _ _ _ _ _ _ _ _ _=>by kernel_rfl⟩
/-- world.go:66 -/
noncomputable def wo_Do_r1 (_:Env)(call round:CallT)(tm:T Value):M (T Value):=
 mv (T.get tm 0) fun v6=>
 M.bind (M.on (some (.func (.func 24) #[] #[])) fun f=>M.on (seqO [(some v6)]) fun l=>callV call round f l) fun v7=>
 setF 7 v7 tm fun tm1=>
 M.pure tm1
theorem wo_Do_q1:RegEq 8 117 wo_Do_g wo_Do_P1 wo_Do_r1:=⟨by kernel_rfl,fun _ _ _ _ _ _ _ _ _=>by kernel_rfl⟩
theorem wo_Do_C2:condX wo_Do_P2=some 7:=by kernel_rfl
/-- world.go:67 -/
noncomputable def wo_Do_r3 (_:Env)(_ _:CallT)(tm:T Value):M (T Value):=
 mv (some (.int .i64 1)) fun v4=>
 setF 4 v4 tm fun tm1=>
 M.pure tm1
theorem wo_Do_q3:RegEq 8 117 wo_Do_g wo_Do_P3 wo_Do_r3:=⟨by kernel_rfl,fun _ _ _ _ _ _ _ _ _=>by kernel_rfl⟩
theorem wo_Do_E5: ∃k,wo_Do_P5= .code .ret::k:=⟨wo_Do_P5.tail,by kernel_rfl⟩
-- points:0:region>[1],1:region>[2],2:cond>[3,4],3:region>[5],4:region>[6],5:ret>,6:region>[7],7:region>[8],8:cond>[9,10],9:region>[11],10:region>[12],11:ret>,12:cond>[13,14],13:region>[11],14:region>[15],15:cond>[16,17],16:region>[11],17:region>[18],18:cond>[19,20],19:region>[11],20:region>[21],21:cond>[22,23],22:region>[11],23:region>[24],24:cond>[25,26],25:region>[11],26:region>[27],27:cond>[28,29],28:region>[11],29:region>[30],30:cond>[31,32],31:region>[11],32:region>[33],33:cond>[34,35],34:region>[11],35:region>[36],36:cond>[37,38],37:region>[11],38:region>[39],39:cond>[40,41],40:region>[11],41:region>[42],42:cond>[43,44],43:region>[11],44:region>[45],45:cond>[46,47],46:region>[11],47:region>[48],48:cond>[49,50],49:region>[11],50:region>[51],51:ret>
/-! ### (*satchel/world.World).Told -/
noncomputable def wo_Told_g:Nat:=globOf Tryz.f15
noncomputable def wo_Told_body:Code:=Tryz.f15.body.getD .skip
theorem wo_Told_fn:envS.fn.get 15=some Tryz.f15:=by kernel_rfl
theorem wo_Told_W {a0 a1:Value}{n:Nat}{s:St}{Q:Value→St→Prop}(h: ∀tm,T.get tm 0=some a0→T.get tm 1=some a1→W (runF envS n ⟨15,74,wo_Told_g,tm,[.code wo_Told_body], .run, .normal,none⟩) (s.cxN cxN) fun p s1=>Q p.1 (s1.cxN s.cx)):W (callW envS (runF envS n) 15 [a0,a1]) s Q:=
 W.call (by kernel_rfl) (by kernel_rfl) wo_Told_fn (by kernel_rfl) rfl rfl (by simp) (h _ (by kernel_rfl) (by kernel_rfl))
theorem wo_Told_res:Tryz.f15.results.toList=[.tmp 4]:=by kernel_rfl
noncomputable def wo_Told_P0:List Item:=skim 64 [.code wo_Told_body]
noncomputable def wo_Told_P1:List Item:=skim 64 wo_Told_P0.tail
theorem wo_Told_S0_1:skim 64 wo_Told_P0.tail=wo_Told_P1:=by kernel_rfl
noncomputable def wo_Told_P2:List Item:=skim 64 wo_Told_P1.tail
theorem wo_Told_S1_2:skim 64 wo_Told_P1.tail=wo_Told_P2:=by kernel_rfl
noncomputable def wo_Told_P3:List Item:=skim 64 wo_Told_P2.tail
theorem wo_Told_S2_3:skim 64 wo_Told_P2.tail=wo_Told_P3:=by kernel_rfl
noncomputable def wo_Told_P4:List Item:=skim 64 (brT wo_Told_P3)
theorem wo_Told_S3_4:skim 64 (brT wo_Told_P3)=wo_Told_P4:=by kernel_rfl
noncomputable def wo_Told_P6:List Item:=skim 64 wo_Told_P4.tail
theorem wo_Told_S4_6:skim 64 wo_Told_P4.tail=wo_Told_P6:=by kernel_rfl
/-- world.go:194 -/
noncomputable def wo_Told_r0 (_:Env)(_ _:CallT)(tm:T Value):M (T Value):=
 mv (some (.slice none 0 0)) fun v4=>
 setF 4 v4 tm fun tm1=>
 M.pure tm1
theorem wo_Told_q0:RegEq 15 74 wo_Told_g wo_Told_P0 wo_Told_r0:=⟨by kernel_rfl,fun _ _ _ _ _ _ _ _ _=>by kernel_rfl⟩
/-- world.go:195 -/
noncomputable def wo_Told_r1 (_:Env)(call round:CallT)(tm:T Value):M (T Value):=
 mv (T.get tm 0) fun v9=>
 mv (T.get tm 1) fun v10=>
 M.bind (M.on (some (.func (.func 47) #[] #[])) fun f=>M.on (seqO [(some v9),(some v10)]) fun l=>callV call round f l) fun v11=>
 mv (some v11) fun v5=>
 setF 5 v5 tm fun tm1=>
 M.pure tm1
theorem wo_Told_q1:RegEq 15 74 wo_Told_g wo_Told_P1 wo_Told_r1:=⟨by kernel_rfl,fun _ _ _ _ _ _ _ _ _=>by kernel_rfl⟩
/-- world.go:196 -/
noncomputable def wo_Told_r2 (E:Env)(_ _:CallT)(tm:T Value):M (T Value):=
 mv (T.get tm 5) fun v12=>
 M.bind (oS (some v12) fun a=>oS (some (.pointer none)) fun b=>Cl.get (aBin E .eql 78 (.tmp 12) (.const (.pointer none))) a b) fun v13=>
 setF 13 v13 tm fun tm1=>
 M.pure tm1
theorem wo_Told_q2:RegEq 15 74 wo_Told_g wo_Told_P2 wo_Told_r2:=⟨by kernel_rfl,fun _ _ _ _ _ _ _ _ _=>by kernel_rfl⟩
theorem wo_Told_C3:condX wo_Told_P3=some 13:=by kernel_rfl
/-- world.go:197 -/
noncomputable def wo_Told_r4 (_:Env)(_ _:CallT)(tm:T Value):M (T Value):=
 mv (some (.slice none 0 0)) fun v4=>
 setF 4 v4 tm fun tm1=>
 M.pure tm1
theorem wo_Told_q4:RegEq 15 74 wo_Told_g wo_Told_P4 wo_Told_r4:=⟨by kernel_rfl,fun _ _ _ _ _ _ _ _ _=>by kernel_rfl⟩
theorem wo_Told_E6: ∃k,wo_Told_P6= .code .ret::k:=⟨wo_Told_P6.tail,by kernel_rfl⟩
-- points:0:region>[1],1:region>[2],2:region>[3],3:cond>[4,5],4:region>[6],5:region>[7],6:ret>,7:region>[8],8:region>[9],9:cond>[10,11],10:region>[12],11:region>[13],12:region>[14],13:ret>,14:region>[15],15:region>[16],16:cond>[17,18],17:region>[19],18:region>[8],19:region>[20],20:region>[15]
/-! ### (*satchel/world.World).Busy -/
noncomputable def wo_Busy_g:Nat:=globOf Tryz.f16
noncomputable def wo_Busy_body:Code:=Tryz.f16.body.getD .skip
theorem wo_Busy_fn:envS.fn.get 16=some Tryz.f16:=by kernel_rfl
theorem wo_Busy_W {a0 a1:Value}{n:Nat}{s:St}{Q:Value→St→Prop}(h: ∀tm,T.get tm 0=some a0→T.get tm 1=some a1→W (runF envS n ⟨16,18,wo_Busy_g,tm,[.code wo_Busy_body], .run, .normal,none⟩) (s.cxN cxN) fun p s1=>Q p.1 (s1.cxN s.cx)):W (callW envS (runF envS n) 16 [a0,a1]) s Q:=
 W.call (by kernel_rfl) (by kernel_rfl) wo_Busy_fn (by kernel_rfl) rfl rfl (by simp) (h _ (by kernel_rfl) (by kernel_rfl))
theorem wo_Busy_res:Tryz.f16.results.toList=[.tmp 4]:=by kernel_rfl
noncomputable def wo_Busy_P0:List Item:=skim 64 [.code wo_Busy_body]
noncomputable def wo_Busy_P1:List Item:=skim 64 wo_Busy_P0.tail
theorem wo_Busy_S0_1:skim 64 wo_Busy_P0.tail=wo_Busy_P1:=by kernel_rfl
noncomputable def wo_Busy_P2:List Item:=skim 64 wo_Busy_P1.tail
theorem wo_Busy_S1_2:skim 64 wo_Busy_P1.tail=wo_Busy_P2:=by kernel_rfl
noncomputable def wo_Busy_P3:List Item:=skim 64 wo_Busy_P2.tail
theorem wo_Busy_S2_3:skim 64 wo_Busy_P2.tail=wo_Busy_P3:=by kernel_rfl
/-- world.go:210 -/
noncomputable def wo_Busy_r0 (_:Env)(_ _:CallT)(tm:T Value):M (T Value):=
 mv (some (.bool false)) fun v4=>
 setF 4 v4 tm fun tm1=>
 M.pure tm1
theorem wo_Busy_q0:RegEq 16 18 wo_Busy_g wo_Busy_P0 wo_Busy_r0:=⟨by kernel_rfl,fun _ _ _ _ _ _ _ _ _=>by kernel_rfl⟩
/-- world.go:211 -/
noncomputable def wo_Busy_r1 (_:Env)(call round:CallT)(tm:T Value):M (T Value):=
 mv (T.get tm 0) fun v6=>
 mv (T.get tm 1) fun v7=>
 M.bind (M.on (some (.func (.func 47) #[] #[])) fun f=>M.on (seqO [(some v6),(some v7)]) fun l=>callV call round f l) fun v8=>
 mv (some v8) fun v5=>
 setF 5 v5 tm fun tm1=>
 M.pure tm1
theorem wo_Busy_q1:RegEq 16 18 wo_Busy_g wo_Busy_P1 wo_Busy_r1:=⟨by kernel_rfl,fun _ _ _ _ _ _ _ _ _=>by kernel_rfl⟩
/-- world.go:212 -/
noncomputable def wo_Busy_r2 (E:Env)(call round:CallT)(tm:T Value):M (T Value):=
 mv (T.get tm 5) fun v9=>
 M.bind (oS (some v9) fun a=>oS (some (.pointer none)) fun b=>Cl.get (aBin E .neq 78 (.tmp 9) (.const (.pointer none))) a b) fun v10=>
 mv (some v10) fun v11=>
 M.bind (M.chk (isK v11) (M.if (isB v11 true) (oS (T.get tm 5) fun a=>M.pure a) (M.pure undef))) fun v12=>
 M.bind (M.chk (isK v11) (M.if (isB v11 true) (oS (some v12) fun a=>kNil a) (M.pure undef))) fun v13=>
 M.bind (M.chk (isK v11) (M.if (isB v11 true) (oS (some v13) fun a=>kFld E 81 a 3) (M.pure undef))) fun v14=>
 M.bind (M.chk (isK v11) (M.if (isB v11 true) (oS (some v14) fun a=>kLoad E 79 a) (M.pure undef))) fun v15=>
 M.bind (M.chk (isK v11) (M.if (isB v11 true) (M.on (some (.func (.func 52) #[] #[])) fun f=>M.on (seqO [(some v15)]) fun l=>callV call round f l) (M.pure undef))) fun v16=>
 M.bind (M.on (some v11) fun a=>M.on (some v16) fun b=>M.on (some (.bool false)) fun c=>kPick a b c) fun v17=>
 mv (some v17) fun v4=>
 setF 4 v4 tm fun tm1=>
 M.pure tm1
theorem wo_Busy_q2:RegEq 16 18 wo_Busy_g wo_Busy_P2 wo_Busy_r2:=⟨by kernel_rfl,fun _ _ _ _ _ _ _ _ _=>by kernel_rfl⟩
theorem wo_Busy_E3: ∃k,wo_Busy_P3= .code .ret::k:=⟨wo_Busy_P3.tail,by kernel_rfl⟩
-- points:0:region>[1],1:region>[2],2:region>[3],3:ret>
/-! ### (*satchel/world.World).List -/
noncomputable def wo_List_g:Nat:=globOf Tryz.f17
noncomputable def wo_List_body:Code:=Tryz.f17.body.getD .skip
theorem wo_List_fn:envS.fn.get 17=some Tryz.f17:=by kernel_rfl
theorem wo_List_W {a0 a1:Value}{n:Nat}{s:St}{Q:Value→St→Prop}(h: ∀tm,T.get tm 0=some a0→T.get tm 1=some a1→W (runF envS n ⟨17,16,wo_List_g,tm,[.code wo_List_body], .run, .normal,none⟩) (s.cxN cxN) fun p s1=>Q p.1 (s1.cxN s.cx)):W (callW envS (runF envS n) 17 [a0,a1]) s Q:=
 W.call (by kernel_rfl) (by kernel_rfl) wo_List_fn (by kernel_rfl) rfl rfl (by simp) (h _ (by kernel_rfl) (by kernel_rfl))
theorem wo_List_res:Tryz.f17.results.toList=[.tmp 4]:=by kernel_rfl
noncomputable def wo_List_P0:List Item:=skim 64 [.code wo_List_body]
noncomputable def wo_List_P1:List Item:=skim 64 wo_List_P0.tail
theorem wo_List_S0_1:skim 64 wo_List_P0.tail=wo_List_P1:=by kernel_rfl
noncomputable def wo_List_P2:List Item:=skim 64 wo_List_P1.tail
theorem wo_List_S1_2:skim 64 wo_List_P1.tail=wo_List_P2:=by kernel_rfl
noncomputable def wo_List_P3:List Item:=skim 64 (brT wo_List_P2)
theorem wo_List_S2_3:skim 64 (brT wo_List_P2)=wo_List_P3:=by kernel_rfl
noncomputable def wo_List_P5:List Item:=skim 64 wo_List_P3.tail
theorem wo_List_S3_5:skim 64 wo_List_P3.tail=wo_List_P5:=by kernel_rfl
/-- world.go:215 -/
noncomputable def wo_List_r0 (_:Env)(_ _:CallT)(tm:T Value):M (T Value):=
 mv (some (.slice none 0 0)) fun v4=>
 setF 4 v4 tm fun tm1=>
 M.pure tm1
theorem wo_List_q0:RegEq 17 16 wo_List_g wo_List_P0 wo_List_r0:=⟨by kernel_rfl,fun _ _ _ _ _ _ _ _ _=>by kernel_rfl⟩
/-- world.go:216 -/
noncomputable def wo_List_r1 (_:Env)(call round:CallT)(tm:T Value):M (T Value):=
 mv (T.get tm 0) fun v5=>
 M.bind (M.on (some (.func (.func 24) #[] #[])) fun f=>M.on (seqO [(some v5)]) fun l=>callV call round f l) fun v6=>
 setF 6 v6 tm fun tm1=>
 M.pure tm1
theorem wo_List_q1:RegEq 17 16 wo_List_g wo_List_P1 wo_List_r1:=⟨by kernel_rfl,fun _ _ _ _ _ _ _ _ _=>by kernel_rfl⟩
theorem wo_List_C2:condX wo_List_P2=some 6:=by kernel_rfl
/-- world.go:217 -/
noncomputable def wo_List_r3 (_:Env)(_ _:CallT)(tm:T Value):M (T Value):=
 mv (some (.slice none 0 0)) fun v4=>
 setF 4 v4 tm fun tm1=>
 M.pure tm1
theorem wo_List_q3:RegEq 17 16 wo_List_g wo_List_P3 wo_List_r3:=⟨by kernel_rfl,fun _ _ _ _ _ _ _ _ _=>by kernel_rfl⟩
theorem wo_List_E5: ∃k,wo_List_P5= .code .ret::k:=⟨wo_List_P5.tail,by kernel_rfl⟩
-- points:0:region>[1],1:region>[2],2:cond>[3,4],3:region>[5],4:region>[6],5:ret>,6:ret>
/-! ### (*satchel/world.World).Tree -/
noncomputable def wo_Tree_g:Nat:=globOf Tryz.f14
noncomputable def wo_Tree_body:Code:=Tryz.f14.body.getD .skip
theorem wo_Tree_fn:envS.fn.get 14=some Tryz.f14:=by kernel_rfl
theorem wo_Tree_W {a0 a1 a2:Value}{n:Nat}{s:St}{Q:Value→St→Prop}(h: ∀tm,T.get tm 0=some a0→T.get tm 1=some a1→T.get tm 2=some a2→W (runF envS n ⟨14,32,wo_Tree_g,tm,[.code wo_Tree_body], .run, .normal,none⟩) (s.cxN cxN) fun p s1=>Q p.1 (s1.cxN s.cx)):W (callW envS (runF envS n) 14 [a0,a1,a2]) s Q:=
 W.call (by kernel_rfl) (by kernel_rfl) wo_Tree_fn (by kernel_rfl) rfl rfl (by simp) (h _ (by kernel_rfl) (by kernel_rfl) (by kernel_rfl))
theorem wo_Tree_res:Tryz.f14.results.toList=[.tmp 6, .tmp 7]:=by kernel_rfl
noncomputable def wo_Tree_P0:List Item:=skim 64 [.code wo_Tree_body]
noncomputable def wo_Tree_P1:List Item:=skim 64 wo_Tree_P0.tail
theorem wo_Tree_S0_1:skim 64 wo_Tree_P0.tail=wo_Tree_P1:=by kernel_rfl
noncomputable def wo_Tree_P2:List Item:=skim 64 wo_Tree_P1.tail
theorem wo_Tree_S1_2:skim 64 wo_Tree_P1.tail=wo_Tree_P2:=by kernel_rfl
noncomputable def wo_Tree_P3:List Item:=skim 64 (brT wo_Tree_P2)
theorem wo_Tree_S2_3:skim 64 (brT wo_Tree_P2)=wo_Tree_P3:=by kernel_rfl
noncomputable def wo_Tree_P5:List Item:=skim 64 wo_Tree_P3.tail
theorem wo_Tree_S3_5:skim 64 wo_Tree_P3.tail=wo_Tree_P5:=by kernel_rfl
/-- world.go:222 -/
noncomputable def wo_Tree_r0 (_:Env)(_ _:CallT)(tm:T Value):M (T Value):=
 mv (some (.slice none 0 0)) fun v6=>
 setF 6 v6 tm fun tm1=>
 mv (some (.int .i64 0)) fun v7=>
 setF 7 v7 tm1 fun tm2=>
 M.pure tm2
theorem wo_Tree_q0:RegEq 14 32 wo_Tree_g wo_Tree_P0 wo_Tree_r0:=⟨by kernel_rfl,fun _ _ _ _ _ _ _ _ _=>by kernel_rfl⟩
/-- world.go:224 -/
noncomputable def wo_Tree_r1 (_:Env)(call round:CallT)(tm:T Value):M (T Value):=
 mv (T.get tm 0) fun v9=>
 M.bind (M.on (some (.func (.func 24) #[] #[])) fun f=>M.on (seqO [(some v9)]) fun l=>callV call round f l) fun v10=>
 mv (some v10) fun v8=>
 setF 8 v8 tm fun tm1=>
 M.pure tm1
theorem wo_Tree_q1:RegEq 14 32 wo_Tree_g wo_Tree_P1 wo_Tree_r1:=⟨by kernel_rfl,fun _ _ _ _ _ _ _ _ _=>by kernel_rfl⟩
theorem wo_Tree_C2:condX wo_Tree_P2=some 8:=by kernel_rfl
/-- world.go:225 -/
noncomputable def wo_Tree_r3 (_:Env)(_ _:CallT)(tm:T Value):M (T Value):=
 mv (some (.slice none 0 0)) fun v6=>
 setF 6 v6 tm fun tm1=>
 mv (some (.int .i64 1)) fun v7=>
 setF 7 v7 tm1 fun tm2=>
 M.pure tm2
theorem wo_Tree_q3:RegEq 14 32 wo_Tree_g wo_Tree_P3 wo_Tree_r3:=⟨by kernel_rfl,fun _ _ _ _ _ _ _ _ _=>by kernel_rfl⟩
theorem wo_Tree_E5: ∃k,wo_Tree_P5= .code .ret::k:=⟨wo_Tree_P5.tail,by kernel_rfl⟩
-- points:0:region>[1],1:region>[2],2:cond>[3,4],3:region>[5],4:region>[6],5:ret>,6:cond>[7,8],7:region>[5],8:region>[9],9:ret>
/-! ### (*satchel/world.World).Up -/
noncomputable def wo_Up_g:Nat:=globOf Tryz.f9
noncomputable def wo_Up_body:Code:=Tryz.f9.body.getD .skip
theorem wo_Up_fn:envS.fn.get 9=some Tryz.f9:=by kernel_rfl
theorem wo_Up_W {a0 a1:Value}{n:Nat}{s:St}{Q:Value→St→Prop}(h: ∀tm,T.get tm 0=some a0→T.get tm 1=some a1→W (runF envS n ⟨9,23,wo_Up_g,tm,[.code wo_Up_body], .run, .normal,none⟩) (s.cxN cxN) fun p s1=>Q p.1 (s1.cxN s.cx)):W (callW envS (runF envS n) 9 [a0,a1]) s Q:=
 W.call (by kernel_rfl) (by kernel_rfl) wo_Up_fn (by kernel_rfl) rfl rfl (by simp) (h _ (by kernel_rfl) (by kernel_rfl))
theorem wo_Up_res:Tryz.f9.results.toList=[.tmp 4]:=by kernel_rfl
noncomputable def wo_Up_P0:List Item:=skim 64 [.code wo_Up_body]
noncomputable def wo_Up_P1:List Item:=skim 64 wo_Up_P0.tail
theorem wo_Up_S0_1:skim 64 wo_Up_P0.tail=wo_Up_P1:=by kernel_rfl
noncomputable def wo_Up_P2:List Item:=skim 64 wo_Up_P1.tail
theorem wo_Up_S1_2:skim 64 wo_Up_P1.tail=wo_Up_P2:=by kernel_rfl
noncomputable def wo_Up_P3:List Item:=skim 64 wo_Up_P2.tail
theorem wo_Up_S2_3:skim 64 wo_Up_P2.tail=wo_Up_P3:=by kernel_rfl
/-- world.go:233 -/
noncomputable def wo_Up_r0 (_:Env)(_ _:CallT)(tm:T Value):M (T Value):=
 mv (some (.bool false)) fun v4=>
 setF 4 v4 tm fun tm1=>
 M.pure tm1
theorem wo_Up_q0:RegEq 9 23 wo_Up_g wo_Up_P0 wo_Up_r0:=⟨by kernel_rfl,fun _ _ _ _ _ _ _ _ _=>by kernel_rfl⟩
/-- world.go:234 -/
noncomputable def wo_Up_r1 (_:Env)(call round:CallT)(tm:T Value):M (T Value):=
 mv (T.get tm 0) fun v8=>
 mv (T.get tm 1) fun v9=>
 M.bind (M.on (some (.func (.func 40) #[] #[])) fun f=>M.on (seqO [(some v8),(some v9)]) fun l=>callV call round f l) fun v10=>
 mv (some v10) fun v7=>
 M.bind (oS (some v7) fun a=>kExt 0 a) fun v11=>
 M.bind (oS (some v7) fun a=>kExt 1 a) fun v12=>
 mv (some v11) fun v5=>
 setF 5 v5 tm fun tm1=>
 mv (some v12) fun v6=>
 setF 6 v6 tm1 fun tm2=>
 M.pure tm2
theorem wo_Up_q1:RegEq 9 23 wo_Up_g wo_Up_P1 wo_Up_r1:=⟨by kernel_rfl,fun _ _ _ _ _ _ _ _ _=>by kernel_rfl⟩
/-- world.go:235 -/
noncomputable def wo_Up_r2 (E:Env)(call round:CallT)(tm:T Value):M (T Value):=
 mv (T.get tm 6) fun v13=>
 mv (some v13) fun v14=>
 M.bind (M.chk (isK v14) (M.if (isB v14 true) (oS (T.get tm 5) fun a=>M.pure a) (M.pure undef))) fun v15=>
 M.bind (M.chk (isK v14) (M.if (isB v14 true) (M.on (some v15) fun f => M.on (seqO []) fun l => callI E call "satchel/world.there" f l) (M.pure undef))) fun v16 =>
 M.bind (M.on (some v14) fun a=>M.on (some v16) fun b=>M.on (some (.bool false)) fun c=>kPick a b c) fun v17=>
 mv (some v17) fun v18=>
 M.bind (M.chk (isK v18) (M.if (isB v18 true) (oS (T.get tm 5) fun a=>M.pure a) (M.pure undef))) fun v19=>
 M.bind (M.chk (isK v18) (M.if (isB v18 true) (M.on (some v19) fun f => M.on (seqO []) fun l => callI E call "satchel/world.disk" f l) (M.pure undef))) fun v20 =>
 M.bind (M.chk (isK v18) (M.if (isB v18 true) (M.on (some (.func (.func 41) #[] #[])) fun f=>M.on (seqO [(some v20)]) fun l=>callV call round f l) (M.pure undef))) fun v21=>
 M.bind (M.on (some v18) fun a=>M.on (some v21) fun b=>M.on (some (.bool false)) fun c=>kPick a b c) fun v22=>
 mv (some v22) fun v4=>
 setF 4 v4 tm fun tm1=>
 M.pure tm1
theorem wo_Up_q2:RegEq 9 23 wo_Up_g wo_Up_P2 wo_Up_r2:=⟨by kernel_rfl,fun _ _ _ _ _ _ _ _ _=>by kernel_rfl⟩
theorem wo_Up_E3: ∃k,wo_Up_P3= .code .ret::k:=⟨wo_Up_P3.tail,by kernel_rfl⟩
-- points:0:region>[1],1:region>[2],2:region>[3],3:ret>
/-! ### (*satchel/world.World).Now -/
noncomputable def wo_Now_g:Nat:=globOf Tryz.f18
noncomputable def wo_Now_body:Code:=Tryz.f18.body.getD .skip
theorem wo_Now_fn:envS.fn.get 18=some Tryz.f18:=by kernel_rfl
theorem wo_Now_W {a0:Value}{n:Nat}{s:St}{Q:Value→St→Prop}(h: ∀tm,T.get tm 0=some a0→W (runF envS n ⟨18,9,wo_Now_g,tm,[.code wo_Now_body], .run, .normal,none⟩) (s.cxN cxN) fun p s1=>Q p.1 (s1.cxN s.cx)):W (callW envS (runF envS n) 18 [a0]) s Q:=
 W.call (by kernel_rfl) (by kernel_rfl) wo_Now_fn (by kernel_rfl) rfl rfl (by simp) (h _ (by kernel_rfl))
theorem wo_Now_res:Tryz.f18.results.toList=[.tmp 2]:=by kernel_rfl
noncomputable def wo_Now_P0:List Item:=skim 64 [.code wo_Now_body]
noncomputable def wo_Now_P1:List Item:=skim 64 wo_Now_P0.tail
theorem wo_Now_S0_1:skim 64 wo_Now_P0.tail=wo_Now_P1:=by kernel_rfl
noncomputable def wo_Now_P2:List Item:=skim 64 wo_Now_P1.tail
theorem wo_Now_S1_2:skim 64 wo_Now_P1.tail=wo_Now_P2:=by kernel_rfl
noncomputable def wo_Now_P3:List Item:=skim 64 (brT wo_Now_P2)
theorem wo_Now_S2_3:skim 64 (brT wo_Now_P2)=wo_Now_P3:=by kernel_rfl
noncomputable def wo_Now_P5:List Item:=skim 64 wo_Now_P3.tail
theorem wo_Now_S3_5:skim 64 wo_Now_P3.tail=wo_Now_P5:=by kernel_rfl
/-- world.go:238 -/
noncomputable def wo_Now_r0 (_:Env)(_ _:CallT)(tm:T Value):M (T Value):=
 mv (some (.int .i64 0)) fun v2=>
 setF 2 v2 tm fun tm1=>
 M.pure tm1
theorem wo_Now_q0:RegEq 18 9 wo_Now_g wo_Now_P0 wo_Now_r0:=⟨by kernel_rfl,fun _ _ _ _ _ _ _ _ _=>by kernel_rfl⟩
/-- world.go:239 -/
noncomputable def wo_Now_r1 (_:Env)(call round:CallT)(tm:T Value):M (T Value):=
 mv (T.get tm 0) fun v3=>
 M.bind (M.on (some (.func (.func 24) #[] #[])) fun f=>M.on (seqO [(some v3)]) fun l=>callV call round f l) fun v4=>
 setF 4 v4 tm fun tm1=>
 M.pure tm1
theorem wo_Now_q1:RegEq 18 9 wo_Now_g wo_Now_P1 wo_Now_r1:=⟨by kernel_rfl,fun _ _ _ _ _ _ _ _ _=>by kernel_rfl⟩
theorem wo_Now_C2:condX wo_Now_P2=some 4:=by kernel_rfl
/-- world.go:240 -/
noncomputable def wo_Now_r3 (_:Env)(_ _:CallT)(tm:T Value):M (T Value):=
 mv (some (.int .i64 0)) fun v2=>
 setF 2 v2 tm fun tm1=>
 M.pure tm1
theorem wo_Now_q3:RegEq 18 9 wo_Now_g wo_Now_P3 wo_Now_r3:=⟨by kernel_rfl,fun _ _ _ _ _ _ _ _ _=>by kernel_rfl⟩
theorem wo_Now_E5: ∃k,wo_Now_P5= .code .ret::k:=⟨wo_Now_P5.tail,by kernel_rfl⟩
-- points:0:region>[1],1:region>[2],2:cond>[3,4],3:region>[5],4:region>[6],5:ret>,6:ret>
/-! ### (*satchel/world.World).Mail -/
noncomputable def wo_Mail_g:Nat:=globOf Tryz.f19
noncomputable def wo_Mail_body:Code:=Tryz.f19.body.getD .skip
theorem wo_Mail_fn:envS.fn.get 19=some Tryz.f19:=by kernel_rfl
theorem wo_Mail_W {a0:Value}{n:Nat}{s:St}{Q:Value→St→Prop}(h: ∀tm,T.get tm 0=some a0→W (runF envS n ⟨19,10,wo_Mail_g,tm,[.code wo_Mail_body], .run, .normal,none⟩) (s.cxN cxN) fun p s1=>Q p.1 (s1.cxN s.cx)):W (callW envS (runF envS n) 19 [a0]) s Q:=
 W.call (by kernel_rfl) (by kernel_rfl) wo_Mail_fn (by kernel_rfl) rfl rfl (by simp) (h _ (by kernel_rfl))
theorem wo_Mail_res:Tryz.f19.results.toList=[.tmp 2]:=by kernel_rfl
noncomputable def wo_Mail_P0:List Item:=skim 64 [.code wo_Mail_body]
noncomputable def wo_Mail_P1:List Item:=skim 64 wo_Mail_P0.tail
theorem wo_Mail_S0_1:skim 64 wo_Mail_P0.tail=wo_Mail_P1:=by kernel_rfl
noncomputable def wo_Mail_P2:List Item:=skim 64 wo_Mail_P1.tail
theorem wo_Mail_S1_2:skim 64 wo_Mail_P1.tail=wo_Mail_P2:=by kernel_rfl
noncomputable def wo_Mail_P3:List Item:=skim 64 (brT wo_Mail_P2)
theorem wo_Mail_S2_3:skim 64 (brT wo_Mail_P2)=wo_Mail_P3:=by kernel_rfl
noncomputable def wo_Mail_P5:List Item:=skim 64 wo_Mail_P3.tail
theorem wo_Mail_S3_5:skim 64 wo_Mail_P3.tail=wo_Mail_P5:=by kernel_rfl
/-- world.go:245 -/
noncomputable def wo_Mail_r0 (_:Env)(_ _:CallT)(tm:T Value):M (T Value):=
 mv (some (.slice none 0 0)) fun v2=>
 setF 2 v2 tm fun tm1=>
 M.pure tm1
theorem wo_Mail_q0:RegEq 19 10 wo_Mail_g wo_Mail_P0 wo_Mail_r0:=⟨by kernel_rfl,fun _ _ _ _ _ _ _ _ _=>by kernel_rfl⟩
/-- world.go:246 -/
noncomputable def wo_Mail_r1 (_:Env)(call round:CallT)(tm:T Value):M (T Value):=
 mv (T.get tm 0) fun v3=>
 M.bind (M.on (some (.func (.func 24) #[] #[])) fun f=>M.on (seqO [(some v3)]) fun l=>callV call round f l) fun v4=>
 setF 4 v4 tm fun tm1=>
 M.pure tm1
theorem wo_Mail_q1:RegEq 19 10 wo_Mail_g wo_Mail_P1 wo_Mail_r1:=⟨by kernel_rfl,fun _ _ _ _ _ _ _ _ _=>by kernel_rfl⟩
theorem wo_Mail_C2:condX wo_Mail_P2=some 4:=by kernel_rfl
/-- world.go:247 -/
noncomputable def wo_Mail_r3 (_:Env)(_ _:CallT)(tm:T Value):M (T Value):=
 mv (some (.slice none 0 0)) fun v2=>
 setF 2 v2 tm fun tm1=>
 M.pure tm1
theorem wo_Mail_q3:RegEq 19 10 wo_Mail_g wo_Mail_P3 wo_Mail_r3:=⟨by kernel_rfl,fun _ _ _ _ _ _ _ _ _=>by kernel_rfl⟩
theorem wo_Mail_E5: ∃k,wo_Mail_P5= .code .ret::k:=⟨wo_Mail_P5.tail,by kernel_rfl⟩
-- points:0:region>[1],1:region>[2],2:cond>[3,4],3:region>[5],4:region>[6],5:ret>,6:ret>
end Go.Proofs.YtapojfiplajfaaaGreatDoor.Am
/- Words of memory that is read alone;satchelkit.BigTree answers something (at most 10 entries). -/
namespace Go.Proofs.YtapojfiplajfaaaGreatDoor.Am
open Go.RowKit
theorem cellsOf_agg (l:List Value):cellsOf (.agg l.toArray)=l:=rfl
/-- Reads of whatever. -/
abbrev Any:Nat→Prop:=fun _=>True
theorem Ext.any {F G:Nat→Prop}{s s1:St}(h:Ext F G s s1)(hb:s.lim≤s.next):Ext Any G s s1:=h.weak hb (fun _ _ _=>trivial) fun _ _ h=>h
theorem Ext.then0 {F:Nat→Prop}{s s1 s2:St}(h:Ext Any Non s s1)(k:Ext F Non s1 s2)(hb:s.lim≤s.next):Ext Any Non s s2:=h.trans k hb (fun _ _ _=>trivial) fun _ _ h=>h
theorem Ext.thenRd {s s1:St}(h:Ext Any Non s s1)(hb:s.lim≤s.next)(l:Nat):Ext Any Non s (s1.rdN l):=h.then0 (Ext.rdN (F:=Any) s1 l fun _=>trivial) hb
theorem Ext.cx' {F G:Nat→Prop}{s s1:St}{c:Ctx}(x:Ext F G (s.cxN c) s1):Ext F G s (s1.cxN s.cx):=⟨x.nxt,x.lim,rfl,x.mem,x.rd,x.wr⟩
section
variable {E:Env}{t:Nat}{s:St}{xo yo:Operand}
end
theorem an_str:isStrT envS 9=true:=by kernel_rfl
theorem an_str_1:tyS envS 9=some (1,false):=by kernel_rfl
theorem an_by:slN envS 100=some 1:=by kernel_rfl
theorem an_by_1:tyS envS 100=some (1,false):=by kernel_rfl
theorem an_en:slN envS 38=some 5:=by kernel_rfl
theorem an_en_1:tyS envS 38=some (1,false):=by kernel_rfl
theorem fl_en0:fldN envS 102 0=some (0,1,false):=by kernel_rfl
theorem fl_en3:fldN envS 102 3=some (3,1,false):=by kernel_rfl
theorem fl_en4:fldN envS 102 4=some (4,1,false):=by kernel_rfl
/-- An entry lies there. -/
def EnAt (s:St)(b o:Nat):Prop:= ∃(x y:ByteArray) (p:Option Addr) (n c:Nat),At s b (o+0) (.string x)∧At s b (o+3) (.slice p n c)∧At s b (o+4) (.string y)
/-- A slice of so many entries. -/
def EnR (s:St)(v:Value)(k:Nat):Prop:=(v= .slice none 0 0∧k=0)∨ ∃b o c,v= .slice (some ⟨b,o,none⟩) k c∧ ∀i,i<k→EnAt s b (o+i*5)
theorem EnR.same {s s':St}{v:Value}{k:Nat}(h:EnR s v k)(hm:s'.mem=s.mem)(hn:s'.next=s.next):EnR s' v k:=by
 rcases h with h|⟨b,o,c,e,h⟩
 ·exact .inl h
 ·refine .inr ⟨b,o,c,e,fun i hi=> ?_⟩
  obtain⟨x,y,p,n,c,h1,h2,h3⟩:=h i hi
  exact⟨x,y,p,n,c,h1.same hm hn,h2.same hm hn,h3.same hm hn⟩
theorem EnR.ext0 {F:Nat→Prop}{s s':St}{v:Value}{k:Nat}(h:EnR s v k)(x:Ext F Non s s'):EnR s' v k:=by
 rcases h with h|⟨b,o,c,e,h⟩
 ·exact .inl h
 ·refine .inr ⟨b,o,c,e,fun i hi=> ?_⟩
  obtain⟨x1,y,p,n,c,h1,h2,h3⟩:=h i hi
  exact⟨x1,y,p,n,c,h1.ext x fun h=>h,h2.ext x fun h=>h,h3.ext x fun h=>h⟩
theorem EnR.len {s s':St}{v:Value}{k:Nat}(h:EnR s v k)(Q:Value→St→Prop):W (aBuiltin envS .len [38] [v]) s' Q=Q (.int .i64 (k:Nat)) s':=by
 rcases h with⟨rfl,rfl⟩|⟨b,o,c,rfl,_⟩
 ·exact W_lenSl an_en Q
 ·exact W_lenSl an_en Q
section
variable {vl:Value}{len:Nat}{Q:Value×FrameMode→St→Prop}{s0:St}
theorem tree_loop (hb0:s0.lim≤s0.next)(he:EnR s0 vl len)(hcx:s0.cx=cxN)(q: ∀b s1,Ext Any Non s0 s1→Q (.bool b, .run) s1):
  ∀(k i n:Nat) (x:Int) (tm:T Value) (s:St) (td:List Item),i+k=11→12*k+20≤n→skim 64 td=kit_BigTree_P3→Ext Any Non s0 s→
  T.get tm 0=some vl→T.get tm 1=some (.int .i64 10)→T.get tm 2=some (.int .i64 4000)→T.get tm 7=some (.int .i64 x)→T.get tm 8=some (.int .i64 (i:Nat))→
  W (runF envS n ⟨45,kit_BigTree_nt,kit_BigTree_g,tm,td, .run, .normal,none⟩) s Q:=by
 have tail: ∀(n':Nat) (x:Int) (tm:T Value) (s:St) (td:List Item),10≤n'→skim 64 td=kit_BigTree_P6→Ext Any Non s0 s→T.get tm 0=some vl→T.get tm 1=some (.int .i64 10)→T.get tm 2=some (.int .i64 4000)→T.get tm 7=some (.int .i64 x)→W (runF envS n' ⟨45,kit_BigTree_nt,kit_BigTree_g,tm,td, .run, .normal,none⟩) s Q:=by
  intro n' x tm s td hn hT hx h0 h1 h2 h7
  refine kit_BigTree_q6.w hT (by omega) ?_
  simp only[kit_BigTree_r6,W_bind,W_oS,W_on,W_pure,W_mv,W_setF,seqO_cons,seqO_nil,onO_some',h0,h1]
  rw[he.len]
  try simp only[isK_bool,W_chk,W_pick,W_gtr64]
  cases e1:decide ((10:Int)<((len:Nat):Int))with
  |true=>
   simp only[W_pure,reduceIte,isB_tf,W_ifF, ↓reduceIte]
   exact W.end' (rs:=[6]) (vs:=[.bool true]) kit_BigTree_S6_8 (.inl kit_BigTree_E8) (by omega) kit_BigTree_fn kit_BigTree_res (hx.cx.trans hcx) (by simp[T.get_set]) (q _ s hx)
  |false=>
   simp only[W_oS,W_pure,reduceIte,isB_ff,W_ifT,reduceCtorEq, ↓reduceIte,W_gtr64,h2,h7]
   exact W.end' (rs:=[6]) (vs:=[.bool (decide (4000<x))]) kit_BigTree_S6_8 (.inl kit_BigTree_E8) (by omega) kit_BigTree_fn kit_BigTree_res (hx.cx.trans hcx) (by simp[T.get_set]) (q _ s hx)
 intro k
 induction k with
 |zero=>
  intro i n x tm s td hi hn hT hx h0 h1 h2 h7 h8
  refine kit_BigTree_q3.w hT (by omega) ?_
  simp only[kit_BigTree_r3,W_bind,W_oS,W_on,W_pure,W_mv,W_setF,seqO_cons,seqO_nil,onO_some',h0,h8]
  rw[he.len]
  try simp only[isK_bool,W_chk,W_pick,W_lss64]
  cases e1:decide (((i:Nat):Int)<((len:Nat):Int))with
  |true=>
   have e2:decide (((i:Nat):Int)≤10)=false:=decide_eq_false (by omega)
   simp only[W_oS,W_pure,reduceIte,isB_tt,W_ifT, ↓reduceIte,W_leq64,h1,e2]
   refine W.cond (v:=false) kit_BigTree_S3_4 kit_BigTree_C4 (by simp[T.get_set]) (by omega) (fun h=>by cases h) fun _=> ?_
   exact tail _ x _ s _ (by omega) kit_BigTree_S4_6 hx (by simp[T.get_set,h0]) (by simp[T.get_set,h1]) (by simp[T.get_set,h2]) (by simp[T.get_set,h7])
  |false=>
   simp only[W_pure,reduceIte,isB_ft,W_ifF,reduceCtorEq, ↓reduceIte]
   refine W.cond (v:=false) kit_BigTree_S3_4 kit_BigTree_C4 (by simp[T.get_set]) (by omega) (fun h=>by cases h) fun _=> ?_
   exact tail _ x _ s _ (by omega) kit_BigTree_S4_6 hx (by simp[T.get_set,h0]) (by simp[T.get_set,h1]) (by simp[T.get_set,h2]) (by simp[T.get_set,h7])
 |succ k ih=>
  intro i n x tm s td hi hn hT hx h0 h1 h2 h7 h8
  refine kit_BigTree_q3.w hT (by omega) ?_
  simp only[kit_BigTree_r3,W_bind,W_oS,W_on,W_pure,W_mv,W_setF,seqO_cons,seqO_nil,onO_some',h0,h8]
  rw[he.len]
  try simp only[isK_bool,W_chk,W_pick,W_lss64]
  cases e1:decide (((i:Nat):Int)<((len:Nat):Int))with
  |false=>
   simp only[W_pure,reduceIte,isB_ft,W_ifF,reduceCtorEq, ↓reduceIte]
   refine W.cond (v:=false) kit_BigTree_S3_4 kit_BigTree_C4 (by simp[T.get_set]) (by omega) (fun h=>by cases h) fun _=> ?_
   exact tail _ x _ s _ (by omega) kit_BigTree_S4_6 hx (by simp[T.get_set,h0]) (by simp[T.get_set,h1]) (by simp[T.get_set,h2]) (by simp[T.get_set,h7])
  |true=>
   have hil:i<len:=by
    have:=of_decide_eq_true e1
    omega
   have e2:decide (((i:Nat):Int)≤10)=true:=decide_eq_true (by omega)
   simp only[W_oS,W_pure,reduceIte,isB_tt,W_ifT, ↓reduceIte,W_leq64,h1,e2]
   refine W.cond (v:=true) kit_BigTree_S3_4 kit_BigTree_C4 (by simp[T.get_set]) (by omega) (fun _=> ?_) fun h=>by cases h
   obtain⟨b,o,c,ev,ge⟩: ∃b o c,vl= .slice (some ⟨b,o,none⟩) len c∧EnAt s b (o+i*5):=by
    rcases he.ext0 hx with⟨_,rfl⟩|⟨b,o,c,e,h⟩
    ·omega
    ·exact⟨b,o,c,e,h i hil⟩
   obtain⟨x1,x2,p,m,c',g0,g3,g4⟩:=ge
   refine kit_BigTree_q5.w kit_BigTree_S4_5 (by omega) ?_
   simp only[kit_BigTree_d5,T.get_set,reduceIte,Nat.reduceEqDiff,h0,ev,h7,h8,oS_some,seqO_cons,seqO_nil,onO_some',W_dpure]
   rw[W_dq fun s Q=>W_idxSl (s:=s) an_en hil Q]
   rw[W_dq fun s Q=>W_fld (s:=s) fl_en0 (by decide) Q]
   refine W.dload an_str_1 (g0.same rfl rfl) fun rd1 hr1=> ?_
   rw[W_dq fun s Q=>W_lenS (s:=s) an_str _ Q]
   dsimp only
   rw[W_dq fun s Q=>W_add64 (s:=s) _ _]
   simp only[W_dpure]
   rw[W_dq fun s Q=>W_idxSl (s:=s) an_en hil Q]
   rw[W_dq fun s Q=>W_fld (s:=s) fl_en3 (by decide) Q]
   refine W.dload an_by_1 (g3.same rfl rfl) fun rd2 hr2=> ?_
   rw[W_dq fun s Q=>W_lenSl (s:=s) an_by Q]
   dsimp only
   rw[W_dq fun s Q=>W_add64 (s:=s) _ _]
   simp only[W_dpure]
   rw[W_dq fun s Q=>W_idxSl (s:=s) an_en hil Q]
   rw[W_dq fun s Q=>W_fld (s:=s) fl_en4 (by decide) Q]
   refine W.dload an_str_1 (g4.same rfl rfl) fun rd3 hr3=> ?_
   rw[W_dq fun s Q=>W_lenS (s:=s) an_str _ Q]
   dsimp only
   rw[W_dq fun s Q=>W_add64 (s:=s) _ _,W_pure]
   refine⟨apartM_q (by simp) (by simp), ?_⟩
   refine W.cast (kit_BigTree_L5 _ _ _ _ _ _ _ _ _ _ _ _ _ _ _ _ _ _ _ _ _ _ _ _ _ _ _) ?_
   simp only[W_bind,W_oS,W_pure,W_setT]
   refine kit_BigTree_q7.w kit_BigTree_S5_7 (by omega) ?_
   have ei:wrap64 ((i:Nat)+1:Int)=((i+1:Nat):Int):=by
    rw[wrap64_id (by omega) (by omega)];simp
   simp only[kit_BigTree_r7,W_bind,W_oS,W_pure,W_mv,W_setF,T.get_set,reduceIte,Nat.reduceEqDiff,Nat.reduceEqDiff, ↓reduceIte,W_add64,h8,ei]
   exact ih (i+1) _ _ _ _ _ (by omega) (by omega) kit_BigTree_S7_3 (hx.then0 (Ext.draw (F:=Any) (Nat.le_refl _) (fun _ _=>rfl) (by simp) fun _ _ _ _ _=>trivial) hb0) (by simp[T.get_set,h0,ev]) (by simp[T.get_set,h1]) (by simp[T.get_set,h2]) (by simp[T.get_set];rfl) (by simp[T.get_set])
end
theorem kit_BigTree_spec {n len:Nat}{vl:Value}{s:St}{Q:Value→St→Prop}(hb:s.lim≤s.next)(he:EnR s vl len)(hn:300≤n)(q: ∀b s1,Ext Any Non s s1→Q (.bool b) s1):W (callW envS (runF envS n) 45 [vl, .int .i64 10, .int .i64 4000]) s Q:=by
 refine kit_BigTree_W fun tm h0 h1 h2=> ?_
 refine kit_BigTree_q0.w rfl (by omega) ?_
 simp only[kit_BigTree_r0,W_pure,W_mv,W_setF]
 refine kit_BigTree_q1.w kit_BigTree_S0_1 (by omega) ?_
 simp only[kit_BigTree_r1,W_pure,W_mv,W_setF]
 refine kit_BigTree_q2.w kit_BigTree_S1_2 (by omega) ?_
 simp only[kit_BigTree_r2,W_pure,W_mv,W_setF]
 exact tree_loop (s0:=s.cxN cxN) hb (he.same rfl rfl) rfl (fun b s1 x1=>q b _ x1.cx') 11 0 _ 0 _ _ _ (by omega) (by omega) kit_BigTree_S2_3 (Ext.refl _) (by simp[T.get_set,h0]) (by simp[T.get_set,h1]) (by simp[T.get_set,h2]) (by simp[T.get_set]) (by simp[T.get_set])
end Go.Proofs.YtapojfiplajfaaaGreatDoor.Am
