/- What each region of some functions comes to, as a word of the evaluator: equations, each checked by the kernel. Printed by a program. -/
import Derived.Test.YtieohifdhplgbaaGreatDoorANo22
import Derived.Test.YtieohifdhplgbaaGreatDoorANo07
import Derived.KernelRfl
namespace Go.Proofs.YtieohifdhplgbaaGreatDoor.Am
open Go.RowKit

/-! ### satchel/satchellaw29.AgentNone -/
noncomputable def law29_None_g : Nat := globOf Tryz.f3
abbrev law29_None_nt : Nat := 126
noncomputable def law29_None_body : Code := Tryz.f3.body.getD .skip
theorem law29_None_fn : envS.fn.get 3 = some Tryz.f3 := by kernel_rfl
theorem law29_None_W {a0 a1 a2 : Value} {n : Nat} {s : St} {Q : Value → St → Prop} (h : ∀ tm, T.get tm 0 = some a0 → T.get tm 1 = some a1 → T.get tm 2 = some a2 → W (runF envS n ⟨3, 126, law29_None_g, tm, [.code law29_None_body], .run, .normal, none⟩) (s.cxN cxN) fun p s1 => Q p.1 (s1.cxN s.cx)) : W (callW envS (runF envS n) 3 [a0, a1, a2]) s Q :=
  W.call (by kernel_rfl) (by kernel_rfl) law29_None_fn (by kernel_rfl) rfl rfl (by simp) (h _ (by kernel_rfl) (by kernel_rfl) (by kernel_rfl))
theorem law29_None_res : Tryz.f3.results.toList = [.tmp 6] := by kernel_rfl
noncomputable def law29_None_P0 : List Item := skim 64 [.code law29_None_body]
noncomputable def law29_None_P1 : List Item := skim 64 law29_None_P0.tail
theorem law29_None_S0_1 : skim 64 law29_None_P0.tail = law29_None_P1 := by kernel_rfl
noncomputable def law29_None_P2 : List Item := skim 64 law29_None_P1.tail
theorem law29_None_S1_2 : skim 64 law29_None_P1.tail = law29_None_P2 := by kernel_rfl
noncomputable def law29_None_P3 : List Item := skim 64 (brT law29_None_P2)
theorem law29_None_S2_3 : skim 64 (brT law29_None_P2) = law29_None_P3 := by kernel_rfl
noncomputable def law29_None_P4 : List Item := skim 64 (brF law29_None_P2)
theorem law29_None_S2_4 : skim 64 (brF law29_None_P2) = law29_None_P4 := by kernel_rfl
noncomputable def law29_None_P5 : List Item := skim 64 law29_None_P3.tail
theorem law29_None_S3_5 : skim 64 law29_None_P3.tail = law29_None_P5 := by kernel_rfl
noncomputable def law29_None_P6 : List Item := skim 64 law29_None_P4.tail
theorem law29_None_S4_6 : skim 64 law29_None_P4.tail = law29_None_P6 := by kernel_rfl
noncomputable def law29_None_P7 : List Item := skim 64 law29_None_P6.tail
theorem law29_None_S6_7 : skim 64 law29_None_P6.tail = law29_None_P7 := by kernel_rfl
noncomputable def law29_None_P8 : List Item := skim 64 law29_None_P7.tail
theorem law29_None_S7_8 : skim 64 law29_None_P7.tail = law29_None_P8 := by kernel_rfl
noncomputable def law29_None_P9 : List Item := skim 64 law29_None_P8.tail
theorem law29_None_S8_9 : skim 64 law29_None_P8.tail = law29_None_P9 := by kernel_rfl
noncomputable def law29_None_P10 : List Item := skim 64 law29_None_P9.tail
theorem law29_None_S9_10 : skim 64 law29_None_P9.tail = law29_None_P10 := by kernel_rfl
noncomputable def law29_None_P11 : List Item := skim 64 (brT law29_None_P10)
theorem law29_None_S10_11 : skim 64 (brT law29_None_P10) = law29_None_P11 := by kernel_rfl
noncomputable def law29_None_P12 : List Item := skim 64 (brF law29_None_P10)
theorem law29_None_S10_12 : skim 64 (brF law29_None_P10) = law29_None_P12 := by kernel_rfl
noncomputable def law29_None_P13 : List Item := skim 64 law29_None_P11.tail
theorem law29_None_S11_13 : skim 64 law29_None_P11.tail = law29_None_P13 := by kernel_rfl
noncomputable def law29_None_P14 : List Item := skim 64 law29_None_P12.tail
theorem law29_None_S12_14 : skim 64 law29_None_P12.tail = law29_None_P14 := by kernel_rfl
noncomputable def law29_None_P15 : List Item := skim 64 law29_None_P13.tail
theorem law29_None_S13_15 : skim 64 law29_None_P13.tail = law29_None_P15 := by kernel_rfl
noncomputable def law29_None_P16 : List Item := skim 64 law29_None_P14.tail
theorem law29_None_S14_16 : skim 64 law29_None_P14.tail = law29_None_P16 := by kernel_rfl
noncomputable def law29_None_P17 : List Item := skim 64 law29_None_P15.tail
theorem law29_None_S15_17 : skim 64 law29_None_P15.tail = law29_None_P17 := by kernel_rfl
noncomputable def law29_None_P18 : List Item := skim 64 law29_None_P17.tail
theorem law29_None_S17_18 : skim 64 law29_None_P17.tail = law29_None_P18 := by kernel_rfl
noncomputable def law29_None_P19 : List Item := skim 64 (brT law29_None_P18)
theorem law29_None_S18_19 : skim 64 (brT law29_None_P18) = law29_None_P19 := by kernel_rfl
noncomputable def law29_None_P20 : List Item := skim 64 (brF law29_None_P18)
theorem law29_None_S18_20 : skim 64 (brF law29_None_P18) = law29_None_P20 := by kernel_rfl
noncomputable def law29_None_P21 : List Item := skim 64 law29_None_P19.tail
theorem law29_None_S19_21 : skim 64 law29_None_P19.tail = law29_None_P21 := by kernel_rfl
theorem law29_None_S20_9 : skim 64 law29_None_P20.tail = law29_None_P9 := by kernel_rfl
/-- law.go:207 -/
noncomputable def law29_None_r0 (E : Env) (call round : CallT) (tm : T Value) : M (T Value) :=
  M.bind (oS (T.get tm 0) fun a => kBox a) fun v3 =>
  setF 3 v3 tm fun tm1 =>
  mv (some (.bool false)) fun v6 =>
  setF 6 v6 tm1 fun tm2 =>
  M.pure tm2
theorem law29_None_q0 : RegEq 3 126 law29_None_g law29_None_P0 law29_None_r0 := ⟨by kernel_rfl, fun _ _ _ _ _ _ _ _ _ => by kernel_rfl⟩
/-- law.go:208 -/
noncomputable def law29_None_r1 (E : Env) (call round : CallT) (tm : T Value) : M (T Value) :=
  M.bind (oS (T.get tm 3) fun a => kFld E 24 a 3) fun v18 =>
  M.bind (oS (some v18) fun a => kLoad E 22 a) fun v19 =>
  M.bind (M.on (some (.func (.func 5) #[] #[])) fun f => M.on (seqO [(some v19), (some (.int .i64 12)), (some (.int .i64 4000))]) fun l => callV call round f l) fun v20 =>
  mv (some v20) fun v21 =>
  M.bind (M.chk (isK v21) (M.if (isB v21 false) (oS (T.get tm 1) fun a => M.pure a) (M.pure undef))) fun v22 =>
  M.bind (M.chk (isK v21) (M.if (isB v21 false) (oS (seqO [(some v22)]) fun l => aBuiltin E .len [25] l) (M.pure undef))) fun v23 =>
  M.bind (M.chk (isK v21) (M.if (isB v21 false) (oS (some v23) fun a => oS (some (.int .i64 1500)) fun b => Cl.get (aBin E .gtr 3 (.tmp 23) (.const (.int .i64 1500))) a b) (M.pure undef))) fun v24 =>
  M.bind (M.on (some v21) fun a => M.on (some (.bool true)) fun b => M.on (some v24) fun c => kPick a b c) fun v25 =>
  setF 25 v25 tm fun tm1 =>
  M.pure tm1
theorem law29_None_q1 : RegEq 3 126 law29_None_g law29_None_P1 law29_None_r1 := ⟨by kernel_rfl, fun _ _ _ _ _ _ _ _ _ => by kernel_rfl⟩
theorem law29_None_C2 : condX law29_None_P2 = some 25 := by kernel_rfl
/-- law.go:209 -/
noncomputable def law29_None_r3 (E : Env) (call round : CallT) (tm : T Value) : M (T Value) :=
  M.bind (M.on (some (.func (.func 6) #[] #[])) fun f => M.on (seqO []) fun l => callV call round f l) fun v26 =>
  mv (some v26) fun v6 =>
  setF 6 v6 tm fun tm1 =>
  M.pure tm1
theorem law29_None_q3 : RegEq 3 126 law29_None_g law29_None_P3 law29_None_r3 := ⟨by kernel_rfl, fun _ _ _ _ _ _ _ _ _ => by kernel_rfl⟩
/-- law.go:211 -/
noncomputable def law29_None_r4 (E : Env) (call round : CallT) (tm : T Value) : M (T Value) :=
  mv (some (.pointer none)) fun v7 =>
  setF 7 v7 tm fun tm1 =>
  M.pure tm1
theorem law29_None_q4 : RegEq 3 126 law29_None_g law29_None_P4 law29_None_r4 := ⟨by kernel_rfl, fun _ _ _ _ _ _ _ _ _ => by kernel_rfl⟩
theorem law29_None_E5 : ∃ k, law29_None_P5 = .code .ret :: k := ⟨law29_None_P5.tail, by kernel_rfl⟩
/-- law.go:212 -/
noncomputable def law29_None_r6 (E : Env) (call round : CallT) (tm : T Value) : M (T Value) :=
  mv (some (.pointer none)) fun v8 =>
  setF 8 v8 tm fun tm1 =>
  M.pure tm1
theorem law29_None_q6 : RegEq 3 126 law29_None_g law29_None_P6 law29_None_r6 := ⟨by kernel_rfl, fun _ _ _ _ _ _ _ _ _ => by kernel_rfl⟩
/-- law.go:213 -/
noncomputable def law29_None_r7 (E : Env) (call round : CallT) (tm : T Value) : M (T Value) :=
  mv (T.get tm 7) fun v27 =>
  M.bind (oS (seqP []) fun ps => aBuild E 35 ps) fun v28 =>
  M.bind (oS (some v28) fun a => kBox a) fun v29 =>
  M.bind (oS (seqP [(0, (some v27)), (1, (some v29))]) fun ps => aBuildS E 36 2 ps) fun v30 =>
  mv (some v30) fun v9 =>
  setF 9 v9 tm fun tm1 =>
  M.pure tm1
theorem law29_None_q7 : RegEq 3 126 law29_None_g law29_None_P7 law29_None_r7 := ⟨by kernel_rfl, fun _ _ _ _ _ _ _ _ _ => by kernel_rfl⟩
/-- law.go:214 -/
noncomputable def law29_None_r8 (E : Env) (call round : CallT) (tm : T Value) : M (T Value) :=
  mv (some (.int .i64 0)) fun v10 =>
  setF 10 v10 tm fun tm1 =>
  M.pure tm1
theorem law29_None_q8 : RegEq 3 126 law29_None_g law29_None_P8 law29_None_r8 := ⟨by kernel_rfl, fun _ _ _ _ _ _ _ _ _ => by kernel_rfl⟩
/-- law.go:214 -/
noncomputable def law29_None_r9 (E : Env) (call round : CallT) (tm : T Value) : M (T Value) :=
  mv (T.get tm 10) fun v31 =>
  M.bind (oS (some v31) fun a => oS (some (.int .i64 2)) fun b => Cl.get (aBin E .lss 3 (.tmp 31) (.const (.int .i64 2))) a b) fun v32 =>
  setF 32 v32 tm fun tm1 =>
  M.pure tm1
theorem law29_None_q9 : RegEq 3 126 law29_None_g law29_None_P9 law29_None_r9 := ⟨by kernel_rfl, fun _ _ _ _ _ _ _ _ _ => by kernel_rfl⟩
theorem law29_None_C10 : condX law29_None_P10 = some 32 := by kernel_rfl
/-- law.go:215 -/
noncomputable def law29_None_r11 (E : Env) (call round : CallT) (tm : T Value) : M (T Value) :=
  mv (T.get tm 9) fun v35 =>
  mv (T.get tm 10) fun v36 =>
  M.bind (oS (some v35) fun a => oS (some v36) fun b => kIdxA E 36 a b) fun v37 =>
  M.bind (oS (some v37) fun a => kLoad E 28 a) fun v38 =>
  mv (some v38) fun v11 =>
  setF 11 v11 tm fun tm1 =>
  M.pure tm1
theorem law29_None_q11 : RegEq 3 126 law29_None_g law29_None_P11 law29_None_r11 := ⟨by kernel_rfl, fun _ _ _ _ _ _ _ _ _ => by kernel_rfl⟩
/-- law.go:222 -/
noncomputable def law29_None_r12 (E : Env) (call round : CallT) (tm : T Value) : M (T Value) :=
  mv (T.get tm 8) fun v113 =>
  M.bind (M.on (some (.func (.func 15) #[] #[])) fun f => M.on (seqO [(some v113), (some (.int .i64 1)), (some (.int .i64 1))]) fun l => callV call round f l) fun v114 =>
  mv (some v114) fun v112 =>
  M.bind (oS (some v112) fun a => kExt 0 a) fun v115 =>
  M.bind (oS (some v112) fun a => kExt 1 a) fun v116 =>
  mv (some v115) fun v16 =>
  setF 16 v16 tm fun tm1 =>
  mv (some v116) fun v17 =>
  setF 17 v17 tm1 fun tm2 =>
  M.pure tm2
theorem law29_None_q12 : RegEq 3 126 law29_None_g law29_None_P12 law29_None_r12 := ⟨by kernel_rfl, fun _ _ _ _ _ _ _ _ _ => by kernel_rfl⟩
/-- law.go:216 -/
noncomputable def law29_None_r13 (E : Env) (call round : CallT) (tm : T Value) : M (T Value) :=
  mv (T.get tm 11) fun v40 =>
  M.bind (M.on (some (.func (.func 7) #[] #[])) fun f => M.on (seqO [(some v40)]) fun l => callV call round f l) fun v41 =>
  mv (some v41) fun v39 =>
  M.bind (oS (some v39) fun a => kExt 0 a) fun v42 =>
  M.bind (oS (some v39) fun a => kExt 1 a) fun v43 =>
  M.bind (kAlloc E 40) fun v12 =>
  setF 12 v12 tm fun tm1 =>
  M.bind (oS (some v12) fun a => oS (some v42) fun b => kStore E 40 a b) fun _ =>
  mv (some v43) fun v13 =>
  setF 13 v13 tm1 fun tm2 =>
  M.pure tm2
theorem law29_None_q13 : RegEq 3 126 law29_None_g law29_None_P13 law29_None_r13 := ⟨by kernel_rfl, fun _ _ _ _ _ _ _ _ _ => by kernel_rfl⟩
/-- law.go:223 -/
noncomputable def law29_None_r14 (E : Env) (call round : CallT) (tm : T Value) : M (T Value) :=
  mv (T.get tm 16) fun v117 =>
  M.bind (oS (some v117) fun a => oS (some (.pointer none)) fun b => Cl.get (aBin E .eql 28 (.tmp 117) (.const (.pointer none))) a b) fun v118 =>
  mv (some v118) fun v119 =>
  M.bind (M.chk (isK v119) (M.if (isB v119 true) (oS (T.get tm 17) fun a => M.pure a) (M.pure undef))) fun v120 =>
  M.bind (M.chk (isK v119) (M.if (isB v119 true) (oS (some v120) fun a => oS (some (.int .i64 1)) fun b => Cl.get (aBin E .eql 37 (.tmp 120) (.const (.int .i64 1))) a b) (M.pure undef))) fun v121 =>
  M.bind (M.on (some v119) fun a => M.on (some v121) fun b => M.on (some (.bool false)) fun c => kPick a b c) fun v122 =>
  mv (some v122) fun v123 =>
  M.bind (M.chk (isK v123) (M.if (isB v123 true) (M.on (some (.func (.func 6) #[] #[])) fun f => M.on (seqO []) fun l => callV call round f l) (M.pure undef))) fun v124 =>
  M.bind (M.on (some v123) fun a => M.on (some v124) fun b => M.on (some (.bool false)) fun c => kPick a b c) fun v125 =>
  mv (some v125) fun v6 =>
  setF 6 v6 tm fun tm1 =>
  M.pure tm1
theorem law29_None_q14 : RegEq 3 126 law29_None_g law29_None_P14 law29_None_r14 := ⟨by kernel_rfl, fun _ _ _ _ _ _ _ _ _ => by kernel_rfl⟩
/-- law.go:217 -/
noncomputable def law29_None_r15 (E : Env) (call round : CallT) (tm : T Value) : M (T Value) :=
  mv (T.get tm 11) fun v45 =>
  M.bind (M.on (some (.func (.func 8) #[] #[])) fun f => M.on (seqO [(some v45)]) fun l => callV call round f l) fun v46 =>
  mv (some v46) fun v44 =>
  M.bind (oS (some v44) fun a => kExt 0 a) fun v47 =>
  M.bind (oS (some v44) fun a => kExt 1 a) fun v48 =>
  mv (some v47) fun v14 =>
  setF 14 v14 tm fun tm1 =>
  mv (some v48) fun v15 =>
  setF 15 v15 tm1 fun tm2 =>
  M.pure tm2
theorem law29_None_q15 : RegEq 3 126 law29_None_g law29_None_P15 law29_None_r15 := ⟨by kernel_rfl, fun _ _ _ _ _ _ _ _ _ => by kernel_rfl⟩
theorem law29_None_E16 : ∃ k, law29_None_P16 = .code .ret :: k := ⟨law29_None_P16.tail, by kernel_rfl⟩
/-- law.go:218 -/
noncomputable def law29_None_r17 (E : Env) (call round : CallT) (tm : T Value) : M (T Value) :=
  mv (T.get tm 11) fun v49 =>
  M.bind (oS (T.get tm 3) fun a => kLoad E 24 a) fun v50 =>
  M.bind (M.on (some (.func (.func 9) #[] #[])) fun f => M.on (seqO [(some v49), (some v50)]) fun l => callV call round f l) fun v51 =>
  M.bind (oS (some v51) fun a => oS (some (.int .i64 1)) fun b => Cl.get (aBin E .neq 37 (.tmp 51) (.const (.int .i64 1))) a b) fun v52 =>
  mv (some v52) fun v53 =>
  M.bind (M.chk (isK v53) (M.if (isB v53 false) (oS (T.get tm 11) fun a => M.pure a) (M.pure undef))) fun v54 =>
  M.bind (M.chk (isK v53) (M.if (isB v53 false) (oS (T.get tm 1) fun a => M.pure a) (M.pure undef))) fun v55 =>
  M.bind (M.chk (isK v53) (M.if (isB v53 false) (oS (T.get tm 2) fun a => M.pure a) (M.pure undef))) fun v56 =>
  M.bind (M.chk (isK v53) (M.if (isB v53 false) (M.on (some (.func (.func 10) #[] #[])) fun f => M.on (seqO [(some v54), (some v55), (some v56)]) fun l => callV call round f l) (M.pure undef))) fun v57 =>
  M.bind (M.chk (isK v53) (M.if (isB v53 false) (oS (some v57) fun a => oS (some (.int .i64 1)) fun b => Cl.get (aBin E .neq 37 (.tmp 57) (.const (.int .i64 1))) a b) (M.pure undef))) fun v58 =>
  M.bind (M.on (some v53) fun a => M.on (some (.bool true)) fun b => M.on (some v58) fun c => kPick a b c) fun v59 =>
  mv (some v59) fun v60 =>
  M.bind (M.chk (isK v60) (M.if (isB v60 false) (oS (T.get tm 11) fun a => M.pure a) (M.pure undef))) fun v61 =>
  M.bind (M.chk (isK v60) (M.if (isB v60 false) (oS (T.get tm 2) fun a => M.pure a) (M.pure undef))) fun v62 =>
  M.bind (M.chk (isK v60) (M.if (isB v60 false) (M.on (some (.func (.func 11) #[] #[])) fun f => M.on (seqO [(some v61), (some v62)]) fun l => callV call round f l) (M.pure undef))) fun v63 =>
  M.bind (M.chk (isK v60) (M.if (isB v60 false) (oS (seqO [(some v63)]) fun l => aBuiltin E .len [47] l) (M.pure undef))) fun v64 =>
  M.bind (M.chk (isK v60) (M.if (isB v60 false) (oS (some v64) fun a => oS (some (.int .i64 0)) fun b => Cl.get (aBin E .neq 3 (.tmp 64) (.const (.int .i64 0))) a b) (M.pure undef))) fun v65 =>
  M.bind (M.on (some v60) fun a => M.on (some (.bool true)) fun b => M.on (some v65) fun c => kPick a b c) fun v66 =>
  mv (some v66) fun v67 =>
  M.bind (M.chk (isK v67) (M.if (isB v67 false) (oS (T.get tm 13) fun a => M.pure a) (M.pure undef))) fun v68 =>
  M.bind (M.on (some v67) fun a => M.on (some (.bool true)) fun b => M.on (some v68) fun c => kPick a b c) fun v69 =>
  mv (some v69) fun v70 =>
  M.bind (M.chk (isK v70) (M.if (isB v70 false) (oS (T.get tm 12) fun a => kFld E 40 a 0) (M.pure undef))) fun v71 =>
  M.bind (M.chk (isK v70) (M.if (isB v70 false) (oS (some v71) fun a => kLoad E 3 a) (M.pure undef))) fun v72 =>
  M.bind (M.chk (isK v70) (M.if (isB v70 false) (oS (some v72) fun a => oS (some (.int .i64 0)) fun b => Cl.get (aBin E .neq 3 (.tmp 72) (.const (.int .i64 0))) a b) (M.pure undef))) fun v73 =>
  M.bind (M.on (some v70) fun a => M.on (some (.bool true)) fun b => M.on (some v73) fun c => kPick a b c) fun v74 =>
  mv (some v74) fun v75 =>
  M.bind (M.chk (isK v75) (M.if (isB v75 false) (oS (T.get tm 12) fun a => kFld E 40 a 1) (M.pure undef))) fun v76 =>
  M.bind (M.chk (isK v75) (M.if (isB v75 false) (oS (some v76) fun a => kLoad E 37 a) (M.pure undef))) fun v77 =>
  M.bind (M.chk (isK v75) (M.if (isB v75 false) (oS (some v77) fun a => oS (some (.int .i64 0)) fun b => Cl.get (aBin E .neq 37 (.tmp 77) (.const (.int .i64 0))) a b) (M.pure undef))) fun v78 =>
  M.bind (M.on (some v75) fun a => M.on (some (.bool true)) fun b => M.on (some v78) fun c => kPick a b c) fun v79 =>
  mv (some v79) fun v80 =>
  M.bind (M.chk (isK v80) (M.if (isB v80 false) (oS (T.get tm 12) fun a => kFld E 40 a 2) (M.pure undef))) fun v81 =>
  M.bind (M.chk (isK v80) (M.if (isB v80 false) (oS (some v81) fun a => kLoad E 38 a) (M.pure undef))) fun v82 =>
  M.bind (M.chk (isK v80) (M.if (isB v80 false) (oS (seqO [(some v82)]) fun l => aBuiltin E .len [38] l) (M.pure undef))) fun v83 =>
  M.bind (M.chk (isK v80) (M.if (isB v80 false) (oS (T.get tm 12) fun a => kFld E 40 a 3) (M.pure undef))) fun v84 =>
  M.bind (M.chk (isK v80) (M.if (isB v80 false) (oS (some v84) fun a => kLoad E 22 a) (M.pure undef))) fun v85 =>
  M.bind (M.chk (isK v80) (M.if (isB v80 false) (oS (seqO [(some v85)]) fun l => aBuiltin E .len [22] l) (M.pure undef))) fun v86 =>
  M.bind (M.chk (isK v80) (M.if (isB v80 false) (oS (some v83) fun a => oS (some v86) fun b => Cl.get (aBin E .add 3 (.tmp 83) (.tmp 86)) a b) (M.pure undef))) fun v87 =>
  M.bind (M.chk (isK v80) (M.if (isB v80 false) (oS (some v87) fun a => oS (some (.int .i64 0)) fun b => Cl.get (aBin E .neq 3 (.tmp 87) (.const (.int .i64 0))) a b) (M.pure undef))) fun v88 =>
  M.bind (M.on (some v80) fun a => M.on (some (.bool true)) fun b => M.on (some v88) fun c => kPick a b c) fun v89 =>
  mv (some v89) fun v90 =>
  M.bind (M.chk (isK v90) (M.if (isB v90 false) (oS (T.get tm 11) fun a => M.pure a) (M.pure undef))) fun v91 =>
  M.bind (M.chk (isK v90) (M.if (isB v90 false) (M.on (some (.func (.func 12) #[] #[])) fun f => M.on (seqO [(some v91)]) fun l => callV call round f l) (M.pure undef))) fun v92 =>
  M.bind (M.on (some v90) fun a => M.on (some (.bool true)) fun b => M.on (some v92) fun c => kPick a b c) fun v93 =>
  mv (some v93) fun v94 =>
  M.bind (M.chk (isK v94) (M.if (isB v94 false) (oS (T.get tm 11) fun a => M.pure a) (M.pure undef))) fun v95 =>
  M.bind (M.chk (isK v94) (M.if (isB v94 false) (M.on (some (.func (.func 13) #[] #[])) fun f => M.on (seqO [(some v95)]) fun l => callV call round f l) (M.pure undef))) fun v96 =>
  M.bind (M.chk (isK v94) (M.if (isB v94 false) (oS (some v96) fun a => oS (some (.int .i64 0)) fun b => Cl.get (aBin E .neq 3 (.tmp 96) (.const (.int .i64 0))) a b) (M.pure undef))) fun v97 =>
  M.bind (M.on (some v94) fun a => M.on (some (.bool true)) fun b => M.on (some v97) fun c => kPick a b c) fun v98 =>
  mv (some v98) fun v99 =>
  M.bind (M.chk (isK v99) (M.if (isB v99 false) (oS (T.get tm 11) fun a => M.pure a) (M.pure undef))) fun v100 =>
  M.bind (M.chk (isK v99) (M.if (isB v99 false) (M.on (some (.func (.func 14) #[] #[])) fun f => M.on (seqO [(some v100)]) fun l => callV call round f l) (M.pure undef))) fun v101 =>
  M.bind (M.chk (isK v99) (M.if (isB v99 false) (oS (some v101) fun a => oS (some (.int .i64 0)) fun b => Cl.get (aBin E .neq 3 (.tmp 101) (.const (.int .i64 0))) a b) (M.pure undef))) fun v102 =>
  M.bind (M.on (some v99) fun a => M.on (some (.bool true)) fun b => M.on (some v102) fun c => kPick a b c) fun v103 =>
  mv (some v103) fun v104 =>
  M.bind (M.chk (isK v104) (M.if (isB v104 false) (oS (T.get tm 14) fun a => M.pure a) (M.pure undef))) fun v105 =>
  M.bind (M.chk (isK v104) (M.if (isB v104 false) (oS (some v105) fun a => oS (some (.int .i64 0)) fun b => Cl.get (aBin E .neq 3 (.tmp 105) (.const (.int .i64 0))) a b) (M.pure undef))) fun v106 =>
  M.bind (M.on (some v104) fun a => M.on (some (.bool true)) fun b => M.on (some v106) fun c => kPick a b c) fun v107 =>
  mv (some v107) fun v108 =>
  M.bind (M.chk (isK v108) (M.if (isB v108 false) (oS (T.get tm 15) fun a => M.pure a) (M.pure undef))) fun v109 =>
  M.bind (M.chk (isK v108) (M.if (isB v108 false) (oS (some v109) fun a => oS (some (.int .i64 0)) fun b => Cl.get (aBin E .neq 3 (.tmp 109) (.const (.int .i64 0))) a b) (M.pure undef))) fun v110 =>
  M.bind (M.on (some v108) fun a => M.on (some (.bool true)) fun b => M.on (some v110) fun c => kPick a b c) fun v111 =>
  setF 111 v111 tm fun tm1 =>
  M.pure tm1
theorem law29_None_q17 : RegEq 3 126 law29_None_g law29_None_P17 law29_None_r17 := ⟨by kernel_rfl, fun _ _ _ _ _ _ _ _ _ => by kernel_rfl⟩
theorem law29_None_C18 : condX law29_None_P18 = some 111 := by kernel_rfl
/-- law.go:219 -/
noncomputable def law29_None_r19 (E : Env) (call round : CallT) (tm : T Value) : M (T Value) :=
  mv (some (.bool false)) fun v6 =>
  setF 6 v6 tm fun tm1 =>
  M.pure tm1
theorem law29_None_q19 : RegEq 3 126 law29_None_g law29_None_P19 law29_None_r19 := ⟨by kernel_rfl, fun _ _ _ _ _ _ _ _ _ => by kernel_rfl⟩
/-- law.go:214 -/
noncomputable def law29_None_r20 (E : Env) (call round : CallT) (tm : T Value) : M (T Value) :=
  mv (T.get tm 10) fun v33 =>
  M.bind (oS (some v33) fun a => oS (some (.int .i64 1)) fun b => Cl.get (aBin E .add 3 (.tmp 33) (.const (.int .i64 1))) a b) fun v34 =>
  mv (some v34) fun v10 =>
  setF 10 v10 tm fun tm1 =>
  M.pure tm1
theorem law29_None_q20 : RegEq 3 126 law29_None_g law29_None_P20 law29_None_r20 := ⟨by kernel_rfl, fun _ _ _ _ _ _ _ _ _ => by kernel_rfl⟩
theorem law29_None_E21 : ∃ k, law29_None_P21 = .code .ret :: k := ⟨law29_None_P21.tail, by kernel_rfl⟩
-- points: 0:region>[1], 1:region>[2], 2:cond>[3, 4], 3:region>[5], 4:region>[6], 5:ret>, 6:region>[7], 7:region>[8], 8:region>[9], 9:region>[10], 10:cond>[11, 12], 11:region>[13], 12:region>[14], 13:region>[15], 14:region>[16], 15:region>[17], 16:ret>, 17:region>[18], 18:cond>[19, 20], 19:region>[21], 20:region>[9], 21:ret>

/-! ### satchel/satchelkit.BigTree -/
noncomputable def kit_BigTree_g : Nat := globOf Tryz.f5
abbrev kit_BigTree_nt : Nat := 51
noncomputable def kit_BigTree_body : Code := Tryz.f5.body.getD .skip
theorem kit_BigTree_fn : envS.fn.get 5 = some Tryz.f5 := by kernel_rfl
theorem kit_BigTree_W {a0 a1 a2 : Value} {n : Nat} {s : St} {Q : Value → St → Prop} (h : ∀ tm, T.get tm 0 = some a0 → T.get tm 1 = some a1 → T.get tm 2 = some a2 → W (runF envS n ⟨5, 51, kit_BigTree_g, tm, [.code kit_BigTree_body], .run, .normal, none⟩) (s.cxN cxN) fun p s1 => Q p.1 (s1.cxN s.cx)) : W (callW envS (runF envS n) 5 [a0, a1, a2]) s Q :=
  W.call (by kernel_rfl) (by kernel_rfl) kit_BigTree_fn (by kernel_rfl) rfl rfl (by simp) (h _ (by kernel_rfl) (by kernel_rfl) (by kernel_rfl))
theorem kit_BigTree_res : Tryz.f5.results.toList = [.tmp 6] := by kernel_rfl
noncomputable def kit_BigTree_P0 : List Item := skim 64 [.code kit_BigTree_body]
noncomputable def kit_BigTree_P1 : List Item := skim 64 kit_BigTree_P0.tail
theorem kit_BigTree_S0_1 : skim 64 kit_BigTree_P0.tail = kit_BigTree_P1 := by kernel_rfl
noncomputable def kit_BigTree_P2 : List Item := skim 64 kit_BigTree_P1.tail
theorem kit_BigTree_S1_2 : skim 64 kit_BigTree_P1.tail = kit_BigTree_P2 := by kernel_rfl
noncomputable def kit_BigTree_P3 : List Item := skim 64 kit_BigTree_P2.tail
theorem kit_BigTree_S2_3 : skim 64 kit_BigTree_P2.tail = kit_BigTree_P3 := by kernel_rfl
noncomputable def kit_BigTree_P4 : List Item := skim 64 kit_BigTree_P3.tail
theorem kit_BigTree_S3_4 : skim 64 kit_BigTree_P3.tail = kit_BigTree_P4 := by kernel_rfl
noncomputable def kit_BigTree_P5 : List Item := skim 64 (brT kit_BigTree_P4)
theorem kit_BigTree_S4_5 : skim 64 (brT kit_BigTree_P4) = kit_BigTree_P5 := by kernel_rfl
noncomputable def kit_BigTree_P6 : List Item := skim 64 (brF kit_BigTree_P4)
theorem kit_BigTree_S4_6 : skim 64 (brF kit_BigTree_P4) = kit_BigTree_P6 := by kernel_rfl
noncomputable def kit_BigTree_P7 : List Item := skim 64 kit_BigTree_P5.tail
theorem kit_BigTree_S5_7 : skim 64 kit_BigTree_P5.tail = kit_BigTree_P7 := by kernel_rfl
noncomputable def kit_BigTree_P8 : List Item := skim 64 kit_BigTree_P6.tail
theorem kit_BigTree_S6_8 : skim 64 kit_BigTree_P6.tail = kit_BigTree_P8 := by kernel_rfl
theorem kit_BigTree_S7_3 : skim 64 kit_BigTree_P7.tail = kit_BigTree_P3 := by kernel_rfl
/-- trees.go:36 -/
noncomputable def kit_BigTree_r0 (E : Env) (call round : CallT) (tm : T Value) : M (T Value) :=
  mv (some (.bool false)) fun v6 =>
  setF 6 v6 tm fun tm1 =>
  M.pure tm1
theorem kit_BigTree_q0 : RegEq 5 51 kit_BigTree_g kit_BigTree_P0 kit_BigTree_r0 := ⟨by kernel_rfl, fun _ _ _ _ _ _ _ _ _ => by kernel_rfl⟩
/-- trees.go:37 -/
noncomputable def kit_BigTree_r1 (E : Env) (call round : CallT) (tm : T Value) : M (T Value) :=
  mv (some (.int .i64 0)) fun v7 =>
  setF 7 v7 tm fun tm1 =>
  M.pure tm1
theorem kit_BigTree_q1 : RegEq 5 51 kit_BigTree_g kit_BigTree_P1 kit_BigTree_r1 := ⟨by kernel_rfl, fun _ _ _ _ _ _ _ _ _ => by kernel_rfl⟩
/-- trees.go:38 -/
noncomputable def kit_BigTree_r2 (E : Env) (call round : CallT) (tm : T Value) : M (T Value) :=
  mv (some (.int .i64 0)) fun v8 =>
  setF 8 v8 tm fun tm1 =>
  M.pure tm1
theorem kit_BigTree_q2 : RegEq 5 51 kit_BigTree_g kit_BigTree_P2 kit_BigTree_r2 := ⟨by kernel_rfl, fun _ _ _ _ _ _ _ _ _ => by kernel_rfl⟩
/-- trees.go:38 -/
noncomputable def kit_BigTree_r3 (E : Env) (call round : CallT) (tm : T Value) : M (T Value) :=
  mv (T.get tm 8) fun v9 =>
  mv (T.get tm 0) fun v10 =>
  M.bind (oS (seqO [(some v10)]) fun l => aBuiltin E .len [22] l) fun v11 =>
  M.bind (oS (some v9) fun a => oS (some v11) fun b => Cl.get (aBin E .lss 3 (.tmp 9) (.tmp 11)) a b) fun v12 =>
  mv (some v12) fun v13 =>
  M.bind (M.chk (isK v13) (M.if (isB v13 true) (oS (T.get tm 8) fun a => M.pure a) (M.pure undef))) fun v14 =>
  M.bind (M.chk (isK v13) (M.if (isB v13 true) (oS (T.get tm 1) fun a => M.pure a) (M.pure undef))) fun v15 =>
  M.bind (M.chk (isK v13) (M.if (isB v13 true) (oS (some v14) fun a => oS (some v15) fun b => Cl.get (aBin E .leq 3 (.tmp 14) (.tmp 15)) a b) (M.pure undef))) fun v16 =>
  M.bind (M.on (some v13) fun a => M.on (some v16) fun b => M.on (some (.bool false)) fun c => kPick a b c) fun v17 =>
  setF 17 v17 tm fun tm1 =>
  M.pure tm1
theorem kit_BigTree_q3 : RegEq 5 51 kit_BigTree_g kit_BigTree_P3 kit_BigTree_r3 := ⟨by kernel_rfl, fun _ _ _ _ _ _ _ _ _ => by kernel_rfl⟩
theorem kit_BigTree_C4 : condX kit_BigTree_P4 = some 17 := by kernel_rfl
/-- trees.go:39; the order is open -/
noncomputable def kit_BigTree_d5 (E : Env) (call round : CallT) (tm : T Value) : M ((Rho × T Value) × List OpLog) :=
  M.bind (apartO (oS (T.get tm 7) fun a => M.pure a)) fun p0 =>
  M.bind (apartO (oS (T.get tm 0) fun a => M.pure a)) fun p1 =>
  M.bind (apartO (oS (T.get tm 8) fun a => M.pure a)) fun p2 =>
  M.bind (apartO (oS (some p1.1) fun a => oS (some p2.1) fun b => kIdxA E 22 a b)) fun p3 =>
  M.bind (apartO (oS (some p3.1) fun a => kFld E 62 a 0)) fun p4 =>
  M.bind (apartO (oS (some p4.1) fun a => kLoad E 9 a)) fun p5 =>
  M.bind (apartO (oS (seqO [(some p5.1)]) fun l => aBuiltin E .len [9] l)) fun p6 =>
  M.bind (apartO (oS (some p0.1) fun a => oS (some p6.1) fun b => Cl.get (aBin E .add 3 (.tmp 20) (.tmp 26)) a b)) fun p7 =>
  M.bind (apartO (oS (T.get tm 0) fun a => M.pure a)) fun p8 =>
  M.bind (apartO (oS (T.get tm 8) fun a => M.pure a)) fun p9 =>
  M.bind (apartO (oS (some p8.1) fun a => oS (some p9.1) fun b => kIdxA E 22 a b)) fun p10 =>
  M.bind (apartO (oS (some p10.1) fun a => kFld E 62 a 3)) fun p11 =>
  M.bind (apartO (oS (some p11.1) fun a => kLoad E 25 a)) fun p12 =>
  M.bind (apartO (oS (seqO [(some p12.1)]) fun l => aBuiltin E .len [25] l)) fun p13 =>
  M.bind (apartO (oS (some p7.1) fun a => oS (some p13.1) fun b => Cl.get (aBin E .add 3 (.tmp 27) (.tmp 33)) a b)) fun p14 =>
  M.bind (apartO (oS (T.get tm 0) fun a => M.pure a)) fun p15 =>
  M.bind (apartO (oS (T.get tm 8) fun a => M.pure a)) fun p16 =>
  M.bind (apartO (oS (some p15.1) fun a => oS (some p16.1) fun b => kIdxA E 22 a b)) fun p17 =>
  M.bind (apartO (oS (some p17.1) fun a => kFld E 62 a 4)) fun p18 =>
  M.bind (apartO (oS (some p18.1) fun a => kLoad E 9 a)) fun p19 =>
  M.bind (apartO (oS (seqO [(some p19.1)]) fun l => aBuiltin E .len [9] l)) fun p20 =>
  M.bind (apartO (oS (some p14.1) fun a => oS (some p20.1) fun b => Cl.get (aBin E .add 3 (.tmp 34) (.tmp 40)) a b)) fun p21 =>
  M.pure (([p21.1, p20.1, p19.1, p18.1, p17.1, p16.1, p15.1, p14.1, p13.1, p12.1, p11.1, p10.1, p9.1, p8.1, p7.1, p6.1, p5.1, p4.1, p3.1, p2.1, p1.1, p0.1], tm), [p21.2, p20.2, p19.2, p18.2, p17.2, p16.2, p15.2, p14.2, p13.2, p12.2, p11.2, p10.2, p9.2, p8.2, p7.2, p6.2, p5.2, p4.2, p3.2, p2.2, p1.2, p0.2])
theorem kit_BigTree_q5 : DrawEq 5 51 kit_BigTree_g kit_BigTree_P5 [0, 0, 0, 6, 14, 30, 62, 127, 0, 0, 768, 1792, 3840, 7936, 16383, 0, 0, 98304, 229376, 491520, 1015808, 2097151, 4194303] kit_BigTree_d5 := ⟨by kernel_rfl, by kernel_rfl, fun _ _ _ _ _ _ _ _ _ => by kernel_rfl⟩
theorem kit_BigTree_L5 (E : Env) (call round : CallT) (x20 x21 x22 x23 x24 x25 x26 x27 x28 x29 x30 x31 x32 x33 x34 x35 x36 x37 x38 x39 x40 x41 : Value) (tm : T Value) (s : St) : opsIn call round (lastOps E kit_BigTree_g 51 (hdC kit_BigTree_P5)) [x41, x40, x39, x38, x37, x36, x35, x34, x33, x32, x31, x30, x29, x28, x27, x26, x25, x24, x23, x22, x21, x20] tm s = (M.bind (oS (some x41) fun a => M.pure a) fun v7 => setT 7 v7 tm fun tm1 => M.pure tm1) s := by kernel_rfl
/-- trees.go:41 -/
noncomputable def kit_BigTree_r6 (E : Env) (call round : CallT) (tm : T Value) : M (T Value) :=
  mv (T.get tm 0) fun v42 =>
  M.bind (oS (seqO [(some v42)]) fun l => aBuiltin E .len [22] l) fun v43 =>
  mv (T.get tm 1) fun v44 =>
  M.bind (oS (some v43) fun a => oS (some v44) fun b => Cl.get (aBin E .gtr 3 (.tmp 43) (.tmp 44)) a b) fun v45 =>
  mv (some v45) fun v46 =>
  M.bind (M.chk (isK v46) (M.if (isB v46 false) (oS (T.get tm 7) fun a => M.pure a) (M.pure undef))) fun v47 =>
  M.bind (M.chk (isK v46) (M.if (isB v46 false) (oS (T.get tm 2) fun a => M.pure a) (M.pure undef))) fun v48 =>
  M.bind (M.chk (isK v46) (M.if (isB v46 false) (oS (some v47) fun a => oS (some v48) fun b => Cl.get (aBin E .gtr 3 (.tmp 47) (.tmp 48)) a b) (M.pure undef))) fun v49 =>
  M.bind (M.on (some v46) fun a => M.on (some (.bool true)) fun b => M.on (some v49) fun c => kPick a b c) fun v50 =>
  mv (some v50) fun v6 =>
  setF 6 v6 tm fun tm1 =>
  M.pure tm1
theorem kit_BigTree_q6 : RegEq 5 51 kit_BigTree_g kit_BigTree_P6 kit_BigTree_r6 := ⟨by kernel_rfl, fun _ _ _ _ _ _ _ _ _ => by kernel_rfl⟩
/-- trees.go:38 -/
noncomputable def kit_BigTree_r7 (E : Env) (call round : CallT) (tm : T Value) : M (T Value) :=
  mv (T.get tm 8) fun v18 =>
  M.bind (oS (some v18) fun a => oS (some (.int .i64 1)) fun b => Cl.get (aBin E .add 3 (.tmp 18) (.const (.int .i64 1))) a b) fun v19 =>
  mv (some v19) fun v8 =>
  setF 8 v8 tm fun tm1 =>
  M.pure tm1
theorem kit_BigTree_q7 : RegEq 5 51 kit_BigTree_g kit_BigTree_P7 kit_BigTree_r7 := ⟨by kernel_rfl, fun _ _ _ _ _ _ _ _ _ => by kernel_rfl⟩
theorem kit_BigTree_E8 : ∃ k, kit_BigTree_P8 = .code .ret :: k := ⟨kit_BigTree_P8.tail, by kernel_rfl⟩
-- points: 0:region>[1], 1:region>[2], 2:region>[3], 3:region>[4], 4:cond>[5, 6], 5:region>[7], 6:region>[8], 7:region>[3], 8:ret>

/-! ### (*satchel/agent.Agent).Told -/
noncomputable def ag_Told_g : Nat := globOf Tryz.f7
abbrev ag_Told_nt : Nat := 25
noncomputable def ag_Told_body : Code := Tryz.f7.body.getD .skip
theorem ag_Told_fn : envS.fn.get 7 = some Tryz.f7 := by kernel_rfl
theorem ag_Told_W {a0 : Value} {n : Nat} {s : St} {Q : Value → St → Prop} (h : ∀ tm, T.get tm 0 = some a0 → W (runF envS n ⟨7, 25, ag_Told_g, tm, [.code ag_Told_body], .run, .normal, none⟩) (s.cxN cxN) fun p s1 => Q p.1 (s1.cxN s.cx)) : W (callW envS (runF envS n) 7 [a0]) s Q :=
  W.call (by kernel_rfl) (by kernel_rfl) ag_Told_fn (by kernel_rfl) rfl rfl (by simp) (h _ (by kernel_rfl))
theorem ag_Told_res : Tryz.f7.results.toList = [.cell 2 40, .tmp 3] := by kernel_rfl
noncomputable def ag_Told_P0 : List Item := skim 64 [.code ag_Told_body]
noncomputable def ag_Told_P1 : List Item := skim 64 ag_Told_P0.tail
theorem ag_Told_S0_1 : skim 64 ag_Told_P0.tail = ag_Told_P1 := by kernel_rfl
noncomputable def ag_Told_P2 : List Item := skim 64 ag_Told_P1.tail
theorem ag_Told_S1_2 : skim 64 ag_Told_P1.tail = ag_Told_P2 := by kernel_rfl
noncomputable def ag_Told_P3 : List Item := skim 64 (brT ag_Told_P2)
theorem ag_Told_S2_3 : skim 64 (brT ag_Told_P2) = ag_Told_P3 := by kernel_rfl
noncomputable def ag_Told_P4 : List Item := skim 64 (brF ag_Told_P2)
theorem ag_Told_S2_4 : skim 64 (brF ag_Told_P2) = ag_Told_P4 := by kernel_rfl
noncomputable def ag_Told_P5 : List Item := skim 64 ag_Told_P3.tail
theorem ag_Told_S3_5 : skim 64 ag_Told_P3.tail = ag_Told_P5 := by kernel_rfl
noncomputable def ag_Told_P6 : List Item := skim 64 ag_Told_P4.tail
theorem ag_Told_S4_6 : skim 64 ag_Told_P4.tail = ag_Told_P6 := by kernel_rfl
noncomputable def ag_Told_P7 : List Item := skim 64 ag_Told_P6.tail
theorem ag_Told_S6_7 : skim 64 ag_Told_P6.tail = ag_Told_P7 := by kernel_rfl
noncomputable def ag_Told_P8 : List Item := skim 64 ag_Told_P7.tail
theorem ag_Told_S7_8 : skim 64 ag_Told_P7.tail = ag_Told_P8 := by kernel_rfl
/-- agent.go:199 -/
noncomputable def ag_Told_r0 (E : Env) (call round : CallT) (tm : T Value) : M (T Value) :=
  M.bind (kAlloc E 40) fun v2 =>
  setF 2 v2 tm fun tm1 =>
  mv (some (.bool false)) fun v3 =>
  setF 3 v3 tm1 fun tm2 =>
  M.pure tm2
theorem ag_Told_q0 : RegEq 7 25 ag_Told_g ag_Told_P0 ag_Told_r0 := ⟨by kernel_rfl, fun _ _ _ _ _ _ _ _ _ => by kernel_rfl⟩
/-- agent.go:200 -/
noncomputable def ag_Told_r1 (E : Env) (call round : CallT) (tm : T Value) : M (T Value) :=
  mv (T.get tm 0) fun v5 =>
  M.bind (oS (some v5) fun a => oS (some (.pointer none)) fun b => Cl.get (aBin E .eql 28 (.tmp 5) (.const (.pointer none))) a b) fun v6 =>
  mv (some v6) fun v7 =>
  M.bind (M.chk (isK v7) (M.if (isB v7 false) (oS (T.get tm 0) fun a => M.pure a) (M.pure undef))) fun v8 =>
  M.bind (M.chk (isK v7) (M.if (isB v7 false) (oS (some v8) fun a => kNil a) (M.pure undef))) fun v9 =>
  M.bind (M.chk (isK v7) (M.if (isB v7 false) (oS (some v9) fun a => kFld E 35 a 6) (M.pure undef))) fun v10 =>
  M.bind (M.chk (isK v7) (M.if (isB v7 false) (oS (some v10) fun a => kLoad E 33 a) (M.pure undef))) fun v11 =>
  M.bind (M.chk (isK v7) (M.if (isB v7 false) (oS (some v11) fun a => oS (some (.pointer none)) fun b => Cl.get (aBin E .eql 33 (.tmp 11) (.const (.pointer none))) a b) (M.pure undef))) fun v12 =>
  M.bind (M.on (some v7) fun a => M.on (some (.bool true)) fun b => M.on (some v12) fun c => kPick a b c) fun v13 =>
  setF 13 v13 tm fun tm1 =>
  M.pure tm1
theorem ag_Told_q1 : RegEq 7 25 ag_Told_g ag_Told_P1 ag_Told_r1 := ⟨by kernel_rfl, fun _ _ _ _ _ _ _ _ _ => by kernel_rfl⟩
theorem ag_Told_C2 : condX ag_Told_P2 = some 13 := by kernel_rfl
/-- agent.go:201 -/
noncomputable def ag_Told_r3 (E : Env) (call round : CallT) (tm : T Value) : M (T Value) :=
  M.bind (oS (seqP []) fun ps => aBuild E 40 ps) fun v14 =>
  M.bind (oS (T.get tm 2) fun a => oS (some v14) fun b => kStore E 40 a b) fun _ =>
  mv (some (.bool false)) fun v3 =>
  setF 3 v3 tm fun tm1 =>
  M.pure tm1
theorem ag_Told_q3 : RegEq 7 25 ag_Told_g ag_Told_P3 ag_Told_r3 := ⟨by kernel_rfl, fun _ _ _ _ _ _ _ _ _ => by kernel_rfl⟩
/-- agent.go:203 -/
noncomputable def ag_Told_r4 (E : Env) (call round : CallT) (tm : T Value) : M (T Value) :=
  mv (T.get tm 0) fun v15 =>
  M.bind (oS (some v15) fun a => kNil a) fun v16 =>
  M.bind (oS (some v16) fun a => kFld E 35 a 6) fun v17 =>
  M.bind (oS (some v17) fun a => kLoad E 33 a) fun v18 =>
  M.bind (oS (some v18) fun a => kNil a) fun v19 =>
  M.bind (oS (some v19) fun a => kLoad E 40 a) fun v20 =>
  M.bind (kAlloc E 40) fun v4 =>
  setF 4 v4 tm fun tm1 =>
  M.bind (oS (some v4) fun a => oS (some v20) fun b => kStore E 40 a b) fun _ =>
  M.pure tm1
theorem ag_Told_q4 : RegEq 7 25 ag_Told_g ag_Told_P4 ag_Told_r4 := ⟨by kernel_rfl, fun _ _ _ _ _ _ _ _ _ => by kernel_rfl⟩
theorem ag_Told_E5 : ∃ k, ag_Told_P5 = .code .ret :: k := ⟨ag_Told_P5.tail, by kernel_rfl⟩
/-- agent.go:204 -/
noncomputable def ag_Told_r6 (E : Env) (call round : CallT) (tm : T Value) : M (T Value) :=
  mv (T.get tm 0) fun v21 =>
  M.bind (oS (some v21) fun a => kNil a) fun v22 =>
  M.bind (oS (some v22) fun a => kFld E 35 a 6) fun v23 =>
  M.bind (oS (some v23) fun a => oS (some (.pointer none)) fun b => kStore E 33 a b) fun _ =>
  M.pure tm
theorem ag_Told_q6 : RegEq 7 25 ag_Told_g ag_Told_P6 ag_Told_r6 := ⟨by kernel_rfl, fun _ _ _ _ _ _ _ _ _ => by kernel_rfl⟩
/-- agent.go:205 -/
noncomputable def ag_Told_r7 (E : Env) (call round : CallT) (tm : T Value) : M (T Value) :=
  M.bind (oS (T.get tm 4) fun a => kLoad E 40 a) fun v24 =>
  M.bind (oS (T.get tm 2) fun a => oS (some v24) fun b => kStore E 40 a b) fun _ =>
  mv (some (.bool true)) fun v3 =>
  setF 3 v3 tm fun tm1 =>
  M.pure tm1
theorem ag_Told_q7 : RegEq 7 25 ag_Told_g ag_Told_P7 ag_Told_r7 := ⟨by kernel_rfl, fun _ _ _ _ _ _ _ _ _ => by kernel_rfl⟩
theorem ag_Told_E8 : ∃ k, ag_Told_P8 = .code .ret :: k := ⟨ag_Told_P8.tail, by kernel_rfl⟩
-- points: 0:region>[1], 1:region>[2], 2:cond>[3, 4], 3:region>[5], 4:region>[6], 5:ret>, 6:region>[7], 7:region>[8], 8:ret>

/-! ### (*satchel/agent.Agent).Last -/
noncomputable def ag_Last_g : Nat := globOf Tryz.f8
abbrev ag_Last_nt : Nat := 13
noncomputable def ag_Last_body : Code := Tryz.f8.body.getD .skip
theorem ag_Last_fn : envS.fn.get 8 = some Tryz.f8 := by kernel_rfl
theorem ag_Last_W {a0 : Value} {n : Nat} {s : St} {Q : Value → St → Prop} (h : ∀ tm, T.get tm 0 = some a0 → W (runF envS n ⟨8, 13, ag_Last_g, tm, [.code ag_Last_body], .run, .normal, none⟩) (s.cxN cxN) fun p s1 => Q p.1 (s1.cxN s.cx)) : W (callW envS (runF envS n) 8 [a0]) s Q :=
  W.call (by kernel_rfl) (by kernel_rfl) ag_Last_fn (by kernel_rfl) rfl rfl (by simp) (h _ (by kernel_rfl))
theorem ag_Last_res : Tryz.f8.results.toList = [.tmp 2, .tmp 3] := by kernel_rfl
noncomputable def ag_Last_P0 : List Item := skim 64 [.code ag_Last_body]
noncomputable def ag_Last_P1 : List Item := skim 64 ag_Last_P0.tail
theorem ag_Last_S0_1 : skim 64 ag_Last_P0.tail = ag_Last_P1 := by kernel_rfl
noncomputable def ag_Last_P2 : List Item := skim 64 ag_Last_P1.tail
theorem ag_Last_S1_2 : skim 64 ag_Last_P1.tail = ag_Last_P2 := by kernel_rfl
noncomputable def ag_Last_P3 : List Item := skim 64 (brT ag_Last_P2)
theorem ag_Last_S2_3 : skim 64 (brT ag_Last_P2) = ag_Last_P3 := by kernel_rfl
noncomputable def ag_Last_P4 : List Item := skim 64 (brF ag_Last_P2)
theorem ag_Last_S2_4 : skim 64 (brF ag_Last_P2) = ag_Last_P4 := by kernel_rfl
noncomputable def ag_Last_P5 : List Item := skim 64 ag_Last_P3.tail
theorem ag_Last_S3_5 : skim 64 ag_Last_P3.tail = ag_Last_P5 := by kernel_rfl
noncomputable def ag_Last_P6 : List Item := skim 64 ag_Last_P4.tail
theorem ag_Last_S4_6 : skim 64 ag_Last_P4.tail = ag_Last_P6 := by kernel_rfl
/-- agent.go:225 -/
noncomputable def ag_Last_r0 (E : Env) (call round : CallT) (tm : T Value) : M (T Value) :=
  mv (some (.int .i64 0)) fun v2 =>
  setF 2 v2 tm fun tm1 =>
  mv (some (.int .i64 0)) fun v3 =>
  setF 3 v3 tm1 fun tm2 =>
  M.pure tm2
theorem ag_Last_q0 : RegEq 8 13 ag_Last_g ag_Last_P0 ag_Last_r0 := ⟨by kernel_rfl, fun _ _ _ _ _ _ _ _ _ => by kernel_rfl⟩
/-- agent.go:226 -/
noncomputable def ag_Last_r1 (E : Env) (call round : CallT) (tm : T Value) : M (T Value) :=
  mv (T.get tm 0) fun v4 =>
  M.bind (M.on (some (.func (.func 20) #[] #[])) fun f => M.on (seqO [(some v4)]) fun l => callV call round f l) fun v5 =>
  setF 5 v5 tm fun tm1 =>
  M.pure tm1
theorem ag_Last_q1 : RegEq 8 13 ag_Last_g ag_Last_P1 ag_Last_r1 := ⟨by kernel_rfl, fun _ _ _ _ _ _ _ _ _ => by kernel_rfl⟩
theorem ag_Last_C2 : condX ag_Last_P2 = some 5 := by kernel_rfl
/-- agent.go:227 -/
noncomputable def ag_Last_r3 (E : Env) (call round : CallT) (tm : T Value) : M (T Value) :=
  mv (some (.int .i64 0)) fun v2 =>
  setF 2 v2 tm fun tm1 =>
  mv (some (.int .i64 0)) fun v3 =>
  setF 3 v3 tm1 fun tm2 =>
  M.pure tm2
theorem ag_Last_q3 : RegEq 8 13 ag_Last_g ag_Last_P3 ag_Last_r3 := ⟨by kernel_rfl, fun _ _ _ _ _ _ _ _ _ => by kernel_rfl⟩
/-- agent.go:229 -/
noncomputable def ag_Last_r4 (E : Env) (call round : CallT) (tm : T Value) : M (T Value) :=
  mv (T.get tm 0) fun v6 =>
  M.bind (oS (some v6) fun a => kNil a) fun v7 =>
  M.bind (oS (some v7) fun a => kFld E 35 a 2) fun v8 =>
  M.bind (oS (some v8) fun a => kLoad E 30 a) fun v9 =>
  M.bind (M.on (some (.func (.func 21) #[] #[])) fun f => M.on (seqO [(some v9)]) fun l => callV call round f l) fun v10 =>
  M.bind (oS (some v10) fun a => kExt 0 a) fun v11 =>
  M.bind (oS (some v10) fun a => kExt 1 a) fun v12 =>
  mv (some v11) fun v2 =>
  setF 2 v2 tm fun tm1 =>
  mv (some v12) fun v3 =>
  setF 3 v3 tm1 fun tm2 =>
  M.pure tm2
theorem ag_Last_q4 : RegEq 8 13 ag_Last_g ag_Last_P4 ag_Last_r4 := ⟨by kernel_rfl, fun _ _ _ _ _ _ _ _ _ => by kernel_rfl⟩
theorem ag_Last_E5 : ∃ k, ag_Last_P5 = .code .ret :: k := ⟨ag_Last_P5.tail, by kernel_rfl⟩
theorem ag_Last_E6 : ∃ k, ag_Last_P6 = .code .ret :: k := ⟨ag_Last_P6.tail, by kernel_rfl⟩
-- points: 0:region>[1], 1:region>[2], 2:cond>[3, 4], 3:region>[5], 4:region>[6], 5:ret>, 6:ret>

/-! ### (*satchel/agent.Agent).Start -/
noncomputable def ag_Start_g : Nat := globOf Tryz.f9
abbrev ag_Start_nt : Nat := 82
noncomputable def ag_Start_body : Code := Tryz.f9.body.getD .skip
theorem ag_Start_fn : envS.fn.get 9 = some Tryz.f9 := by kernel_rfl
theorem ag_Start_W {a0 a1 : Value} {n : Nat} {s : St} {Q : Value → St → Prop} (h : ∀ tm, T.get tm 0 = some a0 → T.get tm 1 = some a1 → W (runF envS n ⟨9, 82, ag_Start_g, tm, [.code ag_Start_body], .run, .normal, none⟩) (s.cxN cxN) fun p s1 => Q p.1 (s1.cxN s.cx)) : W (callW envS (runF envS n) 9 [a0, a1]) s Q :=
  W.call (by kernel_rfl) (by kernel_rfl) ag_Start_fn (by kernel_rfl) rfl rfl (by simp) (h _ (by kernel_rfl) (by kernel_rfl))
theorem ag_Start_res : Tryz.f9.results.toList = [.tmp 4] := by kernel_rfl
noncomputable def ag_Start_P0 : List Item := skim 64 [.code ag_Start_body]
noncomputable def ag_Start_P1 : List Item := skim 64 ag_Start_P0.tail
theorem ag_Start_S0_1 : skim 64 ag_Start_P0.tail = ag_Start_P1 := by kernel_rfl
noncomputable def ag_Start_P2 : List Item := skim 64 ag_Start_P1.tail
theorem ag_Start_S1_2 : skim 64 ag_Start_P1.tail = ag_Start_P2 := by kernel_rfl
noncomputable def ag_Start_P3 : List Item := skim 64 (brT ag_Start_P2)
theorem ag_Start_S2_3 : skim 64 (brT ag_Start_P2) = ag_Start_P3 := by kernel_rfl
noncomputable def ag_Start_P4 : List Item := skim 64 (brF ag_Start_P2)
theorem ag_Start_S2_4 : skim 64 (brF ag_Start_P2) = ag_Start_P4 := by kernel_rfl
noncomputable def ag_Start_P5 : List Item := skim 64 ag_Start_P3.tail
theorem ag_Start_S3_5 : skim 64 ag_Start_P3.tail = ag_Start_P5 := by kernel_rfl
noncomputable def ag_Start_P6 : List Item := skim 64 ag_Start_P4.tail
theorem ag_Start_S4_6 : skim 64 ag_Start_P4.tail = ag_Start_P6 := by kernel_rfl
noncomputable def ag_Start_P7 : List Item := skim 64 (brT ag_Start_P6)
theorem ag_Start_S6_7 : skim 64 (brT ag_Start_P6) = ag_Start_P7 := by kernel_rfl
noncomputable def ag_Start_P8 : List Item := skim 64 (brF ag_Start_P6)
theorem ag_Start_S6_8 : skim 64 (brF ag_Start_P6) = ag_Start_P8 := by kernel_rfl
theorem ag_Start_S7_5 : skim 64 ag_Start_P7.tail = ag_Start_P5 := by kernel_rfl
noncomputable def ag_Start_P9 : List Item := skim 64 ag_Start_P8.tail
theorem ag_Start_S8_9 : skim 64 ag_Start_P8.tail = ag_Start_P9 := by kernel_rfl
noncomputable def ag_Start_P10 : List Item := skim 64 (brT ag_Start_P9)
theorem ag_Start_S9_10 : skim 64 (brT ag_Start_P9) = ag_Start_P10 := by kernel_rfl
noncomputable def ag_Start_P11 : List Item := skim 64 (brF ag_Start_P9)
theorem ag_Start_S9_11 : skim 64 (brF ag_Start_P9) = ag_Start_P11 := by kernel_rfl
theorem ag_Start_S10_5 : skim 64 ag_Start_P10.tail = ag_Start_P5 := by kernel_rfl
noncomputable def ag_Start_P12 : List Item := skim 64 ag_Start_P11.tail
theorem ag_Start_S11_12 : skim 64 ag_Start_P11.tail = ag_Start_P12 := by kernel_rfl
noncomputable def ag_Start_P13 : List Item := skim 64 ag_Start_P12.tail
theorem ag_Start_S12_13 : skim 64 ag_Start_P12.tail = ag_Start_P13 := by kernel_rfl
noncomputable def ag_Start_P14 : List Item := skim 64 ag_Start_P13.tail
theorem ag_Start_S13_14 : skim 64 ag_Start_P13.tail = ag_Start_P14 := by kernel_rfl
noncomputable def ag_Start_P15 : List Item := skim 64 ag_Start_P14.tail
theorem ag_Start_S14_15 : skim 64 ag_Start_P14.tail = ag_Start_P15 := by kernel_rfl
noncomputable def ag_Start_P16 : List Item := skim 64 (brT ag_Start_P15)
theorem ag_Start_S15_16 : skim 64 (brT ag_Start_P15) = ag_Start_P16 := by kernel_rfl
noncomputable def ag_Start_P17 : List Item := skim 64 (brF ag_Start_P15)
theorem ag_Start_S15_17 : skim 64 (brF ag_Start_P15) = ag_Start_P17 := by kernel_rfl
noncomputable def ag_Start_P18 : List Item := skim 64 ag_Start_P16.tail
theorem ag_Start_S16_18 : skim 64 ag_Start_P16.tail = ag_Start_P18 := by kernel_rfl
noncomputable def ag_Start_P19 : List Item := skim 64 ag_Start_P17.tail
theorem ag_Start_S17_19 : skim 64 ag_Start_P17.tail = ag_Start_P19 := by kernel_rfl
noncomputable def ag_Start_P20 : List Item := skim 64 (brT ag_Start_P19)
theorem ag_Start_S19_20 : skim 64 (brT ag_Start_P19) = ag_Start_P20 := by kernel_rfl
noncomputable def ag_Start_P21 : List Item := skim 64 (brF ag_Start_P19)
theorem ag_Start_S19_21 : skim 64 (brF ag_Start_P19) = ag_Start_P21 := by kernel_rfl
noncomputable def ag_Start_P22 : List Item := skim 64 ag_Start_P20.tail
theorem ag_Start_S20_22 : skim 64 ag_Start_P20.tail = ag_Start_P22 := by kernel_rfl
noncomputable def ag_Start_P23 : List Item := skim 64 ag_Start_P21.tail
theorem ag_Start_S21_23 : skim 64 ag_Start_P21.tail = ag_Start_P23 := by kernel_rfl
noncomputable def ag_Start_P24 : List Item := skim 64 ag_Start_P22.tail
theorem ag_Start_S22_24 : skim 64 ag_Start_P22.tail = ag_Start_P24 := by kernel_rfl
noncomputable def ag_Start_P25 : List Item := skim 64 ag_Start_P23.tail
theorem ag_Start_S23_25 : skim 64 ag_Start_P23.tail = ag_Start_P25 := by kernel_rfl
noncomputable def ag_Start_P26 : List Item := skim 64 ag_Start_P24.tail
theorem ag_Start_S24_26 : skim 64 ag_Start_P24.tail = ag_Start_P26 := by kernel_rfl
noncomputable def ag_Start_P27 : List Item := skim 64 ag_Start_P25.tail
theorem ag_Start_S25_27 : skim 64 ag_Start_P25.tail = ag_Start_P27 := by kernel_rfl
noncomputable def ag_Start_P28 : List Item := skim 64 (brT ag_Start_P26)
theorem ag_Start_S26_28 : skim 64 (brT ag_Start_P26) = ag_Start_P28 := by kernel_rfl
theorem ag_Start_S26_21 : skim 64 (brF ag_Start_P26) = ag_Start_P21 := by kernel_rfl
noncomputable def ag_Start_P29 : List Item := skim 64 ag_Start_P27.tail
theorem ag_Start_S27_29 : skim 64 ag_Start_P27.tail = ag_Start_P29 := by kernel_rfl
noncomputable def ag_Start_P30 : List Item := skim 64 ag_Start_P28.tail
theorem ag_Start_S28_30 : skim 64 ag_Start_P28.tail = ag_Start_P30 := by kernel_rfl
/-- agent.go:53 -/
noncomputable def ag_Start_r0 (E : Env) (call round : CallT) (tm : T Value) : M (T Value) :=
  M.bind (oS (T.get tm 0) fun a => kBox a) fun v2 =>
  setF 2 v2 tm fun tm1 =>
  M.bind (oS (T.get tm1 1) fun a => kBox a) fun v3 =>
  setF 3 v3 tm1 fun tm2 =>
  mv (some (.int .i64 0)) fun v4 =>
  setF 4 v4 tm2 fun tm3 =>
  M.pure tm3
theorem ag_Start_q0 : RegEq 9 82 ag_Start_g ag_Start_P0 ag_Start_r0 := ⟨by kernel_rfl, fun _ _ _ _ _ _ _ _ _ => by kernel_rfl⟩
/-- agent.go:55 -/
noncomputable def ag_Start_r1 (E : Env) (call round : CallT) (tm : T Value) : M (T Value) :=
  M.bind (oS (T.get tm 2) fun a => kLoad E 28 a) fun v13 =>
  M.bind (M.on (some (.func (.func 20) #[] #[])) fun f => M.on (seqO [(some v13)]) fun l => callV call round f l) fun v14 =>
  mv (some v14) fun v12 =>
  setF 12 v12 tm fun tm1 =>
  M.pure tm1
theorem ag_Start_q1 : RegEq 9 82 ag_Start_g ag_Start_P1 ag_Start_r1 := ⟨by kernel_rfl, fun _ _ _ _ _ _ _ _ _ => by kernel_rfl⟩
theorem ag_Start_C2 : condX ag_Start_P2 = some 12 := by kernel_rfl
/-- agent.go:56 -/
noncomputable def ag_Start_r3 (E : Env) (call round : CallT) (tm : T Value) : M (T Value) :=
  mv (some (.int .i64 1)) fun v4 =>
  setF 4 v4 tm fun tm1 =>
  M.pure tm1
theorem ag_Start_q3 : RegEq 9 82 ag_Start_g ag_Start_P3 ag_Start_r3 := ⟨by kernel_rfl, fun _ _ _ _ _ _ _ _ _ => by kernel_rfl⟩
/-- agent.go:57 -/
noncomputable def ag_Start_r4 (E : Env) (call round : CallT) (tm : T Value) : M (T Value) :=
  M.bind (oS (T.get tm 2) fun a => kLoad E 28 a) fun v16 =>
  M.bind (oS (some v16) fun a => kNil a) fun v17 =>
  M.bind (oS (some v17) fun a => kFld E 35 a 5) fun v18 =>
  M.bind (oS (some v18) fun a => kLoad E 32 a) fun v19 =>
  M.bind (oS (some v19) fun a => oS (some (.pointer none)) fun b => Cl.get (aBin E .neq 32 (.tmp 19) (.const (.pointer none))) a b) fun v20 =>
  mv (some v20) fun v21 =>
  M.bind (M.chk (isK v21) (M.if (isB v21 false) (oS (T.get tm 2) fun a => kLoad E 28 a) (M.pure undef))) fun v22 =>
  M.bind (M.chk (isK v21) (M.if (isB v21 false) (oS (some v22) fun a => kNil a) (M.pure undef))) fun v23 =>
  M.bind (M.chk (isK v21) (M.if (isB v21 false) (oS (some v23) fun a => kFld E 35 a 6) (M.pure undef))) fun v24 =>
  M.bind (M.chk (isK v21) (M.if (isB v21 false) (oS (some v24) fun a => kLoad E 33 a) (M.pure undef))) fun v25 =>
  M.bind (M.chk (isK v21) (M.if (isB v21 false) (oS (some v25) fun a => oS (some (.pointer none)) fun b => Cl.get (aBin E .neq 33 (.tmp 25) (.const (.pointer none))) a b) (M.pure undef))) fun v26 =>
  M.bind (M.on (some v21) fun a => M.on (some (.bool true)) fun b => M.on (some v26) fun c => kPick a b c) fun v27 =>
  mv (some v27) fun v15 =>
  setF 15 v15 tm fun tm1 =>
  M.pure tm1
theorem ag_Start_q4 : RegEq 9 82 ag_Start_g ag_Start_P4 ag_Start_r4 := ⟨by kernel_rfl, fun _ _ _ _ _ _ _ _ _ => by kernel_rfl⟩
theorem ag_Start_E5 : ∃ k, ag_Start_P5 = .code .ret :: k := ⟨ag_Start_P5.tail, by kernel_rfl⟩
theorem ag_Start_C6 : condX ag_Start_P6 = some 15 := by kernel_rfl
/-- agent.go:58 -/
noncomputable def ag_Start_r7 (E : Env) (call round : CallT) (tm : T Value) : M (T Value) :=
  mv (some (.int .i64 9)) fun v4 =>
  setF 4 v4 tm fun tm1 =>
  M.pure tm1
theorem ag_Start_q7 : RegEq 9 82 ag_Start_g ag_Start_P7 ag_Start_r7 := ⟨by kernel_rfl, fun _ _ _ _ _ _ _ _ _ => by kernel_rfl⟩
/-- agent.go:59 -/
noncomputable def ag_Start_r8 (E : Env) (call round : CallT) (tm : T Value) : M (T Value) :=
  M.bind (oS (T.get tm 2) fun a => kLoad E 28 a) fun v29 =>
  M.bind (oS (some v29) fun a => kNil a) fun v30 =>
  M.bind (oS (some v30) fun a => kFld E 35 a 2) fun v31 =>
  M.bind (oS (some v31) fun a => kLoad E 30 a) fun v32 =>
  M.bind (M.on (some (.func (.func 22) #[] #[])) fun f => M.on (seqO [(some v32)]) fun l => callV call round f l) fun v33 =>
  mv (some v33) fun v28 =>
  setF 28 v28 tm fun tm1 =>
  M.pure tm1
theorem ag_Start_q8 : RegEq 9 82 ag_Start_g ag_Start_P8 ag_Start_r8 := ⟨by kernel_rfl, fun _ _ _ _ _ _ _ _ _ => by kernel_rfl⟩
theorem ag_Start_C9 : condX ag_Start_P9 = some 28 := by kernel_rfl
/-- agent.go:60 -/
noncomputable def ag_Start_r10 (E : Env) (call round : CallT) (tm : T Value) : M (T Value) :=
  mv (some (.int .i64 10)) fun v4 =>
  setF 4 v4 tm fun tm1 =>
  M.pure tm1
theorem ag_Start_q10 : RegEq 9 82 ag_Start_g ag_Start_P10 ag_Start_r10 := ⟨by kernel_rfl, fun _ _ _ _ _ _ _ _ _ => by kernel_rfl⟩
/-- agent.go:62 -/
noncomputable def ag_Start_r11 (E : Env) (call round : CallT) (tm : T Value) : M (T Value) :=
  M.bind (oS (T.get tm 3) fun a => kLoad E 24 a) fun v34 =>
  M.bind (M.on (some (.func (.func 23) #[] #[])) fun f => M.on (seqO [(some v34)]) fun l => callV call round f l) fun v35 =>
  M.bind (oS (T.get tm 3) fun a => oS (some v35) fun b => kStore E 24 a b) fun _ =>
  M.pure tm
theorem ag_Start_q11 : RegEq 9 82 ag_Start_g ag_Start_P11 ag_Start_r11 := ⟨by kernel_rfl, fun _ _ _ _ _ _ _ _ _ => by kernel_rfl⟩
/-- agent.go:63 -/
noncomputable def ag_Start_r12 (E : Env) (call round : CallT) (tm : T Value) : M (T Value) :=
  M.bind (kAlloc E 3) fun v5 =>
  setF 5 v5 tm fun tm1 =>
  M.bind (oS (some v5) fun a => oS (some (.int .i64 1)) fun b => kStore E 3 a b) fun _ =>
  M.pure tm1
theorem ag_Start_q12 : RegEq 9 82 ag_Start_g ag_Start_P12 ag_Start_r12 := ⟨by kernel_rfl, fun _ _ _ _ _ _ _ _ _ => by kernel_rfl⟩
/-- agent.go:64; the order is open -/
noncomputable def ag_Start_d13 (E : Env) (call round : CallT) (tm : T Value) : M ((Rho × T Value) × List OpLog) :=
  M.bind (apartO (oS (T.get tm 2) fun a => kLoad E 28 a)) fun p0 =>
  M.bind (apartO (oS (some p0.1) fun a => kNil a)) fun p1 =>
  M.bind (apartO (oS (some p1.1) fun a => kFld E 35 a 0)) fun p2 =>
  M.bind (apartO (oS (some p2.1) fun a => kLoad E 3 a)) fun p3 =>
  M.bind (apartO (oS (T.get tm 5) fun a => kLoad E 3 a)) fun p4 =>
  M.bind (apartO (oS (T.get tm 3) fun a => kLoad E 24 a)) fun p5 =>
  M.bind (apartO (M.on (some (.func (.func 24) #[] #[])) fun f => M.on (seqO [(some p3.1), (some p4.1), (some p5.1)]) fun l => callV call round f l)) fun p6 =>
  M.bind (apartO (oS (some p6.1) fun a => M.pure a)) fun p7 =>
  M.bind (apartO (oS (some p7.1) fun a => kExt 0 a)) fun p8 =>
  M.bind (apartO (oS (some p7.1) fun a => kExt 1 a)) fun p9 =>
  M.bind (apartO (oS (some p8.1) fun a => M.pure a)) fun p10 =>
  M.pure (([p10.1, p9.1, p8.1, p7.1, p6.1, p5.1, p4.1, p3.1, p2.1, p1.1, p0.1], tm), [p10.2, p9.2, p8.2, p7.2, p6.2, p5.2, p4.2, p3.2, p2.2, p1.2, p0.2])
theorem ag_Start_q13 : DrawEq 9 82 ag_Start_g ag_Start_P13 [0, 1, 3, 7, 0, 0, 63, 127, 255, 255, 511, 2047] ag_Start_d13 := ⟨by kernel_rfl, by kernel_rfl, fun _ _ _ _ _ _ _ _ _ => by kernel_rfl⟩
theorem ag_Start_L13 (E : Env) (call round : CallT) (x37 x38 x39 x40 x41 x42 x43 x36 x44 x45 x6 : Value) (tm : T Value) (s : St) : opsIn call round (lastOps E ag_Start_g 82 (hdC ag_Start_P13)) [x6, x45, x44, x36, x43, x42, x41, x40, x39, x38, x37] tm s = (M.bind (oS (some x45) fun a => M.pure a) fun v7 => setT 7 v7 tm fun tm1 => M.pure tm1) s := by kernel_rfl
/-- agent.go:64 -/
noncomputable def ag_Start_r14 (E : Env) (call round : CallT) (tm : T Value) : M (T Value) :=
  mv (T.get tm 7) fun v46 =>
  M.bind (oS (some v46) fun a => oS (some (.int .i64 0)) fun b => Cl.get (aBin E .neq 37 (.tmp 46) (.const (.int .i64 0))) a b) fun v47 =>
  setF 47 v47 tm fun tm1 =>
  M.pure tm1
theorem ag_Start_q14 : RegEq 9 82 ag_Start_g ag_Start_P14 ag_Start_r14 := ⟨by kernel_rfl, fun _ _ _ _ _ _ _ _ _ => by kernel_rfl⟩
theorem ag_Start_C15 : condX ag_Start_P15 = some 47 := by kernel_rfl
/-- agent.go:65 -/
noncomputable def ag_Start_r16 (E : Env) (call round : CallT) (tm : T Value) : M (T Value) :=
  mv (T.get tm 7) fun v48 =>
  mv (some v48) fun v4 =>
  setF 4 v4 tm fun tm1 =>
  M.pure tm1
theorem ag_Start_q16 : RegEq 9 82 ag_Start_g ag_Start_P16 ag_Start_r16 := ⟨by kernel_rfl, fun _ _ _ _ _ _ _ _ _ => by kernel_rfl⟩
/-- agent.go:67 -/
noncomputable def ag_Start_r17 (E : Env) (call round : CallT) (tm : T Value) : M (T Value) :=
  M.bind (oS (T.get tm 3) fun a => kFld E 24 a 0) fun v49 =>
  M.bind (oS (some v49) fun a => kLoad E 3 a) fun v50 =>
  M.bind (oS (some v50) fun a => oS (some (.int .i64 1)) fun b => Cl.get (aBin E .eql 3 (.tmp 50) (.const (.int .i64 1))) a b) fun v51 =>
  setF 51 v51 tm fun tm1 =>
  M.pure tm1
theorem ag_Start_q17 : RegEq 9 82 ag_Start_g ag_Start_P17 ag_Start_r17 := ⟨by kernel_rfl, fun _ _ _ _ _ _ _ _ _ => by kernel_rfl⟩
theorem ag_Start_E18 : ∃ k, ag_Start_P18 = .code .ret :: k := ⟨ag_Start_P18.tail, by kernel_rfl⟩
theorem ag_Start_C19 : condX ag_Start_P19 = some 51 := by kernel_rfl
/-- agent.go:68 -/
noncomputable def ag_Start_r20 (E : Env) (call round : CallT) (tm : T Value) : M (T Value) :=
  mv (some (.int .i64 0)) fun v8 =>
  setF 8 v8 tm fun tm1 =>
  M.pure tm1
theorem ag_Start_q20 : RegEq 9 82 ag_Start_g ag_Start_P20 ag_Start_r20 := ⟨by kernel_rfl, fun _ _ _ _ _ _ _ _ _ => by kernel_rfl⟩
/-- agent.go:73 -/
noncomputable def ag_Start_r21 (E : Env) (call round : CallT) (tm : T Value) : M (T Value) :=
  M.bind (oS (seqO []) fun a => oS (seqO [(T.get tm 2), (T.get tm 5), (T.get tm 3)]) fun b => M.pure (.func (.func 26) a.toArray b.toArray)) fun v63 =>
  mv (some v63) fun v9 =>
  setF 9 v9 tm fun tm1 =>
  M.pure tm1
theorem ag_Start_q21 : RegEq 9 82 ag_Start_g ag_Start_P21 ag_Start_r21 := ⟨by kernel_rfl, fun _ _ _ _ _ _ _ _ _ => by kernel_rfl⟩
/-- agent.go:69 -/
noncomputable def ag_Start_r22 (E : Env) (call round : CallT) (tm : T Value) : M (T Value) :=
  M.bind (oS (T.get tm 2) fun a => kLoad E 28 a) fun v53 =>
  M.bind (oS (some v53) fun a => kNil a) fun v54 =>
  M.bind (oS (some v54) fun a => kFld E 35 a 2) fun v55 =>
  M.bind (oS (some v55) fun a => kLoad E 30 a) fun v56 =>
  M.bind (M.on (some (.func (.func 25) #[] #[])) fun f => M.on (seqO [(some v56)]) fun l => callV call round f l) fun v57 =>
  mv (some v57) fun v52 =>
  M.bind (oS (some v52) fun a => kExt 0 a) fun v58 =>
  M.bind (oS (some v52) fun a => kExt 1 a) fun v59 =>
  M.bind (oS (T.get tm 5) fun a => oS (some v58) fun b => kStore E 3 a b) fun _ =>
  mv (some v59) fun v8 =>
  setF 8 v8 tm fun tm1 =>
  M.pure tm1
theorem ag_Start_q22 : RegEq 9 82 ag_Start_g ag_Start_P22 ag_Start_r22 := ⟨by kernel_rfl, fun _ _ _ _ _ _ _ _ _ => by kernel_rfl⟩
/-- agent.go:74 -/
noncomputable def ag_Start_r23 (E : Env) (call round : CallT) (tm : T Value) : M (T Value) :=
  mv (T.get tm 9) fun v65 =>
  M.bind (M.on (some v65) fun f => M.on (seqO []) fun l => callV call round f l) fun v66 =>
  mv (some v66) fun v64 =>
  M.bind (oS (some v64) fun a => kExt 0 a) fun v67 =>
  M.bind (oS (some v64) fun a => kExt 1 a) fun v68 =>
  mv (some v67) fun v10 =>
  setF 10 v10 tm fun tm1 =>
  mv (some v68) fun v11 =>
  M.pure tm1
theorem ag_Start_q23 : RegEq 9 82 ag_Start_g ag_Start_P23 ag_Start_r23 := ⟨by kernel_rfl, fun _ _ _ _ _ _ _ _ _ => by kernel_rfl⟩
/-- agent.go:69 -/
noncomputable def ag_Start_r24 (E : Env) (call round : CallT) (tm : T Value) : M (T Value) :=
  mv (T.get tm 8) fun v60 =>
  M.bind (oS (some v60) fun a => oS (some (.int .i64 0)) fun b => Cl.get (aBin E .neq 37 (.tmp 60) (.const (.int .i64 0))) a b) fun v61 =>
  setF 61 v61 tm fun tm1 =>
  M.pure tm1
theorem ag_Start_q24 : RegEq 9 82 ag_Start_g ag_Start_P24 ag_Start_r24 := ⟨by kernel_rfl, fun _ _ _ _ _ _ _ _ _ => by kernel_rfl⟩
/-- agent.go:75; the order is open -/
noncomputable def ag_Start_d25 (E : Env) (call round : CallT) (tm : T Value) : M ((Rho × T Value) × List OpLog) :=
  M.bind (apartO (oS (T.get tm 2) fun a => kLoad E 28 a)) fun p0 =>
  M.bind (apartO (oS (T.get tm 3) fun a => kFld E 24 a 0)) fun p1 =>
  M.bind (apartO (oS (some p1.1) fun a => kLoad E 3 a)) fun p2 =>
  M.bind (apartO (oS (T.get tm 10) fun a => M.pure a)) fun p3 =>
  M.bind (apartO (oS (T.get tm 9) fun a => M.pure a)) fun p4 =>
  M.bind (apartO (oS (T.get tm 2) fun a => kLoad E 28 a)) fun p5 =>
  M.bind (apartO (oS (some p5.1) fun a => kNil a)) fun p6 =>
  M.bind (apartO (oS (some p6.1) fun a => kFld E 35 a 3)) fun p7 =>
  M.bind (apartO (oS (some p7.1) fun a => kLoad E 3 a)) fun p8 =>
  M.bind (apartO (oS (seqP [(0, (some p2.1)), (1, (some p3.1)), (2, (some p4.1)), (4, (some p8.1))]) fun ps => aBuild E 72 ps)) fun p9 =>
  M.bind (apartO (oS (some p9.1) fun a => kBox a)) fun p10 =>
  M.bind (apartO (oS (some p0.1) fun a => kNil a)) fun p11 =>
  M.bind (apartO (oS (some p11.1) fun a => kFld E 35 a 5)) fun p12 =>
  M.pure (([p12.1, p11.1, p10.1, p9.1, p8.1, p7.1, p6.1, p5.1, p4.1, p3.1, p2.1, p1.1, p0.1], tm), [p12.2, p11.2, p10.2, p9.2, p8.2, p7.2, p6.2, p5.2, p4.2, p3.2, p2.2, p1.2, p0.2])
theorem ag_Start_q25 : DrawEq 9 82 ag_Start_g ag_Start_P25 [0, 0, 2, 0, 0, 0, 32, 96, 224, 510, 1022, 2047, 4095, 8191] ag_Start_d25 := ⟨by kernel_rfl, by kernel_rfl, fun _ _ _ _ _ _ _ _ _ => by kernel_rfl⟩
theorem ag_Start_L25 (E : Env) (call round : CallT) (x69 x70 x71 x72 x73 x74 x75 x76 x77 x78 x79 x80 x81 : Value) (tm : T Value) (s : St) : opsIn call round (lastOps E ag_Start_g 82 (hdC ag_Start_P25)) [x81, x80, x79, x78, x77, x76, x75, x74, x73, x72, x71, x70, x69] tm s = (M.bind (oS (some x81) fun a => oS (some x79) fun b => kStore E 32 a b) fun _ => M.pure tm) s := by kernel_rfl
theorem ag_Start_C26 : condX ag_Start_P26 = some 61 := by kernel_rfl
/-- agent.go:76 -/
noncomputable def ag_Start_r27 (E : Env) (call round : CallT) (tm : T Value) : M (T Value) :=
  mv (some (.int .i64 0)) fun v4 =>
  setF 4 v4 tm fun tm1 =>
  M.pure tm1
theorem ag_Start_q27 : RegEq 9 82 ag_Start_g ag_Start_P27 ag_Start_r27 := ⟨by kernel_rfl, fun _ _ _ _ _ _ _ _ _ => by kernel_rfl⟩
/-- agent.go:70 -/
noncomputable def ag_Start_r28 (E : Env) (call round : CallT) (tm : T Value) : M (T Value) :=
  mv (T.get tm 8) fun v62 =>
  mv (some v62) fun v4 =>
  setF 4 v4 tm fun tm1 =>
  M.pure tm1
theorem ag_Start_q28 : RegEq 9 82 ag_Start_g ag_Start_P28 ag_Start_r28 := ⟨by kernel_rfl, fun _ _ _ _ _ _ _ _ _ => by kernel_rfl⟩
theorem ag_Start_E29 : ∃ k, ag_Start_P29 = .code .ret :: k := ⟨ag_Start_P29.tail, by kernel_rfl⟩
theorem ag_Start_E30 : ∃ k, ag_Start_P30 = .code .ret :: k := ⟨ag_Start_P30.tail, by kernel_rfl⟩
-- points: 0:region>[1], 1:region>[2], 2:cond>[3, 4], 3:region>[5], 4:region>[6], 5:ret>, 6:cond>[7, 8], 7:region>[5], 8:region>[9], 9:cond>[10, 11], 10:region>[5], 11:region>[12], 12:region>[13], 13:region>[14], 14:region>[15], 15:cond>[16, 17], 16:region>[18], 17:region>[19], 18:ret>, 19:cond>[20, 21], 20:region>[22], 21:region>[23], 22:region>[24], 23:region>[25], 24:region>[26], 25:region>[27], 26:cond>[28, 21], 27:region>[29], 28:region>[30], 29:ret>, 30:ret>

/-! ### (*satchel/agent.Agent).Receive -/
noncomputable def ag_Receive_g : Nat := globOf Tryz.f10
abbrev ag_Receive_nt : Nat := 73
noncomputable def ag_Receive_body : Code := Tryz.f10.body.getD .skip
theorem ag_Receive_fn : envS.fn.get 10 = some Tryz.f10 := by kernel_rfl
theorem ag_Receive_W {a0 a1 a2 : Value} {n : Nat} {s : St} {Q : Value → St → Prop} (h : ∀ tm, T.get tm 0 = some a0 → T.get tm 1 = some a1 → T.get tm 2 = some a2 → W (runF envS n ⟨10, 73, ag_Receive_g, tm, [.code ag_Receive_body], .run, .normal, none⟩) (s.cxN cxN) fun p s1 => Q p.1 (s1.cxN s.cx)) : W (callW envS (runF envS n) 10 [a0, a1, a2]) s Q :=
  W.call (by kernel_rfl) (by kernel_rfl) ag_Receive_fn (by kernel_rfl) rfl rfl (by simp) (h _ (by kernel_rfl) (by kernel_rfl) (by kernel_rfl))
theorem ag_Receive_res : Tryz.f10.results.toList = [.tmp 6] := by kernel_rfl
noncomputable def ag_Receive_P0 : List Item := skim 64 [.code ag_Receive_body]
noncomputable def ag_Receive_P1 : List Item := skim 64 ag_Receive_P0.tail
theorem ag_Receive_S0_1 : skim 64 ag_Receive_P0.tail = ag_Receive_P1 := by kernel_rfl
noncomputable def ag_Receive_P2 : List Item := skim 64 ag_Receive_P1.tail
theorem ag_Receive_S1_2 : skim 64 ag_Receive_P1.tail = ag_Receive_P2 := by kernel_rfl
noncomputable def ag_Receive_P3 : List Item := skim 64 (brT ag_Receive_P2)
theorem ag_Receive_S2_3 : skim 64 (brT ag_Receive_P2) = ag_Receive_P3 := by kernel_rfl
noncomputable def ag_Receive_P4 : List Item := skim 64 (brF ag_Receive_P2)
theorem ag_Receive_S2_4 : skim 64 (brF ag_Receive_P2) = ag_Receive_P4 := by kernel_rfl
noncomputable def ag_Receive_P5 : List Item := skim 64 ag_Receive_P3.tail
theorem ag_Receive_S3_5 : skim 64 ag_Receive_P3.tail = ag_Receive_P5 := by kernel_rfl
noncomputable def ag_Receive_P6 : List Item := skim 64 ag_Receive_P4.tail
theorem ag_Receive_S4_6 : skim 64 ag_Receive_P4.tail = ag_Receive_P6 := by kernel_rfl
noncomputable def ag_Receive_P7 : List Item := skim 64 (brT ag_Receive_P6)
theorem ag_Receive_S6_7 : skim 64 (brT ag_Receive_P6) = ag_Receive_P7 := by kernel_rfl
noncomputable def ag_Receive_P8 : List Item := skim 64 (brF ag_Receive_P6)
theorem ag_Receive_S6_8 : skim 64 (brF ag_Receive_P6) = ag_Receive_P8 := by kernel_rfl
theorem ag_Receive_S7_5 : skim 64 ag_Receive_P7.tail = ag_Receive_P5 := by kernel_rfl
noncomputable def ag_Receive_P9 : List Item := skim 64 ag_Receive_P8.tail
theorem ag_Receive_S8_9 : skim 64 ag_Receive_P8.tail = ag_Receive_P9 := by kernel_rfl
noncomputable def ag_Receive_P10 : List Item := skim 64 ag_Receive_P9.tail
theorem ag_Receive_S9_10 : skim 64 ag_Receive_P9.tail = ag_Receive_P10 := by kernel_rfl
noncomputable def ag_Receive_P11 : List Item := skim 64 (brT ag_Receive_P10)
theorem ag_Receive_S10_11 : skim 64 (brT ag_Receive_P10) = ag_Receive_P11 := by kernel_rfl
noncomputable def ag_Receive_P12 : List Item := skim 64 (brF ag_Receive_P10)
theorem ag_Receive_S10_12 : skim 64 (brF ag_Receive_P10) = ag_Receive_P12 := by kernel_rfl
noncomputable def ag_Receive_P13 : List Item := skim 64 ag_Receive_P11.tail
theorem ag_Receive_S11_13 : skim 64 ag_Receive_P11.tail = ag_Receive_P13 := by kernel_rfl
noncomputable def ag_Receive_P14 : List Item := skim 64 ag_Receive_P12.tail
theorem ag_Receive_S12_14 : skim 64 ag_Receive_P12.tail = ag_Receive_P14 := by kernel_rfl
noncomputable def ag_Receive_P15 : List Item := skim 64 ag_Receive_P14.tail
theorem ag_Receive_S14_15 : skim 64 ag_Receive_P14.tail = ag_Receive_P15 := by kernel_rfl
noncomputable def ag_Receive_P16 : List Item := skim 64 (brT ag_Receive_P15)
theorem ag_Receive_S15_16 : skim 64 (brT ag_Receive_P15) = ag_Receive_P16 := by kernel_rfl
noncomputable def ag_Receive_P17 : List Item := skim 64 (brF ag_Receive_P15)
theorem ag_Receive_S15_17 : skim 64 (brF ag_Receive_P15) = ag_Receive_P17 := by kernel_rfl
noncomputable def ag_Receive_P18 : List Item := skim 64 ag_Receive_P16.tail
theorem ag_Receive_S16_18 : skim 64 ag_Receive_P16.tail = ag_Receive_P18 := by kernel_rfl
noncomputable def ag_Receive_P19 : List Item := skim 64 ag_Receive_P17.tail
theorem ag_Receive_S17_19 : skim 64 ag_Receive_P17.tail = ag_Receive_P19 := by kernel_rfl
noncomputable def ag_Receive_P20 : List Item := skim 64 (brT ag_Receive_P19)
theorem ag_Receive_S19_20 : skim 64 (brT ag_Receive_P19) = ag_Receive_P20 := by kernel_rfl
noncomputable def ag_Receive_P21 : List Item := skim 64 (brF ag_Receive_P19)
theorem ag_Receive_S19_21 : skim 64 (brF ag_Receive_P19) = ag_Receive_P21 := by kernel_rfl
theorem ag_Receive_S20_21 : skim 64 ag_Receive_P20.tail = ag_Receive_P21 := by kernel_rfl
noncomputable def ag_Receive_P22 : List Item := skim 64 ag_Receive_P21.tail
theorem ag_Receive_S21_22 : skim 64 ag_Receive_P21.tail = ag_Receive_P22 := by kernel_rfl
noncomputable def ag_Receive_P23 : List Item := skim 64 ag_Receive_P22.tail
theorem ag_Receive_S22_23 : skim 64 ag_Receive_P22.tail = ag_Receive_P23 := by kernel_rfl
noncomputable def ag_Receive_P24 : List Item := skim 64 (brT ag_Receive_P23)
theorem ag_Receive_S23_24 : skim 64 (brT ag_Receive_P23) = ag_Receive_P24 := by kernel_rfl
noncomputable def ag_Receive_P25 : List Item := skim 64 (brF ag_Receive_P23)
theorem ag_Receive_S23_25 : skim 64 (brF ag_Receive_P23) = ag_Receive_P25 := by kernel_rfl
noncomputable def ag_Receive_P26 : List Item := skim 64 ag_Receive_P24.tail
theorem ag_Receive_S24_26 : skim 64 ag_Receive_P24.tail = ag_Receive_P26 := by kernel_rfl
noncomputable def ag_Receive_P27 : List Item := skim 64 ag_Receive_P25.tail
theorem ag_Receive_S25_27 : skim 64 ag_Receive_P25.tail = ag_Receive_P27 := by kernel_rfl
noncomputable def ag_Receive_P28 : List Item := skim 64 ag_Receive_P26.tail
theorem ag_Receive_S26_28 : skim 64 ag_Receive_P26.tail = ag_Receive_P28 := by kernel_rfl
theorem ag_Receive_S28_22 : skim 64 ag_Receive_P28.tail = ag_Receive_P22 := by kernel_rfl
/-- agent.go:114 -/
noncomputable def ag_Receive_r0 (E : Env) (call round : CallT) (tm : T Value) : M (T Value) :=
  mv (some (.int .i64 0)) fun v6 =>
  setF 6 v6 tm fun tm1 =>
  M.pure tm1
theorem ag_Receive_q0 : RegEq 10 73 ag_Receive_g ag_Receive_P0 ag_Receive_r0 := ⟨by kernel_rfl, fun _ _ _ _ _ _ _ _ _ => by kernel_rfl⟩
/-- agent.go:116 -/
noncomputable def ag_Receive_r1 (E : Env) (call round : CallT) (tm : T Value) : M (T Value) :=
  mv (T.get tm 0) fun v12 =>
  M.bind (M.on (some (.func (.func 20) #[] #[])) fun f => M.on (seqO [(some v12)]) fun l => callV call round f l) fun v13 =>
  mv (some v13) fun v11 =>
  setF 11 v11 tm fun tm1 =>
  M.pure tm1
theorem ag_Receive_q1 : RegEq 10 73 ag_Receive_g ag_Receive_P1 ag_Receive_r1 := ⟨by kernel_rfl, fun _ _ _ _ _ _ _ _ _ => by kernel_rfl⟩
theorem ag_Receive_C2 : condX ag_Receive_P2 = some 11 := by kernel_rfl
/-- agent.go:117 -/
noncomputable def ag_Receive_r3 (E : Env) (call round : CallT) (tm : T Value) : M (T Value) :=
  mv (some (.int .i64 1)) fun v6 =>
  setF 6 v6 tm fun tm1 =>
  M.pure tm1
theorem ag_Receive_q3 : RegEq 10 73 ag_Receive_g ag_Receive_P3 ag_Receive_r3 := ⟨by kernel_rfl, fun _ _ _ _ _ _ _ _ _ => by kernel_rfl⟩
/-- agent.go:118 -/
noncomputable def ag_Receive_r4 (E : Env) (call round : CallT) (tm : T Value) : M (T Value) :=
  mv (T.get tm 2) fun v15 =>
  M.bind (M.on (some (.func (.func 27) #[] #[])) fun f => M.on (seqO [(some v15)]) fun l => callV call round f l) fun v16 =>
  M.bind (oS (some v16) fun a => kUn E.P .not a) fun v17 =>
  mv (some v17) fun v14 =>
  setF 14 v14 tm fun tm1 =>
  M.pure tm1
theorem ag_Receive_q4 : RegEq 10 73 ag_Receive_g ag_Receive_P4 ag_Receive_r4 := ⟨by kernel_rfl, fun _ _ _ _ _ _ _ _ _ => by kernel_rfl⟩
theorem ag_Receive_E5 : ∃ k, ag_Receive_P5 = .code .ret :: k := ⟨ag_Receive_P5.tail, by kernel_rfl⟩
theorem ag_Receive_C6 : condX ag_Receive_P6 = some 14 := by kernel_rfl
/-- agent.go:119 -/
noncomputable def ag_Receive_r7 (E : Env) (call round : CallT) (tm : T Value) : M (T Value) :=
  mv (some (.int .i64 2)) fun v6 =>
  setF 6 v6 tm fun tm1 =>
  M.pure tm1
theorem ag_Receive_q7 : RegEq 10 73 ag_Receive_g ag_Receive_P7 ag_Receive_r7 := ⟨by kernel_rfl, fun _ _ _ _ _ _ _ _ _ => by kernel_rfl⟩
/-- agent.go:121 -/
noncomputable def ag_Receive_r8 (E : Env) (call round : CallT) (tm : T Value) : M (T Value) :=
  mv (T.get tm 0) fun v18 =>
  mv (T.get tm 0) fun v19 =>
  M.bind (oS (some v19) fun a => kNil a) fun v20 =>
  M.bind (oS (some v20) fun a => kFld E 35 a 3) fun v21 =>
  M.bind (oS (some v21) fun a => kLoad E 3 a) fun v22 =>
  mv (T.get tm 2) fun v23 =>
  M.bind (oS (seqO [(some v22), (some v23)]) fun l => aBuiltin E .max [3, 3] l) fun v24 =>
  M.bind (oS (some v18) fun a => kNil a) fun v25 =>
  M.bind (oS (some v25) fun a => kFld E 35 a 3) fun v26 =>
  M.bind (oS (some v26) fun a => oS (some v24) fun b => kStore E 3 a b) fun _ =>
  M.pure tm
theorem ag_Receive_q8 : RegEq 10 73 ag_Receive_g ag_Receive_P8 ag_Receive_r8 := ⟨by kernel_rfl, fun _ _ _ _ _ _ _ _ _ => by kernel_rfl⟩
/-- agent.go:122 -/
noncomputable def ag_Receive_r9 (E : Env) (call round : CallT) (tm : T Value) : M (T Value) :=
  mv (T.get tm 0) fun v27 =>
  M.bind (oS (some v27) fun a => kNil a) fun v28 =>
  M.bind (oS (some v28) fun a => kFld E 35 a 4) fun v29 =>
  M.bind (oS (some v29) fun a => kLoad E 31 a) fun v30 =>
  M.bind (oS (some v30) fun a => oS (some (.pointer none)) fun b => Cl.get (aBin E .eql 31 (.tmp 30) (.const (.pointer none))) a b) fun v31 =>
  setF 31 v31 tm fun tm1 =>
  M.pure tm1
theorem ag_Receive_q9 : RegEq 10 73 ag_Receive_g ag_Receive_P9 ag_Receive_r9 := ⟨by kernel_rfl, fun _ _ _ _ _ _ _ _ _ => by kernel_rfl⟩
theorem ag_Receive_C10 : condX ag_Receive_P10 = some 31 := by kernel_rfl
/-- agent.go:123 -/
noncomputable def ag_Receive_r11 (E : Env) (call round : CallT) (tm : T Value) : M (T Value) :=
  mv (some (.int .i64 9)) fun v6 =>
  setF 6 v6 tm fun tm1 =>
  M.pure tm1
theorem ag_Receive_q11 : RegEq 10 73 ag_Receive_g ag_Receive_P11 ag_Receive_r11 := ⟨by kernel_rfl, fun _ _ _ _ _ _ _ _ _ => by kernel_rfl⟩
/-- agent.go:125; the order is open -/
noncomputable def ag_Receive_d12 (E : Env) (call round : CallT) (tm : T Value) : M ((Rho × T Value) × List OpLog) :=
  M.bind (apartO (oS (T.get tm 0) fun a => M.pure a)) fun p0 =>
  M.bind (apartO (oS (some p0.1) fun a => kNil a)) fun p1 =>
  M.bind (apartO (oS (some p1.1) fun a => kFld E 35 a 4)) fun p2 =>
  M.bind (apartO (oS (some p2.1) fun a => kLoad E 31 a)) fun p3 =>
  M.bind (apartO (oS (T.get tm 1) fun a => M.pure a)) fun p4 =>
  M.bind (apartO (oS (T.get tm 0) fun a => M.pure a)) fun p5 =>
  M.bind (apartO (oS (some p5.1) fun a => kNil a)) fun p6 =>
  M.bind (apartO (oS (some p6.1) fun a => kFld E 35 a 3)) fun p7 =>
  M.bind (apartO (oS (some p7.1) fun a => kLoad E 3 a)) fun p8 =>
  M.bind (apartO (M.on (some (.func (.func 28) #[] #[])) fun f => M.on (seqO [(some p3.1), (some p4.1), (some p8.1)]) fun l => callV call round f l)) fun p9 =>
  M.bind (apartO (oS (some p9.1) fun a => M.pure a)) fun p10 =>
  M.bind (apartO (oS (some p10.1) fun a => kExt 0 a)) fun p11 =>
  M.bind (apartO (oS (some p10.1) fun a => kExt 1 a)) fun p12 =>
  M.bind (apartO (oS (some p11.1) fun a => M.pure a)) fun p13 =>
  setT 7 p13.1 tm fun tm1 =>
  M.pure (([p13.1, p12.1, p11.1, p10.1, p9.1, p8.1, p7.1, p6.1, p5.1, p4.1, p3.1, p2.1, p1.1, p0.1], tm1), [p13.2, p12.2, p11.2, p10.2, p9.2, p8.2, p7.2, p6.2, p5.2, p4.2, p3.2, p2.2, p1.2, p0.2])
theorem ag_Receive_q12 : DrawEq 10 73 ag_Receive_g ag_Receive_P12 [0, 1, 3, 7, 0, 0, 32, 96, 224, 511, 1023, 2047, 2047, 4095, 16383] ag_Receive_d12 := ⟨by kernel_rfl, by kernel_rfl, fun _ _ _ _ _ _ _ _ _ => by kernel_rfl⟩
theorem ag_Receive_L12 (E : Env) (call round : CallT) (x33 x34 x35 x36 x37 x38 x39 x40 x41 x42 x32 x43 x44 x7 : Value) (tm : T Value) (s : St) : opsIn call round (lastOps E ag_Receive_g 73 (hdC ag_Receive_P12)) [x7, x44, x43, x32, x42, x41, x40, x39, x38, x37, x36, x35, x34, x33] tm s = (M.bind (oS (some x44) fun a => M.pure a) fun v8 => setT 8 v8 tm fun tm1 => M.pure tm1) s := by kernel_rfl
theorem ag_Receive_E13 : ∃ k, ag_Receive_P13 = .code .ret :: k := ⟨ag_Receive_P13.tail, by kernel_rfl⟩
/-- agent.go:126 -/
noncomputable def ag_Receive_r14 (E : Env) (call round : CallT) (tm : T Value) : M (T Value) :=
  mv (T.get tm 8) fun v45 =>
  M.bind (oS (some v45) fun a => oS (some (.int .i64 0)) fun b => Cl.get (aBin E .neq 37 (.tmp 45) (.const (.int .i64 0))) a b) fun v46 =>
  setF 46 v46 tm fun tm1 =>
  M.pure tm1
theorem ag_Receive_q14 : RegEq 10 73 ag_Receive_g ag_Receive_P14 ag_Receive_r14 := ⟨by kernel_rfl, fun _ _ _ _ _ _ _ _ _ => by kernel_rfl⟩
theorem ag_Receive_C15 : condX ag_Receive_P15 = some 46 := by kernel_rfl
/-- agent.go:127 -/
noncomputable def ag_Receive_r16 (E : Env) (call round : CallT) (tm : T Value) : M (T Value) :=
  mv (T.get tm 8) fun v47 =>
  mv (some v47) fun v6 =>
  setF 6 v6 tm fun tm1 =>
  M.pure tm1
theorem ag_Receive_q16 : RegEq 10 73 ag_Receive_g ag_Receive_P16 ag_Receive_r16 := ⟨by kernel_rfl, fun _ _ _ _ _ _ _ _ _ => by kernel_rfl⟩
/-- agent.go:129 -/
noncomputable def ag_Receive_r17 (E : Env) (call round : CallT) (tm : T Value) : M (T Value) :=
  mv (T.get tm 0) fun v48 =>
  M.bind (oS (some v48) fun a => kNil a) fun v49 =>
  M.bind (oS (some v49) fun a => kFld E 35 a 5) fun v50 =>
  M.bind (oS (some v50) fun a => kLoad E 32 a) fun v51 =>
  M.bind (oS (some v51) fun a => oS (some (.pointer none)) fun b => Cl.get (aBin E .neq 32 (.tmp 51) (.const (.pointer none))) a b) fun v52 =>
  setF 52 v52 tm fun tm1 =>
  M.pure tm1
theorem ag_Receive_q17 : RegEq 10 73 ag_Receive_g ag_Receive_P17 ag_Receive_r17 := ⟨by kernel_rfl, fun _ _ _ _ _ _ _ _ _ => by kernel_rfl⟩
theorem ag_Receive_E18 : ∃ k, ag_Receive_P18 = .code .ret :: k := ⟨ag_Receive_P18.tail, by kernel_rfl⟩
theorem ag_Receive_C19 : condX ag_Receive_P19 = some 52 := by kernel_rfl
/-- agent.go:130; the order is open -/
noncomputable def ag_Receive_d20 (E : Env) (call round : CallT) (tm : T Value) : M ((Rho × T Value) × List OpLog) :=
  M.bind (apartO (oS (T.get tm 0) fun a => M.pure a)) fun p0 =>
  M.bind (apartO (oS (some p0.1) fun a => kNil a)) fun p1 =>
  M.bind (apartO (oS (some p1.1) fun a => kFld E 35 a 5)) fun p2 =>
  M.bind (apartO (oS (some p2.1) fun a => kLoad E 32 a)) fun p3 =>
  M.bind (apartO (oS (T.get tm 0) fun a => M.pure a)) fun p4 =>
  M.bind (apartO (oS (some p4.1) fun a => kNil a)) fun p5 =>
  M.bind (apartO (oS (some p5.1) fun a => kFld E 35 a 3)) fun p6 =>
  M.bind (apartO (oS (some p6.1) fun a => kLoad E 3 a)) fun p7 =>
  M.bind (apartO (oS (some p3.1) fun a => kNil a)) fun p8 =>
  M.bind (apartO (oS (some p8.1) fun a => kFld E 72 a 4)) fun p9 =>
  M.pure (([p9.1, p8.1, p7.1, p6.1, p5.1, p4.1, p3.1, p2.1, p1.1, p0.1], tm), [p9.2, p8.2, p7.2, p6.2, p5.2, p4.2, p3.2, p2.2, p1.2, p0.2])
theorem ag_Receive_q20 : DrawEq 10 73 ag_Receive_g ag_Receive_P20 [0, 1, 3, 7, 0, 16, 48, 112, 255, 511, 1023] ag_Receive_d20 := ⟨by kernel_rfl, by kernel_rfl, fun _ _ _ _ _ _ _ _ _ => by kernel_rfl⟩
theorem ag_Receive_L20 (E : Env) (call round : CallT) (x53 x54 x55 x56 x57 x58 x59 x60 x61 x62 : Value) (tm : T Value) (s : St) : opsIn call round (lastOps E ag_Receive_g 73 (hdC ag_Receive_P20)) [x62, x61, x60, x59, x58, x57, x56, x55, x54, x53] tm s = (M.bind (oS (some x62) fun a => oS (some x60) fun b => kStore E 3 a b) fun _ => M.pure tm) s := by kernel_rfl
/-- agent.go:132 -/
noncomputable def ag_Receive_r21 (E : Env) (call round : CallT) (tm : T Value) : M (T Value) :=
  mv (T.get tm 7) fun v63 =>
  setF 63 v63 tm fun tm1 =>
  M.bind (oS (seqO [(some v63)]) fun l => aBuiltin E .len [47] l) fun v64 =>
  setF 64 v64 tm1 fun tm2 =>
  mv (some (.int .i64 0)) fun v65 =>
  setF 65 v65 tm2 fun tm3 =>
  M.pure tm3
theorem ag_Receive_q21 : RegEq 10 73 ag_Receive_g ag_Receive_P21 ag_Receive_r21 := ⟨by kernel_rfl, fun _ _ _ _ _ _ _ _ _ => by kernel_rfl⟩
/-- agent.go:132 -/
noncomputable def ag_Receive_r22 (E : Env) (call round : CallT) (tm : T Value) : M (T Value) :=
  M.bind (oS (T.get tm 65) fun a => oS (T.get tm 64) fun b => Cl.get (aBin E .lss 3 (.tmp 65) (.tmp 64)) a b) fun v66 =>
  setF 66 v66 tm fun tm1 =>
  M.pure tm1
theorem ag_Receive_q22 : RegEq 10 73 ag_Receive_g ag_Receive_P22 ag_Receive_r22 := ⟨by kernel_rfl, fun _ _ _ _ _ _ _ _ _ => by kernel_rfl⟩
theorem ag_Receive_C23 : condX ag_Receive_P23 = some 66 := by kernel_rfl
/-- agent.go:132 -/
noncomputable def ag_Receive_r24 (E : Env) (call round : CallT) (tm : T Value) : M (T Value) :=
  M.bind (oS (T.get tm 63) fun a => oS (T.get tm 65) fun b => kIdxA E 47 a b) fun v67 =>
  M.bind (oS (some v67) fun a => kLoad E 25 a) fun v68 =>
  mv (some v68) fun v10 =>
  setF 10 v10 tm fun tm1 =>
  M.pure tm1
theorem ag_Receive_q24 : RegEq 10 73 ag_Receive_g ag_Receive_P24 ag_Receive_r24 := ⟨by kernel_rfl, fun _ _ _ _ _ _ _ _ _ => by kernel_rfl⟩
/-- agent.go:135 -/
noncomputable def ag_Receive_r25 (E : Env) (call round : CallT) (tm : T Value) : M (T Value) :=
  mv (some (.int .i64 0)) fun v6 =>
  setF 6 v6 tm fun tm1 =>
  M.pure tm1
theorem ag_Receive_q25 : RegEq 10 73 ag_Receive_g ag_Receive_P25 ag_Receive_r25 := ⟨by kernel_rfl, fun _ _ _ _ _ _ _ _ _ => by kernel_rfl⟩
/-- agent.go:133 -/
noncomputable def ag_Receive_r26 (E : Env) (call round : CallT) (tm : T Value) : M (T Value) :=
  mv (T.get tm 0) fun v69 =>
  mv (T.get tm 10) fun v70 =>
  M.bind (M.on (some (.func (.func 29) #[] #[])) fun f => M.on (seqO [(some v69), (some v70)]) fun l => callV call round f l) fun v71 =>
  M.pure tm
theorem ag_Receive_q26 : RegEq 10 73 ag_Receive_g ag_Receive_P26 ag_Receive_r26 := ⟨by kernel_rfl, fun _ _ _ _ _ _ _ _ _ => by kernel_rfl⟩
theorem ag_Receive_E27 : ∃ k, ag_Receive_P27 = .code .ret :: k := ⟨ag_Receive_P27.tail, by kernel_rfl⟩
/-- agent.go:132 -/
noncomputable def ag_Receive_r28 (E : Env) (call round : CallT) (tm : T Value) : M (T Value) :=
  M.bind (oS (T.get tm 65) fun a => oS (some (.int .i64 1)) fun b => Cl.get (aBin E .add 3 (.tmp 65) (.const (.int .i64 1))) a b) fun v72 =>
  mv (some v72) fun v65 =>
  setF 65 v65 tm fun tm1 =>
  M.pure tm1
theorem ag_Receive_q28 : RegEq 10 73 ag_Receive_g ag_Receive_P28 ag_Receive_r28 := ⟨by kernel_rfl, fun _ _ _ _ _ _ _ _ _ => by kernel_rfl⟩
-- points: 0:region>[1], 1:region>[2], 2:cond>[3, 4], 3:region>[5], 4:region>[6], 5:ret>, 6:cond>[7, 8], 7:region>[5], 8:region>[9], 9:region>[10], 10:cond>[11, 12], 11:region>[13], 12:region>[14], 13:ret>, 14:region>[15], 15:cond>[16, 17], 16:region>[18], 17:region>[19], 18:ret>, 19:cond>[20, 21], 20:region>[21], 21:region>[22], 22:region>[23], 23:cond>[24, 25], 24:region>[26], 25:region>[27], 26:region>[28], 27:ret>, 28:region>[22]

/-! ### (*satchel/agent.Agent).Tick -/
noncomputable def ag_Tick_g : Nat := globOf Tryz.f11
abbrev ag_Tick_nt : Nat := 73
noncomputable def ag_Tick_body : Code := Tryz.f11.body.getD .skip
theorem ag_Tick_fn : envS.fn.get 11 = some Tryz.f11 := by kernel_rfl
theorem ag_Tick_W {a0 a1 : Value} {n : Nat} {s : St} {Q : Value → St → Prop} (h : ∀ tm, T.get tm 0 = some a0 → T.get tm 1 = some a1 → W (runF envS n ⟨11, 73, ag_Tick_g, tm, [.code ag_Tick_body], .run, .normal, none⟩) (s.cxN cxN) fun p s1 => Q p.1 (s1.cxN s.cx)) : W (callW envS (runF envS n) 11 [a0, a1]) s Q :=
  W.call (by kernel_rfl) (by kernel_rfl) ag_Tick_fn (by kernel_rfl) rfl rfl (by simp) (h _ (by kernel_rfl) (by kernel_rfl))
theorem ag_Tick_res : Tryz.f11.results.toList = [.tmp 4] := by kernel_rfl
noncomputable def ag_Tick_P0 : List Item := skim 64 [.code ag_Tick_body]
noncomputable def ag_Tick_P1 : List Item := skim 64 ag_Tick_P0.tail
theorem ag_Tick_S0_1 : skim 64 ag_Tick_P0.tail = ag_Tick_P1 := by kernel_rfl
noncomputable def ag_Tick_P2 : List Item := skim 64 ag_Tick_P1.tail
theorem ag_Tick_S1_2 : skim 64 ag_Tick_P1.tail = ag_Tick_P2 := by kernel_rfl
noncomputable def ag_Tick_P3 : List Item := skim 64 (brT ag_Tick_P2)
theorem ag_Tick_S2_3 : skim 64 (brT ag_Tick_P2) = ag_Tick_P3 := by kernel_rfl
noncomputable def ag_Tick_P4 : List Item := skim 64 (brF ag_Tick_P2)
theorem ag_Tick_S2_4 : skim 64 (brF ag_Tick_P2) = ag_Tick_P4 := by kernel_rfl
noncomputable def ag_Tick_P5 : List Item := skim 64 ag_Tick_P3.tail
theorem ag_Tick_S3_5 : skim 64 ag_Tick_P3.tail = ag_Tick_P5 := by kernel_rfl
noncomputable def ag_Tick_P6 : List Item := skim 64 ag_Tick_P4.tail
theorem ag_Tick_S4_6 : skim 64 ag_Tick_P4.tail = ag_Tick_P6 := by kernel_rfl
noncomputable def ag_Tick_P7 : List Item := skim 64 ag_Tick_P6.tail
theorem ag_Tick_S6_7 : skim 64 ag_Tick_P6.tail = ag_Tick_P7 := by kernel_rfl
noncomputable def ag_Tick_P8 : List Item := skim 64 (brT ag_Tick_P7)
theorem ag_Tick_S7_8 : skim 64 (brT ag_Tick_P7) = ag_Tick_P8 := by kernel_rfl
noncomputable def ag_Tick_P9 : List Item := skim 64 (brF ag_Tick_P7)
theorem ag_Tick_S7_9 : skim 64 (brF ag_Tick_P7) = ag_Tick_P9 := by kernel_rfl
noncomputable def ag_Tick_P10 : List Item := skim 64 ag_Tick_P8.tail
theorem ag_Tick_S8_10 : skim 64 ag_Tick_P8.tail = ag_Tick_P10 := by kernel_rfl
noncomputable def ag_Tick_P11 : List Item := skim 64 ag_Tick_P9.tail
theorem ag_Tick_S9_11 : skim 64 ag_Tick_P9.tail = ag_Tick_P11 := by kernel_rfl
noncomputable def ag_Tick_P12 : List Item := skim 64 (brT ag_Tick_P10)
theorem ag_Tick_S10_12 : skim 64 (brT ag_Tick_P10) = ag_Tick_P12 := by kernel_rfl
noncomputable def ag_Tick_P13 : List Item := skim 64 (brF ag_Tick_P10)
theorem ag_Tick_S10_13 : skim 64 (brF ag_Tick_P10) = ag_Tick_P13 := by kernel_rfl
noncomputable def ag_Tick_P14 : List Item := skim 64 (brT ag_Tick_P11)
theorem ag_Tick_S11_14 : skim 64 (brT ag_Tick_P11) = ag_Tick_P14 := by kernel_rfl
noncomputable def ag_Tick_P15 : List Item := skim 64 (brF ag_Tick_P11)
theorem ag_Tick_S11_15 : skim 64 (brF ag_Tick_P11) = ag_Tick_P15 := by kernel_rfl
theorem ag_Tick_S12_13 : skim 64 ag_Tick_P12.tail = ag_Tick_P13 := by kernel_rfl
noncomputable def ag_Tick_P16 : List Item := skim 64 ag_Tick_P13.tail
theorem ag_Tick_S13_16 : skim 64 ag_Tick_P13.tail = ag_Tick_P16 := by kernel_rfl
theorem ag_Tick_S14_15 : skim 64 ag_Tick_P14.tail = ag_Tick_P15 := by kernel_rfl
noncomputable def ag_Tick_P17 : List Item := skim 64 ag_Tick_P15.tail
theorem ag_Tick_S15_17 : skim 64 ag_Tick_P15.tail = ag_Tick_P17 := by kernel_rfl
noncomputable def ag_Tick_P18 : List Item := skim 64 ag_Tick_P16.tail
theorem ag_Tick_S16_18 : skim 64 ag_Tick_P16.tail = ag_Tick_P18 := by kernel_rfl
noncomputable def ag_Tick_P19 : List Item := skim 64 (brT ag_Tick_P17)
theorem ag_Tick_S17_19 : skim 64 (brT ag_Tick_P17) = ag_Tick_P19 := by kernel_rfl
noncomputable def ag_Tick_P20 : List Item := skim 64 (brF ag_Tick_P17)
theorem ag_Tick_S17_20 : skim 64 (brF ag_Tick_P17) = ag_Tick_P20 := by kernel_rfl
theorem ag_Tick_S19_20 : skim 64 ag_Tick_P19.tail = ag_Tick_P20 := by kernel_rfl
noncomputable def ag_Tick_P21 : List Item := skim 64 ag_Tick_P20.tail
theorem ag_Tick_S20_21 : skim 64 ag_Tick_P20.tail = ag_Tick_P21 := by kernel_rfl
noncomputable def ag_Tick_P22 : List Item := skim 64 (brT ag_Tick_P21)
theorem ag_Tick_S21_22 : skim 64 (brT ag_Tick_P21) = ag_Tick_P22 := by kernel_rfl
noncomputable def ag_Tick_P23 : List Item := skim 64 (brF ag_Tick_P21)
theorem ag_Tick_S21_23 : skim 64 (brF ag_Tick_P21) = ag_Tick_P23 := by kernel_rfl
noncomputable def ag_Tick_P24 : List Item := skim 64 ag_Tick_P22.tail
theorem ag_Tick_S22_24 : skim 64 ag_Tick_P22.tail = ag_Tick_P24 := by kernel_rfl
noncomputable def ag_Tick_P25 : List Item := skim 64 ag_Tick_P23.tail
theorem ag_Tick_S23_25 : skim 64 ag_Tick_P23.tail = ag_Tick_P25 := by kernel_rfl
/-- agent.go:162 -/
noncomputable def ag_Tick_r0 (E : Env) (call round : CallT) (tm : T Value) : M (T Value) :=
  mv (some (.slice none 0 0)) fun v4 =>
  setF 4 v4 tm fun tm1 =>
  M.pure tm1
theorem ag_Tick_q0 : RegEq 11 73 ag_Tick_g ag_Tick_P0 ag_Tick_r0 := ⟨by kernel_rfl, fun _ _ _ _ _ _ _ _ _ => by kernel_rfl⟩
/-- agent.go:163 -/
noncomputable def ag_Tick_r1 (E : Env) (call round : CallT) (tm : T Value) : M (T Value) :=
  mv (T.get tm 0) fun v5 =>
  M.bind (M.on (some (.func (.func 20) #[] #[])) fun f => M.on (seqO [(some v5)]) fun l => callV call round f l) fun v6 =>
  mv (some v6) fun v7 =>
  M.bind (M.chk (isK v7) (M.if (isB v7 false) (oS (T.get tm 1) fun a => M.pure a) (M.pure undef))) fun v8 =>
  M.bind (M.chk (isK v7) (M.if (isB v7 false) (M.on (some (.func (.func 27) #[] #[])) fun f => M.on (seqO [(some v8)]) fun l => callV call round f l) (M.pure undef))) fun v9 =>
  M.bind (M.chk (isK v7) (M.if (isB v7 false) (oS (some v9) fun a => kUn E.P .not a) (M.pure undef))) fun v10 =>
  M.bind (M.on (some v7) fun a => M.on (some (.bool true)) fun b => M.on (some v10) fun c => kPick a b c) fun v11 =>
  setF 11 v11 tm fun tm1 =>
  M.pure tm1
theorem ag_Tick_q1 : RegEq 11 73 ag_Tick_g ag_Tick_P1 ag_Tick_r1 := ⟨by kernel_rfl, fun _ _ _ _ _ _ _ _ _ => by kernel_rfl⟩
theorem ag_Tick_C2 : condX ag_Tick_P2 = some 11 := by kernel_rfl
/-- agent.go:164 -/
noncomputable def ag_Tick_r3 (E : Env) (call round : CallT) (tm : T Value) : M (T Value) :=
  mv (some (.slice none 0 0)) fun v4 =>
  setF 4 v4 tm fun tm1 =>
  M.pure tm1
theorem ag_Tick_q3 : RegEq 11 73 ag_Tick_g ag_Tick_P3 ag_Tick_r3 := ⟨by kernel_rfl, fun _ _ _ _ _ _ _ _ _ => by kernel_rfl⟩
/-- agent.go:166 -/
noncomputable def ag_Tick_r4 (E : Env) (call round : CallT) (tm : T Value) : M (T Value) :=
  mv (T.get tm 0) fun v12 =>
  mv (T.get tm 0) fun v13 =>
  M.bind (oS (some v13) fun a => kNil a) fun v14 =>
  M.bind (oS (some v14) fun a => kFld E 35 a 3) fun v15 =>
  M.bind (oS (some v15) fun a => kLoad E 3 a) fun v16 =>
  mv (T.get tm 1) fun v17 =>
  M.bind (oS (seqO [(some v16), (some v17)]) fun l => aBuiltin E .max [3, 3] l) fun v18 =>
  M.bind (oS (some v12) fun a => kNil a) fun v19 =>
  M.bind (oS (some v19) fun a => kFld E 35 a 3) fun v20 =>
  M.bind (oS (some v20) fun a => oS (some v18) fun b => kStore E 3 a b) fun _ =>
  M.pure tm
theorem ag_Tick_q4 : RegEq 11 73 ag_Tick_g ag_Tick_P4 ag_Tick_r4 := ⟨by kernel_rfl, fun _ _ _ _ _ _ _ _ _ => by kernel_rfl⟩
theorem ag_Tick_E5 : ∃ k, ag_Tick_P5 = .code .ret :: k := ⟨ag_Tick_P5.tail, by kernel_rfl⟩
/-- agent.go:167 -/
noncomputable def ag_Tick_r6 (E : Env) (call round : CallT) (tm : T Value) : M (T Value) :=
  mv (T.get tm 0) fun v21 =>
  M.bind (oS (some v21) fun a => kNil a) fun v22 =>
  M.bind (oS (some v22) fun a => kFld E 35 a 2) fun v23 =>
  M.bind (oS (some v23) fun a => kLoad E 30 a) fun v24 =>
  M.bind (M.on (some (.func (.func 22) #[] #[])) fun f => M.on (seqO [(some v24)]) fun l => callV call round f l) fun v25 =>
  setF 25 v25 tm fun tm1 =>
  M.pure tm1
theorem ag_Tick_q6 : RegEq 11 73 ag_Tick_g ag_Tick_P6 ag_Tick_r6 := ⟨by kernel_rfl, fun _ _ _ _ _ _ _ _ _ => by kernel_rfl⟩
theorem ag_Tick_C7 : condX ag_Tick_P7 = some 25 := by kernel_rfl
/-- agent.go:168 -/
noncomputable def ag_Tick_r8 (E : Env) (call round : CallT) (tm : T Value) : M (T Value) :=
  mv (T.get tm 0) fun v26 =>
  M.bind (oS (some v26) fun a => kNil a) fun v27 =>
  M.bind (oS (some v27) fun a => kFld E 35 a 5) fun v28 =>
  M.bind (oS (some v28) fun a => kLoad E 32 a) fun v29 =>
  M.bind (oS (some v29) fun a => oS (some (.pointer none)) fun b => Cl.get (aBin E .neq 32 (.tmp 29) (.const (.pointer none))) a b) fun v30 =>
  setF 30 v30 tm fun tm1 =>
  M.pure tm1
theorem ag_Tick_q8 : RegEq 11 73 ag_Tick_g ag_Tick_P8 ag_Tick_r8 := ⟨by kernel_rfl, fun _ _ _ _ _ _ _ _ _ => by kernel_rfl⟩
/-- agent.go:174 -/
noncomputable def ag_Tick_r9 (E : Env) (call round : CallT) (tm : T Value) : M (T Value) :=
  mv (T.get tm 0) fun v37 =>
  M.bind (oS (some v37) fun a => kNil a) fun v38 =>
  M.bind (oS (some v38) fun a => kFld E 35 a 5) fun v39 =>
  M.bind (oS (some v39) fun a => kLoad E 32 a) fun v40 =>
  M.bind (oS (some v40) fun a => oS (some (.pointer none)) fun b => Cl.get (aBin E .neq 32 (.tmp 40) (.const (.pointer none))) a b) fun v41 =>
  setF 41 v41 tm fun tm1 =>
  M.pure tm1
theorem ag_Tick_q9 : RegEq 11 73 ag_Tick_g ag_Tick_P9 ag_Tick_r9 := ⟨by kernel_rfl, fun _ _ _ _ _ _ _ _ _ => by kernel_rfl⟩
theorem ag_Tick_C10 : condX ag_Tick_P10 = some 30 := by kernel_rfl
theorem ag_Tick_C11 : condX ag_Tick_P11 = some 41 := by kernel_rfl
/-- agent.go:169 -/
noncomputable def ag_Tick_r12 (E : Env) (call round : CallT) (tm : T Value) : M (T Value) :=
  mv (T.get tm 0) fun v31 =>
  M.bind (oS (seqP [(1, (some (.int .i64 10)))]) fun ps => aBuild E 40 ps) fun v32 =>
  M.bind (M.on (some (.func (.func 30) #[] #[])) fun f => M.on (seqO [(some v31), (some v32)]) fun l => callV call round f l) fun v33 =>
  M.pure tm
theorem ag_Tick_q12 : RegEq 11 73 ag_Tick_g ag_Tick_P12 ag_Tick_r12 := ⟨by kernel_rfl, fun _ _ _ _ _ _ _ _ _ => by kernel_rfl⟩
/-- agent.go:171 -/
noncomputable def ag_Tick_r13 (E : Env) (call round : CallT) (tm : T Value) : M (T Value) :=
  mv (T.get tm 0) fun v34 =>
  M.bind (oS (some v34) fun a => kNil a) fun v35 =>
  M.bind (oS (some v35) fun a => kFld E 35 a 4) fun v36 =>
  M.bind (oS (some v36) fun a => oS (some (.pointer none)) fun b => kStore E 31 a b) fun _ =>
  M.pure tm
theorem ag_Tick_q13 : RegEq 11 73 ag_Tick_g ag_Tick_P13 ag_Tick_r13 := ⟨by kernel_rfl, fun _ _ _ _ _ _ _ _ _ => by kernel_rfl⟩
/-- agent.go:175 -/
noncomputable def ag_Tick_r14 (E : Env) (call round : CallT) (tm : T Value) : M (T Value) :=
  mv (T.get tm 0) fun v42 =>
  M.bind (M.on (some (.func (.func 31) #[] #[])) fun f => M.on (seqO [(some v42)]) fun l => callV call round f l) fun v43 =>
  M.pure tm
theorem ag_Tick_q14 : RegEq 11 73 ag_Tick_g ag_Tick_P14 ag_Tick_r14 := ⟨by kernel_rfl, fun _ _ _ _ _ _ _ _ _ => by kernel_rfl⟩
/-- agent.go:177 -/
noncomputable def ag_Tick_r15 (E : Env) (call round : CallT) (tm : T Value) : M (T Value) :=
  mv (T.get tm 0) fun v44 =>
  M.bind (oS (some v44) fun a => kNil a) fun v45 =>
  M.bind (oS (some v45) fun a => kFld E 35 a 5) fun v46 =>
  M.bind (oS (some v46) fun a => kLoad E 32 a) fun v47 =>
  M.bind (oS (some v47) fun a => oS (some (.pointer none)) fun b => Cl.get (aBin E .neq 32 (.tmp 47) (.const (.pointer none))) a b) fun v48 =>
  mv (some v48) fun v49 =>
  M.bind (M.chk (isK v49) (M.if (isB v49 true) (oS (T.get tm 0) fun a => M.pure a) (M.pure undef))) fun v50 =>
  M.bind (M.chk (isK v49) (M.if (isB v49 true) (oS (some v50) fun a => kNil a) (M.pure undef))) fun v51 =>
  M.bind (M.chk (isK v49) (M.if (isB v49 true) (oS (some v51) fun a => kFld E 35 a 4) (M.pure undef))) fun v52 =>
  M.bind (M.chk (isK v49) (M.if (isB v49 true) (oS (some v52) fun a => kLoad E 31 a) (M.pure undef))) fun v53 =>
  M.bind (M.chk (isK v49) (M.if (isB v49 true) (M.on (some (.func (.func 32) #[] #[])) fun f => M.on (seqO [(some v53)]) fun l => callV call round f l) (M.pure undef))) fun v54 =>
  M.bind (M.chk (isK v49) (M.if (isB v49 true) (oS (some v54) fun a => oS (some (.int .i64 2)) fun b => Cl.get (aBin E .eql 3 (.tmp 54) (.const (.int .i64 2))) a b) (M.pure undef))) fun v55 =>
  M.bind (M.on (some v49) fun a => M.on (some v55) fun b => M.on (some (.bool false)) fun c => kPick a b c) fun v56 =>
  setF 56 v56 tm fun tm1 =>
  M.pure tm1
theorem ag_Tick_q15 : RegEq 11 73 ag_Tick_g ag_Tick_P15 ag_Tick_r15 := ⟨by kernel_rfl, fun _ _ _ _ _ _ _ _ _ => by kernel_rfl⟩
/-- agent.go:172 -/
noncomputable def ag_Tick_r16 (E : Env) (call round : CallT) (tm : T Value) : M (T Value) :=
  mv (some (.slice none 0 0)) fun v4 =>
  setF 4 v4 tm fun tm1 =>
  M.pure tm1
theorem ag_Tick_q16 : RegEq 11 73 ag_Tick_g ag_Tick_P16 ag_Tick_r16 := ⟨by kernel_rfl, fun _ _ _ _ _ _ _ _ _ => by kernel_rfl⟩
theorem ag_Tick_C17 : condX ag_Tick_P17 = some 56 := by kernel_rfl
theorem ag_Tick_E18 : ∃ k, ag_Tick_P18 = .code .ret :: k := ⟨ag_Tick_P18.tail, by kernel_rfl⟩
/-- agent.go:178 -/
noncomputable def ag_Tick_r19 (E : Env) (call round : CallT) (tm : T Value) : M (T Value) :=
  mv (T.get tm 0) fun v57 =>
  M.bind (M.on (some (.func (.func 33) #[] #[])) fun f => M.on (seqO [(some v57)]) fun l => callV call round f l) fun v58 =>
  M.pure tm
theorem ag_Tick_q19 : RegEq 11 73 ag_Tick_g ag_Tick_P19 ag_Tick_r19 := ⟨by kernel_rfl, fun _ _ _ _ _ _ _ _ _ => by kernel_rfl⟩
/-- agent.go:180 -/
noncomputable def ag_Tick_r20 (E : Env) (call round : CallT) (tm : T Value) : M (T Value) :=
  mv (T.get tm 0) fun v59 =>
  M.bind (oS (some v59) fun a => kNil a) fun v60 =>
  M.bind (oS (some v60) fun a => kFld E 35 a 4) fun v61 =>
  M.bind (oS (some v61) fun a => kLoad E 31 a) fun v62 =>
  M.bind (oS (some v62) fun a => oS (some (.pointer none)) fun b => Cl.get (aBin E .eql 31 (.tmp 62) (.const (.pointer none))) a b) fun v63 =>
  setF 63 v63 tm fun tm1 =>
  M.pure tm1
theorem ag_Tick_q20 : RegEq 11 73 ag_Tick_g ag_Tick_P20 ag_Tick_r20 := ⟨by kernel_rfl, fun _ _ _ _ _ _ _ _ _ => by kernel_rfl⟩
theorem ag_Tick_C21 : condX ag_Tick_P21 = some 63 := by kernel_rfl
/-- agent.go:181 -/
noncomputable def ag_Tick_r22 (E : Env) (call round : CallT) (tm : T Value) : M (T Value) :=
  mv (some (.slice none 0 0)) fun v4 =>
  setF 4 v4 tm fun tm1 =>
  M.pure tm1
theorem ag_Tick_q22 : RegEq 11 73 ag_Tick_g ag_Tick_P22 ag_Tick_r22 := ⟨by kernel_rfl, fun _ _ _ _ _ _ _ _ _ => by kernel_rfl⟩
/-- agent.go:183; the order is open -/
noncomputable def ag_Tick_d23 (E : Env) (call round : CallT) (tm : T Value) : M ((Rho × T Value) × List OpLog) :=
  M.bind (apartO (oS (T.get tm 0) fun a => M.pure a)) fun p0 =>
  M.bind (apartO (oS (some p0.1) fun a => kNil a)) fun p1 =>
  M.bind (apartO (oS (some p1.1) fun a => kFld E 35 a 4)) fun p2 =>
  M.bind (apartO (oS (some p2.1) fun a => kLoad E 31 a)) fun p3 =>
  M.bind (apartO (oS (T.get tm 0) fun a => M.pure a)) fun p4 =>
  M.bind (apartO (oS (some p4.1) fun a => kNil a)) fun p5 =>
  M.bind (apartO (oS (some p5.1) fun a => kFld E 35 a 3)) fun p6 =>
  M.bind (apartO (oS (some p6.1) fun a => kLoad E 3 a)) fun p7 =>
  M.bind (apartO (M.on (some (.func (.func 34) #[] #[])) fun f => M.on (seqO [(some p3.1), (some p7.1)]) fun l => callV call round f l)) fun p8 =>
  M.pure (([p8.1, p7.1, p6.1, p5.1, p4.1, p3.1, p2.1, p1.1, p0.1], tm), [p8.2, p7.2, p6.2, p5.2, p4.2, p3.2, p2.2, p1.2, p0.2])
theorem ag_Tick_q23 : DrawEq 11 73 ag_Tick_g ag_Tick_P23 [0, 1, 3, 7, 0, 16, 48, 112, 255, 511] ag_Tick_d23 := ⟨by kernel_rfl, by kernel_rfl, fun _ _ _ _ _ _ _ _ _ => by kernel_rfl⟩
theorem ag_Tick_L23 (E : Env) (call round : CallT) (x64 x65 x66 x67 x68 x69 x70 x71 x72 : Value) (tm : T Value) (s : St) : opsIn call round (lastOps E ag_Tick_g 73 (hdC ag_Tick_P23)) [x72, x71, x70, x69, x68, x67, x66, x65, x64] tm s = (M.bind (oS (some x72) fun a => M.pure a) fun v4 => setT 4 v4 tm fun tm1 => M.pure tm1) s := by kernel_rfl
theorem ag_Tick_E24 : ∃ k, ag_Tick_P24 = .code .ret :: k := ⟨ag_Tick_P24.tail, by kernel_rfl⟩
theorem ag_Tick_E25 : ∃ k, ag_Tick_P25 = .code .ret :: k := ⟨ag_Tick_P25.tail, by kernel_rfl⟩
-- points: 0:region>[1], 1:region>[2], 2:cond>[3, 4], 3:region>[5], 4:region>[6], 5:ret>, 6:region>[7], 7:cond>[8, 9], 8:region>[10], 9:region>[11], 10:cond>[12, 13], 11:cond>[14, 15], 12:region>[13], 13:region>[16], 14:region>[15], 15:region>[17], 16:region>[18], 17:cond>[19, 20], 18:ret>, 19:region>[20], 20:region>[21], 21:cond>[22, 23], 22:region>[24], 23:region>[25], 24:ret>, 25:ret>

/-! ### (*satchel/agent.Agent).Busy -/
noncomputable def ag_Busy_g : Nat := globOf Tryz.f12
abbrev ag_Busy_nt : Nat := 12
noncomputable def ag_Busy_body : Code := Tryz.f12.body.getD .skip
theorem ag_Busy_fn : envS.fn.get 12 = some Tryz.f12 := by kernel_rfl
theorem ag_Busy_W {a0 : Value} {n : Nat} {s : St} {Q : Value → St → Prop} (h : ∀ tm, T.get tm 0 = some a0 → W (runF envS n ⟨12, 12, ag_Busy_g, tm, [.code ag_Busy_body], .run, .normal, none⟩) (s.cxN cxN) fun p s1 => Q p.1 (s1.cxN s.cx)) : W (callW envS (runF envS n) 12 [a0]) s Q :=
  W.call (by kernel_rfl) (by kernel_rfl) ag_Busy_fn (by kernel_rfl) rfl rfl (by simp) (h _ (by kernel_rfl))
theorem ag_Busy_res : Tryz.f12.results.toList = [.tmp 2] := by kernel_rfl
noncomputable def ag_Busy_P0 : List Item := skim 64 [.code ag_Busy_body]
noncomputable def ag_Busy_P1 : List Item := skim 64 ag_Busy_P0.tail
theorem ag_Busy_S0_1 : skim 64 ag_Busy_P0.tail = ag_Busy_P1 := by kernel_rfl
noncomputable def ag_Busy_P2 : List Item := skim 64 ag_Busy_P1.tail
theorem ag_Busy_S1_2 : skim 64 ag_Busy_P1.tail = ag_Busy_P2 := by kernel_rfl
/-- agent.go:209 -/
noncomputable def ag_Busy_r0 (E : Env) (call round : CallT) (tm : T Value) : M (T Value) :=
  mv (some (.bool false)) fun v2 =>
  setF 2 v2 tm fun tm1 =>
  M.pure tm1
theorem ag_Busy_q0 : RegEq 12 12 ag_Busy_g ag_Busy_P0 ag_Busy_r0 := ⟨by kernel_rfl, fun _ _ _ _ _ _ _ _ _ => by kernel_rfl⟩
/-- agent.go:209 -/
noncomputable def ag_Busy_r1 (E : Env) (call round : CallT) (tm : T Value) : M (T Value) :=
  mv (T.get tm 0) fun v3 =>
  M.bind (oS (some v3) fun a => oS (some (.pointer none)) fun b => Cl.get (aBin E .neq 28 (.tmp 3) (.const (.pointer none))) a b) fun v4 =>
  mv (some v4) fun v5 =>
  M.bind (M.chk (isK v5) (M.if (isB v5 true) (oS (T.get tm 0) fun a => M.pure a) (M.pure undef))) fun v6 =>
  M.bind (M.chk (isK v5) (M.if (isB v5 true) (oS (some v6) fun a => kNil a) (M.pure undef))) fun v7 =>
  M.bind (M.chk (isK v5) (M.if (isB v5 true) (oS (some v7) fun a => kFld E 35 a 5) (M.pure undef))) fun v8 =>
  M.bind (M.chk (isK v5) (M.if (isB v5 true) (oS (some v8) fun a => kLoad E 32 a) (M.pure undef))) fun v9 =>
  M.bind (M.chk (isK v5) (M.if (isB v5 true) (oS (some v9) fun a => oS (some (.pointer none)) fun b => Cl.get (aBin E .neq 32 (.tmp 9) (.const (.pointer none))) a b) (M.pure undef))) fun v10 =>
  M.bind (M.on (some v5) fun a => M.on (some v10) fun b => M.on (some (.bool false)) fun c => kPick a b c) fun v11 =>
  mv (some v11) fun v2 =>
  setF 2 v2 tm fun tm1 =>
  M.pure tm1
theorem ag_Busy_q1 : RegEq 12 12 ag_Busy_g ag_Busy_P1 ag_Busy_r1 := ⟨by kernel_rfl, fun _ _ _ _ _ _ _ _ _ => by kernel_rfl⟩
theorem ag_Busy_E2 : ∃ k, ag_Busy_P2 = .code .ret :: k := ⟨ag_Busy_P2.tail, by kernel_rfl⟩
-- points: 0:region>[1], 1:region>[2], 2:ret>

/-! ### (*satchel/agent.Agent).State -/
noncomputable def ag_State_g : Nat := globOf Tryz.f13
abbrev ag_State_nt : Nat := 17
noncomputable def ag_State_body : Code := Tryz.f13.body.getD .skip
theorem ag_State_fn : envS.fn.get 13 = some Tryz.f13 := by kernel_rfl
theorem ag_State_W {a0 : Value} {n : Nat} {s : St} {Q : Value → St → Prop} (h : ∀ tm, T.get tm 0 = some a0 → W (runF envS n ⟨13, 17, ag_State_g, tm, [.code ag_State_body], .run, .normal, none⟩) (s.cxN cxN) fun p s1 => Q p.1 (s1.cxN s.cx)) : W (callW envS (runF envS n) 13 [a0]) s Q :=
  W.call (by kernel_rfl) (by kernel_rfl) ag_State_fn (by kernel_rfl) rfl rfl (by simp) (h _ (by kernel_rfl))
theorem ag_State_res : Tryz.f13.results.toList = [.tmp 2] := by kernel_rfl
noncomputable def ag_State_P0 : List Item := skim 64 [.code ag_State_body]
noncomputable def ag_State_P1 : List Item := skim 64 ag_State_P0.tail
theorem ag_State_S0_1 : skim 64 ag_State_P0.tail = ag_State_P1 := by kernel_rfl
noncomputable def ag_State_P2 : List Item := skim 64 ag_State_P1.tail
theorem ag_State_S1_2 : skim 64 ag_State_P1.tail = ag_State_P2 := by kernel_rfl
noncomputable def ag_State_P3 : List Item := skim 64 (brT ag_State_P2)
theorem ag_State_S2_3 : skim 64 (brT ag_State_P2) = ag_State_P3 := by kernel_rfl
noncomputable def ag_State_P4 : List Item := skim 64 (brF ag_State_P2)
theorem ag_State_S2_4 : skim 64 (brF ag_State_P2) = ag_State_P4 := by kernel_rfl
noncomputable def ag_State_P5 : List Item := skim 64 ag_State_P3.tail
theorem ag_State_S3_5 : skim 64 ag_State_P3.tail = ag_State_P5 := by kernel_rfl
noncomputable def ag_State_P6 : List Item := skim 64 ag_State_P4.tail
theorem ag_State_S4_6 : skim 64 ag_State_P4.tail = ag_State_P6 := by kernel_rfl
/-- agent.go:211 -/
noncomputable def ag_State_r0 (E : Env) (call round : CallT) (tm : T Value) : M (T Value) :=
  mv (some (.int .i64 0)) fun v2 =>
  setF 2 v2 tm fun tm1 =>
  M.pure tm1
theorem ag_State_q0 : RegEq 13 17 ag_State_g ag_State_P0 ag_State_r0 := ⟨by kernel_rfl, fun _ _ _ _ _ _ _ _ _ => by kernel_rfl⟩
/-- agent.go:212 -/
noncomputable def ag_State_r1 (E : Env) (call round : CallT) (tm : T Value) : M (T Value) :=
  mv (T.get tm 0) fun v3 =>
  M.bind (oS (some v3) fun a => oS (some (.pointer none)) fun b => Cl.get (aBin E .eql 28 (.tmp 3) (.const (.pointer none))) a b) fun v4 =>
  mv (some v4) fun v5 =>
  M.bind (M.chk (isK v5) (M.if (isB v5 false) (oS (T.get tm 0) fun a => M.pure a) (M.pure undef))) fun v6 =>
  M.bind (M.chk (isK v5) (M.if (isB v5 false) (oS (some v6) fun a => kNil a) (M.pure undef))) fun v7 =>
  M.bind (M.chk (isK v5) (M.if (isB v5 false) (oS (some v7) fun a => kFld E 35 a 4) (M.pure undef))) fun v8 =>
  M.bind (M.chk (isK v5) (M.if (isB v5 false) (oS (some v8) fun a => kLoad E 31 a) (M.pure undef))) fun v9 =>
  M.bind (M.chk (isK v5) (M.if (isB v5 false) (oS (some v9) fun a => oS (some (.pointer none)) fun b => Cl.get (aBin E .eql 31 (.tmp 9) (.const (.pointer none))) a b) (M.pure undef))) fun v10 =>
  M.bind (M.on (some v5) fun a => M.on (some (.bool true)) fun b => M.on (some v10) fun c => kPick a b c) fun v11 =>
  setF 11 v11 tm fun tm1 =>
  M.pure tm1
theorem ag_State_q1 : RegEq 13 17 ag_State_g ag_State_P1 ag_State_r1 := ⟨by kernel_rfl, fun _ _ _ _ _ _ _ _ _ => by kernel_rfl⟩
theorem ag_State_C2 : condX ag_State_P2 = some 11 := by kernel_rfl
/-- agent.go:213 -/
noncomputable def ag_State_r3 (E : Env) (call round : CallT) (tm : T Value) : M (T Value) :=
  mv (some (.int .i64 0)) fun v2 =>
  setF 2 v2 tm fun tm1 =>
  M.pure tm1
theorem ag_State_q3 : RegEq 13 17 ag_State_g ag_State_P3 ag_State_r3 := ⟨by kernel_rfl, fun _ _ _ _ _ _ _ _ _ => by kernel_rfl⟩
/-- agent.go:215 -/
noncomputable def ag_State_r4 (E : Env) (call round : CallT) (tm : T Value) : M (T Value) :=
  mv (T.get tm 0) fun v12 =>
  M.bind (oS (some v12) fun a => kNil a) fun v13 =>
  M.bind (oS (some v13) fun a => kFld E 35 a 4) fun v14 =>
  M.bind (oS (some v14) fun a => kLoad E 31 a) fun v15 =>
  M.bind (M.on (some (.func (.func 32) #[] #[])) fun f => M.on (seqO [(some v15)]) fun l => callV call round f l) fun v16 =>
  mv (some v16) fun v2 =>
  setF 2 v2 tm fun tm1 =>
  M.pure tm1
theorem ag_State_q4 : RegEq 13 17 ag_State_g ag_State_P4 ag_State_r4 := ⟨by kernel_rfl, fun _ _ _ _ _ _ _ _ _ => by kernel_rfl⟩
theorem ag_State_E5 : ∃ k, ag_State_P5 = .code .ret :: k := ⟨ag_State_P5.tail, by kernel_rfl⟩
theorem ag_State_E6 : ∃ k, ag_State_P6 = .code .ret :: k := ⟨ag_State_P6.tail, by kernel_rfl⟩
-- points: 0:region>[1], 1:region>[2], 2:cond>[3, 4], 3:region>[5], 4:region>[6], 5:ret>, 6:ret>

/-! ### (*satchel/agent.Agent).Session -/
noncomputable def ag_Session_g : Nat := globOf Tryz.f14
abbrev ag_Session_nt : Nat := 17
noncomputable def ag_Session_body : Code := Tryz.f14.body.getD .skip
theorem ag_Session_fn : envS.fn.get 14 = some Tryz.f14 := by kernel_rfl
theorem ag_Session_W {a0 : Value} {n : Nat} {s : St} {Q : Value → St → Prop} (h : ∀ tm, T.get tm 0 = some a0 → W (runF envS n ⟨14, 17, ag_Session_g, tm, [.code ag_Session_body], .run, .normal, none⟩) (s.cxN cxN) fun p s1 => Q p.1 (s1.cxN s.cx)) : W (callW envS (runF envS n) 14 [a0]) s Q :=
  W.call (by kernel_rfl) (by kernel_rfl) ag_Session_fn (by kernel_rfl) rfl rfl (by simp) (h _ (by kernel_rfl))
theorem ag_Session_res : Tryz.f14.results.toList = [.tmp 2] := by kernel_rfl
noncomputable def ag_Session_P0 : List Item := skim 64 [.code ag_Session_body]
noncomputable def ag_Session_P1 : List Item := skim 64 ag_Session_P0.tail
theorem ag_Session_S0_1 : skim 64 ag_Session_P0.tail = ag_Session_P1 := by kernel_rfl
noncomputable def ag_Session_P2 : List Item := skim 64 ag_Session_P1.tail
theorem ag_Session_S1_2 : skim 64 ag_Session_P1.tail = ag_Session_P2 := by kernel_rfl
noncomputable def ag_Session_P3 : List Item := skim 64 (brT ag_Session_P2)
theorem ag_Session_S2_3 : skim 64 (brT ag_Session_P2) = ag_Session_P3 := by kernel_rfl
noncomputable def ag_Session_P4 : List Item := skim 64 (brF ag_Session_P2)
theorem ag_Session_S2_4 : skim 64 (brF ag_Session_P2) = ag_Session_P4 := by kernel_rfl
noncomputable def ag_Session_P5 : List Item := skim 64 ag_Session_P3.tail
theorem ag_Session_S3_5 : skim 64 ag_Session_P3.tail = ag_Session_P5 := by kernel_rfl
noncomputable def ag_Session_P6 : List Item := skim 64 ag_Session_P4.tail
theorem ag_Session_S4_6 : skim 64 ag_Session_P4.tail = ag_Session_P6 := by kernel_rfl
/-- agent.go:218 -/
noncomputable def ag_Session_r0 (E : Env) (call round : CallT) (tm : T Value) : M (T Value) :=
  mv (some (.int .i64 0)) fun v2 =>
  setF 2 v2 tm fun tm1 =>
  M.pure tm1
theorem ag_Session_q0 : RegEq 14 17 ag_Session_g ag_Session_P0 ag_Session_r0 := ⟨by kernel_rfl, fun _ _ _ _ _ _ _ _ _ => by kernel_rfl⟩
/-- agent.go:219 -/
noncomputable def ag_Session_r1 (E : Env) (call round : CallT) (tm : T Value) : M (T Value) :=
  mv (T.get tm 0) fun v3 =>
  M.bind (oS (some v3) fun a => oS (some (.pointer none)) fun b => Cl.get (aBin E .eql 28 (.tmp 3) (.const (.pointer none))) a b) fun v4 =>
  mv (some v4) fun v5 =>
  M.bind (M.chk (isK v5) (M.if (isB v5 false) (oS (T.get tm 0) fun a => M.pure a) (M.pure undef))) fun v6 =>
  M.bind (M.chk (isK v5) (M.if (isB v5 false) (oS (some v6) fun a => kNil a) (M.pure undef))) fun v7 =>
  M.bind (M.chk (isK v5) (M.if (isB v5 false) (oS (some v7) fun a => kFld E 35 a 4) (M.pure undef))) fun v8 =>
  M.bind (M.chk (isK v5) (M.if (isB v5 false) (oS (some v8) fun a => kLoad E 31 a) (M.pure undef))) fun v9 =>
  M.bind (M.chk (isK v5) (M.if (isB v5 false) (oS (some v9) fun a => oS (some (.pointer none)) fun b => Cl.get (aBin E .eql 31 (.tmp 9) (.const (.pointer none))) a b) (M.pure undef))) fun v10 =>
  M.bind (M.on (some v5) fun a => M.on (some (.bool true)) fun b => M.on (some v10) fun c => kPick a b c) fun v11 =>
  setF 11 v11 tm fun tm1 =>
  M.pure tm1
theorem ag_Session_q1 : RegEq 14 17 ag_Session_g ag_Session_P1 ag_Session_r1 := ⟨by kernel_rfl, fun _ _ _ _ _ _ _ _ _ => by kernel_rfl⟩
theorem ag_Session_C2 : condX ag_Session_P2 = some 11 := by kernel_rfl
/-- agent.go:220 -/
noncomputable def ag_Session_r3 (E : Env) (call round : CallT) (tm : T Value) : M (T Value) :=
  mv (some (.int .i64 0)) fun v2 =>
  setF 2 v2 tm fun tm1 =>
  M.pure tm1
theorem ag_Session_q3 : RegEq 14 17 ag_Session_g ag_Session_P3 ag_Session_r3 := ⟨by kernel_rfl, fun _ _ _ _ _ _ _ _ _ => by kernel_rfl⟩
/-- agent.go:222 -/
noncomputable def ag_Session_r4 (E : Env) (call round : CallT) (tm : T Value) : M (T Value) :=
  mv (T.get tm 0) fun v12 =>
  M.bind (oS (some v12) fun a => kNil a) fun v13 =>
  M.bind (oS (some v13) fun a => kFld E 35 a 4) fun v14 =>
  M.bind (oS (some v14) fun a => kLoad E 31 a) fun v15 =>
  M.bind (M.on (some (.func (.func 35) #[] #[])) fun f => M.on (seqO [(some v15)]) fun l => callV call round f l) fun v16 =>
  mv (some v16) fun v2 =>
  setF 2 v2 tm fun tm1 =>
  M.pure tm1
theorem ag_Session_q4 : RegEq 14 17 ag_Session_g ag_Session_P4 ag_Session_r4 := ⟨by kernel_rfl, fun _ _ _ _ _ _ _ _ _ => by kernel_rfl⟩
theorem ag_Session_E5 : ∃ k, ag_Session_P5 = .code .ret :: k := ⟨ag_Session_P5.tail, by kernel_rfl⟩
theorem ag_Session_E6 : ∃ k, ag_Session_P6 = .code .ret :: k := ⟨ag_Session_P6.tail, by kernel_rfl⟩
-- points: 0:region>[1], 1:region>[2], 2:cond>[3, 4], 3:region>[5], 4:region>[6], 5:ret>, 6:ret>

/-! ### (*satchel/agent.Agent).none -/
noncomputable def ag_none_g : Nat := globOf Tryz.f20
abbrev ag_none_nt : Nat := 12
noncomputable def ag_none_body : Code := Tryz.f20.body.getD .skip
theorem ag_none_fn : envS.fn.get 20 = some Tryz.f20 := by kernel_rfl
theorem ag_none_W {a0 : Value} {n : Nat} {s : St} {Q : Value → St → Prop} (h : ∀ tm, T.get tm 0 = some a0 → W (runF envS n ⟨20, 12, ag_none_g, tm, [.code ag_none_body], .run, .normal, none⟩) (s.cxN cxN) fun p s1 => Q p.1 (s1.cxN s.cx)) : W (callW envS (runF envS n) 20 [a0]) s Q :=
  W.call (by kernel_rfl) (by kernel_rfl) ag_none_fn (by kernel_rfl) rfl rfl (by simp) (h _ (by kernel_rfl))
theorem ag_none_res : Tryz.f20.results.toList = [.tmp 2] := by kernel_rfl
noncomputable def ag_none_P0 : List Item := skim 64 [.code ag_none_body]
noncomputable def ag_none_P1 : List Item := skim 64 ag_none_P0.tail
theorem ag_none_S0_1 : skim 64 ag_none_P0.tail = ag_none_P1 := by kernel_rfl
noncomputable def ag_none_P2 : List Item := skim 64 ag_none_P1.tail
theorem ag_none_S1_2 : skim 64 ag_none_P1.tail = ag_none_P2 := by kernel_rfl
/-- agent.go:50 -/
noncomputable def ag_none_r0 (E : Env) (call round : CallT) (tm : T Value) : M (T Value) :=
  mv (some (.bool false)) fun v2 =>
  setF 2 v2 tm fun tm1 =>
  M.pure tm1
theorem ag_none_q0 : RegEq 20 12 ag_none_g ag_none_P0 ag_none_r0 := ⟨by kernel_rfl, fun _ _ _ _ _ _ _ _ _ => by kernel_rfl⟩
/-- agent.go:50 -/
noncomputable def ag_none_r1 (E : Env) (call round : CallT) (tm : T Value) : M (T Value) :=
  mv (T.get tm 0) fun v3 =>
  M.bind (oS (some v3) fun a => oS (some (.pointer none)) fun b => Cl.get (aBin E .eql 28 (.tmp 3) (.const (.pointer none))) a b) fun v4 =>
  mv (some v4) fun v5 =>
  M.bind (M.chk (isK v5) (M.if (isB v5 false) (oS (T.get tm 0) fun a => M.pure a) (M.pure undef))) fun v6 =>
  M.bind (M.chk (isK v5) (M.if (isB v5 false) (oS (some v6) fun a => kNil a) (M.pure undef))) fun v7 =>
  M.bind (M.chk (isK v5) (M.if (isB v5 false) (oS (some v7) fun a => kFld E 35 a 2) (M.pure undef))) fun v8 =>
  M.bind (M.chk (isK v5) (M.if (isB v5 false) (oS (some v8) fun a => kLoad E 30 a) (M.pure undef))) fun v9 =>
  M.bind (M.chk (isK v5) (M.if (isB v5 false) (oS (some v9) fun a => oS (some (.pointer none)) fun b => Cl.get (aBin E .eql 30 (.tmp 9) (.const (.pointer none))) a b) (M.pure undef))) fun v10 =>
  M.bind (M.on (some v5) fun a => M.on (some (.bool true)) fun b => M.on (some v10) fun c => kPick a b c) fun v11 =>
  mv (some v11) fun v2 =>
  setF 2 v2 tm fun tm1 =>
  M.pure tm1
theorem ag_none_q1 : RegEq 20 12 ag_none_g ag_none_P1 ag_none_r1 := ⟨by kernel_rfl, fun _ _ _ _ _ _ _ _ _ => by kernel_rfl⟩
theorem ag_none_E2 : ∃ k, ag_none_P2 = .code .ret :: k := ⟨ag_none_P2.tail, by kernel_rfl⟩
-- points: 0:region>[1], 1:region>[2], 2:ret>

/-! ### satchel/agent.New -/
noncomputable def ag_New_g : Nat := globOf Tryz.f15
abbrev ag_New_nt : Nat := 41
noncomputable def ag_New_body : Code := Tryz.f15.body.getD .skip
theorem ag_New_fn : envS.fn.get 15 = some Tryz.f15 := by kernel_rfl
theorem ag_New_W {a0 a1 a2 : Value} {n : Nat} {s : St} {Q : Value → St → Prop} (h : ∀ tm, T.get tm 0 = some a0 → T.get tm 1 = some a1 → T.get tm 2 = some a2 → W (runF envS n ⟨15, 41, ag_New_g, tm, [.code ag_New_body], .run, .normal, none⟩) (s.cxN cxN) fun p s1 => Q p.1 (s1.cxN s.cx)) : W (callW envS (runF envS n) 15 [a0, a1, a2]) s Q :=
  W.call (by kernel_rfl) (by kernel_rfl) ag_New_fn (by kernel_rfl) rfl rfl (by simp) (h _ (by kernel_rfl) (by kernel_rfl) (by kernel_rfl))
theorem ag_New_res : Tryz.f15.results.toList = [.tmp 6, .tmp 7] := by kernel_rfl
noncomputable def ag_New_P0 : List Item := skim 64 [.code ag_New_body]
noncomputable def ag_New_P1 : List Item := skim 64 ag_New_P0.tail
theorem ag_New_S0_1 : skim 64 ag_New_P0.tail = ag_New_P1 := by kernel_rfl
noncomputable def ag_New_P2 : List Item := skim 64 ag_New_P1.tail
theorem ag_New_S1_2 : skim 64 ag_New_P1.tail = ag_New_P2 := by kernel_rfl
noncomputable def ag_New_P3 : List Item := skim 64 (brT ag_New_P2)
theorem ag_New_S2_3 : skim 64 (brT ag_New_P2) = ag_New_P3 := by kernel_rfl
noncomputable def ag_New_P4 : List Item := skim 64 (brF ag_New_P2)
theorem ag_New_S2_4 : skim 64 (brF ag_New_P2) = ag_New_P4 := by kernel_rfl
noncomputable def ag_New_P5 : List Item := skim 64 ag_New_P3.tail
theorem ag_New_S3_5 : skim 64 ag_New_P3.tail = ag_New_P5 := by kernel_rfl
noncomputable def ag_New_P6 : List Item := skim 64 ag_New_P4.tail
theorem ag_New_S4_6 : skim 64 ag_New_P4.tail = ag_New_P6 := by kernel_rfl
noncomputable def ag_New_P7 : List Item := skim 64 (brT ag_New_P6)
theorem ag_New_S6_7 : skim 64 (brT ag_New_P6) = ag_New_P7 := by kernel_rfl
noncomputable def ag_New_P8 : List Item := skim 64 (brF ag_New_P6)
theorem ag_New_S6_8 : skim 64 (brF ag_New_P6) = ag_New_P8 := by kernel_rfl
theorem ag_New_S7_5 : skim 64 ag_New_P7.tail = ag_New_P5 := by kernel_rfl
noncomputable def ag_New_P9 : List Item := skim 64 ag_New_P8.tail
theorem ag_New_S8_9 : skim 64 ag_New_P8.tail = ag_New_P9 := by kernel_rfl
noncomputable def ag_New_P10 : List Item := skim 64 ag_New_P9.tail
theorem ag_New_S9_10 : skim 64 ag_New_P9.tail = ag_New_P10 := by kernel_rfl
noncomputable def ag_New_P11 : List Item := skim 64 (brT ag_New_P10)
theorem ag_New_S10_11 : skim 64 (brT ag_New_P10) = ag_New_P11 := by kernel_rfl
noncomputable def ag_New_P12 : List Item := skim 64 (brF ag_New_P10)
theorem ag_New_S10_12 : skim 64 (brF ag_New_P10) = ag_New_P12 := by kernel_rfl
noncomputable def ag_New_P13 : List Item := skim 64 ag_New_P11.tail
theorem ag_New_S11_13 : skim 64 ag_New_P11.tail = ag_New_P13 := by kernel_rfl
noncomputable def ag_New_P14 : List Item := skim 64 ag_New_P12.tail
theorem ag_New_S12_14 : skim 64 ag_New_P12.tail = ag_New_P14 := by kernel_rfl
/-- agent.go:35 -/
noncomputable def ag_New_r0 (E : Env) (call round : CallT) (tm : T Value) : M (T Value) :=
  mv (some (.pointer none)) fun v6 =>
  setF 6 v6 tm fun tm1 =>
  mv (some (.int .i64 0)) fun v7 =>
  setF 7 v7 tm1 fun tm2 =>
  M.pure tm2
theorem ag_New_q0 : RegEq 15 41 ag_New_g ag_New_P0 ag_New_r0 := ⟨by kernel_rfl, fun _ _ _ _ _ _ _ _ _ => by kernel_rfl⟩
/-- agent.go:37 -/
noncomputable def ag_New_r1 (E : Env) (call round : CallT) (tm : T Value) : M (T Value) :=
  mv (T.get tm 0) fun v11 =>
  M.bind (oS (some v11) fun a => oS (some (.pointer none)) fun b => Cl.get (aBin E .eql 29 (.tmp 11) (.const (.pointer none))) a b) fun v12 =>
  mv (some v12) fun v10 =>
  setF 10 v10 tm fun tm1 =>
  M.pure tm1
theorem ag_New_q1 : RegEq 15 41 ag_New_g ag_New_P1 ag_New_r1 := ⟨by kernel_rfl, fun _ _ _ _ _ _ _ _ _ => by kernel_rfl⟩
theorem ag_New_C2 : condX ag_New_P2 = some 10 := by kernel_rfl
/-- agent.go:38 -/
noncomputable def ag_New_r3 (E : Env) (call round : CallT) (tm : T Value) : M (T Value) :=
  mv (some (.pointer none)) fun v6 =>
  setF 6 v6 tm fun tm1 =>
  mv (some (.int .i64 1)) fun v7 =>
  setF 7 v7 tm1 fun tm2 =>
  M.pure tm2
theorem ag_New_q3 : RegEq 15 41 ag_New_g ag_New_P3 ag_New_r3 := ⟨by kernel_rfl, fun _ _ _ _ _ _ _ _ _ => by kernel_rfl⟩
/-- agent.go:39 -/
noncomputable def ag_New_r4 (E : Env) (call round : CallT) (tm : T Value) : M (T Value) :=
  mv (T.get tm 1) fun v14 =>
  M.bind (oS (some v14) fun a => oS (some (.int .i64 1)) fun b => Cl.get (aBin E .lss 3 (.tmp 14) (.const (.int .i64 1))) a b) fun v15 =>
  mv (some v15) fun v16 =>
  M.bind (M.chk (isK v16) (M.if (isB v16 false) (oS (T.get tm 1) fun a => M.pure a) (M.pure undef))) fun v17 =>
  M.bind (M.chk (isK v16) (M.if (isB v16 false) (oS (some v17) fun a => oS (some (.int .i64 2147483647)) fun b => Cl.get (aBin E .gtr 3 (.tmp 17) (.const (.int .i64 2147483647))) a b) (M.pure undef))) fun v18 =>
  M.bind (M.on (some v16) fun a => M.on (some (.bool true)) fun b => M.on (some v18) fun c => kPick a b c) fun v19 =>
  mv (some v19) fun v20 =>
  M.bind (M.chk (isK v20) (M.if (isB v20 false) (oS (T.get tm 2) fun a => M.pure a) (M.pure undef))) fun v21 =>
  M.bind (M.chk (isK v20) (M.if (isB v20 false) (oS (some v21) fun a => oS (some (.int .i64 1)) fun b => Cl.get (aBin E .lss 3 (.tmp 21) (.const (.int .i64 1))) a b) (M.pure undef))) fun v22 =>
  M.bind (M.on (some v20) fun a => M.on (some (.bool true)) fun b => M.on (some v22) fun c => kPick a b c) fun v23 =>
  mv (some v23) fun v24 =>
  M.bind (M.chk (isK v24) (M.if (isB v24 false) (oS (T.get tm 2) fun a => M.pure a) (M.pure undef))) fun v25 =>
  M.bind (M.chk (isK v24) (M.if (isB v24 false) (oS (some v25) fun a => oS (some (.int .i64 64)) fun b => Cl.get (aBin E .gtr 3 (.tmp 25) (.const (.int .i64 64))) a b) (M.pure undef))) fun v26 =>
  M.bind (M.on (some v24) fun a => M.on (some (.bool true)) fun b => M.on (some v26) fun c => kPick a b c) fun v27 =>
  mv (some v27) fun v13 =>
  setF 13 v13 tm fun tm1 =>
  M.pure tm1
theorem ag_New_q4 : RegEq 15 41 ag_New_g ag_New_P4 ag_New_r4 := ⟨by kernel_rfl, fun _ _ _ _ _ _ _ _ _ => by kernel_rfl⟩
theorem ag_New_E5 : ∃ k, ag_New_P5 = .code .ret :: k := ⟨ag_New_P5.tail, by kernel_rfl⟩
theorem ag_New_C6 : condX ag_New_P6 = some 13 := by kernel_rfl
/-- agent.go:40 -/
noncomputable def ag_New_r7 (E : Env) (call round : CallT) (tm : T Value) : M (T Value) :=
  mv (some (.pointer none)) fun v6 =>
  setF 6 v6 tm fun tm1 =>
  mv (some (.int .i64 2)) fun v7 =>
  setF 7 v7 tm1 fun tm2 =>
  M.pure tm2
theorem ag_New_q7 : RegEq 15 41 ag_New_g ag_New_P7 ag_New_r7 := ⟨by kernel_rfl, fun _ _ _ _ _ _ _ _ _ => by kernel_rfl⟩
/-- agent.go:42 -/
noncomputable def ag_New_r8 (E : Env) (call round : CallT) (tm : T Value) : M (T Value) :=
  mv (T.get tm 0) fun v29 =>
  M.bind (M.on (some (.func (.func 36) #[] #[])) fun f => M.on (seqO [(some v29)]) fun l => callV call round f l) fun v30 =>
  mv (some v30) fun v28 =>
  M.bind (oS (some v28) fun a => kExt 0 a) fun v31 =>
  M.bind (oS (some v28) fun a => kExt 1 a) fun v32 =>
  mv (some v31) fun v8 =>
  setF 8 v8 tm fun tm1 =>
  mv (some v32) fun v9 =>
  setF 9 v9 tm1 fun tm2 =>
  M.pure tm2
theorem ag_New_q8 : RegEq 15 41 ag_New_g ag_New_P8 ag_New_r8 := ⟨by kernel_rfl, fun _ _ _ _ _ _ _ _ _ => by kernel_rfl⟩
/-- agent.go:43 -/
noncomputable def ag_New_r9 (E : Env) (call round : CallT) (tm : T Value) : M (T Value) :=
  mv (T.get tm 9) fun v33 =>
  M.bind (oS (some v33) fun a => oS (some (.int .i64 0)) fun b => Cl.get (aBin E .neq 37 (.tmp 33) (.const (.int .i64 0))) a b) fun v34 =>
  setF 34 v34 tm fun tm1 =>
  M.pure tm1
theorem ag_New_q9 : RegEq 15 41 ag_New_g ag_New_P9 ag_New_r9 := ⟨by kernel_rfl, fun _ _ _ _ _ _ _ _ _ => by kernel_rfl⟩
theorem ag_New_C10 : condX ag_New_P10 = some 34 := by kernel_rfl
/-- agent.go:44 -/
noncomputable def ag_New_r11 (E : Env) (call round : CallT) (tm : T Value) : M (T Value) :=
  mv (T.get tm 9) fun v35 =>
  mv (some (.pointer none)) fun v6 =>
  setF 6 v6 tm fun tm1 =>
  mv (some v35) fun v7 =>
  setF 7 v7 tm1 fun tm2 =>
  M.pure tm2
theorem ag_New_q11 : RegEq 15 41 ag_New_g ag_New_P11 ag_New_r11 := ⟨by kernel_rfl, fun _ _ _ _ _ _ _ _ _ => by kernel_rfl⟩
/-- agent.go:46 -/
noncomputable def ag_New_r12 (E : Env) (call round : CallT) (tm : T Value) : M (T Value) :=
  mv (T.get tm 1) fun v36 =>
  mv (T.get tm 2) fun v37 =>
  mv (T.get tm 8) fun v38 =>
  M.bind (oS (seqP [(0, (some v36)), (1, (some v37)), (2, (some v38))]) fun ps => aBuild E 35 ps) fun v39 =>
  M.bind (oS (some v39) fun a => kBox a) fun v40 =>
  mv (some v40) fun v6 =>
  setF 6 v6 tm fun tm1 =>
  mv (some (.int .i64 0)) fun v7 =>
  setF 7 v7 tm1 fun tm2 =>
  M.pure tm2
theorem ag_New_q12 : RegEq 15 41 ag_New_g ag_New_P12 ag_New_r12 := ⟨by kernel_rfl, fun _ _ _ _ _ _ _ _ _ => by kernel_rfl⟩
theorem ag_New_E13 : ∃ k, ag_New_P13 = .code .ret :: k := ⟨ag_New_P13.tail, by kernel_rfl⟩
theorem ag_New_E14 : ∃ k, ag_New_P14 = .code .ret :: k := ⟨ag_New_P14.tail, by kernel_rfl⟩
-- points: 0:region>[1], 1:region>[2], 2:cond>[3, 4], 3:region>[5], 4:region>[6], 5:ret>, 6:cond>[7, 8], 7:region>[5], 8:region>[9], 9:region>[10], 10:cond>[11, 12], 11:region>[13], 12:region>[14], 13:ret>, 14:ret>
end Go.Proofs.YtieohifdhplgbaaGreatDoor.Am
