/- What each region of some functions comes to, as a word of the evaluator: equations, each checked by the kernel. Printed by a program. -/
import Derived.Test.YtbmkpcjkadifhaaGreatDoorSNo20
import Derived.Test.YtbmkpcjkadifhaaGreatDoorSNo07
import Derived.KernelRfl
namespace Go.Proofs.YtbmkpcjkadifhaaGreatDoor.Am
open Go.RowKit

/-! ### satchel/satchellaw23.SnapsNone -/
noncomputable def law23_None_g : Nat := globOf Tryz.f3
abbrev law23_None_nt : Nat := 118
noncomputable def law23_None_body : Code := Tryz.f3.body.getD .skip
theorem law23_None_fn : envS.fn.get 3 = some Tryz.f3 := by kernel_rfl
theorem law23_None_W {a0 : Value} {n : Nat} {s : St} {Q : Value → St → Prop} (h : ∀ tm, T.get tm 0 = some a0 → W (runF envS n ⟨3, 118, law23_None_g, tm, [.code law23_None_body], .run, .normal, none⟩) (s.cxN cxN) fun p s1 => Q p.1 (s1.cxN s.cx)) : W (callW envS (runF envS n) 3 [a0]) s Q :=
  W.call (by kernel_rfl) (by kernel_rfl) law23_None_fn (by kernel_rfl) rfl rfl (by simp) (h _ (by kernel_rfl))
theorem law23_None_res : Tryz.f3.results.toList = [.tmp 2] := by kernel_rfl
noncomputable def law23_None_P0 : List Item := skim 64 [.code law23_None_body]
noncomputable def law23_None_P1 : List Item := skim 64 law23_None_P0.tail
theorem law23_None_S0_1 : skim 64 law23_None_P0.tail = law23_None_P1 := by kernel_rfl
noncomputable def law23_None_P2 : List Item := skim 64 law23_None_P1.tail
theorem law23_None_S1_2 : skim 64 law23_None_P1.tail = law23_None_P2 := by kernel_rfl
noncomputable def law23_None_P3 : List Item := skim 64 (brT law23_None_P2)
theorem law23_None_S2_3 : skim 64 (brT law23_None_P2) = law23_None_P3 := by kernel_rfl
noncomputable def law23_None_P4 : List Item := skim 64 (brF law23_None_P2)
theorem law23_None_S2_4 : skim 64 (brF law23_None_P2) = law23_None_P4 := by kernel_rfl
noncomputable def law23_None_P5 : List Item := skim 64 law23_None_P3.tail
theorem law23_None_S3_5 : skim 64 law23_None_P3.tail = law23_None_P5 := by kernel_rfl
noncomputable def law23_None_P6 : List Item := skim 64 law23_None_P4.tail
theorem law23_None_S4_6 : skim 64 law23_None_P4.tail = law23_None_P6 := by kernel_rfl
noncomputable def law23_None_P7 : List Item := skim 64 law23_None_P6.tail
theorem law23_None_S6_7 : skim 64 law23_None_P6.tail = law23_None_P7 := by kernel_rfl
noncomputable def law23_None_P8 : List Item := skim 64 law23_None_P7.tail
theorem law23_None_S7_8 : skim 64 law23_None_P7.tail = law23_None_P8 := by kernel_rfl
noncomputable def law23_None_P9 : List Item := skim 64 (brT law23_None_P8)
theorem law23_None_S8_9 : skim 64 (brT law23_None_P8) = law23_None_P9 := by kernel_rfl
noncomputable def law23_None_P10 : List Item := skim 64 (brF law23_None_P8)
theorem law23_None_S8_10 : skim 64 (brF law23_None_P8) = law23_None_P10 := by kernel_rfl
noncomputable def law23_None_P11 : List Item := skim 64 law23_None_P9.tail
theorem law23_None_S9_11 : skim 64 law23_None_P9.tail = law23_None_P11 := by kernel_rfl
noncomputable def law23_None_P12 : List Item := skim 64 law23_None_P10.tail
theorem law23_None_S10_12 : skim 64 law23_None_P10.tail = law23_None_P12 := by kernel_rfl
noncomputable def law23_None_P13 : List Item := skim 64 law23_None_P11.tail
theorem law23_None_S11_13 : skim 64 law23_None_P11.tail = law23_None_P13 := by kernel_rfl
noncomputable def law23_None_P14 : List Item := skim 64 law23_None_P12.tail
theorem law23_None_S12_14 : skim 64 law23_None_P12.tail = law23_None_P14 := by kernel_rfl
noncomputable def law23_None_P15 : List Item := skim 64 law23_None_P13.tail
theorem law23_None_S13_15 : skim 64 law23_None_P13.tail = law23_None_P15 := by kernel_rfl
noncomputable def law23_None_P16 : List Item := skim 64 law23_None_P15.tail
theorem law23_None_S15_16 : skim 64 law23_None_P15.tail = law23_None_P16 := by kernel_rfl
noncomputable def law23_None_P17 : List Item := skim 64 law23_None_P16.tail
theorem law23_None_S16_17 : skim 64 law23_None_P16.tail = law23_None_P17 := by kernel_rfl
noncomputable def law23_None_P18 : List Item := skim 64 law23_None_P17.tail
theorem law23_None_S17_18 : skim 64 law23_None_P17.tail = law23_None_P18 := by kernel_rfl
noncomputable def law23_None_P19 : List Item := skim 64 (brT law23_None_P18)
theorem law23_None_S18_19 : skim 64 (brT law23_None_P18) = law23_None_P19 := by kernel_rfl
noncomputable def law23_None_P20 : List Item := skim 64 (brF law23_None_P18)
theorem law23_None_S18_20 : skim 64 (brF law23_None_P18) = law23_None_P20 := by kernel_rfl
noncomputable def law23_None_P21 : List Item := skim 64 law23_None_P19.tail
theorem law23_None_S19_21 : skim 64 law23_None_P19.tail = law23_None_P21 := by kernel_rfl
theorem law23_None_S20_7 : skim 64 law23_None_P20.tail = law23_None_P7 := by kernel_rfl
/-- law.go:137 -/
noncomputable def law23_None_r0 (E : Env) (call round : CallT) (tm : T Value) : M (T Value) :=
  M.bind (oS (T.get tm 0) fun a => kBox a) fun v1 =>
  setF 1 v1 tm fun tm1 =>
  mv (some (.bool false)) fun v2 =>
  setF 2 v2 tm1 fun tm2 =>
  M.pure tm2
theorem law23_None_q0 : RegEq 3 118 law23_None_g law23_None_P0 law23_None_r0 := ⟨by kernel_rfl, fun _ _ _ _ _ _ _ _ _ => by kernel_rfl⟩
/-- law.go:138 -/
noncomputable def law23_None_r1 (E : Env) (call round : CallT) (tm : T Value) : M (T Value) :=
  M.bind (oS (T.get tm 1) fun a => kLoad E 30 a) fun v16 =>
  M.bind (oS (seqP [(0, (some v16))]) fun ps => aBuildS E 32 1 ps) fun v17 =>
  M.bind (M.on (some (.func (.func 4) #[] #[])) fun f => M.on (seqO [(some v17)]) fun l => callV call round f l) fun v18 =>
  setF 18 v18 tm fun tm1 =>
  M.pure tm1
theorem law23_None_q1 : RegEq 3 118 law23_None_g law23_None_P1 law23_None_r1 := ⟨by kernel_rfl, fun _ _ _ _ _ _ _ _ _ => by kernel_rfl⟩
theorem law23_None_C2 : condX law23_None_P2 = some 18 := by kernel_rfl
/-- law.go:139 -/
noncomputable def law23_None_r3 (E : Env) (call round : CallT) (tm : T Value) : M (T Value) :=
  M.bind (M.on (some (.func (.func 5) #[] #[])) fun f => M.on (seqO []) fun l => callV call round f l) fun v19 =>
  mv (some v19) fun v2 =>
  setF 2 v2 tm fun tm1 =>
  M.pure tm1
theorem law23_None_q3 : RegEq 3 118 law23_None_g law23_None_P3 law23_None_r3 := ⟨by kernel_rfl, fun _ _ _ _ _ _ _ _ _ => by kernel_rfl⟩
/-- law.go:141 -/
noncomputable def law23_None_r4 (E : Env) (call round : CallT) (tm : T Value) : M (T Value) :=
  M.bind (oS (seqP []) fun ps => aBuild E 37 ps) fun v20 =>
  M.bind (oS (some v20) fun a => kBox a) fun v21 =>
  M.bind (oS (seqP [(0, (some (.pointer none))), (1, (some v21))]) fun ps => aBuildS E 38 2 ps) fun v22 =>
  mv (some v22) fun v3 =>
  setF 3 v3 tm fun tm1 =>
  M.pure tm1
theorem law23_None_q4 : RegEq 3 118 law23_None_g law23_None_P4 law23_None_r4 := ⟨by kernel_rfl, fun _ _ _ _ _ _ _ _ _ => by kernel_rfl⟩
theorem law23_None_E5 : ∃ k, law23_None_P5 = .code .ret :: k := ⟨law23_None_P5.tail, by kernel_rfl⟩
/-- law.go:142 -/
noncomputable def law23_None_r6 (E : Env) (call round : CallT) (tm : T Value) : M (T Value) :=
  mv (some (.int .i64 0)) fun v4 =>
  setF 4 v4 tm fun tm1 =>
  M.pure tm1
theorem law23_None_q6 : RegEq 3 118 law23_None_g law23_None_P6 law23_None_r6 := ⟨by kernel_rfl, fun _ _ _ _ _ _ _ _ _ => by kernel_rfl⟩
/-- law.go:142 -/
noncomputable def law23_None_r7 (E : Env) (call round : CallT) (tm : T Value) : M (T Value) :=
  mv (T.get tm 4) fun v23 =>
  mv (T.get tm 3) fun v24 =>
  M.bind (oS (seqO [(some v24)]) fun l => aBuiltin E .len [38] l) fun v25 =>
  M.bind (oS (some v23) fun a => oS (some v25) fun b => Cl.get (aBin E .lss 3 (.tmp 23) (.tmp 25)) a b) fun v26 =>
  setF 26 v26 tm fun tm1 =>
  M.pure tm1
theorem law23_None_q7 : RegEq 3 118 law23_None_g law23_None_P7 law23_None_r7 := ⟨by kernel_rfl, fun _ _ _ _ _ _ _ _ _ => by kernel_rfl⟩
theorem law23_None_C8 : condX law23_None_P8 = some 26 := by kernel_rfl
/-- law.go:143 -/
noncomputable def law23_None_r9 (E : Env) (call round : CallT) (tm : T Value) : M (T Value) :=
  mv (T.get tm 3) fun v29 =>
  mv (T.get tm 4) fun v30 =>
  M.bind (oS (some v29) fun a => oS (some v30) fun b => kIdxA E 38 a b) fun v31 =>
  M.bind (oS (some v31) fun a => kLoad E 34 a) fun v32 =>
  mv (some v32) fun v5 =>
  setF 5 v5 tm fun tm1 =>
  M.pure tm1
theorem law23_None_q9 : RegEq 3 118 law23_None_g law23_None_P9 law23_None_r9 := ⟨by kernel_rfl, fun _ _ _ _ _ _ _ _ _ => by kernel_rfl⟩
/-- law.go:152 -/
noncomputable def law23_None_r10 (E : Env) (call round : CallT) (tm : T Value) : M (T Value) :=
  M.bind (M.on (some (.func (.func 14) #[] #[])) fun f => M.on (seqO [(some (.pointer none)), (some (.int .i64 1))]) fun l => callV call round f l) fun v106 =>
  mv (some v106) fun v105 =>
  M.bind (oS (some v105) fun a => kExt 0 a) fun v107 =>
  M.bind (oS (some v105) fun a => kExt 1 a) fun v108 =>
  mv (some v107) fun v14 =>
  setF 14 v14 tm fun tm1 =>
  mv (some v108) fun v15 =>
  setF 15 v15 tm1 fun tm2 =>
  M.pure tm2
theorem law23_None_q10 : RegEq 3 118 law23_None_g law23_None_P10 law23_None_r10 := ⟨by kernel_rfl, fun _ _ _ _ _ _ _ _ _ => by kernel_rfl⟩
/-- law.go:144 -/
noncomputable def law23_None_r11 (E : Env) (call round : CallT) (tm : T Value) : M (T Value) :=
  mv (T.get tm 5) fun v34 =>
  M.bind (oS (T.get tm 1) fun a => kFld E 30 a 2) fun v35 =>
  M.bind (oS (some v35) fun a => kLoad E 24 a) fun v36 =>
  M.bind (M.on (some (.func (.func 6) #[] #[])) fun f => M.on (seqO [(some v34), (some v36)]) fun l => callV call round f l) fun v37 =>
  mv (some v37) fun v33 =>
  M.bind (oS (some v33) fun a => kExt 0 a) fun v38 =>
  M.bind (oS (some v33) fun a => kExt 1 a) fun v39 =>
  mv (some v38) fun v6 =>
  setF 6 v6 tm fun tm1 =>
  mv (some v39) fun v7 =>
  setF 7 v7 tm1 fun tm2 =>
  M.pure tm2
theorem law23_None_q11 : RegEq 3 118 law23_None_g law23_None_P11 law23_None_r11 := ⟨by kernel_rfl, fun _ _ _ _ _ _ _ _ _ => by kernel_rfl⟩
/-- law.go:153 -/
noncomputable def law23_None_r12 (E : Env) (call round : CallT) (tm : T Value) : M (T Value) :=
  mv (T.get tm 14) fun v109 =>
  M.bind (oS (some v109) fun a => oS (some (.pointer none)) fun b => Cl.get (aBin E .eql 34 (.tmp 109) (.const (.pointer none))) a b) fun v110 =>
  mv (some v110) fun v111 =>
  M.bind (M.chk (isK v111) (M.if (isB v111 true) (oS (T.get tm 15) fun a => M.pure a) (M.pure undef))) fun v112 =>
  M.bind (M.chk (isK v111) (M.if (isB v111 true) (oS (some v112) fun a => oS (some (.int .i64 1)) fun b => Cl.get (aBin E .eql 39 (.tmp 112) (.const (.int .i64 1))) a b) (M.pure undef))) fun v113 =>
  M.bind (M.on (some v111) fun a => M.on (some v113) fun b => M.on (some (.bool false)) fun c => kPick a b c) fun v114 =>
  mv (some v114) fun v115 =>
  M.bind (M.chk (isK v115) (M.if (isB v115 true) (M.on (some (.func (.func 5) #[] #[])) fun f => M.on (seqO []) fun l => callV call round f l) (M.pure undef))) fun v116 =>
  M.bind (M.on (some v115) fun a => M.on (some v116) fun b => M.on (some (.bool false)) fun c => kPick a b c) fun v117 =>
  mv (some v117) fun v2 =>
  setF 2 v2 tm fun tm1 =>
  M.pure tm1
theorem law23_None_q12 : RegEq 3 118 law23_None_g law23_None_P12 law23_None_r12 := ⟨by kernel_rfl, fun _ _ _ _ _ _ _ _ _ => by kernel_rfl⟩
/-- law.go:145 -/
noncomputable def law23_None_r13 (E : Env) (call round : CallT) (tm : T Value) : M (T Value) :=
  mv (T.get tm 5) fun v41 =>
  M.bind (oS (T.get tm 1) fun a => kFld E 30 a 3) fun v42 =>
  M.bind (oS (some v42) fun a => kLoad E 26 a) fun v43 =>
  M.bind (M.on (some (.func (.func 7) #[] #[])) fun f => M.on (seqO [(some v41), (some v43)]) fun l => callV call round f l) fun v44 =>
  mv (some v44) fun v40 =>
  M.bind (oS (some v40) fun a => kExt 0 a) fun v45 =>
  M.bind (oS (some v40) fun a => kExt 1 a) fun v46 =>
  mv (some v45) fun v8 =>
  setF 8 v8 tm fun tm1 =>
  mv (some v46) fun v9 =>
  setF 9 v9 tm1 fun tm2 =>
  M.pure tm2
theorem law23_None_q13 : RegEq 3 118 law23_None_g law23_None_P13 law23_None_r13 := ⟨by kernel_rfl, fun _ _ _ _ _ _ _ _ _ => by kernel_rfl⟩
theorem law23_None_E14 : ∃ k, law23_None_P14 = .code .ret :: k := ⟨law23_None_P14.tail, by kernel_rfl⟩
/-- law.go:146 -/
noncomputable def law23_None_r15 (E : Env) (call round : CallT) (tm : T Value) : M (T Value) :=
  mv (T.get tm 5) fun v48 =>
  M.bind (oS (T.get tm 1) fun a => kFld E 30 a 1) fun v49 =>
  M.bind (oS (some v49) fun a => kLoad E 3 a) fun v50 =>
  M.bind (M.on (some (.func (.func 8) #[] #[])) fun f => M.on (seqO [(some v48), (some v50)]) fun l => callV call round f l) fun v51 =>
  mv (some v51) fun v47 =>
  M.bind (oS (some v47) fun a => kExt 0 a) fun v52 =>
  M.bind (oS (some v47) fun a => kExt 1 a) fun v53 =>
  M.bind (kAlloc E 24) fun v10 =>
  M.bind (oS (some v10) fun a => oS (some v52) fun b => kStore E 24 a b) fun _ =>
  mv (some v53) fun v11 =>
  setF 11 v11 tm fun tm1 =>
  M.pure tm1
theorem law23_None_q15 : RegEq 3 118 law23_None_g law23_None_P15 law23_None_r15 := ⟨by kernel_rfl, fun _ _ _ _ _ _ _ _ _ => by kernel_rfl⟩
/-- law.go:147 -/
noncomputable def law23_None_r16 (E : Env) (call round : CallT) (tm : T Value) : M (T Value) :=
  mv (T.get tm 5) fun v55 =>
  M.bind (oS (T.get tm 1) fun a => kFld E 30 a 1) fun v56 =>
  M.bind (oS (some v56) fun a => kLoad E 3 a) fun v57 =>
  M.bind (M.on (some (.func (.func 9) #[] #[])) fun f => M.on (seqO [(some v55), (some v57)]) fun l => callV call round f l) fun v58 =>
  mv (some v58) fun v54 =>
  M.bind (oS (some v54) fun a => kExt 0 a) fun v59 =>
  M.bind (oS (some v54) fun a => kExt 1 a) fun v60 =>
  mv (some v59) fun v12 =>
  mv (some v60) fun v13 =>
  setF 13 v13 tm fun tm1 =>
  M.pure tm1
theorem law23_None_q16 : RegEq 3 118 law23_None_g law23_None_P16 law23_None_r16 := ⟨by kernel_rfl, fun _ _ _ _ _ _ _ _ _ => by kernel_rfl⟩
/-- law.go:148 -/
noncomputable def law23_None_r17 (E : Env) (call round : CallT) (tm : T Value) : M (T Value) :=
  mv (T.get tm 6) fun v61 =>
  M.bind (oS (some v61) fun a => oS (some (.int .i64 0)) fun b => Cl.get (aBin E .neq 3 (.tmp 61) (.const (.int .i64 0))) a b) fun v62 =>
  mv (some v62) fun v63 =>
  M.bind (M.chk (isK v63) (M.if (isB v63 false) (oS (T.get tm 7) fun a => M.pure a) (M.pure undef))) fun v64 =>
  M.bind (M.chk (isK v63) (M.if (isB v63 false) (oS (some v64) fun a => oS (some (.int .i64 1)) fun b => Cl.get (aBin E .neq 39 (.tmp 64) (.const (.int .i64 1))) a b) (M.pure undef))) fun v65 =>
  M.bind (M.on (some v63) fun a => M.on (some (.bool true)) fun b => M.on (some v65) fun c => kPick a b c) fun v66 =>
  mv (some v66) fun v67 =>
  M.bind (M.chk (isK v67) (M.if (isB v67 false) (oS (T.get tm 8) fun a => M.pure a) (M.pure undef))) fun v68 =>
  M.bind (M.chk (isK v67) (M.if (isB v67 false) (oS (seqO [(some v68)]) fun l => aBuiltin E .len [27] l) (M.pure undef))) fun v69 =>
  M.bind (M.chk (isK v67) (M.if (isB v67 false) (oS (some v69) fun a => oS (some (.int .i64 0)) fun b => Cl.get (aBin E .gtr 3 (.tmp 69) (.const (.int .i64 0))) a b) (M.pure undef))) fun v70 =>
  M.bind (M.on (some v67) fun a => M.on (some (.bool true)) fun b => M.on (some v70) fun c => kPick a b c) fun v71 =>
  mv (some v71) fun v72 =>
  M.bind (M.chk (isK v72) (M.if (isB v72 false) (oS (T.get tm 9) fun a => M.pure a) (M.pure undef))) fun v73 =>
  M.bind (M.chk (isK v72) (M.if (isB v72 false) (oS (some v73) fun a => oS (some (.int .i64 1)) fun b => Cl.get (aBin E .neq 39 (.tmp 73) (.const (.int .i64 1))) a b) (M.pure undef))) fun v74 =>
  M.bind (M.on (some v72) fun a => M.on (some (.bool true)) fun b => M.on (some v74) fun c => kPick a b c) fun v75 =>
  mv (some v75) fun v76 =>
  M.bind (M.chk (isK v76) (M.if (isB v76 false) (oS (T.get tm 11) fun a => M.pure a) (M.pure undef))) fun v77 =>
  M.bind (M.chk (isK v76) (M.if (isB v76 false) (oS (some v77) fun a => oS (some (.int .i64 1)) fun b => Cl.get (aBin E .neq 39 (.tmp 77) (.const (.int .i64 1))) a b) (M.pure undef))) fun v78 =>
  M.bind (M.on (some v76) fun a => M.on (some (.bool true)) fun b => M.on (some v78) fun c => kPick a b c) fun v79 =>
  mv (some v79) fun v80 =>
  M.bind (M.chk (isK v80) (M.if (isB v80 false) (oS (T.get tm 13) fun a => M.pure a) (M.pure undef))) fun v81 =>
  M.bind (M.on (some v80) fun a => M.on (some (.bool true)) fun b => M.on (some v81) fun c => kPick a b c) fun v82 =>
  mv (some v82) fun v83 =>
  M.bind (M.chk (isK v83) (M.if (isB v83 false) (oS (T.get tm 5) fun a => M.pure a) (M.pure undef))) fun v84 =>
  M.bind (M.chk (isK v83) (M.if (isB v83 false) (oS (T.get tm 1) fun a => kFld E 30 a 1) (M.pure undef))) fun v85 =>
  M.bind (M.chk (isK v83) (M.if (isB v83 false) (oS (some v85) fun a => kLoad E 3 a) (M.pure undef))) fun v86 =>
  M.bind (M.chk (isK v83) (M.if (isB v83 false) (M.on (some (.func (.func 10) #[] #[])) fun f => M.on (seqO [(some v84), (some v86)]) fun l => callV call round f l) (M.pure undef))) fun v87 =>
  M.bind (M.chk (isK v83) (M.if (isB v83 false) (oS (some v87) fun a => oS (some (.int .i64 1)) fun b => Cl.get (aBin E .neq 39 (.tmp 87) (.const (.int .i64 1))) a b) (M.pure undef))) fun v88 =>
  M.bind (M.on (some v83) fun a => M.on (some (.bool true)) fun b => M.on (some v88) fun c => kPick a b c) fun v89 =>
  mv (some v89) fun v90 =>
  M.bind (M.chk (isK v90) (M.if (isB v90 false) (oS (T.get tm 5) fun a => M.pure a) (M.pure undef))) fun v91 =>
  M.bind (M.chk (isK v90) (M.if (isB v90 false) (M.on (some (.func (.func 11) #[] #[])) fun f => M.on (seqO [(some v91)]) fun l => callV call round f l) (M.pure undef))) fun v92 =>
  M.bind (M.chk (isK v90) (M.if (isB v90 false) (oS (seqO [(some v92)]) fun l => aBuiltin E .len [49] l) (M.pure undef))) fun v93 =>
  M.bind (M.chk (isK v90) (M.if (isB v90 false) (oS (some v93) fun a => oS (some (.int .i64 0)) fun b => Cl.get (aBin E .gtr 3 (.tmp 93) (.const (.int .i64 0))) a b) (M.pure undef))) fun v94 =>
  M.bind (M.on (some v90) fun a => M.on (some (.bool true)) fun b => M.on (some v94) fun c => kPick a b c) fun v95 =>
  mv (some v95) fun v96 =>
  M.bind (M.chk (isK v96) (M.if (isB v96 false) (oS (T.get tm 5) fun a => M.pure a) (M.pure undef))) fun v97 =>
  M.bind (M.chk (isK v96) (M.if (isB v96 false) (M.on (some (.func (.func 12) #[] #[])) fun f => M.on (seqO [(some v97)]) fun l => callV call round f l) (M.pure undef))) fun v98 =>
  M.bind (M.chk (isK v96) (M.if (isB v96 false) (oS (some v98) fun a => oS (some (.int .i64 0)) fun b => Cl.get (aBin E .neq 3 (.tmp 98) (.const (.int .i64 0))) a b) (M.pure undef))) fun v99 =>
  M.bind (M.on (some v96) fun a => M.on (some (.bool true)) fun b => M.on (some v99) fun c => kPick a b c) fun v100 =>
  mv (some v100) fun v101 =>
  M.bind (M.chk (isK v101) (M.if (isB v101 false) (oS (T.get tm 5) fun a => M.pure a) (M.pure undef))) fun v102 =>
  M.bind (M.chk (isK v101) (M.if (isB v101 false) (M.on (some (.func (.func 13) #[] #[])) fun f => M.on (seqO [(some v102)]) fun l => callV call round f l) (M.pure undef))) fun v103 =>
  M.bind (M.on (some v101) fun a => M.on (some (.bool true)) fun b => M.on (some v103) fun c => kPick a b c) fun v104 =>
  setF 104 v104 tm fun tm1 =>
  M.pure tm1
theorem law23_None_q17 : RegEq 3 118 law23_None_g law23_None_P17 law23_None_r17 := ⟨by kernel_rfl, fun _ _ _ _ _ _ _ _ _ => by kernel_rfl⟩
theorem law23_None_C18 : condX law23_None_P18 = some 104 := by kernel_rfl
/-- law.go:149 -/
noncomputable def law23_None_r19 (E : Env) (call round : CallT) (tm : T Value) : M (T Value) :=
  mv (some (.bool false)) fun v2 =>
  setF 2 v2 tm fun tm1 =>
  M.pure tm1
theorem law23_None_q19 : RegEq 3 118 law23_None_g law23_None_P19 law23_None_r19 := ⟨by kernel_rfl, fun _ _ _ _ _ _ _ _ _ => by kernel_rfl⟩
/-- law.go:142 -/
noncomputable def law23_None_r20 (E : Env) (call round : CallT) (tm : T Value) : M (T Value) :=
  mv (T.get tm 4) fun v27 =>
  M.bind (oS (some v27) fun a => oS (some (.int .i64 1)) fun b => Cl.get (aBin E .add 3 (.tmp 27) (.const (.int .i64 1))) a b) fun v28 =>
  mv (some v28) fun v4 =>
  setF 4 v4 tm fun tm1 =>
  M.pure tm1
theorem law23_None_q20 : RegEq 3 118 law23_None_g law23_None_P20 law23_None_r20 := ⟨by kernel_rfl, fun _ _ _ _ _ _ _ _ _ => by kernel_rfl⟩
theorem law23_None_E21 : ∃ k, law23_None_P21 = .code .ret :: k := ⟨law23_None_P21.tail, by kernel_rfl⟩
-- points: 0:region>[1], 1:region>[2], 2:cond>[3, 4], 3:region>[5], 4:region>[6], 5:ret>, 6:region>[7], 7:region>[8], 8:cond>[9, 10], 9:region>[11], 10:region>[12], 11:region>[13], 12:region>[14], 13:region>[15], 14:ret>, 15:region>[16], 16:region>[17], 17:region>[18], 18:cond>[19, 20], 19:region>[21], 20:region>[7], 21:ret>

/-! ### satchel/satchellaw23.long -/
noncomputable def law23_long_g : Nat := globOf Tryz.f4
abbrev law23_long_nt : Nat := 50
noncomputable def law23_long_body : Code := Tryz.f4.body.getD .skip
theorem law23_long_fn : envS.fn.get 4 = some Tryz.f4 := by kernel_rfl
theorem law23_long_W {a0 : Value} {n : Nat} {s : St} {Q : Value → St → Prop} (h : ∀ tm, T.get tm 0 = some a0 → W (runF envS n ⟨4, 50, law23_long_g, tm, [.code law23_long_body], .run, .normal, none⟩) (s.cxN cxN) fun p s1 => Q p.1 (s1.cxN s.cx)) : W (callW envS (runF envS n) 4 [a0]) s Q :=
  W.call (by kernel_rfl) (by kernel_rfl) law23_long_fn (by kernel_rfl) rfl rfl (by simp) (h _ (by kernel_rfl))
theorem law23_long_res : Tryz.f4.results.toList = [.tmp 2] := by kernel_rfl
noncomputable def law23_long_P0 : List Item := skim 64 [.code law23_long_body]
noncomputable def law23_long_P1 : List Item := skim 64 law23_long_P0.tail
theorem law23_long_S0_1 : skim 64 law23_long_P0.tail = law23_long_P1 := by kernel_rfl
noncomputable def law23_long_P2 : List Item := skim 64 law23_long_P1.tail
theorem law23_long_S1_2 : skim 64 law23_long_P1.tail = law23_long_P2 := by kernel_rfl
noncomputable def law23_long_P3 : List Item := skim 64 law23_long_P2.tail
theorem law23_long_S2_3 : skim 64 law23_long_P2.tail = law23_long_P3 := by kernel_rfl
noncomputable def law23_long_P4 : List Item := skim 64 (brT law23_long_P3)
theorem law23_long_S3_4 : skim 64 (brT law23_long_P3) = law23_long_P4 := by kernel_rfl
noncomputable def law23_long_P5 : List Item := skim 64 (brF law23_long_P3)
theorem law23_long_S3_5 : skim 64 (brF law23_long_P3) = law23_long_P5 := by kernel_rfl
noncomputable def law23_long_P6 : List Item := skim 64 law23_long_P4.tail
theorem law23_long_S4_6 : skim 64 law23_long_P4.tail = law23_long_P6 := by kernel_rfl
noncomputable def law23_long_P7 : List Item := skim 64 law23_long_P5.tail
theorem law23_long_S5_7 : skim 64 law23_long_P5.tail = law23_long_P7 := by kernel_rfl
noncomputable def law23_long_P8 : List Item := skim 64 (brT law23_long_P6)
theorem law23_long_S6_8 : skim 64 (brT law23_long_P6) = law23_long_P8 := by kernel_rfl
noncomputable def law23_long_P9 : List Item := skim 64 (brF law23_long_P6)
theorem law23_long_S6_9 : skim 64 (brF law23_long_P6) = law23_long_P9 := by kernel_rfl
noncomputable def law23_long_P10 : List Item := skim 64 law23_long_P8.tail
theorem law23_long_S8_10 : skim 64 law23_long_P8.tail = law23_long_P10 := by kernel_rfl
theorem law23_long_S9_2 : skim 64 law23_long_P9.tail = law23_long_P2 := by kernel_rfl
/-- law.go:24 -/
noncomputable def law23_long_r0 (E : Env) (call round : CallT) (tm : T Value) : M (T Value) :=
  mv (some (.bool false)) fun v2 =>
  setF 2 v2 tm fun tm1 =>
  M.pure tm1
theorem law23_long_q0 : RegEq 4 50 law23_long_g law23_long_P0 law23_long_r0 := ⟨by kernel_rfl, fun _ _ _ _ _ _ _ _ _ => by kernel_rfl⟩
/-- law.go:25 -/
noncomputable def law23_long_r1 (E : Env) (call round : CallT) (tm : T Value) : M (T Value) :=
  mv (some (.int .i64 0)) fun v3 =>
  setF 3 v3 tm fun tm1 =>
  M.pure tm1
theorem law23_long_q1 : RegEq 4 50 law23_long_g law23_long_P1 law23_long_r1 := ⟨by kernel_rfl, fun _ _ _ _ _ _ _ _ _ => by kernel_rfl⟩
/-- law.go:25 -/
noncomputable def law23_long_r2 (E : Env) (call round : CallT) (tm : T Value) : M (T Value) :=
  mv (T.get tm 3) fun v4 =>
  mv (T.get tm 0) fun v5 =>
  M.bind (oS (seqO [(some v5)]) fun l => aBuiltin E .len [32] l) fun v6 =>
  M.bind (oS (some v4) fun a => oS (some v6) fun b => Cl.get (aBin E .lss 3 (.tmp 4) (.tmp 6)) a b) fun v7 =>
  mv (some v7) fun v8 =>
  M.bind (M.chk (isK v8) (M.if (isB v8 true) (oS (T.get tm 3) fun a => M.pure a) (M.pure undef))) fun v9 =>
  M.bind (M.chk (isK v8) (M.if (isB v8 true) (oS (some v9) fun a => oS (some (.int .i64 41)) fun b => Cl.get (aBin E .lss 3 (.tmp 9) (.const (.int .i64 41))) a b) (M.pure undef))) fun v10 =>
  M.bind (M.on (some v8) fun a => M.on (some v10) fun b => M.on (some (.bool false)) fun c => kPick a b c) fun v11 =>
  setF 11 v11 tm fun tm1 =>
  M.pure tm1
theorem law23_long_q2 : RegEq 4 50 law23_long_g law23_long_P2 law23_long_r2 := ⟨by kernel_rfl, fun _ _ _ _ _ _ _ _ _ => by kernel_rfl⟩
theorem law23_long_C3 : condX law23_long_P3 = some 11 := by kernel_rfl
/-- law.go:26 -/
noncomputable def law23_long_r4 (E : Env) (call round : CallT) (tm : T Value) : M (T Value) :=
  mv (T.get tm 0) fun v14 =>
  mv (T.get tm 3) fun v15 =>
  M.bind (oS (some v14) fun a => oS (some v15) fun b => kIdxA E 32 a b) fun v16 =>
  M.bind (oS (some v16) fun a => kFld E 30 a 2) fun v17 =>
  M.bind (oS (some v17) fun a => kLoad E 24 a) fun v18 =>
  M.bind (M.on (some (.func (.func 15) #[] #[])) fun f => M.on (seqO [(some v18), (some (.int .i64 20))]) fun l => callV call round f l) fun v19 =>
  mv (some v19) fun v20 =>
  M.bind (M.chk (isK v20) (M.if (isB v20 false) (oS (T.get tm 0) fun a => M.pure a) (M.pure undef))) fun v21 =>
  M.bind (M.chk (isK v20) (M.if (isB v20 false) (oS (T.get tm 3) fun a => M.pure a) (M.pure undef))) fun v22 =>
  M.bind (M.chk (isK v20) (M.if (isB v20 false) (oS (some v21) fun a => oS (some v22) fun b => kIdxA E 32 a b) (M.pure undef))) fun v23 =>
  M.bind (M.chk (isK v20) (M.if (isB v20 false) (oS (some v23) fun a => kFld E 30 a 4) (M.pure undef))) fun v24 =>
  M.bind (M.chk (isK v20) (M.if (isB v20 false) (oS (some v24) fun a => kLoad E 27 a) (M.pure undef))) fun v25 =>
  M.bind (M.chk (isK v20) (M.if (isB v20 false) (oS (seqO [(some v25)]) fun l => aBuiltin E .len [27] l) (M.pure undef))) fun v26 =>
  M.bind (M.chk (isK v20) (M.if (isB v20 false) (oS (some v26) fun a => oS (some (.int .i64 100)) fun b => Cl.get (aBin E .gtr 3 (.tmp 26) (.const (.int .i64 100))) a b) (M.pure undef))) fun v27 =>
  M.bind (M.on (some v20) fun a => M.on (some (.bool true)) fun b => M.on (some v27) fun c => kPick a b c) fun v28 =>
  mv (some v28) fun v29 =>
  M.bind (M.chk (isK v29) (M.if (isB v29 false) (oS (T.get tm 0) fun a => M.pure a) (M.pure undef))) fun v30 =>
  M.bind (M.chk (isK v29) (M.if (isB v29 false) (oS (T.get tm 3) fun a => M.pure a) (M.pure undef))) fun v31 =>
  M.bind (M.chk (isK v29) (M.if (isB v29 false) (oS (some v30) fun a => oS (some v31) fun b => kIdxA E 32 a b) (M.pure undef))) fun v32 =>
  M.bind (M.chk (isK v29) (M.if (isB v29 false) (oS (some v32) fun a => kFld E 30 a 5) (M.pure undef))) fun v33 =>
  M.bind (M.chk (isK v29) (M.if (isB v29 false) (oS (some v33) fun a => kLoad E 9 a) (M.pure undef))) fun v34 =>
  M.bind (M.chk (isK v29) (M.if (isB v29 false) (oS (seqO [(some v34)]) fun l => aBuiltin E .len [9] l) (M.pure undef))) fun v35 =>
  M.bind (M.chk (isK v29) (M.if (isB v29 false) (oS (some v35) fun a => oS (some (.int .i64 100)) fun b => Cl.get (aBin E .gtr 3 (.tmp 35) (.const (.int .i64 100))) a b) (M.pure undef))) fun v36 =>
  M.bind (M.on (some v29) fun a => M.on (some (.bool true)) fun b => M.on (some v36) fun c => kPick a b c) fun v37 =>
  mv (some v37) fun v38 =>
  M.bind (M.chk (isK v38) (M.if (isB v38 false) (oS (T.get tm 0) fun a => M.pure a) (M.pure undef))) fun v39 =>
  M.bind (M.chk (isK v38) (M.if (isB v38 false) (oS (T.get tm 3) fun a => M.pure a) (M.pure undef))) fun v40 =>
  M.bind (M.chk (isK v38) (M.if (isB v38 false) (oS (some v39) fun a => oS (some v40) fun b => kIdxA E 32 a b) (M.pure undef))) fun v41 =>
  M.bind (M.chk (isK v38) (M.if (isB v38 false) (oS (some v41) fun a => kFld E 30 a 6) (M.pure undef))) fun v42 =>
  M.bind (M.chk (isK v38) (M.if (isB v38 false) (oS (some v42) fun a => kLoad E 28 a) (M.pure undef))) fun v43 =>
  M.bind (M.chk (isK v38) (M.if (isB v38 false) (oS (seqO [(some v43)]) fun l => aBuiltin E .len [28] l) (M.pure undef))) fun v44 =>
  M.bind (M.chk (isK v38) (M.if (isB v38 false) (oS (some v44) fun a => oS (some (.int .i64 500)) fun b => Cl.get (aBin E .gtr 3 (.tmp 44) (.const (.int .i64 500))) a b) (M.pure undef))) fun v45 =>
  M.bind (M.on (some v38) fun a => M.on (some (.bool true)) fun b => M.on (some v45) fun c => kPick a b c) fun v46 =>
  setF 46 v46 tm fun tm1 =>
  M.pure tm1
theorem law23_long_q4 : RegEq 4 50 law23_long_g law23_long_P4 law23_long_r4 := ⟨by kernel_rfl, fun _ _ _ _ _ _ _ _ _ => by kernel_rfl⟩
/-- law.go:30 -/
noncomputable def law23_long_r5 (E : Env) (call round : CallT) (tm : T Value) : M (T Value) :=
  mv (T.get tm 0) fun v47 =>
  M.bind (oS (seqO [(some v47)]) fun l => aBuiltin E .len [32] l) fun v48 =>
  M.bind (oS (some v48) fun a => oS (some (.int .i64 40)) fun b => Cl.get (aBin E .gtr 3 (.tmp 48) (.const (.int .i64 40))) a b) fun v49 =>
  mv (some v49) fun v2 =>
  setF 2 v2 tm fun tm1 =>
  M.pure tm1
theorem law23_long_q5 : RegEq 4 50 law23_long_g law23_long_P5 law23_long_r5 := ⟨by kernel_rfl, fun _ _ _ _ _ _ _ _ _ => by kernel_rfl⟩
theorem law23_long_C6 : condX law23_long_P6 = some 46 := by kernel_rfl
theorem law23_long_E7 : ∃ k, law23_long_P7 = .code .ret :: k := ⟨law23_long_P7.tail, by kernel_rfl⟩
/-- law.go:27 -/
noncomputable def law23_long_r8 (E : Env) (call round : CallT) (tm : T Value) : M (T Value) :=
  mv (some (.bool true)) fun v2 =>
  setF 2 v2 tm fun tm1 =>
  M.pure tm1
theorem law23_long_q8 : RegEq 4 50 law23_long_g law23_long_P8 law23_long_r8 := ⟨by kernel_rfl, fun _ _ _ _ _ _ _ _ _ => by kernel_rfl⟩
/-- law.go:25 -/
noncomputable def law23_long_r9 (E : Env) (call round : CallT) (tm : T Value) : M (T Value) :=
  mv (T.get tm 3) fun v12 =>
  M.bind (oS (some v12) fun a => oS (some (.int .i64 1)) fun b => Cl.get (aBin E .add 3 (.tmp 12) (.const (.int .i64 1))) a b) fun v13 =>
  mv (some v13) fun v3 =>
  setF 3 v3 tm fun tm1 =>
  M.pure tm1
theorem law23_long_q9 : RegEq 4 50 law23_long_g law23_long_P9 law23_long_r9 := ⟨by kernel_rfl, fun _ _ _ _ _ _ _ _ _ => by kernel_rfl⟩
theorem law23_long_E10 : ∃ k, law23_long_P10 = .code .ret :: k := ⟨law23_long_P10.tail, by kernel_rfl⟩
-- points: 0:region>[1], 1:region>[2], 2:region>[3], 3:cond>[4, 5], 4:region>[6], 5:region>[7], 6:cond>[8, 9], 7:ret>, 8:region>[10], 9:region>[2], 10:ret>

/-! ### satchel/satchelkit.BigManifest -/
noncomputable def kit_BigMan_g : Nat := globOf Tryz.f15
abbrev kit_BigMan_nt : Nat := 59
noncomputable def kit_BigMan_body : Code := Tryz.f15.body.getD .skip
theorem kit_BigMan_fn : envS.fn.get 15 = some Tryz.f15 := by kernel_rfl
theorem kit_BigMan_W {a0 a1 : Value} {n : Nat} {s : St} {Q : Value → St → Prop} (h : ∀ tm, T.get tm 0 = some a0 → T.get tm 1 = some a1 → W (runF envS n ⟨15, 59, kit_BigMan_g, tm, [.code kit_BigMan_body], .run, .normal, none⟩) (s.cxN cxN) fun p s1 => Q p.1 (s1.cxN s.cx)) : W (callW envS (runF envS n) 15 [a0, a1]) s Q :=
  W.call (by kernel_rfl) (by kernel_rfl) kit_BigMan_fn (by kernel_rfl) rfl rfl (by simp) (h _ (by kernel_rfl) (by kernel_rfl))
theorem kit_BigMan_res : Tryz.f15.results.toList = [.tmp 4] := by kernel_rfl
noncomputable def kit_BigMan_P0 : List Item := skim 64 [.code kit_BigMan_body]
noncomputable def kit_BigMan_P1 : List Item := skim 64 kit_BigMan_P0.tail
theorem kit_BigMan_S0_1 : skim 64 kit_BigMan_P0.tail = kit_BigMan_P1 := by kernel_rfl
noncomputable def kit_BigMan_P2 : List Item := skim 64 kit_BigMan_P1.tail
theorem kit_BigMan_S1_2 : skim 64 kit_BigMan_P1.tail = kit_BigMan_P2 := by kernel_rfl
noncomputable def kit_BigMan_P3 : List Item := skim 64 kit_BigMan_P2.tail
theorem kit_BigMan_S2_3 : skim 64 kit_BigMan_P2.tail = kit_BigMan_P3 := by kernel_rfl
noncomputable def kit_BigMan_P4 : List Item := skim 64 kit_BigMan_P3.tail
theorem kit_BigMan_S3_4 : skim 64 kit_BigMan_P3.tail = kit_BigMan_P4 := by kernel_rfl
noncomputable def kit_BigMan_P5 : List Item := skim 64 (brT kit_BigMan_P4)
theorem kit_BigMan_S4_5 : skim 64 (brT kit_BigMan_P4) = kit_BigMan_P5 := by kernel_rfl
noncomputable def kit_BigMan_P6 : List Item := skim 64 (brF kit_BigMan_P4)
theorem kit_BigMan_S4_6 : skim 64 (brF kit_BigMan_P4) = kit_BigMan_P6 := by kernel_rfl
noncomputable def kit_BigMan_P7 : List Item := skim 64 kit_BigMan_P5.tail
theorem kit_BigMan_S5_7 : skim 64 kit_BigMan_P5.tail = kit_BigMan_P7 := by kernel_rfl
noncomputable def kit_BigMan_P8 : List Item := skim 64 kit_BigMan_P6.tail
theorem kit_BigMan_S6_8 : skim 64 kit_BigMan_P6.tail = kit_BigMan_P8 := by kernel_rfl
noncomputable def kit_BigMan_P9 : List Item := skim 64 kit_BigMan_P7.tail
theorem kit_BigMan_S7_9 : skim 64 kit_BigMan_P7.tail = kit_BigMan_P9 := by kernel_rfl
theorem kit_BigMan_S9_3 : skim 64 kit_BigMan_P9.tail = kit_BigMan_P3 := by kernel_rfl
/-- manifests.go:66 -/
noncomputable def kit_BigMan_r0 (E : Env) (call round : CallT) (tm : T Value) : M (T Value) :=
  M.bind (oS (T.get tm 0) fun a => kBox a) fun v2 =>
  setF 2 v2 tm fun tm1 =>
  mv (some (.bool false)) fun v4 =>
  setF 4 v4 tm1 fun tm2 =>
  M.pure tm2
theorem kit_BigMan_q0 : RegEq 15 59 kit_BigMan_g kit_BigMan_P0 kit_BigMan_r0 := ⟨by kernel_rfl, fun _ _ _ _ _ _ _ _ _ => by kernel_rfl⟩
/-- manifests.go:67 -/
noncomputable def kit_BigMan_r1 (E : Env) (call round : CallT) (tm : T Value) : M (T Value) :=
  mv (some (.int .i64 0)) fun v5 =>
  setF 5 v5 tm fun tm1 =>
  mv (some (.int .i64 0)) fun v6 =>
  setF 6 v6 tm1 fun tm2 =>
  M.pure tm2
theorem kit_BigMan_q1 : RegEq 15 59 kit_BigMan_g kit_BigMan_P1 kit_BigMan_r1 := ⟨by kernel_rfl, fun _ _ _ _ _ _ _ _ _ => by kernel_rfl⟩
/-- manifests.go:68 -/
noncomputable def kit_BigMan_r2 (E : Env) (call round : CallT) (tm : T Value) : M (T Value) :=
  mv (some (.int .i64 0)) fun v7 =>
  setF 7 v7 tm fun tm1 =>
  M.pure tm1
theorem kit_BigMan_q2 : RegEq 15 59 kit_BigMan_g kit_BigMan_P2 kit_BigMan_r2 := ⟨by kernel_rfl, fun _ _ _ _ _ _ _ _ _ => by kernel_rfl⟩
/-- manifests.go:68 -/
noncomputable def kit_BigMan_r3 (E : Env) (call round : CallT) (tm : T Value) : M (T Value) :=
  mv (T.get tm 7) fun v8 =>
  M.bind (oS (T.get tm 2) fun a => kFld E 24 a 4) fun v9 =>
  M.bind (oS (some v9) fun a => kLoad E 22 a) fun v10 =>
  M.bind (oS (seqO [(some v10)]) fun l => aBuiltin E .len [22] l) fun v11 =>
  M.bind (oS (some v8) fun a => oS (some v11) fun b => Cl.get (aBin E .lss 3 (.tmp 8) (.tmp 11)) a b) fun v12 =>
  mv (some v12) fun v13 =>
  M.bind (M.chk (isK v13) (M.if (isB v13 true) (oS (T.get tm 7) fun a => M.pure a) (M.pure undef))) fun v14 =>
  M.bind (M.chk (isK v13) (M.if (isB v13 true) (oS (T.get tm 1) fun a => M.pure a) (M.pure undef))) fun v15 =>
  M.bind (M.chk (isK v13) (M.if (isB v13 true) (oS (some v14) fun a => oS (some v15) fun b => Cl.get (aBin E .leq 3 (.tmp 14) (.tmp 15)) a b) (M.pure undef))) fun v16 =>
  M.bind (M.on (some v13) fun a => M.on (some v16) fun b => M.on (some (.bool false)) fun c => kPick a b c) fun v17 =>
  setF 17 v17 tm fun tm1 =>
  M.pure tm1
theorem kit_BigMan_q3 : RegEq 15 59 kit_BigMan_g kit_BigMan_P3 kit_BigMan_r3 := ⟨by kernel_rfl, fun _ _ _ _ _ _ _ _ _ => by kernel_rfl⟩
theorem kit_BigMan_C4 : condX kit_BigMan_P4 = some 17 := by kernel_rfl
/-- manifests.go:69 -/
noncomputable def kit_BigMan_r5 (E : Env) (call round : CallT) (tm : T Value) : M (T Value) :=
  mv (T.get tm 5) fun v20 =>
  M.bind (oS (T.get tm 2) fun a => kFld E 24 a 4) fun v21 =>
  M.bind (oS (some v21) fun a => kLoad E 22 a) fun v22 =>
  mv (T.get tm 7) fun v23 =>
  M.bind (oS (some v22) fun a => oS (some v23) fun b => kIdxA E 22 a b) fun v24 =>
  M.bind (oS (some v24) fun a => kFld E 86 a 5) fun v25 =>
  M.bind (oS (some v25) fun a => kLoad E 84 a) fun v26 =>
  M.bind (oS (seqO [(some v26)]) fun l => aBuiltin E .len [84] l) fun v27 =>
  M.bind (oS (some v20) fun a => oS (some v27) fun b => Cl.get (aBin E .add 3 (.tmp 20) (.tmp 27)) a b) fun v28 =>
  mv (some v28) fun v5 =>
  setF 5 v5 tm fun tm1 =>
  M.pure tm1
theorem kit_BigMan_q5 : RegEq 15 59 kit_BigMan_g kit_BigMan_P5 kit_BigMan_r5 := ⟨by kernel_rfl, fun _ _ _ _ _ _ _ _ _ => by kernel_rfl⟩
/-- manifests.go:72 -/
noncomputable def kit_BigMan_r6 (E : Env) (call round : CallT) (tm : T Value) : M (T Value) :=
  M.bind (oS (T.get tm 2) fun a => kFld E 24 a 4) fun v46 =>
  M.bind (oS (some v46) fun a => kLoad E 22 a) fun v47 =>
  M.bind (oS (seqO [(some v47)]) fun l => aBuiltin E .len [22] l) fun v48 =>
  mv (T.get tm 1) fun v49 =>
  M.bind (oS (some v48) fun a => oS (some v49) fun b => Cl.get (aBin E .gtr 3 (.tmp 48) (.tmp 49)) a b) fun v50 =>
  mv (some v50) fun v51 =>
  M.bind (M.chk (isK v51) (M.if (isB v51 false) (oS (T.get tm 5) fun a => M.pure a) (M.pure undef))) fun v52 =>
  M.bind (M.chk (isK v51) (M.if (isB v51 false) (oS (some v52) fun a => oS (some (.int .i64 400)) fun b => Cl.get (aBin E .gtr 3 (.tmp 52) (.const (.int .i64 400))) a b) (M.pure undef))) fun v53 =>
  M.bind (M.on (some v51) fun a => M.on (some (.bool true)) fun b => M.on (some v53) fun c => kPick a b c) fun v54 =>
  mv (some v54) fun v55 =>
  M.bind (M.chk (isK v55) (M.if (isB v55 false) (oS (T.get tm 6) fun a => M.pure a) (M.pure undef))) fun v56 =>
  M.bind (M.chk (isK v55) (M.if (isB v55 false) (oS (some v56) fun a => oS (some (.int .i64 6000)) fun b => Cl.get (aBin E .gtr 3 (.tmp 56) (.const (.int .i64 6000))) a b) (M.pure undef))) fun v57 =>
  M.bind (M.on (some v55) fun a => M.on (some (.bool true)) fun b => M.on (some v57) fun c => kPick a b c) fun v58 =>
  mv (some v58) fun v4 =>
  setF 4 v4 tm fun tm1 =>
  M.pure tm1
theorem kit_BigMan_q6 : RegEq 15 59 kit_BigMan_g kit_BigMan_P6 kit_BigMan_r6 := ⟨by kernel_rfl, fun _ _ _ _ _ _ _ _ _ => by kernel_rfl⟩
/-- manifests.go:70; the order is open -/
noncomputable def kit_BigMan_d7 (E : Env) (call round : CallT) (tm : T Value) : M ((Rho × T Value) × List OpLog) :=
  M.bind (apartO (oS (T.get tm 6) fun a => M.pure a)) fun p0 =>
  M.bind (apartO (oS (T.get tm 2) fun a => kFld E 24 a 4)) fun p1 =>
  M.bind (apartO (oS (some p1.1) fun a => kLoad E 22 a)) fun p2 =>
  M.bind (apartO (oS (T.get tm 7) fun a => M.pure a)) fun p3 =>
  M.bind (apartO (oS (some p2.1) fun a => oS (some p3.1) fun b => kIdxA E 22 a b)) fun p4 =>
  M.bind (apartO (oS (some p4.1) fun a => kFld E 86 a 0)) fun p5 =>
  M.bind (apartO (oS (some p5.1) fun a => kLoad E 9 a)) fun p6 =>
  M.bind (apartO (oS (seqO [(some p6.1)]) fun l => aBuiltin E .len [9] l)) fun p7 =>
  M.bind (apartO (oS (some p0.1) fun a => oS (some p7.1) fun b => Cl.get (aBin E .add 3 (.tmp 29) (.tmp 36)) a b)) fun p8 =>
  M.bind (apartO (oS (T.get tm 2) fun a => kFld E 24 a 4)) fun p9 =>
  M.bind (apartO (oS (some p9.1) fun a => kLoad E 22 a)) fun p10 =>
  M.bind (apartO (oS (T.get tm 7) fun a => M.pure a)) fun p11 =>
  M.bind (apartO (oS (some p10.1) fun a => oS (some p11.1) fun b => kIdxA E 22 a b)) fun p12 =>
  M.bind (apartO (oS (some p12.1) fun a => kFld E 86 a 4)) fun p13 =>
  M.bind (apartO (oS (some p13.1) fun a => kLoad E 9 a)) fun p14 =>
  M.bind (apartO (oS (seqO [(some p14.1)]) fun l => aBuiltin E .len [9] l)) fun p15 =>
  M.bind (apartO (oS (some p8.1) fun a => oS (some p15.1) fun b => Cl.get (aBin E .add 3 (.tmp 37) (.tmp 44)) a b)) fun p16 =>
  M.pure (([p16.1, p15.1, p14.1, p13.1, p12.1, p11.1, p10.1, p9.1, p8.1, p7.1, p6.1, p5.1, p4.1, p3.1, p2.1, p1.1, p0.1], tm), [p16.2, p15.2, p14.2, p13.2, p12.2, p11.2, p10.2, p9.2, p8.2, p7.2, p6.2, p5.2, p4.2, p3.2, p2.2, p1.2, p0.2])
theorem kit_BigMan_q7 : DrawEq 15 59 kit_BigMan_g kit_BigMan_P7 [0, 0, 2, 0, 14, 30, 62, 126, 255, 0, 512, 0, 3584, 7680, 15872, 32256, 65535, 131071] kit_BigMan_d7 := ⟨by kernel_rfl, by kernel_rfl, fun _ _ _ _ _ _ _ _ _ => by kernel_rfl⟩
theorem kit_BigMan_L7 (E : Env) (call round : CallT) (x29 x30 x31 x32 x33 x34 x35 x36 x37 x38 x39 x40 x41 x42 x43 x44 x45 : Value) (tm : T Value) (s : St) : opsIn call round (lastOps E kit_BigMan_g 59 (hdC kit_BigMan_P7)) [x45, x44, x43, x42, x41, x40, x39, x38, x37, x36, x35, x34, x33, x32, x31, x30, x29] tm s = (M.bind (oS (some x45) fun a => M.pure a) fun v6 => setT 6 v6 tm fun tm1 => M.pure tm1) s := by kernel_rfl
theorem kit_BigMan_E8 : ∃ k, kit_BigMan_P8 = .code .ret :: k := ⟨kit_BigMan_P8.tail, by kernel_rfl⟩
/-- manifests.go:68 -/
noncomputable def kit_BigMan_r9 (E : Env) (call round : CallT) (tm : T Value) : M (T Value) :=
  mv (T.get tm 7) fun v18 =>
  M.bind (oS (some v18) fun a => oS (some (.int .i64 1)) fun b => Cl.get (aBin E .add 3 (.tmp 18) (.const (.int .i64 1))) a b) fun v19 =>
  mv (some v19) fun v7 =>
  setF 7 v7 tm fun tm1 =>
  M.pure tm1
theorem kit_BigMan_q9 : RegEq 15 59 kit_BigMan_g kit_BigMan_P9 kit_BigMan_r9 := ⟨by kernel_rfl, fun _ _ _ _ _ _ _ _ _ => by kernel_rfl⟩
-- points: 0:region>[1], 1:region>[2], 2:region>[3], 3:region>[4], 4:cond>[5, 6], 5:region>[7], 6:region>[8], 7:region>[9], 8:ret>, 9:region>[3]

/-! ### (*satchel/snaps.Snaps).Commit -/
noncomputable def sn_Commit_g : Nat := globOf Tryz.f6
abbrev sn_Commit_nt : Nat := 58
noncomputable def sn_Commit_body : Code := Tryz.f6.body.getD .skip
theorem sn_Commit_fn : envS.fn.get 6 = some Tryz.f6 := by kernel_rfl
theorem sn_Commit_W {a0 a1 : Value} {n : Nat} {s : St} {Q : Value → St → Prop} (h : ∀ tm, T.get tm 0 = some a0 → T.get tm 1 = some a1 → W (runF envS n ⟨6, 58, sn_Commit_g, tm, [.code sn_Commit_body], .run, .normal, none⟩) (s.cxN cxN) fun p s1 => Q p.1 (s1.cxN s.cx)) : W (callW envS (runF envS n) 6 [a0, a1]) s Q :=
  W.call (by kernel_rfl) (by kernel_rfl) sn_Commit_fn (by kernel_rfl) rfl rfl (by simp) (h _ (by kernel_rfl) (by kernel_rfl))
theorem sn_Commit_res : Tryz.f6.results.toList = [.tmp 4, .tmp 5] := by kernel_rfl
noncomputable def sn_Commit_P0 : List Item := skim 64 [.code sn_Commit_body]
noncomputable def sn_Commit_P1 : List Item := skim 64 sn_Commit_P0.tail
theorem sn_Commit_S0_1 : skim 64 sn_Commit_P0.tail = sn_Commit_P1 := by kernel_rfl
noncomputable def sn_Commit_P2 : List Item := skim 64 sn_Commit_P1.tail
theorem sn_Commit_S1_2 : skim 64 sn_Commit_P1.tail = sn_Commit_P2 := by kernel_rfl
noncomputable def sn_Commit_P3 : List Item := skim 64 sn_Commit_P2.tail
theorem sn_Commit_S2_3 : skim 64 sn_Commit_P2.tail = sn_Commit_P3 := by kernel_rfl
noncomputable def sn_Commit_P4 : List Item := skim 64 (brT sn_Commit_P3)
theorem sn_Commit_S3_4 : skim 64 (brT sn_Commit_P3) = sn_Commit_P4 := by kernel_rfl
noncomputable def sn_Commit_P5 : List Item := skim 64 (brF sn_Commit_P3)
theorem sn_Commit_S3_5 : skim 64 (brF sn_Commit_P3) = sn_Commit_P5 := by kernel_rfl
noncomputable def sn_Commit_P6 : List Item := skim 64 sn_Commit_P4.tail
theorem sn_Commit_S4_6 : skim 64 sn_Commit_P4.tail = sn_Commit_P6 := by kernel_rfl
noncomputable def sn_Commit_P7 : List Item := skim 64 sn_Commit_P5.tail
theorem sn_Commit_S5_7 : skim 64 sn_Commit_P5.tail = sn_Commit_P7 := by kernel_rfl
noncomputable def sn_Commit_P8 : List Item := skim 64 sn_Commit_P7.tail
theorem sn_Commit_S7_8 : skim 64 sn_Commit_P7.tail = sn_Commit_P8 := by kernel_rfl
noncomputable def sn_Commit_P9 : List Item := skim 64 (brT sn_Commit_P8)
theorem sn_Commit_S8_9 : skim 64 (brT sn_Commit_P8) = sn_Commit_P9 := by kernel_rfl
noncomputable def sn_Commit_P10 : List Item := skim 64 (brF sn_Commit_P8)
theorem sn_Commit_S8_10 : skim 64 (brF sn_Commit_P8) = sn_Commit_P10 := by kernel_rfl
noncomputable def sn_Commit_P11 : List Item := skim 64 sn_Commit_P9.tail
theorem sn_Commit_S9_11 : skim 64 sn_Commit_P9.tail = sn_Commit_P11 := by kernel_rfl
noncomputable def sn_Commit_P12 : List Item := skim 64 sn_Commit_P10.tail
theorem sn_Commit_S10_12 : skim 64 sn_Commit_P10.tail = sn_Commit_P12 := by kernel_rfl
noncomputable def sn_Commit_P13 : List Item := skim 64 (brT sn_Commit_P12)
theorem sn_Commit_S12_13 : skim 64 (brT sn_Commit_P12) = sn_Commit_P13 := by kernel_rfl
noncomputable def sn_Commit_P14 : List Item := skim 64 (brF sn_Commit_P12)
theorem sn_Commit_S12_14 : skim 64 (brF sn_Commit_P12) = sn_Commit_P14 := by kernel_rfl
theorem sn_Commit_S13_11 : skim 64 sn_Commit_P13.tail = sn_Commit_P11 := by kernel_rfl
noncomputable def sn_Commit_P15 : List Item := skim 64 sn_Commit_P14.tail
theorem sn_Commit_S14_15 : skim 64 sn_Commit_P14.tail = sn_Commit_P15 := by kernel_rfl
noncomputable def sn_Commit_P16 : List Item := skim 64 (brT sn_Commit_P15)
theorem sn_Commit_S15_16 : skim 64 (brT sn_Commit_P15) = sn_Commit_P16 := by kernel_rfl
noncomputable def sn_Commit_P17 : List Item := skim 64 (brF sn_Commit_P15)
theorem sn_Commit_S15_17 : skim 64 (brF sn_Commit_P15) = sn_Commit_P17 := by kernel_rfl
theorem sn_Commit_S16_11 : skim 64 sn_Commit_P16.tail = sn_Commit_P11 := by kernel_rfl
noncomputable def sn_Commit_P18 : List Item := skim 64 sn_Commit_P17.tail
theorem sn_Commit_S17_18 : skim 64 sn_Commit_P17.tail = sn_Commit_P18 := by kernel_rfl
noncomputable def sn_Commit_P19 : List Item := skim 64 sn_Commit_P18.tail
theorem sn_Commit_S18_19 : skim 64 sn_Commit_P18.tail = sn_Commit_P19 := by kernel_rfl
noncomputable def sn_Commit_P20 : List Item := skim 64 (brT sn_Commit_P19)
theorem sn_Commit_S19_20 : skim 64 (brT sn_Commit_P19) = sn_Commit_P20 := by kernel_rfl
noncomputable def sn_Commit_P21 : List Item := skim 64 (brF sn_Commit_P19)
theorem sn_Commit_S19_21 : skim 64 (brF sn_Commit_P19) = sn_Commit_P21 := by kernel_rfl
noncomputable def sn_Commit_P22 : List Item := skim 64 sn_Commit_P20.tail
theorem sn_Commit_S20_22 : skim 64 sn_Commit_P20.tail = sn_Commit_P22 := by kernel_rfl
noncomputable def sn_Commit_P23 : List Item := skim 64 sn_Commit_P21.tail
theorem sn_Commit_S21_23 : skim 64 sn_Commit_P21.tail = sn_Commit_P23 := by kernel_rfl
noncomputable def sn_Commit_P24 : List Item := skim 64 sn_Commit_P23.tail
theorem sn_Commit_S23_24 : skim 64 sn_Commit_P23.tail = sn_Commit_P24 := by kernel_rfl
noncomputable def sn_Commit_P25 : List Item := skim 64 sn_Commit_P24.tail
theorem sn_Commit_S24_25 : skim 64 sn_Commit_P24.tail = sn_Commit_P25 := by kernel_rfl
noncomputable def sn_Commit_P26 : List Item := skim 64 (brT sn_Commit_P25)
theorem sn_Commit_S25_26 : skim 64 (brT sn_Commit_P25) = sn_Commit_P26 := by kernel_rfl
noncomputable def sn_Commit_P27 : List Item := skim 64 (brF sn_Commit_P25)
theorem sn_Commit_S25_27 : skim 64 (brF sn_Commit_P25) = sn_Commit_P27 := by kernel_rfl
noncomputable def sn_Commit_P28 : List Item := skim 64 sn_Commit_P26.tail
theorem sn_Commit_S26_28 : skim 64 sn_Commit_P26.tail = sn_Commit_P28 := by kernel_rfl
noncomputable def sn_Commit_P29 : List Item := skim 64 sn_Commit_P27.tail
theorem sn_Commit_S27_29 : skim 64 sn_Commit_P27.tail = sn_Commit_P29 := by kernel_rfl
/-- snaps.go:148 -/
noncomputable def sn_Commit_r0 (E : Env) (call round : CallT) (tm : T Value) : M (T Value) :=
  M.bind (oS (T.get tm 1) fun a => kBox a) fun v3 =>
  setF 3 v3 tm fun tm1 =>
  mv (some (.int .i64 0)) fun v4 =>
  setF 4 v4 tm1 fun tm2 =>
  mv (some (.int .i64 0)) fun v5 =>
  setF 5 v5 tm2 fun tm3 =>
  M.pure tm3
theorem sn_Commit_q0 : RegEq 6 58 sn_Commit_g sn_Commit_P0 sn_Commit_r0 := ⟨by kernel_rfl, fun _ _ _ _ _ _ _ _ _ => by kernel_rfl⟩
/-- snaps.go:149 -/
noncomputable def sn_Commit_r1 (E : Env) (call round : CallT) (tm : T Value) : M (T Value) :=
  mv (T.get tm 0) fun v12 =>
  M.bind (M.on (some (.func (.func 19) #[] #[])) fun f => M.on (seqO [(some v12)]) fun l => callV call round f l) fun v13 =>
  mv (some v13) fun v6 =>
  setF 6 v6 tm fun tm1 =>
  M.pure tm1
theorem sn_Commit_q1 : RegEq 6 58 sn_Commit_g sn_Commit_P1 sn_Commit_r1 := ⟨by kernel_rfl, fun _ _ _ _ _ _ _ _ _ => by kernel_rfl⟩
/-- snaps.go:149 -/
noncomputable def sn_Commit_r2 (E : Env) (call round : CallT) (tm : T Value) : M (T Value) :=
  mv (T.get tm 6) fun v14 =>
  M.bind (oS (some v14) fun a => oS (some (.int .i64 0)) fun b => Cl.get (aBin E .neq 39 (.tmp 14) (.const (.int .i64 0))) a b) fun v15 =>
  setF 15 v15 tm fun tm1 =>
  M.pure tm1
theorem sn_Commit_q2 : RegEq 6 58 sn_Commit_g sn_Commit_P2 sn_Commit_r2 := ⟨by kernel_rfl, fun _ _ _ _ _ _ _ _ _ => by kernel_rfl⟩
theorem sn_Commit_C3 : condX sn_Commit_P3 = some 15 := by kernel_rfl
/-- snaps.go:150 -/
noncomputable def sn_Commit_r4 (E : Env) (call round : CallT) (tm : T Value) : M (T Value) :=
  mv (T.get tm 6) fun v16 =>
  mv (some (.int .i64 0)) fun v4 =>
  setF 4 v4 tm fun tm1 =>
  mv (some v16) fun v5 =>
  setF 5 v5 tm1 fun tm2 =>
  M.pure tm2
theorem sn_Commit_q4 : RegEq 6 58 sn_Commit_g sn_Commit_P4 sn_Commit_r4 := ⟨by kernel_rfl, fun _ _ _ _ _ _ _ _ _ => by kernel_rfl⟩
/-- snaps.go:152 -/
noncomputable def sn_Commit_r5 (E : Env) (call round : CallT) (tm : T Value) : M (T Value) :=
  mv (T.get tm 0) fun v17 =>
  M.bind (M.on (some (.func (.func 20) #[] #[])) fun f => M.on (seqO [(some v17)]) fun l => callV call round f l) fun v18 =>
  M.bind (oS (some v18) fun a => oS (some (.int .i64 1)) fun b => Cl.get (aBin E .add 3 (.tmp 18) (.const (.int .i64 1))) a b) fun v19 =>
  mv (some v19) fun v7 =>
  setF 7 v7 tm fun tm1 =>
  M.pure tm1
theorem sn_Commit_q5 : RegEq 6 58 sn_Commit_g sn_Commit_P5 sn_Commit_r5 := ⟨by kernel_rfl, fun _ _ _ _ _ _ _ _ _ => by kernel_rfl⟩
theorem sn_Commit_E6 : ∃ k, sn_Commit_P6 = .code .ret :: k := ⟨sn_Commit_P6.tail, by kernel_rfl⟩
/-- snaps.go:154; the order is open -/
noncomputable def sn_Commit_d7 (E : Env) (call round : CallT) (tm : T Value) : M ((Rho × T Value) × List OpLog) :=
  M.bind (apartO (oS (T.get tm 3) fun a => kFld E 24 a 0)) fun p0 =>
  M.bind (apartO (oS (some p0.1) fun a => kLoad E 3 a)) fun p1 =>
  M.bind (apartO (oS (T.get tm 0) fun a => M.pure a)) fun p2 =>
  M.bind (apartO (oS (some p2.1) fun a => kNil a)) fun p3 =>
  M.bind (apartO (oS (some p3.1) fun a => kFld E 37 a 1)) fun p4 =>
  M.bind (apartO (oS (some p4.1) fun a => kLoad E 3 a)) fun p5 =>
  M.bind (apartO (oS (some p1.1) fun a => oS (some p5.1) fun b => Cl.get (aBin E .neq 3 (.tmp 22) (.tmp 26)) a b)) fun p6 =>
  M.pure (([p6.1, p5.1, p4.1, p3.1, p2.1, p1.1, p0.1], tm), [p6.2, p5.2, p4.2, p3.2, p2.2, p1.2, p0.2])
theorem sn_Commit_q7 : DrawEq 6 58 sn_Commit_g sn_Commit_P7 [0, 1, 0, 4, 12, 28, 63, 127] sn_Commit_d7 := ⟨by kernel_rfl, by kernel_rfl, fun _ _ _ _ _ _ _ _ _ => by kernel_rfl⟩
theorem sn_Commit_L7 (E : Env) (call round : CallT) (x21 x22 x23 x24 x25 x26 x27 : Value) (tm : T Value) (s : St) : opsIn call round (lastOps E sn_Commit_g 58 (hdC sn_Commit_P7)) [x27, x26, x25, x24, x23, x22, x21] tm s = (M.bind (oS (some x27) fun a => M.pure a) fun v20 => setT 20 v20 tm fun tm1 => M.pure tm1) s := by kernel_rfl
theorem sn_Commit_C8 : condX sn_Commit_P8 = some 20 := by kernel_rfl
/-- snaps.go:155 -/
noncomputable def sn_Commit_r9 (E : Env) (call round : CallT) (tm : T Value) : M (T Value) :=
  mv (some (.int .i64 0)) fun v4 =>
  setF 4 v4 tm fun tm1 =>
  mv (some (.int .i64 2)) fun v5 =>
  setF 5 v5 tm1 fun tm2 =>
  M.pure tm2
theorem sn_Commit_q9 : RegEq 6 58 sn_Commit_g sn_Commit_P9 sn_Commit_r9 := ⟨by kernel_rfl, fun _ _ _ _ _ _ _ _ _ => by kernel_rfl⟩
/-- snaps.go:156 -/
noncomputable def sn_Commit_r10 (E : Env) (call round : CallT) (tm : T Value) : M (T Value) :=
  mv (T.get tm 0) fun v29 =>
  M.bind (M.on (some (.func (.func 21) #[] #[])) fun f => M.on (seqO [(some v29), (some (.string { data := #[115, 110, 97, 112] }))]) fun l => callV call round f l) fun v30 =>
  M.bind (oS (seqO [(some v30)]) fun l => aBuiltin E .len [27] l) fun v31 =>
  M.bind (oS (some v31) fun a => oS (some (.int .i64 64)) fun b => Cl.get (aBin E .geq 3 (.tmp 31) (.const (.int .i64 64))) a b) fun v32 =>
  mv (some v32) fun v28 =>
  setF 28 v28 tm fun tm1 =>
  M.pure tm1
theorem sn_Commit_q10 : RegEq 6 58 sn_Commit_g sn_Commit_P10 sn_Commit_r10 := ⟨by kernel_rfl, fun _ _ _ _ _ _ _ _ _ => by kernel_rfl⟩
theorem sn_Commit_E11 : ∃ k, sn_Commit_P11 = .code .ret :: k := ⟨sn_Commit_P11.tail, by kernel_rfl⟩
theorem sn_Commit_C12 : condX sn_Commit_P12 = some 28 := by kernel_rfl
/-- snaps.go:157 -/
noncomputable def sn_Commit_r13 (E : Env) (call round : CallT) (tm : T Value) : M (T Value) :=
  mv (some (.int .i64 0)) fun v4 =>
  setF 4 v4 tm fun tm1 =>
  mv (some (.int .i64 8)) fun v5 =>
  setF 5 v5 tm1 fun tm2 =>
  M.pure tm2
theorem sn_Commit_q13 : RegEq 6 58 sn_Commit_g sn_Commit_P13 sn_Commit_r13 := ⟨by kernel_rfl, fun _ _ _ _ _ _ _ _ _ => by kernel_rfl⟩
/-- snaps.go:158 -/
noncomputable def sn_Commit_r14 (E : Env) (call round : CallT) (tm : T Value) : M (T Value) :=
  mv (T.get tm 7) fun v34 =>
  M.bind (oS (some v34) fun a => oS (some (.int .i64 2147483647)) fun b => Cl.get (aBin E .gtr 3 (.tmp 34) (.const (.int .i64 2147483647))) a b) fun v35 =>
  mv (some v35) fun v33 =>
  setF 33 v33 tm fun tm1 =>
  M.pure tm1
theorem sn_Commit_q14 : RegEq 6 58 sn_Commit_g sn_Commit_P14 sn_Commit_r14 := ⟨by kernel_rfl, fun _ _ _ _ _ _ _ _ _ => by kernel_rfl⟩
theorem sn_Commit_C15 : condX sn_Commit_P15 = some 33 := by kernel_rfl
/-- snaps.go:159 -/
noncomputable def sn_Commit_r16 (E : Env) (call round : CallT) (tm : T Value) : M (T Value) :=
  mv (some (.int .i64 0)) fun v4 =>
  setF 4 v4 tm fun tm1 =>
  mv (some (.int .i64 5)) fun v5 =>
  setF 5 v5 tm1 fun tm2 =>
  M.pure tm2
theorem sn_Commit_q16 : RegEq 6 58 sn_Commit_g sn_Commit_P16 sn_Commit_r16 := ⟨by kernel_rfl, fun _ _ _ _ _ _ _ _ _ => by kernel_rfl⟩
/-- snaps.go:161 -/
noncomputable def sn_Commit_r17 (E : Env) (call round : CallT) (tm : T Value) : M (T Value) :=
  M.bind (oS (T.get tm 3) fun a => kLoad E 24 a) fun v37 =>
  mv (T.get tm 7) fun v38 =>
  M.bind (M.on (some (.func (.func 23) #[] #[])) fun f => M.on (seqO [(some v37), (some v38)]) fun l => callV call round f l) fun v39 =>
  M.bind (M.on (some (.func (.func 22) #[] #[])) fun f => M.on (seqO [(some v39)]) fun l => callV call round f l) fun v40 =>
  mv (some v40) fun v36 =>
  M.bind (oS (some v36) fun a => kExt 0 a) fun v41 =>
  M.bind (oS (some v36) fun a => kExt 1 a) fun v42 =>
  mv (some v41) fun v8 =>
  setF 8 v8 tm fun tm1 =>
  mv (some v42) fun v9 =>
  setF 9 v9 tm1 fun tm2 =>
  M.pure tm2
theorem sn_Commit_q17 : RegEq 6 58 sn_Commit_g sn_Commit_P17 sn_Commit_r17 := ⟨by kernel_rfl, fun _ _ _ _ _ _ _ _ _ => by kernel_rfl⟩
/-- snaps.go:162 -/
noncomputable def sn_Commit_r18 (E : Env) (call round : CallT) (tm : T Value) : M (T Value) :=
  mv (T.get tm 9) fun v43 =>
  M.bind (oS (some v43) fun a => oS (some (.int .i64 0)) fun b => Cl.get (aBin E .neq 39 (.tmp 43) (.const (.int .i64 0))) a b) fun v44 =>
  setF 44 v44 tm fun tm1 =>
  M.pure tm1
theorem sn_Commit_q18 : RegEq 6 58 sn_Commit_g sn_Commit_P18 sn_Commit_r18 := ⟨by kernel_rfl, fun _ _ _ _ _ _ _ _ _ => by kernel_rfl⟩
theorem sn_Commit_C19 : condX sn_Commit_P19 = some 44 := by kernel_rfl
/-- snaps.go:163 -/
noncomputable def sn_Commit_r20 (E : Env) (call round : CallT) (tm : T Value) : M (T Value) :=
  mv (T.get tm 9) fun v45 =>
  mv (some (.int .i64 0)) fun v4 =>
  setF 4 v4 tm fun tm1 =>
  mv (some v45) fun v5 =>
  setF 5 v5 tm1 fun tm2 =>
  M.pure tm2
theorem sn_Commit_q20 : RegEq 6 58 sn_Commit_g sn_Commit_P20 sn_Commit_r20 := ⟨by kernel_rfl, fun _ _ _ _ _ _ _ _ _ => by kernel_rfl⟩
/-- snaps.go:165 -/
noncomputable def sn_Commit_r21 (E : Env) (call round : CallT) (tm : T Value) : M (T Value) :=
  mv (T.get tm 8) fun v46 =>
  M.bind (M.on (some (.func (.func 24) #[] #[])) fun f => M.on (seqO [(some v46)]) fun l => callV call round f l) fun v47 =>
  M.bind (kAlloc E 68) fun v10 =>
  setF 10 v10 tm fun tm1 =>
  M.bind (oS (some v10) fun a => oS (some v47) fun b => kStore E 68 a b) fun _ =>
  M.pure tm1
theorem sn_Commit_q21 : RegEq 6 58 sn_Commit_g sn_Commit_P21 sn_Commit_r21 := ⟨by kernel_rfl, fun _ _ _ _ _ _ _ _ _ => by kernel_rfl⟩
theorem sn_Commit_E22 : ∃ k, sn_Commit_P22 = .code .ret :: k := ⟨sn_Commit_P22.tail, by kernel_rfl⟩
/-- snaps.go:166 -/
noncomputable def sn_Commit_r23 (E : Env) (call round : CallT) (tm : T Value) : M (T Value) :=
  mv (T.get tm 0) fun v48 =>
  mv (T.get tm 7) fun v49 =>
  mv (T.get tm 8) fun v50 =>
  M.bind (M.on (T.get tm 10) fun a => M.on (some none) fun b => M.on (some none) fun c => aSlice E 68 a b c) fun v51 =>
  M.bind (oS (seqO [(some v50), (some v51)]) fun l => aBuiltin E .append [28, 28] l) fun v52 =>
  M.bind (M.on (some (.func (.func 25) #[] #[])) fun f => M.on (seqO [(some v48), (some v49), (some v52)]) fun l => callV call round f l) fun v53 =>
  mv (some v53) fun v11 =>
  setF 11 v11 tm fun tm1 =>
  M.pure tm1
theorem sn_Commit_q23 : RegEq 6 58 sn_Commit_g sn_Commit_P23 sn_Commit_r23 := ⟨by kernel_rfl, fun _ _ _ _ _ _ _ _ _ => by kernel_rfl⟩
/-- snaps.go:166 -/
noncomputable def sn_Commit_r24 (E : Env) (call round : CallT) (tm : T Value) : M (T Value) :=
  mv (T.get tm 11) fun v54 =>
  M.bind (oS (some v54) fun a => oS (some (.int .i64 0)) fun b => Cl.get (aBin E .neq 39 (.tmp 54) (.const (.int .i64 0))) a b) fun v55 =>
  setF 55 v55 tm fun tm1 =>
  M.pure tm1
theorem sn_Commit_q24 : RegEq 6 58 sn_Commit_g sn_Commit_P24 sn_Commit_r24 := ⟨by kernel_rfl, fun _ _ _ _ _ _ _ _ _ => by kernel_rfl⟩
theorem sn_Commit_C25 : condX sn_Commit_P25 = some 55 := by kernel_rfl
/-- snaps.go:167 -/
noncomputable def sn_Commit_r26 (E : Env) (call round : CallT) (tm : T Value) : M (T Value) :=
  mv (T.get tm 11) fun v56 =>
  mv (some (.int .i64 0)) fun v4 =>
  setF 4 v4 tm fun tm1 =>
  mv (some v56) fun v5 =>
  setF 5 v5 tm1 fun tm2 =>
  M.pure tm2
theorem sn_Commit_q26 : RegEq 6 58 sn_Commit_g sn_Commit_P26 sn_Commit_r26 := ⟨by kernel_rfl, fun _ _ _ _ _ _ _ _ _ => by kernel_rfl⟩
/-- snaps.go:169 -/
noncomputable def sn_Commit_r27 (E : Env) (call round : CallT) (tm : T Value) : M (T Value) :=
  mv (T.get tm 7) fun v57 =>
  mv (some v57) fun v4 =>
  setF 4 v4 tm fun tm1 =>
  mv (some (.int .i64 0)) fun v5 =>
  setF 5 v5 tm1 fun tm2 =>
  M.pure tm2
theorem sn_Commit_q27 : RegEq 6 58 sn_Commit_g sn_Commit_P27 sn_Commit_r27 := ⟨by kernel_rfl, fun _ _ _ _ _ _ _ _ _ => by kernel_rfl⟩
theorem sn_Commit_E28 : ∃ k, sn_Commit_P28 = .code .ret :: k := ⟨sn_Commit_P28.tail, by kernel_rfl⟩
theorem sn_Commit_E29 : ∃ k, sn_Commit_P29 = .code .ret :: k := ⟨sn_Commit_P29.tail, by kernel_rfl⟩
-- points: 0:region>[1], 1:region>[2], 2:region>[3], 3:cond>[4, 5], 4:region>[6], 5:region>[7], 6:ret>, 7:region>[8], 8:cond>[9, 10], 9:region>[11], 10:region>[12], 11:ret>, 12:cond>[13, 14], 13:region>[11], 14:region>[15], 15:cond>[16, 17], 16:region>[11], 17:region>[18], 18:region>[19], 19:cond>[20, 21], 20:region>[22], 21:region>[23], 22:ret>, 23:region>[24], 24:region>[25], 25:cond>[26, 27], 26:region>[28], 27:region>[29], 28:ret>, 29:ret>

/-! ### (*satchel/snaps.Snaps).Expire -/
noncomputable def sn_Expire_g : Nat := globOf Tryz.f7
abbrev sn_Expire_nt : Nat := 69
noncomputable def sn_Expire_body : Code := Tryz.f7.body.getD .skip
theorem sn_Expire_fn : envS.fn.get 7 = some Tryz.f7 := by kernel_rfl
theorem sn_Expire_W {a0 a1 : Value} {n : Nat} {s : St} {Q : Value → St → Prop} (h : ∀ tm, T.get tm 0 = some a0 → T.get tm 1 = some a1 → W (runF envS n ⟨7, 69, sn_Expire_g, tm, [.code sn_Expire_body], .run, .normal, none⟩) (s.cxN cxN) fun p s1 => Q p.1 (s1.cxN s.cx)) : W (callW envS (runF envS n) 7 [a0, a1]) s Q :=
  W.call (by kernel_rfl) (by kernel_rfl) sn_Expire_fn (by kernel_rfl) rfl rfl (by simp) (h _ (by kernel_rfl) (by kernel_rfl))
theorem sn_Expire_res : Tryz.f7.results.toList = [.tmp 4, .tmp 5] := by kernel_rfl
noncomputable def sn_Expire_P0 : List Item := skim 64 [.code sn_Expire_body]
noncomputable def sn_Expire_P1 : List Item := skim 64 sn_Expire_P0.tail
theorem sn_Expire_S0_1 : skim 64 sn_Expire_P0.tail = sn_Expire_P1 := by kernel_rfl
noncomputable def sn_Expire_P2 : List Item := skim 64 sn_Expire_P1.tail
theorem sn_Expire_S1_2 : skim 64 sn_Expire_P1.tail = sn_Expire_P2 := by kernel_rfl
noncomputable def sn_Expire_P3 : List Item := skim 64 sn_Expire_P2.tail
theorem sn_Expire_S2_3 : skim 64 sn_Expire_P2.tail = sn_Expire_P3 := by kernel_rfl
noncomputable def sn_Expire_P4 : List Item := skim 64 (brT sn_Expire_P3)
theorem sn_Expire_S3_4 : skim 64 (brT sn_Expire_P3) = sn_Expire_P4 := by kernel_rfl
noncomputable def sn_Expire_P5 : List Item := skim 64 (brF sn_Expire_P3)
theorem sn_Expire_S3_5 : skim 64 (brF sn_Expire_P3) = sn_Expire_P5 := by kernel_rfl
noncomputable def sn_Expire_P6 : List Item := skim 64 sn_Expire_P4.tail
theorem sn_Expire_S4_6 : skim 64 sn_Expire_P4.tail = sn_Expire_P6 := by kernel_rfl
noncomputable def sn_Expire_P7 : List Item := skim 64 sn_Expire_P5.tail
theorem sn_Expire_S5_7 : skim 64 sn_Expire_P5.tail = sn_Expire_P7 := by kernel_rfl
noncomputable def sn_Expire_P8 : List Item := skim 64 sn_Expire_P7.tail
theorem sn_Expire_S7_8 : skim 64 sn_Expire_P7.tail = sn_Expire_P8 := by kernel_rfl
noncomputable def sn_Expire_P9 : List Item := skim 64 sn_Expire_P8.tail
theorem sn_Expire_S8_9 : skim 64 sn_Expire_P8.tail = sn_Expire_P9 := by kernel_rfl
noncomputable def sn_Expire_P10 : List Item := skim 64 (brT sn_Expire_P9)
theorem sn_Expire_S9_10 : skim 64 (brT sn_Expire_P9) = sn_Expire_P10 := by kernel_rfl
noncomputable def sn_Expire_P11 : List Item := skim 64 (brF sn_Expire_P9)
theorem sn_Expire_S9_11 : skim 64 (brF sn_Expire_P9) = sn_Expire_P11 := by kernel_rfl
noncomputable def sn_Expire_P12 : List Item := skim 64 sn_Expire_P10.tail
theorem sn_Expire_S10_12 : skim 64 sn_Expire_P10.tail = sn_Expire_P12 := by kernel_rfl
noncomputable def sn_Expire_P13 : List Item := skim 64 sn_Expire_P11.tail
theorem sn_Expire_S11_13 : skim 64 sn_Expire_P11.tail = sn_Expire_P13 := by kernel_rfl
noncomputable def sn_Expire_P14 : List Item := skim 64 sn_Expire_P12.tail
theorem sn_Expire_S12_14 : skim 64 sn_Expire_P12.tail = sn_Expire_P14 := by kernel_rfl
noncomputable def sn_Expire_P15 : List Item := skim 64 sn_Expire_P13.tail
theorem sn_Expire_S13_15 : skim 64 sn_Expire_P13.tail = sn_Expire_P15 := by kernel_rfl
noncomputable def sn_Expire_P16 : List Item := skim 64 (brT sn_Expire_P14)
theorem sn_Expire_S14_16 : skim 64 (brT sn_Expire_P14) = sn_Expire_P16 := by kernel_rfl
noncomputable def sn_Expire_P17 : List Item := skim 64 (brF sn_Expire_P14)
theorem sn_Expire_S14_17 : skim 64 (brF sn_Expire_P14) = sn_Expire_P17 := by kernel_rfl
noncomputable def sn_Expire_P18 : List Item := skim 64 (brT sn_Expire_P15)
theorem sn_Expire_S15_18 : skim 64 (brT sn_Expire_P15) = sn_Expire_P18 := by kernel_rfl
noncomputable def sn_Expire_P19 : List Item := skim 64 (brF sn_Expire_P15)
theorem sn_Expire_S15_19 : skim 64 (brF sn_Expire_P15) = sn_Expire_P19 := by kernel_rfl
theorem sn_Expire_S16_17 : skim 64 sn_Expire_P16.tail = sn_Expire_P17 := by kernel_rfl
theorem sn_Expire_S17_8 : skim 64 sn_Expire_P17.tail = sn_Expire_P8 := by kernel_rfl
noncomputable def sn_Expire_P20 : List Item := skim 64 sn_Expire_P18.tail
theorem sn_Expire_S18_20 : skim 64 sn_Expire_P18.tail = sn_Expire_P20 := by kernel_rfl
noncomputable def sn_Expire_P21 : List Item := skim 64 sn_Expire_P19.tail
theorem sn_Expire_S19_21 : skim 64 sn_Expire_P19.tail = sn_Expire_P21 := by kernel_rfl
noncomputable def sn_Expire_P22 : List Item := skim 64 sn_Expire_P21.tail
theorem sn_Expire_S21_22 : skim 64 sn_Expire_P21.tail = sn_Expire_P22 := by kernel_rfl
noncomputable def sn_Expire_P23 : List Item := skim 64 (brT sn_Expire_P22)
theorem sn_Expire_S22_23 : skim 64 (brT sn_Expire_P22) = sn_Expire_P23 := by kernel_rfl
noncomputable def sn_Expire_P24 : List Item := skim 64 (brF sn_Expire_P22)
theorem sn_Expire_S22_24 : skim 64 (brF sn_Expire_P22) = sn_Expire_P24 := by kernel_rfl
noncomputable def sn_Expire_P25 : List Item := skim 64 sn_Expire_P23.tail
theorem sn_Expire_S23_25 : skim 64 sn_Expire_P23.tail = sn_Expire_P25 := by kernel_rfl
noncomputable def sn_Expire_P26 : List Item := skim 64 sn_Expire_P24.tail
theorem sn_Expire_S24_26 : skim 64 sn_Expire_P24.tail = sn_Expire_P26 := by kernel_rfl
noncomputable def sn_Expire_P27 : List Item := skim 64 sn_Expire_P25.tail
theorem sn_Expire_S25_27 : skim 64 sn_Expire_P25.tail = sn_Expire_P27 := by kernel_rfl
noncomputable def sn_Expire_P28 : List Item := skim 64 sn_Expire_P27.tail
theorem sn_Expire_S27_28 : skim 64 sn_Expire_P27.tail = sn_Expire_P28 := by kernel_rfl
noncomputable def sn_Expire_P29 : List Item := skim 64 (brT sn_Expire_P28)
theorem sn_Expire_S28_29 : skim 64 (brT sn_Expire_P28) = sn_Expire_P29 := by kernel_rfl
noncomputable def sn_Expire_P30 : List Item := skim 64 (brF sn_Expire_P28)
theorem sn_Expire_S28_30 : skim 64 (brF sn_Expire_P28) = sn_Expire_P30 := by kernel_rfl
noncomputable def sn_Expire_P31 : List Item := skim 64 sn_Expire_P29.tail
theorem sn_Expire_S29_31 : skim 64 sn_Expire_P29.tail = sn_Expire_P31 := by kernel_rfl
theorem sn_Expire_S30_21 : skim 64 sn_Expire_P30.tail = sn_Expire_P21 := by kernel_rfl
/-- snaps.go:221 -/
noncomputable def sn_Expire_r0 (E : Env) (call round : CallT) (tm : T Value) : M (T Value) :=
  M.bind (oS (T.get tm 1) fun a => kBox a) fun v3 =>
  setF 3 v3 tm fun tm1 =>
  mv (some (.slice none 0 0)) fun v4 =>
  setF 4 v4 tm1 fun tm2 =>
  mv (some (.int .i64 0)) fun v5 =>
  setF 5 v5 tm2 fun tm3 =>
  M.pure tm3
theorem sn_Expire_q0 : RegEq 7 69 sn_Expire_g sn_Expire_P0 sn_Expire_r0 := ⟨by kernel_rfl, fun _ _ _ _ _ _ _ _ _ => by kernel_rfl⟩
/-- snaps.go:222 -/
noncomputable def sn_Expire_r1 (E : Env) (call round : CallT) (tm : T Value) : M (T Value) :=
  mv (T.get tm 0) fun v15 =>
  M.bind (M.on (some (.func (.func 19) #[] #[])) fun f => M.on (seqO [(some v15)]) fun l => callV call round f l) fun v16 =>
  mv (some v16) fun v6 =>
  setF 6 v6 tm fun tm1 =>
  M.pure tm1
theorem sn_Expire_q1 : RegEq 7 69 sn_Expire_g sn_Expire_P1 sn_Expire_r1 := ⟨by kernel_rfl, fun _ _ _ _ _ _ _ _ _ => by kernel_rfl⟩
/-- snaps.go:222 -/
noncomputable def sn_Expire_r2 (E : Env) (call round : CallT) (tm : T Value) : M (T Value) :=
  mv (T.get tm 6) fun v17 =>
  M.bind (oS (some v17) fun a => oS (some (.int .i64 0)) fun b => Cl.get (aBin E .neq 39 (.tmp 17) (.const (.int .i64 0))) a b) fun v18 =>
  setF 18 v18 tm fun tm1 =>
  M.pure tm1
theorem sn_Expire_q2 : RegEq 7 69 sn_Expire_g sn_Expire_P2 sn_Expire_r2 := ⟨by kernel_rfl, fun _ _ _ _ _ _ _ _ _ => by kernel_rfl⟩
theorem sn_Expire_C3 : condX sn_Expire_P3 = some 18 := by kernel_rfl
/-- snaps.go:223 -/
noncomputable def sn_Expire_r4 (E : Env) (call round : CallT) (tm : T Value) : M (T Value) :=
  mv (T.get tm 6) fun v19 =>
  mv (some (.slice none 0 0)) fun v4 =>
  setF 4 v4 tm fun tm1 =>
  mv (some v19) fun v5 =>
  setF 5 v5 tm1 fun tm2 =>
  M.pure tm2
theorem sn_Expire_q4 : RegEq 7 69 sn_Expire_g sn_Expire_P4 sn_Expire_r4 := ⟨by kernel_rfl, fun _ _ _ _ _ _ _ _ _ => by kernel_rfl⟩
/-- snaps.go:225 -/
noncomputable def sn_Expire_r5 (E : Env) (call round : CallT) (tm : T Value) : M (T Value) :=
  mv (some (.slice none 0 0)) fun v7 =>
  setF 7 v7 tm fun tm1 =>
  M.pure tm1
theorem sn_Expire_q5 : RegEq 7 69 sn_Expire_g sn_Expire_P5 sn_Expire_r5 := ⟨by kernel_rfl, fun _ _ _ _ _ _ _ _ _ => by kernel_rfl⟩
theorem sn_Expire_E6 : ∃ k, sn_Expire_P6 = .code .ret :: k := ⟨sn_Expire_P6.tail, by kernel_rfl⟩
/-- snaps.go:226 -/
noncomputable def sn_Expire_r7 (E : Env) (call round : CallT) (tm : T Value) : M (T Value) :=
  mv (T.get tm 0) fun v20 =>
  M.bind (M.on (some (.func (.func 11) #[] #[])) fun f => M.on (seqO [(some v20)]) fun l => callV call round f l) fun v21 =>
  setF 21 v21 tm fun tm1 =>
  M.bind (oS (seqO [(some v21)]) fun l => aBuiltin E .len [49] l) fun v22 =>
  setF 22 v22 tm1 fun tm2 =>
  mv (some (.int .i64 0)) fun v23 =>
  setF 23 v23 tm2 fun tm3 =>
  M.pure tm3
theorem sn_Expire_q7 : RegEq 7 69 sn_Expire_g sn_Expire_P7 sn_Expire_r7 := ⟨by kernel_rfl, fun _ _ _ _ _ _ _ _ _ => by kernel_rfl⟩
/-- snaps.go:226 -/
noncomputable def sn_Expire_r8 (E : Env) (call round : CallT) (tm : T Value) : M (T Value) :=
  M.bind (oS (T.get tm 23) fun a => oS (T.get tm 22) fun b => Cl.get (aBin E .lss 3 (.tmp 23) (.tmp 22)) a b) fun v24 =>
  setF 24 v24 tm fun tm1 =>
  M.pure tm1
theorem sn_Expire_q8 : RegEq 7 69 sn_Expire_g sn_Expire_P8 sn_Expire_r8 := ⟨by kernel_rfl, fun _ _ _ _ _ _ _ _ _ => by kernel_rfl⟩
theorem sn_Expire_C9 : condX sn_Expire_P9 = some 24 := by kernel_rfl
/-- snaps.go:226 -/
noncomputable def sn_Expire_r10 (E : Env) (call round : CallT) (tm : T Value) : M (T Value) :=
  M.bind (oS (T.get tm 21) fun a => oS (T.get tm 23) fun b => kIdxA E 49 a b) fun v25 =>
  M.bind (oS (some v25) fun a => kLoad E 61 a) fun v26 =>
  M.bind (kAlloc E 61) fun v9 =>
  setF 9 v9 tm fun tm1 =>
  M.bind (oS (some v9) fun a => oS (some v26) fun b => kStore E 61 a b) fun _ =>
  M.pure tm1
theorem sn_Expire_q10 : RegEq 7 69 sn_Expire_g sn_Expire_P10 sn_Expire_r10 := ⟨by kernel_rfl, fun _ _ _ _ _ _ _ _ _ => by kernel_rfl⟩
/-- snaps.go:231 -/
noncomputable def sn_Expire_r11 (E : Env) (call round : CallT) (tm : T Value) : M (T Value) :=
  mv (T.get tm 7) fun v39 =>
  M.bind (oS (T.get tm 3) fun a => kLoad E 26 a) fun v40 =>
  M.bind (M.on (some (.func (.func 26) #[] #[])) fun f => M.on (seqO [(some v39), (some v40)]) fun l => callV call round f l) fun v41 =>
  mv (some v41) fun v38 =>
  M.bind (oS (some v38) fun a => kExt 0 a) fun v42 =>
  M.bind (oS (some v38) fun a => kExt 1 a) fun v43 =>
  mv (some v42) fun v10 =>
  setF 10 v10 tm fun tm1 =>
  mv (some v43) fun v11 =>
  setF 11 v11 tm1 fun tm2 =>
  M.pure tm2
theorem sn_Expire_q11 : RegEq 7 69 sn_Expire_g sn_Expire_P11 sn_Expire_r11 := ⟨by kernel_rfl, fun _ _ _ _ _ _ _ _ _ => by kernel_rfl⟩
/-- snaps.go:227 -/
noncomputable def sn_Expire_r12 (E : Env) (call round : CallT) (tm : T Value) : M (T Value) :=
  M.bind (oS (T.get tm 9) fun a => kFld E 61 a 3) fun v27 =>
  M.bind (oS (some v27) fun a => kLoad E 4 a) fun v28 =>
  setF 28 v28 tm fun tm1 =>
  M.pure tm1
theorem sn_Expire_q12 : RegEq 7 69 sn_Expire_g sn_Expire_P12 sn_Expire_r12 := ⟨by kernel_rfl, fun _ _ _ _ _ _ _ _ _ => by kernel_rfl⟩
/-- snaps.go:232 -/
noncomputable def sn_Expire_r13 (E : Env) (call round : CallT) (tm : T Value) : M (T Value) :=
  mv (T.get tm 11) fun v44 =>
  M.bind (oS (some v44) fun a => oS (some (.int .i64 0)) fun b => Cl.get (aBin E .neq 39 (.tmp 44) (.const (.int .i64 0))) a b) fun v45 =>
  setF 45 v45 tm fun tm1 =>
  M.pure tm1
theorem sn_Expire_q13 : RegEq 7 69 sn_Expire_g sn_Expire_P13 sn_Expire_r13 := ⟨by kernel_rfl, fun _ _ _ _ _ _ _ _ _ => by kernel_rfl⟩
theorem sn_Expire_C14 : condX sn_Expire_P14 = some 28 := by kernel_rfl
theorem sn_Expire_C15 : condX sn_Expire_P15 = some 45 := by kernel_rfl
/-- snaps.go:228 -/
noncomputable def sn_Expire_r16 (E : Env) (call round : CallT) (tm : T Value) : M (T Value) :=
  mv (T.get tm 7) fun v29 =>
  M.bind (oS (T.get tm 9) fun a => kFld E 61 a 0) fun v30 =>
  M.bind (oS (some v30) fun a => kLoad E 3 a) fun v31 =>
  M.bind (oS (T.get tm 9) fun a => kFld E 61 a 1) fun v32 =>
  M.bind (oS (some v32) fun a => kLoad E 3 a) fun v33 =>
  M.bind (oS (seqP [(0, (some v31)), (1, (some v33))]) fun ps => aBuild E 73 ps) fun v34 =>
  M.bind (oS (seqP [(0, (some v34))]) fun ps => aBuildS E 71 1 ps) fun v35 =>
  M.bind (oS (seqO [(some v29), (some v35)]) fun l => aBuiltin E .append [71, 71] l) fun v36 =>
  mv (some v36) fun v7 =>
  setF 7 v7 tm fun tm1 =>
  M.pure tm1
theorem sn_Expire_q16 : RegEq 7 69 sn_Expire_g sn_Expire_P16 sn_Expire_r16 := ⟨by kernel_rfl, fun _ _ _ _ _ _ _ _ _ => by kernel_rfl⟩
/-- snaps.go:226 -/
noncomputable def sn_Expire_r17 (E : Env) (call round : CallT) (tm : T Value) : M (T Value) :=
  M.bind (oS (T.get tm 23) fun a => oS (some (.int .i64 1)) fun b => Cl.get (aBin E .add 3 (.tmp 23) (.const (.int .i64 1))) a b) fun v37 =>
  mv (some v37) fun v23 =>
  setF 23 v23 tm fun tm1 =>
  M.pure tm1
theorem sn_Expire_q17 : RegEq 7 69 sn_Expire_g sn_Expire_P17 sn_Expire_r17 := ⟨by kernel_rfl, fun _ _ _ _ _ _ _ _ _ => by kernel_rfl⟩
/-- snaps.go:233 -/
noncomputable def sn_Expire_r18 (E : Env) (call round : CallT) (tm : T Value) : M (T Value) :=
  mv (T.get tm 11) fun v46 =>
  mv (some (.slice none 0 0)) fun v4 =>
  setF 4 v4 tm fun tm1 =>
  mv (some v46) fun v5 =>
  setF 5 v5 tm1 fun tm2 =>
  M.pure tm2
theorem sn_Expire_q18 : RegEq 7 69 sn_Expire_g sn_Expire_P18 sn_Expire_r18 := ⟨by kernel_rfl, fun _ _ _ _ _ _ _ _ _ => by kernel_rfl⟩
/-- snaps.go:235 -/
noncomputable def sn_Expire_r19 (E : Env) (call round : CallT) (tm : T Value) : M (T Value) :=
  mv (T.get tm 10) fun v47 =>
  setF 47 v47 tm fun tm1 =>
  M.bind (oS (seqO [(some v47)]) fun l => aBuiltin E .len [27] l) fun v48 =>
  setF 48 v48 tm1 fun tm2 =>
  mv (some (.int .i64 0)) fun v49 =>
  setF 49 v49 tm2 fun tm3 =>
  M.pure tm3
theorem sn_Expire_q19 : RegEq 7 69 sn_Expire_g sn_Expire_P19 sn_Expire_r19 := ⟨by kernel_rfl, fun _ _ _ _ _ _ _ _ _ => by kernel_rfl⟩
theorem sn_Expire_E20 : ∃ k, sn_Expire_P20 = .code .ret :: k := ⟨sn_Expire_P20.tail, by kernel_rfl⟩
/-- snaps.go:235 -/
noncomputable def sn_Expire_r21 (E : Env) (call round : CallT) (tm : T Value) : M (T Value) :=
  M.bind (oS (T.get tm 49) fun a => oS (T.get tm 48) fun b => Cl.get (aBin E .lss 3 (.tmp 49) (.tmp 48)) a b) fun v50 =>
  setF 50 v50 tm fun tm1 =>
  M.pure tm1
theorem sn_Expire_q21 : RegEq 7 69 sn_Expire_g sn_Expire_P21 sn_Expire_r21 := ⟨by kernel_rfl, fun _ _ _ _ _ _ _ _ _ => by kernel_rfl⟩
theorem sn_Expire_C22 : condX sn_Expire_P22 = some 50 := by kernel_rfl
/-- snaps.go:235 -/
noncomputable def sn_Expire_r23 (E : Env) (call round : CallT) (tm : T Value) : M (T Value) :=
  M.bind (oS (T.get tm 47) fun a => oS (T.get tm 49) fun b => kIdxA E 27 a b) fun v51 =>
  M.bind (oS (some v51) fun a => kLoad E 3 a) fun v52 =>
  mv (some v52) fun v13 =>
  setF 13 v13 tm fun tm1 =>
  M.pure tm1
theorem sn_Expire_q23 : RegEq 7 69 sn_Expire_g sn_Expire_P23 sn_Expire_r23 := ⟨by kernel_rfl, fun _ _ _ _ _ _ _ _ _ => by kernel_rfl⟩
/-- snaps.go:240 -/
noncomputable def sn_Expire_r24 (E : Env) (call round : CallT) (tm : T Value) : M (T Value) :=
  mv (T.get tm 10) fun v68 =>
  mv (some v68) fun v4 =>
  setF 4 v4 tm fun tm1 =>
  mv (some (.int .i64 0)) fun v5 =>
  setF 5 v5 tm1 fun tm2 =>
  M.pure tm2
theorem sn_Expire_q24 : RegEq 7 69 sn_Expire_g sn_Expire_P24 sn_Expire_r24 := ⟨by kernel_rfl, fun _ _ _ _ _ _ _ _ _ => by kernel_rfl⟩
/-- snaps.go:236; the order is open -/
noncomputable def sn_Expire_d25 (E : Env) (call round : CallT) (tm : T Value) : M ((Rho × T Value) × List OpLog) :=
  M.bind (apartO (oS (T.get tm 0) fun a => M.pure a)) fun p0 =>
  M.bind (apartO (oS (T.get tm 0) fun a => M.pure a)) fun p1 =>
  M.bind (apartO (oS (some p1.1) fun a => kNil a)) fun p2 =>
  M.bind (apartO (oS (some p2.1) fun a => kFld E 37 a 0)) fun p3 =>
  M.bind (apartO (oS (some p3.1) fun a => kLoad E 35 a)) fun p4 =>
  M.bind (apartO (oS (T.get tm 0) fun a => M.pure a)) fun p5 =>
  M.bind (apartO (oS (T.get tm 13) fun a => M.pure a)) fun p6 =>
  M.bind (apartO (M.on (some (.func (.func 30) #[] #[])) fun f => M.on (seqO [(some p6.1)]) fun l => callV call round f l)) fun p7 =>
  M.bind (apartO (M.on (some (.func (.func 29) #[] #[])) fun f => M.on (seqO [(some p5.1), (some p7.1)]) fun l => callV call round f l)) fun p8 =>
  M.bind (apartO (M.on (some (.func (.func 28) #[] #[])) fun f => M.on (seqO [(some p4.1), (some p8.1)]) fun l => callV call round f l)) fun p9 =>
  M.bind (apartO (M.on (some (.func (.func 27) #[] #[])) fun f => M.on (seqO [(some p0.1), (some p9.1)]) fun l => callV call round f l)) fun p10 =>
  M.pure (([p10.1, p9.1, p8.1, p7.1, p6.1, p5.1, p4.1, p3.1, p2.1, p1.1, p0.1], tm), [p10.2, p9.2, p8.2, p7.2, p6.2, p5.2, p4.2, p3.2, p2.2, p1.2, p0.2])
theorem sn_Expire_q25 : DrawEq 7 69 sn_Expire_g sn_Expire_P25 [0, 0, 2, 6, 14, 0, 0, 64, 224, 510, 1023, 2047] sn_Expire_d25 := ⟨by kernel_rfl, by kernel_rfl, fun _ _ _ _ _ _ _ _ _ => by kernel_rfl⟩
theorem sn_Expire_L25 (E : Env) (call round : CallT) (x53 x54 x55 x56 x57 x58 x59 x60 x61 x62 x63 : Value) (tm : T Value) (s : St) : opsIn call round (lastOps E sn_Expire_g 69 (hdC sn_Expire_P25)) [x63, x62, x61, x60, x59, x58, x57, x56, x55, x54, x53] tm s = (M.bind (oS (some x63) fun a => M.pure a) fun v14 => setT 14 v14 tm fun tm1 => M.pure tm1) s := by kernel_rfl
theorem sn_Expire_E26 : ∃ k, sn_Expire_P26 = .code .ret :: k := ⟨sn_Expire_P26.tail, by kernel_rfl⟩
/-- snaps.go:236 -/
noncomputable def sn_Expire_r27 (E : Env) (call round : CallT) (tm : T Value) : M (T Value) :=
  mv (T.get tm 14) fun v64 =>
  M.bind (oS (some v64) fun a => oS (some (.int .i64 0)) fun b => Cl.get (aBin E .neq 39 (.tmp 64) (.const (.int .i64 0))) a b) fun v65 =>
  setF 65 v65 tm fun tm1 =>
  M.pure tm1
theorem sn_Expire_q27 : RegEq 7 69 sn_Expire_g sn_Expire_P27 sn_Expire_r27 := ⟨by kernel_rfl, fun _ _ _ _ _ _ _ _ _ => by kernel_rfl⟩
theorem sn_Expire_C28 : condX sn_Expire_P28 = some 65 := by kernel_rfl
/-- snaps.go:237 -/
noncomputable def sn_Expire_r29 (E : Env) (call round : CallT) (tm : T Value) : M (T Value) :=
  mv (T.get tm 14) fun v66 =>
  mv (some (.slice none 0 0)) fun v4 =>
  setF 4 v4 tm fun tm1 =>
  mv (some v66) fun v5 =>
  setF 5 v5 tm1 fun tm2 =>
  M.pure tm2
theorem sn_Expire_q29 : RegEq 7 69 sn_Expire_g sn_Expire_P29 sn_Expire_r29 := ⟨by kernel_rfl, fun _ _ _ _ _ _ _ _ _ => by kernel_rfl⟩
/-- snaps.go:235 -/
noncomputable def sn_Expire_r30 (E : Env) (call round : CallT) (tm : T Value) : M (T Value) :=
  M.bind (oS (T.get tm 49) fun a => oS (some (.int .i64 1)) fun b => Cl.get (aBin E .add 3 (.tmp 49) (.const (.int .i64 1))) a b) fun v67 =>
  mv (some v67) fun v49 =>
  setF 49 v49 tm fun tm1 =>
  M.pure tm1
theorem sn_Expire_q30 : RegEq 7 69 sn_Expire_g sn_Expire_P30 sn_Expire_r30 := ⟨by kernel_rfl, fun _ _ _ _ _ _ _ _ _ => by kernel_rfl⟩
theorem sn_Expire_E31 : ∃ k, sn_Expire_P31 = .code .ret :: k := ⟨sn_Expire_P31.tail, by kernel_rfl⟩
-- points: 0:region>[1], 1:region>[2], 2:region>[3], 3:cond>[4, 5], 4:region>[6], 5:region>[7], 6:ret>, 7:region>[8], 8:region>[9], 9:cond>[10, 11], 10:region>[12], 11:region>[13], 12:region>[14], 13:region>[15], 14:cond>[16, 17], 15:cond>[18, 19], 16:region>[17], 17:region>[8], 18:region>[20], 19:region>[21], 20:ret>, 21:region>[22], 22:cond>[23, 24], 23:region>[25], 24:region>[26], 25:region>[27], 26:ret>, 27:region>[28], 28:cond>[29, 30], 29:region>[31], 30:region>[21], 31:ret>

/-! ### (*satchel/snaps.Snaps).Get -/
noncomputable def sn_Get_g : Nat := globOf Tryz.f8
abbrev sn_Get_nt : Nat := 35
noncomputable def sn_Get_body : Code := Tryz.f8.body.getD .skip
theorem sn_Get_fn : envS.fn.get 8 = some Tryz.f8 := by kernel_rfl
theorem sn_Get_W {a0 a1 : Value} {n : Nat} {s : St} {Q : Value → St → Prop} (h : ∀ tm, T.get tm 0 = some a0 → T.get tm 1 = some a1 → W (runF envS n ⟨8, 35, sn_Get_g, tm, [.code sn_Get_body], .run, .normal, none⟩) (s.cxN cxN) fun p s1 => Q p.1 (s1.cxN s.cx)) : W (callW envS (runF envS n) 8 [a0, a1]) s Q :=
  W.call (by kernel_rfl) (by kernel_rfl) sn_Get_fn (by kernel_rfl) rfl rfl (by simp) (h _ (by kernel_rfl) (by kernel_rfl))
theorem sn_Get_res : Tryz.f8.results.toList = [.cell 4 24, .tmp 5] := by kernel_rfl
noncomputable def sn_Get_P0 : List Item := skim 64 [.code sn_Get_body]
noncomputable def sn_Get_P1 : List Item := skim 64 sn_Get_P0.tail
theorem sn_Get_S0_1 : skim 64 sn_Get_P0.tail = sn_Get_P1 := by kernel_rfl
noncomputable def sn_Get_P2 : List Item := skim 64 sn_Get_P1.tail
theorem sn_Get_S1_2 : skim 64 sn_Get_P1.tail = sn_Get_P2 := by kernel_rfl
noncomputable def sn_Get_P3 : List Item := skim 64 sn_Get_P2.tail
theorem sn_Get_S2_3 : skim 64 sn_Get_P2.tail = sn_Get_P3 := by kernel_rfl
noncomputable def sn_Get_P4 : List Item := skim 64 (brT sn_Get_P3)
theorem sn_Get_S3_4 : skim 64 (brT sn_Get_P3) = sn_Get_P4 := by kernel_rfl
noncomputable def sn_Get_P5 : List Item := skim 64 (brF sn_Get_P3)
theorem sn_Get_S3_5 : skim 64 (brF sn_Get_P3) = sn_Get_P5 := by kernel_rfl
noncomputable def sn_Get_P6 : List Item := skim 64 sn_Get_P4.tail
theorem sn_Get_S4_6 : skim 64 sn_Get_P4.tail = sn_Get_P6 := by kernel_rfl
noncomputable def sn_Get_P7 : List Item := skim 64 sn_Get_P5.tail
theorem sn_Get_S5_7 : skim 64 sn_Get_P5.tail = sn_Get_P7 := by kernel_rfl
noncomputable def sn_Get_P8 : List Item := skim 64 (brT sn_Get_P7)
theorem sn_Get_S7_8 : skim 64 (brT sn_Get_P7) = sn_Get_P8 := by kernel_rfl
noncomputable def sn_Get_P9 : List Item := skim 64 (brF sn_Get_P7)
theorem sn_Get_S7_9 : skim 64 (brF sn_Get_P7) = sn_Get_P9 := by kernel_rfl
noncomputable def sn_Get_P10 : List Item := skim 64 sn_Get_P8.tail
theorem sn_Get_S8_10 : skim 64 sn_Get_P8.tail = sn_Get_P10 := by kernel_rfl
noncomputable def sn_Get_P11 : List Item := skim 64 sn_Get_P9.tail
theorem sn_Get_S9_11 : skim 64 sn_Get_P9.tail = sn_Get_P11 := by kernel_rfl
noncomputable def sn_Get_P12 : List Item := skim 64 sn_Get_P11.tail
theorem sn_Get_S11_12 : skim 64 sn_Get_P11.tail = sn_Get_P12 := by kernel_rfl
noncomputable def sn_Get_P13 : List Item := skim 64 (brT sn_Get_P12)
theorem sn_Get_S12_13 : skim 64 (brT sn_Get_P12) = sn_Get_P13 := by kernel_rfl
noncomputable def sn_Get_P14 : List Item := skim 64 (brF sn_Get_P12)
theorem sn_Get_S12_14 : skim 64 (brF sn_Get_P12) = sn_Get_P14 := by kernel_rfl
noncomputable def sn_Get_P15 : List Item := skim 64 sn_Get_P13.tail
theorem sn_Get_S13_15 : skim 64 sn_Get_P13.tail = sn_Get_P15 := by kernel_rfl
noncomputable def sn_Get_P16 : List Item := skim 64 sn_Get_P14.tail
theorem sn_Get_S14_16 : skim 64 sn_Get_P14.tail = sn_Get_P16 := by kernel_rfl
/-- snaps.go:273 -/
noncomputable def sn_Get_r0 (E : Env) (call round : CallT) (tm : T Value) : M (T Value) :=
  M.bind (kAlloc E 24) fun v4 =>
  setF 4 v4 tm fun tm1 =>
  mv (some (.int .i64 0)) fun v5 =>
  setF 5 v5 tm1 fun tm2 =>
  M.pure tm2
theorem sn_Get_q0 : RegEq 8 35 sn_Get_g sn_Get_P0 sn_Get_r0 := ⟨by kernel_rfl, fun _ _ _ _ _ _ _ _ _ => by kernel_rfl⟩
/-- snaps.go:274 -/
noncomputable def sn_Get_r1 (E : Env) (call round : CallT) (tm : T Value) : M (T Value) :=
  mv (T.get tm 0) fun v9 =>
  M.bind (M.on (some (.func (.func 19) #[] #[])) fun f => M.on (seqO [(some v9)]) fun l => callV call round f l) fun v10 =>
  mv (some v10) fun v6 =>
  setF 6 v6 tm fun tm1 =>
  M.pure tm1
theorem sn_Get_q1 : RegEq 8 35 sn_Get_g sn_Get_P1 sn_Get_r1 := ⟨by kernel_rfl, fun _ _ _ _ _ _ _ _ _ => by kernel_rfl⟩
/-- snaps.go:274 -/
noncomputable def sn_Get_r2 (E : Env) (call round : CallT) (tm : T Value) : M (T Value) :=
  mv (T.get tm 6) fun v11 =>
  M.bind (oS (some v11) fun a => oS (some (.int .i64 0)) fun b => Cl.get (aBin E .neq 39 (.tmp 11) (.const (.int .i64 0))) a b) fun v12 =>
  setF 12 v12 tm fun tm1 =>
  M.pure tm1
theorem sn_Get_q2 : RegEq 8 35 sn_Get_g sn_Get_P2 sn_Get_r2 := ⟨by kernel_rfl, fun _ _ _ _ _ _ _ _ _ => by kernel_rfl⟩
theorem sn_Get_C3 : condX sn_Get_P3 = some 12 := by kernel_rfl
/-- snaps.go:275 -/
noncomputable def sn_Get_r4 (E : Env) (call round : CallT) (tm : T Value) : M (T Value) :=
  M.bind (oS (seqP []) fun ps => aBuild E 24 ps) fun v13 =>
  mv (T.get tm 6) fun v14 =>
  M.bind (oS (T.get tm 4) fun a => oS (some v13) fun b => kStore E 24 a b) fun _ =>
  mv (some v14) fun v5 =>
  setF 5 v5 tm fun tm1 =>
  M.pure tm1
theorem sn_Get_q4 : RegEq 8 35 sn_Get_g sn_Get_P4 sn_Get_r4 := ⟨by kernel_rfl, fun _ _ _ _ _ _ _ _ _ => by kernel_rfl⟩
/-- snaps.go:277 -/
noncomputable def sn_Get_r5 (E : Env) (call round : CallT) (tm : T Value) : M (T Value) :=
  mv (T.get tm 1) fun v15 =>
  M.bind (oS (some v15) fun a => oS (some (.int .i64 1)) fun b => Cl.get (aBin E .lss 3 (.tmp 15) (.const (.int .i64 1))) a b) fun v16 =>
  mv (some v16) fun v17 =>
  M.bind (M.chk (isK v17) (M.if (isB v17 false) (oS (T.get tm 0) fun a => M.pure a) (M.pure undef))) fun v18 =>
  M.bind (M.chk (isK v17) (M.if (isB v17 false) (oS (T.get tm 1) fun a => M.pure a) (M.pure undef))) fun v19 =>
  M.bind (M.chk (isK v17) (M.if (isB v17 false) (M.on (some (.func (.func 30) #[] #[])) fun f => M.on (seqO [(some v19)]) fun l => callV call round f l) (M.pure undef))) fun v20 =>
  M.bind (M.chk (isK v17) (M.if (isB v17 false) (M.on (some (.func (.func 31) #[] #[])) fun f => M.on (seqO [(some v18), (some v20)]) fun l => callV call round f l) (M.pure undef))) fun v21 =>
  M.bind (M.chk (isK v17) (M.if (isB v17 false) (oS (some v21) fun a => kUn E.P .not a) (M.pure undef))) fun v22 =>
  M.bind (M.on (some v17) fun a => M.on (some (.bool true)) fun b => M.on (some v22) fun c => kPick a b c) fun v23 =>
  setF 23 v23 tm fun tm1 =>
  M.pure tm1
theorem sn_Get_q5 : RegEq 8 35 sn_Get_g sn_Get_P5 sn_Get_r5 := ⟨by kernel_rfl, fun _ _ _ _ _ _ _ _ _ => by kernel_rfl⟩
theorem sn_Get_E6 : ∃ k, sn_Get_P6 = .code .ret :: k := ⟨sn_Get_P6.tail, by kernel_rfl⟩
theorem sn_Get_C7 : condX sn_Get_P7 = some 23 := by kernel_rfl
/-- snaps.go:278 -/
noncomputable def sn_Get_r8 (E : Env) (call round : CallT) (tm : T Value) : M (T Value) :=
  M.bind (oS (seqP []) fun ps => aBuild E 24 ps) fun v24 =>
  M.bind (oS (T.get tm 4) fun a => oS (some v24) fun b => kStore E 24 a b) fun _ =>
  mv (some (.int .i64 6)) fun v5 =>
  setF 5 v5 tm fun tm1 =>
  M.pure tm1
theorem sn_Get_q8 : RegEq 8 35 sn_Get_g sn_Get_P8 sn_Get_r8 := ⟨by kernel_rfl, fun _ _ _ _ _ _ _ _ _ => by kernel_rfl⟩
/-- snaps.go:280 -/
noncomputable def sn_Get_r9 (E : Env) (call round : CallT) (tm : T Value) : M (T Value) :=
  mv (T.get tm 0) fun v26 =>
  mv (T.get tm 1) fun v27 =>
  M.bind (M.on (some (.func (.func 32) #[] #[])) fun f => M.on (seqO [(some v26), (some v27)]) fun l => callV call round f l) fun v28 =>
  mv (some v28) fun v25 =>
  M.bind (oS (some v25) fun a => kExt 0 a) fun v29 =>
  M.bind (oS (some v25) fun a => kExt 1 a) fun v30 =>
  M.bind (kAlloc E 24) fun v7 =>
  setF 7 v7 tm fun tm1 =>
  M.bind (oS (some v7) fun a => oS (some v29) fun b => kStore E 24 a b) fun _ =>
  mv (some v30) fun v8 =>
  setF 8 v8 tm1 fun tm2 =>
  M.pure tm2
theorem sn_Get_q9 : RegEq 8 35 sn_Get_g sn_Get_P9 sn_Get_r9 := ⟨by kernel_rfl, fun _ _ _ _ _ _ _ _ _ => by kernel_rfl⟩
theorem sn_Get_E10 : ∃ k, sn_Get_P10 = .code .ret :: k := ⟨sn_Get_P10.tail, by kernel_rfl⟩
/-- snaps.go:281 -/
noncomputable def sn_Get_r11 (E : Env) (call round : CallT) (tm : T Value) : M (T Value) :=
  mv (T.get tm 8) fun v31 =>
  M.bind (oS (some v31) fun a => kUn E.P .not a) fun v32 =>
  setF 32 v32 tm fun tm1 =>
  M.pure tm1
theorem sn_Get_q11 : RegEq 8 35 sn_Get_g sn_Get_P11 sn_Get_r11 := ⟨by kernel_rfl, fun _ _ _ _ _ _ _ _ _ => by kernel_rfl⟩
theorem sn_Get_C12 : condX sn_Get_P12 = some 32 := by kernel_rfl
/-- snaps.go:282 -/
noncomputable def sn_Get_r13 (E : Env) (call round : CallT) (tm : T Value) : M (T Value) :=
  M.bind (oS (seqP []) fun ps => aBuild E 24 ps) fun v33 =>
  M.bind (oS (T.get tm 4) fun a => oS (some v33) fun b => kStore E 24 a b) fun _ =>
  mv (some (.int .i64 11)) fun v5 =>
  setF 5 v5 tm fun tm1 =>
  M.pure tm1
theorem sn_Get_q13 : RegEq 8 35 sn_Get_g sn_Get_P13 sn_Get_r13 := ⟨by kernel_rfl, fun _ _ _ _ _ _ _ _ _ => by kernel_rfl⟩
/-- snaps.go:284 -/
noncomputable def sn_Get_r14 (E : Env) (call round : CallT) (tm : T Value) : M (T Value) :=
  M.bind (oS (T.get tm 7) fun a => kLoad E 24 a) fun v34 =>
  M.bind (oS (T.get tm 4) fun a => oS (some v34) fun b => kStore E 24 a b) fun _ =>
  mv (some (.int .i64 0)) fun v5 =>
  setF 5 v5 tm fun tm1 =>
  M.pure tm1
theorem sn_Get_q14 : RegEq 8 35 sn_Get_g sn_Get_P14 sn_Get_r14 := ⟨by kernel_rfl, fun _ _ _ _ _ _ _ _ _ => by kernel_rfl⟩
theorem sn_Get_E15 : ∃ k, sn_Get_P15 = .code .ret :: k := ⟨sn_Get_P15.tail, by kernel_rfl⟩
theorem sn_Get_E16 : ∃ k, sn_Get_P16 = .code .ret :: k := ⟨sn_Get_P16.tail, by kernel_rfl⟩
-- points: 0:region>[1], 1:region>[2], 2:region>[3], 3:cond>[4, 5], 4:region>[6], 5:region>[7], 6:ret>, 7:cond>[8, 9], 8:region>[10], 9:region>[11], 10:ret>, 11:region>[12], 12:cond>[13, 14], 13:region>[15], 14:region>[16], 15:ret>, 16:ret>

/-! ### (*satchel/snaps.Snaps).Of -/
noncomputable def sn_Of_g : Nat := globOf Tryz.f9
abbrev sn_Of_nt : Nat := 30
noncomputable def sn_Of_body : Code := Tryz.f9.body.getD .skip
theorem sn_Of_fn : envS.fn.get 9 = some Tryz.f9 := by kernel_rfl
theorem sn_Of_W {a0 a1 : Value} {n : Nat} {s : St} {Q : Value → St → Prop} (h : ∀ tm, T.get tm 0 = some a0 → T.get tm 1 = some a1 → W (runF envS n ⟨9, 30, sn_Of_g, tm, [.code sn_Of_body], .run, .normal, none⟩) (s.cxN cxN) fun p s1 => Q p.1 (s1.cxN s.cx)) : W (callW envS (runF envS n) 9 [a0, a1]) s Q :=
  W.call (by kernel_rfl) (by kernel_rfl) sn_Of_fn (by kernel_rfl) rfl rfl (by simp) (h _ (by kernel_rfl) (by kernel_rfl))
theorem sn_Of_res : Tryz.f9.results.toList = [.tmp 4, .tmp 5] := by kernel_rfl
noncomputable def sn_Of_P0 : List Item := skim 64 [.code sn_Of_body]
noncomputable def sn_Of_P1 : List Item := skim 64 sn_Of_P0.tail
theorem sn_Of_S0_1 : skim 64 sn_Of_P0.tail = sn_Of_P1 := by kernel_rfl
noncomputable def sn_Of_P2 : List Item := skim 64 sn_Of_P1.tail
theorem sn_Of_S1_2 : skim 64 sn_Of_P1.tail = sn_Of_P2 := by kernel_rfl
noncomputable def sn_Of_P3 : List Item := skim 64 sn_Of_P2.tail
theorem sn_Of_S2_3 : skim 64 sn_Of_P2.tail = sn_Of_P3 := by kernel_rfl
noncomputable def sn_Of_P4 : List Item := skim 64 sn_Of_P3.tail
theorem sn_Of_S3_4 : skim 64 sn_Of_P3.tail = sn_Of_P4 := by kernel_rfl
noncomputable def sn_Of_P5 : List Item := skim 64 (brT sn_Of_P4)
theorem sn_Of_S4_5 : skim 64 (brT sn_Of_P4) = sn_Of_P5 := by kernel_rfl
noncomputable def sn_Of_P6 : List Item := skim 64 (brF sn_Of_P4)
theorem sn_Of_S4_6 : skim 64 (brF sn_Of_P4) = sn_Of_P6 := by kernel_rfl
noncomputable def sn_Of_P7 : List Item := skim 64 sn_Of_P5.tail
theorem sn_Of_S5_7 : skim 64 sn_Of_P5.tail = sn_Of_P7 := by kernel_rfl
noncomputable def sn_Of_P8 : List Item := skim 64 sn_Of_P6.tail
theorem sn_Of_S6_8 : skim 64 sn_Of_P6.tail = sn_Of_P8 := by kernel_rfl
noncomputable def sn_Of_P9 : List Item := skim 64 sn_Of_P7.tail
theorem sn_Of_S7_9 : skim 64 sn_Of_P7.tail = sn_Of_P9 := by kernel_rfl
noncomputable def sn_Of_P10 : List Item := skim 64 (brT sn_Of_P9)
theorem sn_Of_S9_10 : skim 64 (brT sn_Of_P9) = sn_Of_P10 := by kernel_rfl
noncomputable def sn_Of_P11 : List Item := skim 64 (brF sn_Of_P9)
theorem sn_Of_S9_11 : skim 64 (brF sn_Of_P9) = sn_Of_P11 := by kernel_rfl
theorem sn_Of_S10_11 : skim 64 sn_Of_P10.tail = sn_Of_P11 := by kernel_rfl
theorem sn_Of_S11_3 : skim 64 sn_Of_P11.tail = sn_Of_P3 := by kernel_rfl
/-- snaps.go:287 -/
noncomputable def sn_Of_r0 (E : Env) (call round : CallT) (tm : T Value) : M (T Value) :=
  mv (some (.int .i64 0)) fun v4 =>
  setF 4 v4 tm fun tm1 =>
  mv (some (.bool false)) fun v5 =>
  setF 5 v5 tm1 fun tm2 =>
  M.pure tm2
theorem sn_Of_q0 : RegEq 9 30 sn_Of_g sn_Of_P0 sn_Of_r0 := ⟨by kernel_rfl, fun _ _ _ _ _ _ _ _ _ => by kernel_rfl⟩
/-- snaps.go:288 -/
noncomputable def sn_Of_r1 (E : Env) (call round : CallT) (tm : T Value) : M (T Value) :=
  mv (some (.int .i64 0)) fun v6 =>
  setF 6 v6 tm fun tm1 =>
  M.pure tm1
theorem sn_Of_q1 : RegEq 9 30 sn_Of_g sn_Of_P1 sn_Of_r1 := ⟨by kernel_rfl, fun _ _ _ _ _ _ _ _ _ => by kernel_rfl⟩
/-- snaps.go:289 -/
noncomputable def sn_Of_r2 (E : Env) (call round : CallT) (tm : T Value) : M (T Value) :=
  mv (T.get tm 0) fun v9 =>
  M.bind (M.on (some (.func (.func 11) #[] #[])) fun f => M.on (seqO [(some v9)]) fun l => callV call round f l) fun v10 =>
  setF 10 v10 tm fun tm1 =>
  M.bind (oS (seqO [(some v10)]) fun l => aBuiltin E .len [49] l) fun v11 =>
  setF 11 v11 tm1 fun tm2 =>
  mv (some (.int .i64 0)) fun v12 =>
  setF 12 v12 tm2 fun tm3 =>
  M.pure tm3
theorem sn_Of_q2 : RegEq 9 30 sn_Of_g sn_Of_P2 sn_Of_r2 := ⟨by kernel_rfl, fun _ _ _ _ _ _ _ _ _ => by kernel_rfl⟩
/-- snaps.go:289 -/
noncomputable def sn_Of_r3 (E : Env) (call round : CallT) (tm : T Value) : M (T Value) :=
  M.bind (oS (T.get tm 12) fun a => oS (T.get tm 11) fun b => Cl.get (aBin E .lss 3 (.tmp 12) (.tmp 11)) a b) fun v13 =>
  setF 13 v13 tm fun tm1 =>
  M.pure tm1
theorem sn_Of_q3 : RegEq 9 30 sn_Of_g sn_Of_P3 sn_Of_r3 := ⟨by kernel_rfl, fun _ _ _ _ _ _ _ _ _ => by kernel_rfl⟩
theorem sn_Of_C4 : condX sn_Of_P4 = some 13 := by kernel_rfl
/-- snaps.go:289 -/
noncomputable def sn_Of_r5 (E : Env) (call round : CallT) (tm : T Value) : M (T Value) :=
  M.bind (oS (T.get tm 10) fun a => oS (T.get tm 12) fun b => kIdxA E 49 a b) fun v14 =>
  M.bind (oS (some v14) fun a => kLoad E 61 a) fun v15 =>
  M.bind (kAlloc E 61) fun v8 =>
  setF 8 v8 tm fun tm1 =>
  M.bind (oS (some v8) fun a => oS (some v15) fun b => kStore E 61 a b) fun _ =>
  M.pure tm1
theorem sn_Of_q5 : RegEq 9 30 sn_Of_g sn_Of_P5 sn_Of_r5 := ⟨by kernel_rfl, fun _ _ _ _ _ _ _ _ _ => by kernel_rfl⟩
/-- snaps.go:294 -/
noncomputable def sn_Of_r6 (E : Env) (call round : CallT) (tm : T Value) : M (T Value) :=
  mv (T.get tm 6) fun v27 =>
  mv (T.get tm 6) fun v28 =>
  M.bind (oS (some v28) fun a => oS (some (.int .i64 0)) fun b => Cl.get (aBin E .gtr 3 (.tmp 28) (.const (.int .i64 0))) a b) fun v29 =>
  mv (some v27) fun v4 =>
  setF 4 v4 tm fun tm1 =>
  mv (some v29) fun v5 =>
  setF 5 v5 tm1 fun tm2 =>
  M.pure tm2
theorem sn_Of_q6 : RegEq 9 30 sn_Of_g sn_Of_P6 sn_Of_r6 := ⟨by kernel_rfl, fun _ _ _ _ _ _ _ _ _ => by kernel_rfl⟩
/-- snaps.go:290 -/
noncomputable def sn_Of_r7 (E : Env) (call round : CallT) (tm : T Value) : M (T Value) :=
  M.bind (oS (T.get tm 8) fun a => kFld E 61 a 3) fun v16 =>
  M.bind (oS (some v16) fun a => kLoad E 4 a) fun v17 =>
  mv (some v17) fun v18 =>
  M.bind (M.chk (isK v18) (M.if (isB v18 true) (oS (T.get tm 8) fun a => kFld E 61 a 2) (M.pure undef))) fun v19 =>
  M.bind (M.chk (isK v18) (M.if (isB v18 true) (oS (some v19) fun a => kLoad E 3 a) (M.pure undef))) fun v20 =>
  M.bind (M.chk (isK v18) (M.if (isB v18 true) (oS (T.get tm 1) fun a => M.pure a) (M.pure undef))) fun v21 =>
  M.bind (M.chk (isK v18) (M.if (isB v18 true) (oS (some v20) fun a => oS (some v21) fun b => Cl.get (aBin E .eql 3 (.tmp 20) (.tmp 21)) a b) (M.pure undef))) fun v22 =>
  M.bind (M.on (some v18) fun a => M.on (some v22) fun b => M.on (some (.bool false)) fun c => kPick a b c) fun v23 =>
  setF 23 v23 tm fun tm1 =>
  M.pure tm1
theorem sn_Of_q7 : RegEq 9 30 sn_Of_g sn_Of_P7 sn_Of_r7 := ⟨by kernel_rfl, fun _ _ _ _ _ _ _ _ _ => by kernel_rfl⟩
theorem sn_Of_E8 : ∃ k, sn_Of_P8 = .code .ret :: k := ⟨sn_Of_P8.tail, by kernel_rfl⟩
theorem sn_Of_C9 : condX sn_Of_P9 = some 23 := by kernel_rfl
/-- snaps.go:291 -/
noncomputable def sn_Of_r10 (E : Env) (call round : CallT) (tm : T Value) : M (T Value) :=
  M.bind (oS (T.get tm 8) fun a => kFld E 61 a 0) fun v24 =>
  M.bind (oS (some v24) fun a => kLoad E 3 a) fun v25 =>
  mv (some v25) fun v6 =>
  setF 6 v6 tm fun tm1 =>
  M.pure tm1
theorem sn_Of_q10 : RegEq 9 30 sn_Of_g sn_Of_P10 sn_Of_r10 := ⟨by kernel_rfl, fun _ _ _ _ _ _ _ _ _ => by kernel_rfl⟩
/-- snaps.go:289 -/
noncomputable def sn_Of_r11 (E : Env) (call round : CallT) (tm : T Value) : M (T Value) :=
  M.bind (oS (T.get tm 12) fun a => oS (some (.int .i64 1)) fun b => Cl.get (aBin E .add 3 (.tmp 12) (.const (.int .i64 1))) a b) fun v26 =>
  mv (some v26) fun v12 =>
  setF 12 v12 tm fun tm1 =>
  M.pure tm1
theorem sn_Of_q11 : RegEq 9 30 sn_Of_g sn_Of_P11 sn_Of_r11 := ⟨by kernel_rfl, fun _ _ _ _ _ _ _ _ _ => by kernel_rfl⟩
-- points: 0:region>[1], 1:region>[2], 2:region>[3], 3:region>[4], 4:cond>[5, 6], 5:region>[7], 6:region>[8], 7:region>[9], 8:ret>, 9:cond>[10, 11], 10:region>[11], 11:region>[3]

/-! ### (*satchel/snaps.Snaps).Forget -/
noncomputable def sn_Forget_g : Nat := globOf Tryz.f10
abbrev sn_Forget_nt : Nat := 35
noncomputable def sn_Forget_body : Code := Tryz.f10.body.getD .skip
theorem sn_Forget_fn : envS.fn.get 10 = some Tryz.f10 := by kernel_rfl
theorem sn_Forget_W {a0 a1 : Value} {n : Nat} {s : St} {Q : Value → St → Prop} (h : ∀ tm, T.get tm 0 = some a0 → T.get tm 1 = some a1 → W (runF envS n ⟨10, 35, sn_Forget_g, tm, [.code sn_Forget_body], .run, .normal, none⟩) (s.cxN cxN) fun p s1 => Q p.1 (s1.cxN s.cx)) : W (callW envS (runF envS n) 10 [a0, a1]) s Q :=
  W.call (by kernel_rfl) (by kernel_rfl) sn_Forget_fn (by kernel_rfl) rfl rfl (by simp) (h _ (by kernel_rfl) (by kernel_rfl))
theorem sn_Forget_res : Tryz.f10.results.toList = [.tmp 4] := by kernel_rfl
noncomputable def sn_Forget_P0 : List Item := skim 64 [.code sn_Forget_body]
noncomputable def sn_Forget_P1 : List Item := skim 64 sn_Forget_P0.tail
theorem sn_Forget_S0_1 : skim 64 sn_Forget_P0.tail = sn_Forget_P1 := by kernel_rfl
noncomputable def sn_Forget_P2 : List Item := skim 64 sn_Forget_P1.tail
theorem sn_Forget_S1_2 : skim 64 sn_Forget_P1.tail = sn_Forget_P2 := by kernel_rfl
noncomputable def sn_Forget_P3 : List Item := skim 64 sn_Forget_P2.tail
theorem sn_Forget_S2_3 : skim 64 sn_Forget_P2.tail = sn_Forget_P3 := by kernel_rfl
noncomputable def sn_Forget_P4 : List Item := skim 64 (brT sn_Forget_P3)
theorem sn_Forget_S3_4 : skim 64 (brT sn_Forget_P3) = sn_Forget_P4 := by kernel_rfl
noncomputable def sn_Forget_P5 : List Item := skim 64 (brF sn_Forget_P3)
theorem sn_Forget_S3_5 : skim 64 (brF sn_Forget_P3) = sn_Forget_P5 := by kernel_rfl
noncomputable def sn_Forget_P6 : List Item := skim 64 sn_Forget_P4.tail
theorem sn_Forget_S4_6 : skim 64 sn_Forget_P4.tail = sn_Forget_P6 := by kernel_rfl
noncomputable def sn_Forget_P7 : List Item := skim 64 sn_Forget_P5.tail
theorem sn_Forget_S5_7 : skim 64 sn_Forget_P5.tail = sn_Forget_P7 := by kernel_rfl
noncomputable def sn_Forget_P8 : List Item := skim 64 (brT sn_Forget_P7)
theorem sn_Forget_S7_8 : skim 64 (brT sn_Forget_P7) = sn_Forget_P8 := by kernel_rfl
noncomputable def sn_Forget_P9 : List Item := skim 64 (brF sn_Forget_P7)
theorem sn_Forget_S7_9 : skim 64 (brF sn_Forget_P7) = sn_Forget_P9 := by kernel_rfl
noncomputable def sn_Forget_P10 : List Item := skim 64 sn_Forget_P8.tail
theorem sn_Forget_S8_10 : skim 64 sn_Forget_P8.tail = sn_Forget_P10 := by kernel_rfl
noncomputable def sn_Forget_P11 : List Item := skim 64 sn_Forget_P9.tail
theorem sn_Forget_S9_11 : skim 64 sn_Forget_P9.tail = sn_Forget_P11 := by kernel_rfl
noncomputable def sn_Forget_P12 : List Item := skim 64 (brT sn_Forget_P11)
theorem sn_Forget_S11_12 : skim 64 (brT sn_Forget_P11) = sn_Forget_P12 := by kernel_rfl
noncomputable def sn_Forget_P13 : List Item := skim 64 (brF sn_Forget_P11)
theorem sn_Forget_S11_13 : skim 64 (brF sn_Forget_P11) = sn_Forget_P13 := by kernel_rfl
noncomputable def sn_Forget_P14 : List Item := skim 64 sn_Forget_P12.tail
theorem sn_Forget_S12_14 : skim 64 sn_Forget_P12.tail = sn_Forget_P14 := by kernel_rfl
noncomputable def sn_Forget_P15 : List Item := skim 64 sn_Forget_P13.tail
theorem sn_Forget_S13_15 : skim 64 sn_Forget_P13.tail = sn_Forget_P15 := by kernel_rfl
/-- snaps.go:208 -/
noncomputable def sn_Forget_r0 (E : Env) (call round : CallT) (tm : T Value) : M (T Value) :=
  mv (some (.int .i64 0)) fun v4 =>
  setF 4 v4 tm fun tm1 =>
  M.pure tm1
theorem sn_Forget_q0 : RegEq 10 35 sn_Forget_g sn_Forget_P0 sn_Forget_r0 := ⟨by kernel_rfl, fun _ _ _ _ _ _ _ _ _ => by kernel_rfl⟩
/-- snaps.go:209 -/
noncomputable def sn_Forget_r1 (E : Env) (call round : CallT) (tm : T Value) : M (T Value) :=
  mv (T.get tm 0) fun v6 =>
  M.bind (M.on (some (.func (.func 19) #[] #[])) fun f => M.on (seqO [(some v6)]) fun l => callV call round f l) fun v7 =>
  mv (some v7) fun v5 =>
  setF 5 v5 tm fun tm1 =>
  M.pure tm1
theorem sn_Forget_q1 : RegEq 10 35 sn_Forget_g sn_Forget_P1 sn_Forget_r1 := ⟨by kernel_rfl, fun _ _ _ _ _ _ _ _ _ => by kernel_rfl⟩
/-- snaps.go:209 -/
noncomputable def sn_Forget_r2 (E : Env) (call round : CallT) (tm : T Value) : M (T Value) :=
  mv (T.get tm 5) fun v8 =>
  M.bind (oS (some v8) fun a => oS (some (.int .i64 0)) fun b => Cl.get (aBin E .neq 39 (.tmp 8) (.const (.int .i64 0))) a b) fun v9 =>
  setF 9 v9 tm fun tm1 =>
  M.pure tm1
theorem sn_Forget_q2 : RegEq 10 35 sn_Forget_g sn_Forget_P2 sn_Forget_r2 := ⟨by kernel_rfl, fun _ _ _ _ _ _ _ _ _ => by kernel_rfl⟩
theorem sn_Forget_C3 : condX sn_Forget_P3 = some 9 := by kernel_rfl
/-- snaps.go:210 -/
noncomputable def sn_Forget_r4 (E : Env) (call round : CallT) (tm : T Value) : M (T Value) :=
  mv (T.get tm 5) fun v10 =>
  mv (some v10) fun v4 =>
  setF 4 v4 tm fun tm1 =>
  M.pure tm1
theorem sn_Forget_q4 : RegEq 10 35 sn_Forget_g sn_Forget_P4 sn_Forget_r4 := ⟨by kernel_rfl, fun _ _ _ _ _ _ _ _ _ => by kernel_rfl⟩
/-- snaps.go:212 -/
noncomputable def sn_Forget_r5 (E : Env) (call round : CallT) (tm : T Value) : M (T Value) :=
  mv (T.get tm 1) fun v11 =>
  M.bind (oS (some v11) fun a => oS (some (.int .i64 1)) fun b => Cl.get (aBin E .lss 3 (.tmp 11) (.const (.int .i64 1))) a b) fun v12 =>
  mv (some v12) fun v13 =>
  M.bind (M.chk (isK v13) (M.if (isB v13 false) (oS (T.get tm 1) fun a => M.pure a) (M.pure undef))) fun v14 =>
  M.bind (M.chk (isK v13) (M.if (isB v13 false) (oS (T.get tm 0) fun a => M.pure a) (M.pure undef))) fun v15 =>
  M.bind (M.chk (isK v13) (M.if (isB v13 false) (M.on (some (.func (.func 20) #[] #[])) fun f => M.on (seqO [(some v15)]) fun l => callV call round f l) (M.pure undef))) fun v16 =>
  M.bind (M.chk (isK v13) (M.if (isB v13 false) (oS (some v14) fun a => oS (some v16) fun b => Cl.get (aBin E .gtr 3 (.tmp 14) (.tmp 16)) a b) (M.pure undef))) fun v17 =>
  M.bind (M.on (some v13) fun a => M.on (some (.bool true)) fun b => M.on (some v17) fun c => kPick a b c) fun v18 =>
  setF 18 v18 tm fun tm1 =>
  M.pure tm1
theorem sn_Forget_q5 : RegEq 10 35 sn_Forget_g sn_Forget_P5 sn_Forget_r5 := ⟨by kernel_rfl, fun _ _ _ _ _ _ _ _ _ => by kernel_rfl⟩
theorem sn_Forget_E6 : ∃ k, sn_Forget_P6 = .code .ret :: k := ⟨sn_Forget_P6.tail, by kernel_rfl⟩
theorem sn_Forget_C7 : condX sn_Forget_P7 = some 18 := by kernel_rfl
/-- snaps.go:213 -/
noncomputable def sn_Forget_r8 (E : Env) (call round : CallT) (tm : T Value) : M (T Value) :=
  mv (some (.int .i64 6)) fun v4 =>
  setF 4 v4 tm fun tm1 =>
  M.pure tm1
theorem sn_Forget_q8 : RegEq 10 35 sn_Forget_g sn_Forget_P8 sn_Forget_r8 := ⟨by kernel_rfl, fun _ _ _ _ _ _ _ _ _ => by kernel_rfl⟩
/-- snaps.go:215 -/
noncomputable def sn_Forget_r9 (E : Env) (call round : CallT) (tm : T Value) : M (T Value) :=
  mv (T.get tm 0) fun v19 =>
  mv (T.get tm 1) fun v20 =>
  M.bind (M.on (some (.func (.func 30) #[] #[])) fun f => M.on (seqO [(some v20)]) fun l => callV call round f l) fun v21 =>
  M.bind (M.on (some (.func (.func 31) #[] #[])) fun f => M.on (seqO [(some v19), (some v21)]) fun l => callV call round f l) fun v22 =>
  M.bind (oS (some v22) fun a => kUn E.P .not a) fun v23 =>
  setF 23 v23 tm fun tm1 =>
  M.pure tm1
theorem sn_Forget_q9 : RegEq 10 35 sn_Forget_g sn_Forget_P9 sn_Forget_r9 := ⟨by kernel_rfl, fun _ _ _ _ _ _ _ _ _ => by kernel_rfl⟩
theorem sn_Forget_E10 : ∃ k, sn_Forget_P10 = .code .ret :: k := ⟨sn_Forget_P10.tail, by kernel_rfl⟩
theorem sn_Forget_C11 : condX sn_Forget_P11 = some 23 := by kernel_rfl
/-- snaps.go:216 -/
noncomputable def sn_Forget_r12 (E : Env) (call round : CallT) (tm : T Value) : M (T Value) :=
  mv (some (.int .i64 0)) fun v4 =>
  setF 4 v4 tm fun tm1 =>
  M.pure tm1
theorem sn_Forget_q12 : RegEq 10 35 sn_Forget_g sn_Forget_P12 sn_Forget_r12 := ⟨by kernel_rfl, fun _ _ _ _ _ _ _ _ _ => by kernel_rfl⟩
/-- snaps.go:218; the order is open -/
noncomputable def sn_Forget_d13 (E : Env) (call round : CallT) (tm : T Value) : M ((Rho × T Value) × List OpLog) :=
  M.bind (apartO (oS (T.get tm 0) fun a => M.pure a)) fun p0 =>
  M.bind (apartO (oS (T.get tm 0) fun a => M.pure a)) fun p1 =>
  M.bind (apartO (oS (some p1.1) fun a => kNil a)) fun p2 =>
  M.bind (apartO (oS (some p2.1) fun a => kFld E 37 a 0)) fun p3 =>
  M.bind (apartO (oS (some p3.1) fun a => kLoad E 35 a)) fun p4 =>
  M.bind (apartO (oS (T.get tm 0) fun a => M.pure a)) fun p5 =>
  M.bind (apartO (oS (T.get tm 1) fun a => M.pure a)) fun p6 =>
  M.bind (apartO (M.on (some (.func (.func 30) #[] #[])) fun f => M.on (seqO [(some p6.1)]) fun l => callV call round f l)) fun p7 =>
  M.bind (apartO (M.on (some (.func (.func 29) #[] #[])) fun f => M.on (seqO [(some p5.1), (some p7.1)]) fun l => callV call round f l)) fun p8 =>
  M.bind (apartO (M.on (some (.func (.func 28) #[] #[])) fun f => M.on (seqO [(some p4.1), (some p8.1)]) fun l => callV call round f l)) fun p9 =>
  M.bind (apartO (M.on (some (.func (.func 27) #[] #[])) fun f => M.on (seqO [(some p0.1), (some p9.1)]) fun l => callV call round f l)) fun p10 =>
  M.pure (([p10.1, p9.1, p8.1, p7.1, p6.1, p5.1, p4.1, p3.1, p2.1, p1.1, p0.1], tm), [p10.2, p9.2, p8.2, p7.2, p6.2, p5.2, p4.2, p3.2, p2.2, p1.2, p0.2])
theorem sn_Forget_q13 : DrawEq 10 35 sn_Forget_g sn_Forget_P13 [0, 0, 2, 6, 14, 0, 0, 64, 224, 510, 1023, 2047] sn_Forget_d13 := ⟨by kernel_rfl, by kernel_rfl, fun _ _ _ _ _ _ _ _ _ => by kernel_rfl⟩
theorem sn_Forget_L13 (E : Env) (call round : CallT) (x24 x25 x26 x27 x28 x29 x30 x31 x32 x33 x34 : Value) (tm : T Value) (s : St) : opsIn call round (lastOps E sn_Forget_g 35 (hdC sn_Forget_P13)) [x34, x33, x32, x31, x30, x29, x28, x27, x26, x25, x24] tm s = (M.bind (oS (some x34) fun a => M.pure a) fun v4 => setT 4 v4 tm fun tm1 => M.pure tm1) s := by kernel_rfl
theorem sn_Forget_E14 : ∃ k, sn_Forget_P14 = .code .ret :: k := ⟨sn_Forget_P14.tail, by kernel_rfl⟩
theorem sn_Forget_E15 : ∃ k, sn_Forget_P15 = .code .ret :: k := ⟨sn_Forget_P15.tail, by kernel_rfl⟩
-- points: 0:region>[1], 1:region>[2], 2:region>[3], 3:cond>[4, 5], 4:region>[6], 5:region>[7], 6:ret>, 7:cond>[8, 9], 8:region>[10], 9:region>[11], 10:ret>, 11:cond>[12, 13], 12:region>[14], 13:region>[15], 14:ret>, 15:ret>

/-! ### (*satchel/snaps.Snaps).List -/
noncomputable def sn_List_g : Nat := globOf Tryz.f11
abbrev sn_List_nt : Nat := 36
noncomputable def sn_List_body : Code := Tryz.f11.body.getD .skip
theorem sn_List_fn : envS.fn.get 11 = some Tryz.f11 := by kernel_rfl
theorem sn_List_W {a0 : Value} {n : Nat} {s : St} {Q : Value → St → Prop} (h : ∀ tm, T.get tm 0 = some a0 → W (runF envS n ⟨11, 36, sn_List_g, tm, [.code sn_List_body], .run, .normal, none⟩) (s.cxN cxN) fun p s1 => Q p.1 (s1.cxN s.cx)) : W (callW envS (runF envS n) 11 [a0]) s Q :=
  W.call (by kernel_rfl) (by kernel_rfl) sn_List_fn (by kernel_rfl) rfl rfl (by simp) (h _ (by kernel_rfl))
theorem sn_List_res : Tryz.f11.results.toList = [.tmp 2] := by kernel_rfl
noncomputable def sn_List_P0 : List Item := skim 64 [.code sn_List_body]
noncomputable def sn_List_P1 : List Item := skim 64 sn_List_P0.tail
theorem sn_List_S0_1 : skim 64 sn_List_P0.tail = sn_List_P1 := by kernel_rfl
noncomputable def sn_List_P2 : List Item := skim 64 sn_List_P1.tail
theorem sn_List_S1_2 : skim 64 sn_List_P1.tail = sn_List_P2 := by kernel_rfl
noncomputable def sn_List_P3 : List Item := skim 64 (brT sn_List_P2)
theorem sn_List_S2_3 : skim 64 (brT sn_List_P2) = sn_List_P3 := by kernel_rfl
noncomputable def sn_List_P4 : List Item := skim 64 (brF sn_List_P2)
theorem sn_List_S2_4 : skim 64 (brF sn_List_P2) = sn_List_P4 := by kernel_rfl
noncomputable def sn_List_P5 : List Item := skim 64 sn_List_P3.tail
theorem sn_List_S3_5 : skim 64 sn_List_P3.tail = sn_List_P5 := by kernel_rfl
noncomputable def sn_List_P6 : List Item := skim 64 sn_List_P4.tail
theorem sn_List_S4_6 : skim 64 sn_List_P4.tail = sn_List_P6 := by kernel_rfl
noncomputable def sn_List_P7 : List Item := skim 64 sn_List_P6.tail
theorem sn_List_S6_7 : skim 64 sn_List_P6.tail = sn_List_P7 := by kernel_rfl
noncomputable def sn_List_P8 : List Item := skim 64 sn_List_P7.tail
theorem sn_List_S7_8 : skim 64 sn_List_P7.tail = sn_List_P8 := by kernel_rfl
noncomputable def sn_List_P9 : List Item := skim 64 (brT sn_List_P8)
theorem sn_List_S8_9 : skim 64 (brT sn_List_P8) = sn_List_P9 := by kernel_rfl
noncomputable def sn_List_P10 : List Item := skim 64 (brF sn_List_P8)
theorem sn_List_S8_10 : skim 64 (brF sn_List_P8) = sn_List_P10 := by kernel_rfl
noncomputable def sn_List_P11 : List Item := skim 64 sn_List_P9.tail
theorem sn_List_S9_11 : skim 64 sn_List_P9.tail = sn_List_P11 := by kernel_rfl
noncomputable def sn_List_P12 : List Item := skim 64 sn_List_P10.tail
theorem sn_List_S10_12 : skim 64 sn_List_P10.tail = sn_List_P12 := by kernel_rfl
noncomputable def sn_List_P13 : List Item := skim 64 sn_List_P11.tail
theorem sn_List_S11_13 : skim 64 sn_List_P11.tail = sn_List_P13 := by kernel_rfl
noncomputable def sn_List_P14 : List Item := skim 64 sn_List_P13.tail
theorem sn_List_S13_14 : skim 64 sn_List_P13.tail = sn_List_P14 := by kernel_rfl
theorem sn_List_S14_7 : skim 64 sn_List_P14.tail = sn_List_P7 := by kernel_rfl
/-- snaps.go:261 -/
noncomputable def sn_List_r0 (E : Env) (call round : CallT) (tm : T Value) : M (T Value) :=
  mv (some (.slice none 0 0)) fun v2 =>
  setF 2 v2 tm fun tm1 =>
  M.pure tm1
theorem sn_List_q0 : RegEq 11 36 sn_List_g sn_List_P0 sn_List_r0 := ⟨by kernel_rfl, fun _ _ _ _ _ _ _ _ _ => by kernel_rfl⟩
/-- snaps.go:262 -/
noncomputable def sn_List_r1 (E : Env) (call round : CallT) (tm : T Value) : M (T Value) :=
  mv (T.get tm 0) fun v8 =>
  M.bind (M.on (some (.func (.func 19) #[] #[])) fun f => M.on (seqO [(some v8)]) fun l => callV call round f l) fun v9 =>
  M.bind (oS (some v9) fun a => oS (some (.int .i64 0)) fun b => Cl.get (aBin E .neq 39 (.tmp 9) (.const (.int .i64 0))) a b) fun v10 =>
  setF 10 v10 tm fun tm1 =>
  M.pure tm1
theorem sn_List_q1 : RegEq 11 36 sn_List_g sn_List_P1 sn_List_r1 := ⟨by kernel_rfl, fun _ _ _ _ _ _ _ _ _ => by kernel_rfl⟩
theorem sn_List_C2 : condX sn_List_P2 = some 10 := by kernel_rfl
/-- snaps.go:263 -/
noncomputable def sn_List_r3 (E : Env) (call round : CallT) (tm : T Value) : M (T Value) :=
  mv (some (.slice none 0 0)) fun v2 =>
  setF 2 v2 tm fun tm1 =>
  M.pure tm1
theorem sn_List_q3 : RegEq 11 36 sn_List_g sn_List_P3 sn_List_r3 := ⟨by kernel_rfl, fun _ _ _ _ _ _ _ _ _ => by kernel_rfl⟩
/-- snaps.go:265 -/
noncomputable def sn_List_r4 (E : Env) (call round : CallT) (tm : T Value) : M (T Value) :=
  mv (some (.slice none 0 0)) fun v3 =>
  setF 3 v3 tm fun tm1 =>
  M.pure tm1
theorem sn_List_q4 : RegEq 11 36 sn_List_g sn_List_P4 sn_List_r4 := ⟨by kernel_rfl, fun _ _ _ _ _ _ _ _ _ => by kernel_rfl⟩
theorem sn_List_E5 : ∃ k, sn_List_P5 = .code .ret :: k := ⟨sn_List_P5.tail, by kernel_rfl⟩
/-- snaps.go:266 -/
noncomputable def sn_List_r6 (E : Env) (call round : CallT) (tm : T Value) : M (T Value) :=
  mv (T.get tm 0) fun v11 =>
  M.bind (M.on (some (.func (.func 21) #[] #[])) fun f => M.on (seqO [(some v11), (some (.string { data := #[115, 110, 97, 112] }))]) fun l => callV call round f l) fun v12 =>
  setF 12 v12 tm fun tm1 =>
  M.bind (oS (seqO [(some v12)]) fun l => aBuiltin E .len [27] l) fun v13 =>
  setF 13 v13 tm1 fun tm2 =>
  mv (some (.int .i64 0)) fun v14 =>
  setF 14 v14 tm2 fun tm3 =>
  M.pure tm3
theorem sn_List_q6 : RegEq 11 36 sn_List_g sn_List_P6 sn_List_r6 := ⟨by kernel_rfl, fun _ _ _ _ _ _ _ _ _ => by kernel_rfl⟩
/-- snaps.go:266 -/
noncomputable def sn_List_r7 (E : Env) (call round : CallT) (tm : T Value) : M (T Value) :=
  M.bind (oS (T.get tm 14) fun a => oS (T.get tm 13) fun b => Cl.get (aBin E .lss 3 (.tmp 14) (.tmp 13)) a b) fun v15 =>
  setF 15 v15 tm fun tm1 =>
  M.pure tm1
theorem sn_List_q7 : RegEq 11 36 sn_List_g sn_List_P7 sn_List_r7 := ⟨by kernel_rfl, fun _ _ _ _ _ _ _ _ _ => by kernel_rfl⟩
theorem sn_List_C8 : condX sn_List_P8 = some 15 := by kernel_rfl
/-- snaps.go:266 -/
noncomputable def sn_List_r9 (E : Env) (call round : CallT) (tm : T Value) : M (T Value) :=
  M.bind (oS (T.get tm 12) fun a => oS (T.get tm 14) fun b => kIdxA E 27 a b) fun v16 =>
  M.bind (oS (some v16) fun a => kLoad E 3 a) fun v17 =>
  mv (some v17) fun v5 =>
  setF 5 v5 tm fun tm1 =>
  M.pure tm1
theorem sn_List_q9 : RegEq 11 36 sn_List_g sn_List_P9 sn_List_r9 := ⟨by kernel_rfl, fun _ _ _ _ _ _ _ _ _ => by kernel_rfl⟩
/-- snaps.go:270 -/
noncomputable def sn_List_r10 (E : Env) (call round : CallT) (tm : T Value) : M (T Value) :=
  mv (T.get tm 3) fun v35 =>
  mv (some v35) fun v2 =>
  setF 2 v2 tm fun tm1 =>
  M.pure tm1
theorem sn_List_q10 : RegEq 11 36 sn_List_g sn_List_P10 sn_List_r10 := ⟨by kernel_rfl, fun _ _ _ _ _ _ _ _ _ => by kernel_rfl⟩
/-- snaps.go:267 -/
noncomputable def sn_List_r11 (E : Env) (call round : CallT) (tm : T Value) : M (T Value) :=
  mv (T.get tm 0) fun v19 =>
  mv (T.get tm 5) fun v20 =>
  M.bind (M.on (some (.func (.func 32) #[] #[])) fun f => M.on (seqO [(some v19), (some v20)]) fun l => callV call round f l) fun v21 =>
  mv (some v21) fun v18 =>
  M.bind (oS (some v18) fun a => kExt 0 a) fun v22 =>
  M.bind (oS (some v18) fun a => kExt 1 a) fun v23 =>
  M.bind (kAlloc E 24) fun v6 =>
  setF 6 v6 tm fun tm1 =>
  M.bind (oS (some v6) fun a => oS (some v22) fun b => kStore E 24 a b) fun _ =>
  mv (some v23) fun v7 =>
  setF 7 v7 tm1 fun tm2 =>
  M.pure tm2
theorem sn_List_q11 : RegEq 11 36 sn_List_g sn_List_P11 sn_List_r11 := ⟨by kernel_rfl, fun _ _ _ _ _ _ _ _ _ => by kernel_rfl⟩
theorem sn_List_E12 : ∃ k, sn_List_P12 = .code .ret :: k := ⟨sn_List_P12.tail, by kernel_rfl⟩
/-- snaps.go:268 -/
noncomputable def sn_List_r13 (E : Env) (call round : CallT) (tm : T Value) : M (T Value) :=
  mv (T.get tm 3) fun v24 =>
  mv (T.get tm 5) fun v25 =>
  M.bind (oS (T.get tm 6) fun a => kFld E 24 a 3) fun v26 =>
  M.bind (oS (some v26) fun a => kLoad E 3 a) fun v27 =>
  M.bind (oS (T.get tm 6) fun a => kFld E 24 a 1) fun v28 =>
  M.bind (oS (some v28) fun a => kLoad E 3 a) fun v29 =>
  mv (T.get tm 7) fun v30 =>
  M.bind (oS (seqP [(0, (some v25)), (1, (some v27)), (2, (some v29)), (3, (some v30))]) fun ps => aBuild E 61 ps) fun v31 =>
  M.bind (oS (seqP [(0, (some v31))]) fun ps => aBuildS E 49 1 ps) fun v32 =>
  M.bind (oS (seqO [(some v24), (some v32)]) fun l => aBuiltin E .append [49, 49] l) fun v33 =>
  mv (some v33) fun v3 =>
  setF 3 v3 tm fun tm1 =>
  M.pure tm1
theorem sn_List_q13 : RegEq 11 36 sn_List_g sn_List_P13 sn_List_r13 := ⟨by kernel_rfl, fun _ _ _ _ _ _ _ _ _ => by kernel_rfl⟩
/-- snaps.go:266 -/
noncomputable def sn_List_r14 (E : Env) (call round : CallT) (tm : T Value) : M (T Value) :=
  M.bind (oS (T.get tm 14) fun a => oS (some (.int .i64 1)) fun b => Cl.get (aBin E .add 3 (.tmp 14) (.const (.int .i64 1))) a b) fun v34 =>
  mv (some v34) fun v14 =>
  setF 14 v14 tm fun tm1 =>
  M.pure tm1
theorem sn_List_q14 : RegEq 11 36 sn_List_g sn_List_P14 sn_List_r14 := ⟨by kernel_rfl, fun _ _ _ _ _ _ _ _ _ => by kernel_rfl⟩
-- points: 0:region>[1], 1:region>[2], 2:cond>[3, 4], 3:region>[5], 4:region>[6], 5:ret>, 6:region>[7], 7:region>[8], 8:cond>[9, 10], 9:region>[11], 10:region>[12], 11:region>[13], 12:ret>, 13:region>[14], 14:region>[7]

/-! ### (*satchel/snaps.Snaps).Greatest -/
noncomputable def sn_Greatest_g : Nat := globOf Tryz.f12
abbrev sn_Greatest_nt : Nat := 8
noncomputable def sn_Greatest_body : Code := Tryz.f12.body.getD .skip
theorem sn_Greatest_fn : envS.fn.get 12 = some Tryz.f12 := by kernel_rfl
theorem sn_Greatest_W {a0 : Value} {n : Nat} {s : St} {Q : Value → St → Prop} (h : ∀ tm, T.get tm 0 = some a0 → W (runF envS n ⟨12, 8, sn_Greatest_g, tm, [.code sn_Greatest_body], .run, .normal, none⟩) (s.cxN cxN) fun p s1 => Q p.1 (s1.cxN s.cx)) : W (callW envS (runF envS n) 12 [a0]) s Q :=
  W.call (by kernel_rfl) (by kernel_rfl) sn_Greatest_fn (by kernel_rfl) rfl rfl (by simp) (h _ (by kernel_rfl))
theorem sn_Greatest_res : Tryz.f12.results.toList = [.tmp 2] := by kernel_rfl
noncomputable def sn_Greatest_P0 : List Item := skim 64 [.code sn_Greatest_body]
noncomputable def sn_Greatest_P1 : List Item := skim 64 sn_Greatest_P0.tail
theorem sn_Greatest_S0_1 : skim 64 sn_Greatest_P0.tail = sn_Greatest_P1 := by kernel_rfl
noncomputable def sn_Greatest_P2 : List Item := skim 64 sn_Greatest_P1.tail
theorem sn_Greatest_S1_2 : skim 64 sn_Greatest_P1.tail = sn_Greatest_P2 := by kernel_rfl
noncomputable def sn_Greatest_P3 : List Item := skim 64 (brT sn_Greatest_P2)
theorem sn_Greatest_S2_3 : skim 64 (brT sn_Greatest_P2) = sn_Greatest_P3 := by kernel_rfl
noncomputable def sn_Greatest_P4 : List Item := skim 64 (brF sn_Greatest_P2)
theorem sn_Greatest_S2_4 : skim 64 (brF sn_Greatest_P2) = sn_Greatest_P4 := by kernel_rfl
noncomputable def sn_Greatest_P5 : List Item := skim 64 sn_Greatest_P3.tail
theorem sn_Greatest_S3_5 : skim 64 sn_Greatest_P3.tail = sn_Greatest_P5 := by kernel_rfl
noncomputable def sn_Greatest_P6 : List Item := skim 64 sn_Greatest_P4.tail
theorem sn_Greatest_S4_6 : skim 64 sn_Greatest_P4.tail = sn_Greatest_P6 := by kernel_rfl
/-- snaps.go:297 -/
noncomputable def sn_Greatest_r0 (E : Env) (call round : CallT) (tm : T Value) : M (T Value) :=
  mv (some (.int .i64 0)) fun v2 =>
  setF 2 v2 tm fun tm1 =>
  M.pure tm1
theorem sn_Greatest_q0 : RegEq 12 8 sn_Greatest_g sn_Greatest_P0 sn_Greatest_r0 := ⟨by kernel_rfl, fun _ _ _ _ _ _ _ _ _ => by kernel_rfl⟩
/-- snaps.go:298 -/
noncomputable def sn_Greatest_r1 (E : Env) (call round : CallT) (tm : T Value) : M (T Value) :=
  mv (T.get tm 0) fun v3 =>
  M.bind (M.on (some (.func (.func 19) #[] #[])) fun f => M.on (seqO [(some v3)]) fun l => callV call round f l) fun v4 =>
  M.bind (oS (some v4) fun a => oS (some (.int .i64 0)) fun b => Cl.get (aBin E .neq 39 (.tmp 4) (.const (.int .i64 0))) a b) fun v5 =>
  setF 5 v5 tm fun tm1 =>
  M.pure tm1
theorem sn_Greatest_q1 : RegEq 12 8 sn_Greatest_g sn_Greatest_P1 sn_Greatest_r1 := ⟨by kernel_rfl, fun _ _ _ _ _ _ _ _ _ => by kernel_rfl⟩
theorem sn_Greatest_C2 : condX sn_Greatest_P2 = some 5 := by kernel_rfl
/-- snaps.go:299 -/
noncomputable def sn_Greatest_r3 (E : Env) (call round : CallT) (tm : T Value) : M (T Value) :=
  mv (some (.int .i64 0)) fun v2 =>
  setF 2 v2 tm fun tm1 =>
  M.pure tm1
theorem sn_Greatest_q3 : RegEq 12 8 sn_Greatest_g sn_Greatest_P3 sn_Greatest_r3 := ⟨by kernel_rfl, fun _ _ _ _ _ _ _ _ _ => by kernel_rfl⟩
/-- snaps.go:301 -/
noncomputable def sn_Greatest_r4 (E : Env) (call round : CallT) (tm : T Value) : M (T Value) :=
  mv (T.get tm 0) fun v6 =>
  M.bind (M.on (some (.func (.func 20) #[] #[])) fun f => M.on (seqO [(some v6)]) fun l => callV call round f l) fun v7 =>
  mv (some v7) fun v2 =>
  setF 2 v2 tm fun tm1 =>
  M.pure tm1
theorem sn_Greatest_q4 : RegEq 12 8 sn_Greatest_g sn_Greatest_P4 sn_Greatest_r4 := ⟨by kernel_rfl, fun _ _ _ _ _ _ _ _ _ => by kernel_rfl⟩
theorem sn_Greatest_E5 : ∃ k, sn_Greatest_P5 = .code .ret :: k := ⟨sn_Greatest_P5.tail, by kernel_rfl⟩
theorem sn_Greatest_E6 : ∃ k, sn_Greatest_P6 = .code .ret :: k := ⟨sn_Greatest_P6.tail, by kernel_rfl⟩
-- points: 0:region>[1], 1:region>[2], 2:cond>[3, 4], 3:region>[5], 4:region>[6], 5:ret>, 6:ret>

/-! ### (*satchel/snaps.Snaps).Out -/
noncomputable def sn_Out_g : Nat := globOf Tryz.f13
abbrev sn_Out_nt : Nat := 20
noncomputable def sn_Out_body : Code := Tryz.f13.body.getD .skip
theorem sn_Out_fn : envS.fn.get 13 = some Tryz.f13 := by kernel_rfl
theorem sn_Out_W {a0 : Value} {n : Nat} {s : St} {Q : Value → St → Prop} (h : ∀ tm, T.get tm 0 = some a0 → W (runF envS n ⟨13, 20, sn_Out_g, tm, [.code sn_Out_body], .run, .normal, none⟩) (s.cxN cxN) fun p s1 => Q p.1 (s1.cxN s.cx)) : W (callW envS (runF envS n) 13 [a0]) s Q :=
  W.call (by kernel_rfl) (by kernel_rfl) sn_Out_fn (by kernel_rfl) rfl rfl (by simp) (h _ (by kernel_rfl))
theorem sn_Out_res : Tryz.f13.results.toList = [.tmp 2] := by kernel_rfl
noncomputable def sn_Out_P0 : List Item := skim 64 [.code sn_Out_body]
noncomputable def sn_Out_P1 : List Item := skim 64 sn_Out_P0.tail
theorem sn_Out_S0_1 : skim 64 sn_Out_P0.tail = sn_Out_P1 := by kernel_rfl
noncomputable def sn_Out_P2 : List Item := skim 64 sn_Out_P1.tail
theorem sn_Out_S1_2 : skim 64 sn_Out_P1.tail = sn_Out_P2 := by kernel_rfl
/-- snaps.go:139 -/
noncomputable def sn_Out_r0 (E : Env) (call round : CallT) (tm : T Value) : M (T Value) :=
  mv (some (.bool false)) fun v2 =>
  setF 2 v2 tm fun tm1 =>
  M.pure tm1
theorem sn_Out_q0 : RegEq 13 20 sn_Out_g sn_Out_P0 sn_Out_r0 := ⟨by kernel_rfl, fun _ _ _ _ _ _ _ _ _ => by kernel_rfl⟩
/-- snaps.go:139 -/
noncomputable def sn_Out_r1 (E : Env) (call round : CallT) (tm : T Value) : M (T Value) :=
  mv (T.get tm 0) fun v3 =>
  M.bind (M.on (some (.func (.func 33) #[] #[])) fun f => M.on (seqO [(some v3)]) fun l => callV call round f l) fun v4 =>
  M.bind (oS (some v4) fun a => kUn E.P .not a) fun v5 =>
  mv (some v5) fun v6 =>
  M.bind (M.chk (isK v6) (M.if (isB v6 true) (oS (T.get tm 0) fun a => M.pure a) (M.pure undef))) fun v7 =>
  M.bind (M.chk (isK v6) (M.if (isB v6 true) (oS (some v7) fun a => kNil a) (M.pure undef))) fun v8 =>
  M.bind (M.chk (isK v6) (M.if (isB v6 true) (oS (some v8) fun a => kFld E 37 a 2) (M.pure undef))) fun v9 =>
  M.bind (M.chk (isK v6) (M.if (isB v6 true) (oS (some v9) fun a => kLoad E 4 a) (M.pure undef))) fun v10 =>
  M.bind (M.chk (isK v6) (M.if (isB v6 true) (oS (some v10) fun a => M.pure a) (M.pure undef))) fun v11 =>
  M.bind (M.chk (isK v11) (M.if (isB v11 false) (oS (T.get tm 0) fun a => M.pure a) (M.pure undef))) fun v12 =>
  M.bind (M.chk (isK v11) (M.if (isB v11 false) (oS (some v12) fun a => kNil a) (M.pure undef))) fun v13 =>
  M.bind (M.chk (isK v11) (M.if (isB v11 false) (oS (some v13) fun a => kFld E 37 a 0) (M.pure undef))) fun v14 =>
  M.bind (M.chk (isK v11) (M.if (isB v11 false) (oS (some v14) fun a => kLoad E 35 a) (M.pure undef))) fun v15 =>
  M.bind (M.chk (isK v11) (M.if (isB v11 false) (M.on (some (.func (.func 34) #[] #[])) fun f => M.on (seqO [(some v15)]) fun l => callV call round f l) (M.pure undef))) fun v16 =>
  M.bind (M.chk (isK v11) (M.if (isB v11 false) (oS (some v16) fun a => kUn E.P .not a) (M.pure undef))) fun v17 =>
  M.bind (M.chk (isK v6) (M.if (isB v6 true) (M.on (some v11) fun a => M.on (some (.bool true)) fun b => M.on (some v17) fun c => kPick a b c) (M.pure undef))) fun v18 =>
  M.bind (M.on (some v6) fun a => M.on (some v18) fun b => M.on (some (.bool false)) fun c => kPick a b c) fun v19 =>
  mv (some v19) fun v2 =>
  setF 2 v2 tm fun tm1 =>
  M.pure tm1
theorem sn_Out_q1 : RegEq 13 20 sn_Out_g sn_Out_P1 sn_Out_r1 := ⟨by kernel_rfl, fun _ _ _ _ _ _ _ _ _ => by kernel_rfl⟩
theorem sn_Out_E2 : ∃ k, sn_Out_P2 = .code .ret :: k := ⟨sn_Out_P2.tail, by kernel_rfl⟩
-- points: 0:region>[1], 1:region>[2], 2:ret>

/-! ### (*satchel/snaps.Snaps).off -/
noncomputable def sn_off_g : Nat := globOf Tryz.f19
abbrev sn_off_nt : Nat := 9
noncomputable def sn_off_body : Code := Tryz.f19.body.getD .skip
theorem sn_off_fn : envS.fn.get 19 = some Tryz.f19 := by kernel_rfl
theorem sn_off_W {a0 : Value} {n : Nat} {s : St} {Q : Value → St → Prop} (h : ∀ tm, T.get tm 0 = some a0 → W (runF envS n ⟨19, 9, sn_off_g, tm, [.code sn_off_body], .run, .normal, none⟩) (s.cxN cxN) fun p s1 => Q p.1 (s1.cxN s.cx)) : W (callW envS (runF envS n) 19 [a0]) s Q :=
  W.call (by kernel_rfl) (by kernel_rfl) sn_off_fn (by kernel_rfl) rfl rfl (by simp) (h _ (by kernel_rfl))
theorem sn_off_res : Tryz.f19.results.toList = [.tmp 2] := by kernel_rfl
noncomputable def sn_off_P0 : List Item := skim 64 [.code sn_off_body]
noncomputable def sn_off_P1 : List Item := skim 64 sn_off_P0.tail
theorem sn_off_S0_1 : skim 64 sn_off_P0.tail = sn_off_P1 := by kernel_rfl
noncomputable def sn_off_P2 : List Item := skim 64 sn_off_P1.tail
theorem sn_off_S1_2 : skim 64 sn_off_P1.tail = sn_off_P2 := by kernel_rfl
noncomputable def sn_off_P3 : List Item := skim 64 (brT sn_off_P2)
theorem sn_off_S2_3 : skim 64 (brT sn_off_P2) = sn_off_P3 := by kernel_rfl
noncomputable def sn_off_P4 : List Item := skim 64 (brF sn_off_P2)
theorem sn_off_S2_4 : skim 64 (brF sn_off_P2) = sn_off_P4 := by kernel_rfl
noncomputable def sn_off_P5 : List Item := skim 64 sn_off_P3.tail
theorem sn_off_S3_5 : skim 64 sn_off_P3.tail = sn_off_P5 := by kernel_rfl
noncomputable def sn_off_P6 : List Item := skim 64 sn_off_P4.tail
theorem sn_off_S4_6 : skim 64 sn_off_P4.tail = sn_off_P6 := by kernel_rfl
noncomputable def sn_off_P7 : List Item := skim 64 (brT sn_off_P6)
theorem sn_off_S6_7 : skim 64 (brT sn_off_P6) = sn_off_P7 := by kernel_rfl
noncomputable def sn_off_P8 : List Item := skim 64 (brF sn_off_P6)
theorem sn_off_S6_8 : skim 64 (brF sn_off_P6) = sn_off_P8 := by kernel_rfl
theorem sn_off_S7_5 : skim 64 sn_off_P7.tail = sn_off_P5 := by kernel_rfl
noncomputable def sn_off_P9 : List Item := skim 64 sn_off_P8.tail
theorem sn_off_S8_9 : skim 64 sn_off_P8.tail = sn_off_P9 := by kernel_rfl
/-- snaps.go:128 -/
noncomputable def sn_off_r0 (E : Env) (call round : CallT) (tm : T Value) : M (T Value) :=
  mv (some (.int .i64 0)) fun v2 =>
  setF 2 v2 tm fun tm1 =>
  M.pure tm1
theorem sn_off_q0 : RegEq 19 9 sn_off_g sn_off_P0 sn_off_r0 := ⟨by kernel_rfl, fun _ _ _ _ _ _ _ _ _ => by kernel_rfl⟩
/-- snaps.go:130 -/
noncomputable def sn_off_r1 (E : Env) (call round : CallT) (tm : T Value) : M (T Value) :=
  mv (T.get tm 0) fun v4 =>
  M.bind (M.on (some (.func (.func 33) #[] #[])) fun f => M.on (seqO [(some v4)]) fun l => callV call round f l) fun v5 =>
  mv (some v5) fun v3 =>
  setF 3 v3 tm fun tm1 =>
  M.pure tm1
theorem sn_off_q1 : RegEq 19 9 sn_off_g sn_off_P1 sn_off_r1 := ⟨by kernel_rfl, fun _ _ _ _ _ _ _ _ _ => by kernel_rfl⟩
theorem sn_off_C2 : condX sn_off_P2 = some 3 := by kernel_rfl
/-- snaps.go:131 -/
noncomputable def sn_off_r3 (E : Env) (call round : CallT) (tm : T Value) : M (T Value) :=
  mv (some (.int .i64 1)) fun v2 =>
  setF 2 v2 tm fun tm1 =>
  M.pure tm1
theorem sn_off_q3 : RegEq 19 9 sn_off_g sn_off_P3 sn_off_r3 := ⟨by kernel_rfl, fun _ _ _ _ _ _ _ _ _ => by kernel_rfl⟩
/-- snaps.go:132 -/
noncomputable def sn_off_r4 (E : Env) (call round : CallT) (tm : T Value) : M (T Value) :=
  mv (T.get tm 0) fun v7 =>
  M.bind (M.on (some (.func (.func 13) #[] #[])) fun f => M.on (seqO [(some v7)]) fun l => callV call round f l) fun v8 =>
  mv (some v8) fun v6 =>
  setF 6 v6 tm fun tm1 =>
  M.pure tm1
theorem sn_off_q4 : RegEq 19 9 sn_off_g sn_off_P4 sn_off_r4 := ⟨by kernel_rfl, fun _ _ _ _ _ _ _ _ _ => by kernel_rfl⟩
theorem sn_off_E5 : ∃ k, sn_off_P5 = .code .ret :: k := ⟨sn_off_P5.tail, by kernel_rfl⟩
theorem sn_off_C6 : condX sn_off_P6 = some 6 := by kernel_rfl
/-- snaps.go:133 -/
noncomputable def sn_off_r7 (E : Env) (call round : CallT) (tm : T Value) : M (T Value) :=
  mv (some (.int .i64 9)) fun v2 =>
  setF 2 v2 tm fun tm1 =>
  M.pure tm1
theorem sn_off_q7 : RegEq 19 9 sn_off_g sn_off_P7 sn_off_r7 := ⟨by kernel_rfl, fun _ _ _ _ _ _ _ _ _ => by kernel_rfl⟩
/-- snaps.go:135 -/
noncomputable def sn_off_r8 (E : Env) (call round : CallT) (tm : T Value) : M (T Value) :=
  mv (some (.int .i64 0)) fun v2 =>
  setF 2 v2 tm fun tm1 =>
  M.pure tm1
theorem sn_off_q8 : RegEq 19 9 sn_off_g sn_off_P8 sn_off_r8 := ⟨by kernel_rfl, fun _ _ _ _ _ _ _ _ _ => by kernel_rfl⟩
theorem sn_off_E9 : ∃ k, sn_off_P9 = .code .ret :: k := ⟨sn_off_P9.tail, by kernel_rfl⟩
-- points: 0:region>[1], 1:region>[2], 2:cond>[3, 4], 3:region>[5], 4:region>[6], 5:ret>, 6:cond>[7, 8], 7:region>[5], 8:region>[9], 9:ret>

/-! ### (*satchel/snaps.Snaps).none -/
noncomputable def sn_none_g : Nat := globOf Tryz.f33
abbrev sn_none_nt : Nat := 12
noncomputable def sn_none_body : Code := Tryz.f33.body.getD .skip
theorem sn_none_fn : envS.fn.get 33 = some Tryz.f33 := by kernel_rfl
theorem sn_none_W {a0 : Value} {n : Nat} {s : St} {Q : Value → St → Prop} (h : ∀ tm, T.get tm 0 = some a0 → W (runF envS n ⟨33, 12, sn_none_g, tm, [.code sn_none_body], .run, .normal, none⟩) (s.cxN cxN) fun p s1 => Q p.1 (s1.cxN s.cx)) : W (callW envS (runF envS n) 33 [a0]) s Q :=
  W.call (by kernel_rfl) (by kernel_rfl) sn_none_fn (by kernel_rfl) rfl rfl (by simp) (h _ (by kernel_rfl))
theorem sn_none_res : Tryz.f33.results.toList = [.tmp 2] := by kernel_rfl
noncomputable def sn_none_P0 : List Item := skim 64 [.code sn_none_body]
noncomputable def sn_none_P1 : List Item := skim 64 sn_none_P0.tail
theorem sn_none_S0_1 : skim 64 sn_none_P0.tail = sn_none_P1 := by kernel_rfl
noncomputable def sn_none_P2 : List Item := skim 64 sn_none_P1.tail
theorem sn_none_S1_2 : skim 64 sn_none_P1.tail = sn_none_P2 := by kernel_rfl
/-- snaps.go:125 -/
noncomputable def sn_none_r0 (E : Env) (call round : CallT) (tm : T Value) : M (T Value) :=
  mv (some (.bool false)) fun v2 =>
  setF 2 v2 tm fun tm1 =>
  M.pure tm1
theorem sn_none_q0 : RegEq 33 12 sn_none_g sn_none_P0 sn_none_r0 := ⟨by kernel_rfl, fun _ _ _ _ _ _ _ _ _ => by kernel_rfl⟩
/-- snaps.go:125 -/
noncomputable def sn_none_r1 (E : Env) (call round : CallT) (tm : T Value) : M (T Value) :=
  mv (T.get tm 0) fun v3 =>
  M.bind (oS (some v3) fun a => oS (some (.pointer none)) fun b => Cl.get (aBin E .eql 34 (.tmp 3) (.const (.pointer none))) a b) fun v4 =>
  mv (some v4) fun v5 =>
  M.bind (M.chk (isK v5) (M.if (isB v5 false) (oS (T.get tm 0) fun a => M.pure a) (M.pure undef))) fun v6 =>
  M.bind (M.chk (isK v5) (M.if (isB v5 false) (oS (some v6) fun a => kNil a) (M.pure undef))) fun v7 =>
  M.bind (M.chk (isK v5) (M.if (isB v5 false) (oS (some v7) fun a => kFld E 37 a 0) (M.pure undef))) fun v8 =>
  M.bind (M.chk (isK v5) (M.if (isB v5 false) (oS (some v8) fun a => kLoad E 35 a) (M.pure undef))) fun v9 =>
  M.bind (M.chk (isK v5) (M.if (isB v5 false) (oS (some v9) fun a => oS (some (.pointer none)) fun b => Cl.get (aBin E .eql 35 (.tmp 9) (.const (.pointer none))) a b) (M.pure undef))) fun v10 =>
  M.bind (M.on (some v5) fun a => M.on (some (.bool true)) fun b => M.on (some v10) fun c => kPick a b c) fun v11 =>
  mv (some v11) fun v2 =>
  setF 2 v2 tm fun tm1 =>
  M.pure tm1
theorem sn_none_q1 : RegEq 33 12 sn_none_g sn_none_P1 sn_none_r1 := ⟨by kernel_rfl, fun _ _ _ _ _ _ _ _ _ => by kernel_rfl⟩
theorem sn_none_E2 : ∃ k, sn_none_P2 = .code .ret :: k := ⟨sn_none_P2.tail, by kernel_rfl⟩
-- points: 0:region>[1], 1:region>[2], 2:ret>

/-! ### satchel/snaps.Open -/
noncomputable def sn_Open_g : Nat := globOf Tryz.f14
abbrev sn_Open_nt : Nat := 40
noncomputable def sn_Open_body : Code := Tryz.f14.body.getD .skip
theorem sn_Open_fn : envS.fn.get 14 = some Tryz.f14 := by kernel_rfl
theorem sn_Open_W {a0 a1 : Value} {n : Nat} {s : St} {Q : Value → St → Prop} (h : ∀ tm, T.get tm 0 = some a0 → T.get tm 1 = some a1 → W (runF envS n ⟨14, 40, sn_Open_g, tm, [.code sn_Open_body], .run, .normal, none⟩) (s.cxN cxN) fun p s1 => Q p.1 (s1.cxN s.cx)) : W (callW envS (runF envS n) 14 [a0, a1]) s Q :=
  W.call (by kernel_rfl) (by kernel_rfl) sn_Open_fn (by kernel_rfl) rfl rfl (by simp) (h _ (by kernel_rfl) (by kernel_rfl))
theorem sn_Open_res : Tryz.f14.results.toList = [.tmp 4, .tmp 5] := by kernel_rfl
noncomputable def sn_Open_P0 : List Item := skim 64 [.code sn_Open_body]
noncomputable def sn_Open_P1 : List Item := skim 64 sn_Open_P0.tail
theorem sn_Open_S0_1 : skim 64 sn_Open_P0.tail = sn_Open_P1 := by kernel_rfl
noncomputable def sn_Open_P2 : List Item := skim 64 sn_Open_P1.tail
theorem sn_Open_S1_2 : skim 64 sn_Open_P1.tail = sn_Open_P2 := by kernel_rfl
noncomputable def sn_Open_P3 : List Item := skim 64 sn_Open_P2.tail
theorem sn_Open_S2_3 : skim 64 sn_Open_P2.tail = sn_Open_P3 := by kernel_rfl
noncomputable def sn_Open_P4 : List Item := skim 64 (brT sn_Open_P3)
theorem sn_Open_S3_4 : skim 64 (brT sn_Open_P3) = sn_Open_P4 := by kernel_rfl
noncomputable def sn_Open_P5 : List Item := skim 64 (brF sn_Open_P3)
theorem sn_Open_S3_5 : skim 64 (brF sn_Open_P3) = sn_Open_P5 := by kernel_rfl
noncomputable def sn_Open_P6 : List Item := skim 64 sn_Open_P4.tail
theorem sn_Open_S4_6 : skim 64 sn_Open_P4.tail = sn_Open_P6 := by kernel_rfl
noncomputable def sn_Open_P7 : List Item := skim 64 sn_Open_P5.tail
theorem sn_Open_S5_7 : skim 64 sn_Open_P5.tail = sn_Open_P7 := by kernel_rfl
noncomputable def sn_Open_P8 : List Item := skim 64 (brT sn_Open_P7)
theorem sn_Open_S7_8 : skim 64 (brT sn_Open_P7) = sn_Open_P8 := by kernel_rfl
noncomputable def sn_Open_P9 : List Item := skim 64 (brF sn_Open_P7)
theorem sn_Open_S7_9 : skim 64 (brF sn_Open_P7) = sn_Open_P9 := by kernel_rfl
noncomputable def sn_Open_P10 : List Item := skim 64 sn_Open_P8.tail
theorem sn_Open_S8_10 : skim 64 sn_Open_P8.tail = sn_Open_P10 := by kernel_rfl
noncomputable def sn_Open_P11 : List Item := skim 64 sn_Open_P9.tail
theorem sn_Open_S9_11 : skim 64 sn_Open_P9.tail = sn_Open_P11 := by kernel_rfl
noncomputable def sn_Open_P12 : List Item := skim 64 sn_Open_P11.tail
theorem sn_Open_S11_12 : skim 64 sn_Open_P11.tail = sn_Open_P12 := by kernel_rfl
noncomputable def sn_Open_P13 : List Item := skim 64 sn_Open_P12.tail
theorem sn_Open_S12_13 : skim 64 sn_Open_P12.tail = sn_Open_P13 := by kernel_rfl
noncomputable def sn_Open_P14 : List Item := skim 64 (brT sn_Open_P13)
theorem sn_Open_S13_14 : skim 64 (brT sn_Open_P13) = sn_Open_P14 := by kernel_rfl
noncomputable def sn_Open_P15 : List Item := skim 64 (brF sn_Open_P13)
theorem sn_Open_S13_15 : skim 64 (brF sn_Open_P13) = sn_Open_P15 := by kernel_rfl
noncomputable def sn_Open_P16 : List Item := skim 64 sn_Open_P14.tail
theorem sn_Open_S14_16 : skim 64 sn_Open_P14.tail = sn_Open_P16 := by kernel_rfl
noncomputable def sn_Open_P17 : List Item := skim 64 sn_Open_P15.tail
theorem sn_Open_S15_17 : skim 64 sn_Open_P15.tail = sn_Open_P17 := by kernel_rfl
/-- snaps.go:111 -/
noncomputable def sn_Open_r0 (E : Env) (call round : CallT) (tm : T Value) : M (T Value) :=
  mv (some (.pointer none)) fun v4 =>
  setF 4 v4 tm fun tm1 =>
  mv (some (.int .i64 0)) fun v5 =>
  setF 5 v5 tm1 fun tm2 =>
  M.pure tm2
theorem sn_Open_q0 : RegEq 14 40 sn_Open_g sn_Open_P0 sn_Open_r0 := ⟨by kernel_rfl, fun _ _ _ _ _ _ _ _ _ => by kernel_rfl⟩
/-- snaps.go:112 -/
noncomputable def sn_Open_r1 (E : Env) (call round : CallT) (tm : T Value) : M (T Value) :=
  mv (T.get tm 0) fun v11 =>
  M.bind (M.on (some (.func (.func 35) #[] #[])) fun f => M.on (seqO [(some v11), (some (.string { data := #[] }))]) fun l => callV call round f l) fun v12 =>
  mv (some v12) fun v10 =>
  M.bind (oS (some v10) fun a => kExt 0 a) fun v13 =>
  M.bind (oS (some v10) fun a => kExt 1 a) fun v14 =>
  mv (some v13) fun v6 =>
  mv (some v14) fun v7 =>
  setF 7 v7 tm fun tm1 =>
  M.pure tm1
theorem sn_Open_q1 : RegEq 14 40 sn_Open_g sn_Open_P1 sn_Open_r1 := ⟨by kernel_rfl, fun _ _ _ _ _ _ _ _ _ => by kernel_rfl⟩
/-- snaps.go:112 -/
noncomputable def sn_Open_r2 (E : Env) (call round : CallT) (tm : T Value) : M (T Value) :=
  mv (T.get tm 7) fun v15 =>
  M.bind (oS (some v15) fun a => oS (some (.int .i64 1)) fun b => Cl.get (aBin E .eql 39 (.tmp 15) (.const (.int .i64 1))) a b) fun v16 =>
  setF 16 v16 tm fun tm1 =>
  M.pure tm1
theorem sn_Open_q2 : RegEq 14 40 sn_Open_g sn_Open_P2 sn_Open_r2 := ⟨by kernel_rfl, fun _ _ _ _ _ _ _ _ _ => by kernel_rfl⟩
theorem sn_Open_C3 : condX sn_Open_P3 = some 16 := by kernel_rfl
/-- snaps.go:113 -/
noncomputable def sn_Open_r4 (E : Env) (call round : CallT) (tm : T Value) : M (T Value) :=
  mv (T.get tm 7) fun v17 =>
  mv (some (.pointer none)) fun v4 =>
  setF 4 v4 tm fun tm1 =>
  mv (some v17) fun v5 =>
  setF 5 v5 tm1 fun tm2 =>
  M.pure tm2
theorem sn_Open_q4 : RegEq 14 40 sn_Open_g sn_Open_P4 sn_Open_r4 := ⟨by kernel_rfl, fun _ _ _ _ _ _ _ _ _ => by kernel_rfl⟩
/-- snaps.go:115 -/
noncomputable def sn_Open_r5 (E : Env) (call round : CallT) (tm : T Value) : M (T Value) :=
  mv (T.get tm 1) fun v18 =>
  M.bind (oS (some v18) fun a => oS (some (.int .i64 1)) fun b => Cl.get (aBin E .lss 3 (.tmp 18) (.const (.int .i64 1))) a b) fun v19 =>
  mv (some v19) fun v20 =>
  M.bind (M.chk (isK v20) (M.if (isB v20 false) (oS (T.get tm 1) fun a => M.pure a) (M.pure undef))) fun v21 =>
  M.bind (M.chk (isK v20) (M.if (isB v20 false) (oS (some v21) fun a => oS (some (.int .i64 2147483647)) fun b => Cl.get (aBin E .gtr 3 (.tmp 21) (.const (.int .i64 2147483647))) a b) (M.pure undef))) fun v22 =>
  M.bind (M.on (some v20) fun a => M.on (some (.bool true)) fun b => M.on (some v22) fun c => kPick a b c) fun v23 =>
  setF 23 v23 tm fun tm1 =>
  M.pure tm1
theorem sn_Open_q5 : RegEq 14 40 sn_Open_g sn_Open_P5 sn_Open_r5 := ⟨by kernel_rfl, fun _ _ _ _ _ _ _ _ _ => by kernel_rfl⟩
theorem sn_Open_E6 : ∃ k, sn_Open_P6 = .code .ret :: k := ⟨sn_Open_P6.tail, by kernel_rfl⟩
theorem sn_Open_C7 : condX sn_Open_P7 = some 23 := by kernel_rfl
/-- snaps.go:116 -/
noncomputable def sn_Open_r8 (E : Env) (call round : CallT) (tm : T Value) : M (T Value) :=
  mv (some (.pointer none)) fun v4 =>
  setF 4 v4 tm fun tm1 =>
  mv (some (.int .i64 2)) fun v5 =>
  setF 5 v5 tm1 fun tm2 =>
  M.pure tm2
theorem sn_Open_q8 : RegEq 14 40 sn_Open_g sn_Open_P8 sn_Open_r8 := ⟨by kernel_rfl, fun _ _ _ _ _ _ _ _ _ => by kernel_rfl⟩
/-- snaps.go:118 -/
noncomputable def sn_Open_r9 (E : Env) (call round : CallT) (tm : T Value) : M (T Value) :=
  mv (T.get tm 0) fun v24 =>
  mv (T.get tm 1) fun v25 =>
  M.bind (oS (seqP [(0, (some v24)), (1, (some v25))]) fun ps => aBuild E 37 ps) fun v26 =>
  M.bind (oS (some v26) fun a => kBox a) fun v27 =>
  mv (some v27) fun v8 =>
  setF 8 v8 tm fun tm1 =>
  M.pure tm1
theorem sn_Open_q9 : RegEq 14 40 sn_Open_g sn_Open_P9 sn_Open_r9 := ⟨by kernel_rfl, fun _ _ _ _ _ _ _ _ _ => by kernel_rfl⟩
theorem sn_Open_E10 : ∃ k, sn_Open_P10 = .code .ret :: k := ⟨sn_Open_P10.tail, by kernel_rfl⟩
/-- snaps.go:119 -/
noncomputable def sn_Open_r11 (E : Env) (call round : CallT) (tm : T Value) : M (T Value) :=
  mv (T.get tm 8) fun v28 =>
  M.bind (oS (seqO [(some v28)]) fun a => oS (seqO []) fun b => M.pure (.func (.func 37) a.toArray b.toArray)) fun v29 =>
  mv (T.get tm 8) fun v30 =>
  M.bind (oS (seqO [(some v30)]) fun a => oS (seqO []) fun b => M.pure (.func (.func 38) a.toArray b.toArray)) fun v31 =>
  mv (T.get tm 8) fun v32 =>
  M.bind (oS (seqO [(some v32)]) fun a => oS (seqO []) fun b => M.pure (.func (.func 39) a.toArray b.toArray)) fun v33 =>
  M.bind (oS (seqP [(0, (some v29)), (1, (some v31)), (2, (some v33))]) fun ps => aBuildS E 128 3 ps) fun v34 =>
  M.bind (M.on (some (.func (.func 36) #[] #[])) fun f => M.on (seqO [(some v34)]) fun l => callV call round f l) fun v35 =>
  mv (some v35) fun v9 =>
  setF 9 v9 tm fun tm1 =>
  M.pure tm1
theorem sn_Open_q11 : RegEq 14 40 sn_Open_g sn_Open_P11 sn_Open_r11 := ⟨by kernel_rfl, fun _ _ _ _ _ _ _ _ _ => by kernel_rfl⟩
/-- snaps.go:119 -/
noncomputable def sn_Open_r12 (E : Env) (call round : CallT) (tm : T Value) : M (T Value) :=
  mv (T.get tm 9) fun v36 =>
  M.bind (oS (some v36) fun a => oS (some (.int .i64 0)) fun b => Cl.get (aBin E .neq 39 (.tmp 36) (.const (.int .i64 0))) a b) fun v37 =>
  setF 37 v37 tm fun tm1 =>
  M.pure tm1
theorem sn_Open_q12 : RegEq 14 40 sn_Open_g sn_Open_P12 sn_Open_r12 := ⟨by kernel_rfl, fun _ _ _ _ _ _ _ _ _ => by kernel_rfl⟩
theorem sn_Open_C13 : condX sn_Open_P13 = some 37 := by kernel_rfl
/-- snaps.go:120 -/
noncomputable def sn_Open_r14 (E : Env) (call round : CallT) (tm : T Value) : M (T Value) :=
  mv (T.get tm 9) fun v38 =>
  mv (some (.pointer none)) fun v4 =>
  setF 4 v4 tm fun tm1 =>
  mv (some v38) fun v5 =>
  setF 5 v5 tm1 fun tm2 =>
  M.pure tm2
theorem sn_Open_q14 : RegEq 14 40 sn_Open_g sn_Open_P14 sn_Open_r14 := ⟨by kernel_rfl, fun _ _ _ _ _ _ _ _ _ => by kernel_rfl⟩
/-- snaps.go:122 -/
noncomputable def sn_Open_r15 (E : Env) (call round : CallT) (tm : T Value) : M (T Value) :=
  mv (T.get tm 8) fun v39 =>
  mv (some v39) fun v4 =>
  setF 4 v4 tm fun tm1 =>
  mv (some (.int .i64 0)) fun v5 =>
  setF 5 v5 tm1 fun tm2 =>
  M.pure tm2
theorem sn_Open_q15 : RegEq 14 40 sn_Open_g sn_Open_P15 sn_Open_r15 := ⟨by kernel_rfl, fun _ _ _ _ _ _ _ _ _ => by kernel_rfl⟩
theorem sn_Open_E16 : ∃ k, sn_Open_P16 = .code .ret :: k := ⟨sn_Open_P16.tail, by kernel_rfl⟩
theorem sn_Open_E17 : ∃ k, sn_Open_P17 = .code .ret :: k := ⟨sn_Open_P17.tail, by kernel_rfl⟩
-- points: 0:region>[1], 1:region>[2], 2:region>[3], 3:cond>[4, 5], 4:region>[6], 5:region>[7], 6:ret>, 7:cond>[8, 9], 8:region>[10], 9:region>[11], 10:ret>, 11:region>[12], 12:region>[13], 13:cond>[14, 15], 14:region>[16], 15:region>[17], 16:ret>, 17:ret>

/-! ### (*satchel/disk.Disk).Read -/
noncomputable def dk_Read_g : Nat := globOf Tryz.f35
abbrev dk_Read_nt : Nat := 31
noncomputable def dk_Read_body : Code := Tryz.f35.body.getD .skip
theorem dk_Read_fn : envS.fn.get 35 = some Tryz.f35 := by kernel_rfl
theorem dk_Read_W {a0 a1 : Value} {n : Nat} {s : St} {Q : Value → St → Prop} (h : ∀ tm, T.get tm 0 = some a0 → T.get tm 1 = some a1 → W (runF envS n ⟨35, 31, dk_Read_g, tm, [.code dk_Read_body], .run, .normal, none⟩) (s.cxN cxN) fun p s1 => Q p.1 (s1.cxN s.cx)) : W (callW envS (runF envS n) 35 [a0, a1]) s Q :=
  W.call (by kernel_rfl) (by kernel_rfl) dk_Read_fn (by kernel_rfl) rfl rfl (by simp) (h _ (by kernel_rfl) (by kernel_rfl))
theorem dk_Read_res : Tryz.f35.results.toList = [.tmp 4, .tmp 5] := by kernel_rfl
noncomputable def dk_Read_P0 : List Item := skim 64 [.code dk_Read_body]
noncomputable def dk_Read_P1 : List Item := skim 64 dk_Read_P0.tail
theorem dk_Read_S0_1 : skim 64 dk_Read_P0.tail = dk_Read_P1 := by kernel_rfl
noncomputable def dk_Read_P2 : List Item := skim 64 dk_Read_P1.tail
theorem dk_Read_S1_2 : skim 64 dk_Read_P1.tail = dk_Read_P2 := by kernel_rfl
noncomputable def dk_Read_P3 : List Item := skim 64 dk_Read_P2.tail
theorem dk_Read_S2_3 : skim 64 dk_Read_P2.tail = dk_Read_P3 := by kernel_rfl
noncomputable def dk_Read_P4 : List Item := skim 64 (brT dk_Read_P3)
theorem dk_Read_S3_4 : skim 64 (brT dk_Read_P3) = dk_Read_P4 := by kernel_rfl
noncomputable def dk_Read_P5 : List Item := skim 64 (brF dk_Read_P3)
theorem dk_Read_S3_5 : skim 64 (brF dk_Read_P3) = dk_Read_P5 := by kernel_rfl
noncomputable def dk_Read_P6 : List Item := skim 64 dk_Read_P4.tail
theorem dk_Read_S4_6 : skim 64 dk_Read_P4.tail = dk_Read_P6 := by kernel_rfl
noncomputable def dk_Read_P7 : List Item := skim 64 dk_Read_P5.tail
theorem dk_Read_S5_7 : skim 64 dk_Read_P5.tail = dk_Read_P7 := by kernel_rfl
noncomputable def dk_Read_P8 : List Item := skim 64 dk_Read_P7.tail
theorem dk_Read_S7_8 : skim 64 dk_Read_P7.tail = dk_Read_P8 := by kernel_rfl
noncomputable def dk_Read_P9 : List Item := skim 64 (brT dk_Read_P8)
theorem dk_Read_S8_9 : skim 64 (brT dk_Read_P8) = dk_Read_P9 := by kernel_rfl
noncomputable def dk_Read_P10 : List Item := skim 64 (brF dk_Read_P8)
theorem dk_Read_S8_10 : skim 64 (brF dk_Read_P8) = dk_Read_P10 := by kernel_rfl
noncomputable def dk_Read_P11 : List Item := skim 64 dk_Read_P9.tail
theorem dk_Read_S9_11 : skim 64 dk_Read_P9.tail = dk_Read_P11 := by kernel_rfl
noncomputable def dk_Read_P12 : List Item := skim 64 dk_Read_P10.tail
theorem dk_Read_S10_12 : skim 64 dk_Read_P10.tail = dk_Read_P12 := by kernel_rfl
/-- disk.go:152 -/
noncomputable def dk_Read_r0 (E : Env) (call round : CallT) (tm : T Value) : M (T Value) :=
  mv (some (.slice none 0 0)) fun v4 =>
  setF 4 v4 tm fun tm1 =>
  mv (some (.int .i64 0)) fun v5 =>
  setF 5 v5 tm1 fun tm2 =>
  M.pure tm2
theorem dk_Read_q0 : RegEq 35 31 dk_Read_g dk_Read_P0 dk_Read_r0 := ⟨by kernel_rfl, fun _ _ _ _ _ _ _ _ _ => by kernel_rfl⟩
/-- disk.go:153 -/
noncomputable def dk_Read_r1 (E : Env) (call round : CallT) (tm : T Value) : M (T Value) :=
  mv (T.get tm 0) fun v8 =>
  M.bind (M.on (some (.func (.func 64) #[] #[])) fun f => M.on (seqO [(some v8)]) fun l => callV call round f l) fun v9 =>
  mv (some v9) fun v6 =>
  setF 6 v6 tm fun tm1 =>
  M.pure tm1
theorem dk_Read_q1 : RegEq 35 31 dk_Read_g dk_Read_P1 dk_Read_r1 := ⟨by kernel_rfl, fun _ _ _ _ _ _ _ _ _ => by kernel_rfl⟩
/-- disk.go:153 -/
noncomputable def dk_Read_r2 (E : Env) (call round : CallT) (tm : T Value) : M (T Value) :=
  mv (T.get tm 6) fun v10 =>
  M.bind (oS (some v10) fun a => oS (some (.int .i64 0)) fun b => Cl.get (aBin E .neq 39 (.tmp 10) (.const (.int .i64 0))) a b) fun v11 =>
  setF 11 v11 tm fun tm1 =>
  M.pure tm1
theorem dk_Read_q2 : RegEq 35 31 dk_Read_g dk_Read_P2 dk_Read_r2 := ⟨by kernel_rfl, fun _ _ _ _ _ _ _ _ _ => by kernel_rfl⟩
theorem dk_Read_C3 : condX dk_Read_P3 = some 11 := by kernel_rfl
/-- disk.go:154 -/
noncomputable def dk_Read_r4 (E : Env) (call round : CallT) (tm : T Value) : M (T Value) :=
  mv (T.get tm 6) fun v12 =>
  mv (some (.slice none 0 0)) fun v4 =>
  setF 4 v4 tm fun tm1 =>
  mv (some v12) fun v5 =>
  setF 5 v5 tm1 fun tm2 =>
  M.pure tm2
theorem dk_Read_q4 : RegEq 35 31 dk_Read_g dk_Read_P4 dk_Read_r4 := ⟨by kernel_rfl, fun _ _ _ _ _ _ _ _ _ => by kernel_rfl⟩
/-- disk.go:156 -/
noncomputable def dk_Read_r5 (E : Env) (call round : CallT) (tm : T Value) : M (T Value) :=
  mv (T.get tm 0) fun v13 =>
  M.bind (oS (some v13) fun a => kNil a) fun v14 =>
  M.bind (oS (some v14) fun a => kFld E 116 a 1) fun v15 =>
  M.bind (oS (some v15) fun a => kLoad E 109 a) fun v16 =>
  mv (T.get tm 1) fun v17 =>
  M.bind (oS (some v16) fun a => oS (some v17) fun b => kLook E 109 false a b) fun v18 =>
  mv (some v18) fun v7 =>
  setF 7 v7 tm fun tm1 =>
  M.pure tm1
theorem dk_Read_q5 : RegEq 35 31 dk_Read_g dk_Read_P5 dk_Read_r5 := ⟨by kernel_rfl, fun _ _ _ _ _ _ _ _ _ => by kernel_rfl⟩
theorem dk_Read_E6 : ∃ k, dk_Read_P6 = .code .ret :: k := ⟨dk_Read_P6.tail, by kernel_rfl⟩
/-- disk.go:157 -/
noncomputable def dk_Read_r7 (E : Env) (call round : CallT) (tm : T Value) : M (T Value) :=
  mv (T.get tm 7) fun v19 =>
  M.bind (oS (some v19) fun a => oS (some (.pointer none)) fun b => Cl.get (aBin E .eql 108 (.tmp 19) (.const (.pointer none))) a b) fun v20 =>
  setF 20 v20 tm fun tm1 =>
  M.pure tm1
theorem dk_Read_q7 : RegEq 35 31 dk_Read_g dk_Read_P7 dk_Read_r7 := ⟨by kernel_rfl, fun _ _ _ _ _ _ _ _ _ => by kernel_rfl⟩
theorem dk_Read_C8 : condX dk_Read_P8 = some 20 := by kernel_rfl
/-- disk.go:158 -/
noncomputable def dk_Read_r9 (E : Env) (call round : CallT) (tm : T Value) : M (T Value) :=
  mv (some (.slice none 0 0)) fun v4 =>
  setF 4 v4 tm fun tm1 =>
  mv (some (.int .i64 6)) fun v5 =>
  setF 5 v5 tm1 fun tm2 =>
  M.pure tm2
theorem dk_Read_q9 : RegEq 35 31 dk_Read_g dk_Read_P9 dk_Read_r9 := ⟨by kernel_rfl, fun _ _ _ _ _ _ _ _ _ => by kernel_rfl⟩
/-- disk.go:160; the order is open -/
noncomputable def dk_Read_d10 (E : Env) (call round : CallT) (tm : T Value) : M ((Rho × T Value) × List OpLog) :=
  M.bind (apartO (oS (T.get tm 7) fun a => M.pure a)) fun p0 =>
  M.bind (apartO (oS (some p0.1) fun a => kNil a)) fun p1 =>
  M.bind (apartO (oS (some p1.1) fun a => kFld E 127 a 0)) fun p2 =>
  M.bind (apartO (oS (some p2.1) fun a => kLoad E 28 a)) fun p3 =>
  M.bind (apartO (oS (T.get tm 7) fun a => M.pure a)) fun p4 =>
  M.bind (apartO (oS (some p4.1) fun a => kNil a)) fun p5 =>
  M.bind (apartO (oS (some p5.1) fun a => kFld E 127 a 1)) fun p6 =>
  M.bind (apartO (oS (some p6.1) fun a => kLoad E 28 a)) fun p7 =>
  M.bind (apartO (oS (seqP [(0, (some p3.1)), (1, (some p7.1))]) fun ps => aBuildS E 172 2 ps)) fun p8 =>
  M.bind (apartO (M.on (some (.func (.func 72) #[] #[])) fun f => M.on (seqO [(some p8.1)]) fun l => callV call round f l)) fun p9 =>
  M.bind (apartO (oS (some p9.1) fun a => M.pure a)) fun p10 =>
  setT 4 p10.1 tm fun tm1 =>
  M.pure (([p10.1, p9.1, p8.1, p7.1, p6.1, p5.1, p4.1, p3.1, p2.1, p1.1, p0.1], tm1), [p10.2, p9.2, p8.2, p7.2, p6.2, p5.2, p4.2, p3.2, p2.2, p1.2, p0.2])
theorem dk_Read_q10 : DrawEq 35 31 dk_Read_g dk_Read_P10 [0, 1, 3, 7, 0, 16, 48, 112, 255, 511, 1023, 2047] dk_Read_d10 := ⟨by kernel_rfl, by kernel_rfl, fun _ _ _ _ _ _ _ _ _ => by kernel_rfl⟩
theorem dk_Read_L10 (E : Env) (call round : CallT) (x21 x22 x23 x24 x25 x26 x27 x28 x29 x30 x4 : Value) (tm : T Value) (s : St) : opsIn call round (lastOps E dk_Read_g 31 (hdC dk_Read_P10)) [x4, x30, x29, x28, x27, x26, x25, x24, x23, x22, x21] tm s = (M.bind (oS (some (.int .i64 0)) fun a => M.pure a) fun v5 => setT 5 v5 tm fun tm1 => M.pure tm1) s := by kernel_rfl
theorem dk_Read_E11 : ∃ k, dk_Read_P11 = .code .ret :: k := ⟨dk_Read_P11.tail, by kernel_rfl⟩
theorem dk_Read_E12 : ∃ k, dk_Read_P12 = .code .ret :: k := ⟨dk_Read_P12.tail, by kernel_rfl⟩
-- points: 0:region>[1], 1:region>[2], 2:region>[3], 3:cond>[4, 5], 4:region>[6], 5:region>[7], 6:ret>, 7:region>[8], 8:cond>[9, 10], 9:region>[11], 10:region>[12], 11:ret>, 12:ret>

/-! ### (*satchel/disk.Disk).ready -/
noncomputable def dk_ready_g : Nat := globOf Tryz.f64
abbrev dk_ready_nt : Nat := 11
noncomputable def dk_ready_body : Code := Tryz.f64.body.getD .skip
theorem dk_ready_fn : envS.fn.get 64 = some Tryz.f64 := by kernel_rfl
theorem dk_ready_W {a0 : Value} {n : Nat} {s : St} {Q : Value → St → Prop} (h : ∀ tm, T.get tm 0 = some a0 → W (runF envS n ⟨64, 11, dk_ready_g, tm, [.code dk_ready_body], .run, .normal, none⟩) (s.cxN cxN) fun p s1 => Q p.1 (s1.cxN s.cx)) : W (callW envS (runF envS n) 64 [a0]) s Q :=
  W.call (by kernel_rfl) (by kernel_rfl) dk_ready_fn (by kernel_rfl) rfl rfl (by simp) (h _ (by kernel_rfl))
theorem dk_ready_res : Tryz.f64.results.toList = [.tmp 2] := by kernel_rfl
noncomputable def dk_ready_P0 : List Item := skim 64 [.code dk_ready_body]
noncomputable def dk_ready_P1 : List Item := skim 64 dk_ready_P0.tail
theorem dk_ready_S0_1 : skim 64 dk_ready_P0.tail = dk_ready_P1 := by kernel_rfl
noncomputable def dk_ready_P2 : List Item := skim 64 dk_ready_P1.tail
theorem dk_ready_S1_2 : skim 64 dk_ready_P1.tail = dk_ready_P2 := by kernel_rfl
noncomputable def dk_ready_P3 : List Item := skim 64 (brT dk_ready_P2)
theorem dk_ready_S2_3 : skim 64 (brT dk_ready_P2) = dk_ready_P3 := by kernel_rfl
noncomputable def dk_ready_P4 : List Item := skim 64 (brF dk_ready_P2)
theorem dk_ready_S2_4 : skim 64 (brF dk_ready_P2) = dk_ready_P4 := by kernel_rfl
noncomputable def dk_ready_P5 : List Item := skim 64 dk_ready_P3.tail
theorem dk_ready_S3_5 : skim 64 dk_ready_P3.tail = dk_ready_P5 := by kernel_rfl
noncomputable def dk_ready_P6 : List Item := skim 64 dk_ready_P4.tail
theorem dk_ready_S4_6 : skim 64 dk_ready_P4.tail = dk_ready_P6 := by kernel_rfl
noncomputable def dk_ready_P7 : List Item := skim 64 (brT dk_ready_P6)
theorem dk_ready_S6_7 : skim 64 (brT dk_ready_P6) = dk_ready_P7 := by kernel_rfl
noncomputable def dk_ready_P8 : List Item := skim 64 (brF dk_ready_P6)
theorem dk_ready_S6_8 : skim 64 (brF dk_ready_P6) = dk_ready_P8 := by kernel_rfl
theorem dk_ready_S7_5 : skim 64 dk_ready_P7.tail = dk_ready_P5 := by kernel_rfl
noncomputable def dk_ready_P9 : List Item := skim 64 dk_ready_P8.tail
theorem dk_ready_S8_9 : skim 64 dk_ready_P8.tail = dk_ready_P9 := by kernel_rfl
/-- disk.go:55 -/
noncomputable def dk_ready_r0 (E : Env) (call round : CallT) (tm : T Value) : M (T Value) :=
  mv (some (.int .i64 0)) fun v2 =>
  setF 2 v2 tm fun tm1 =>
  M.pure tm1
theorem dk_ready_q0 : RegEq 64 11 dk_ready_g dk_ready_P0 dk_ready_r0 := ⟨by kernel_rfl, fun _ _ _ _ _ _ _ _ _ => by kernel_rfl⟩
/-- disk.go:57 -/
noncomputable def dk_ready_r1 (E : Env) (call round : CallT) (tm : T Value) : M (T Value) :=
  mv (T.get tm 0) fun v4 =>
  M.bind (M.on (some (.func (.func 71) #[] #[])) fun f => M.on (seqO [(some v4)]) fun l => callV call round f l) fun v5 =>
  mv (some v5) fun v3 =>
  setF 3 v3 tm fun tm1 =>
  M.pure tm1
theorem dk_ready_q1 : RegEq 64 11 dk_ready_g dk_ready_P1 dk_ready_r1 := ⟨by kernel_rfl, fun _ _ _ _ _ _ _ _ _ => by kernel_rfl⟩
theorem dk_ready_C2 : condX dk_ready_P2 = some 3 := by kernel_rfl
/-- disk.go:58 -/
noncomputable def dk_ready_r3 (E : Env) (call round : CallT) (tm : T Value) : M (T Value) :=
  mv (some (.int .i64 1)) fun v2 =>
  setF 2 v2 tm fun tm1 =>
  M.pure tm1
theorem dk_ready_q3 : RegEq 64 11 dk_ready_g dk_ready_P3 dk_ready_r3 := ⟨by kernel_rfl, fun _ _ _ _ _ _ _ _ _ => by kernel_rfl⟩
/-- disk.go:59 -/
noncomputable def dk_ready_r4 (E : Env) (call round : CallT) (tm : T Value) : M (T Value) :=
  mv (T.get tm 0) fun v7 =>
  M.bind (oS (some v7) fun a => kNil a) fun v8 =>
  M.bind (oS (some v8) fun a => kFld E 116 a 6) fun v9 =>
  M.bind (oS (some v9) fun a => kLoad E 4 a) fun v10 =>
  mv (some v10) fun v6 =>
  setF 6 v6 tm fun tm1 =>
  M.pure tm1
theorem dk_ready_q4 : RegEq 64 11 dk_ready_g dk_ready_P4 dk_ready_r4 := ⟨by kernel_rfl, fun _ _ _ _ _ _ _ _ _ => by kernel_rfl⟩
theorem dk_ready_E5 : ∃ k, dk_ready_P5 = .code .ret :: k := ⟨dk_ready_P5.tail, by kernel_rfl⟩
theorem dk_ready_C6 : condX dk_ready_P6 = some 6 := by kernel_rfl
/-- disk.go:60 -/
noncomputable def dk_ready_r7 (E : Env) (call round : CallT) (tm : T Value) : M (T Value) :=
  mv (some (.int .i64 10)) fun v2 =>
  setF 2 v2 tm fun tm1 =>
  M.pure tm1
theorem dk_ready_q7 : RegEq 64 11 dk_ready_g dk_ready_P7 dk_ready_r7 := ⟨by kernel_rfl, fun _ _ _ _ _ _ _ _ _ => by kernel_rfl⟩
/-- disk.go:62 -/
noncomputable def dk_ready_r8 (E : Env) (call round : CallT) (tm : T Value) : M (T Value) :=
  mv (some (.int .i64 0)) fun v2 =>
  setF 2 v2 tm fun tm1 =>
  M.pure tm1
theorem dk_ready_q8 : RegEq 64 11 dk_ready_g dk_ready_P8 dk_ready_r8 := ⟨by kernel_rfl, fun _ _ _ _ _ _ _ _ _ => by kernel_rfl⟩
theorem dk_ready_E9 : ∃ k, dk_ready_P9 = .code .ret :: k := ⟨dk_ready_P9.tail, by kernel_rfl⟩
-- points: 0:region>[1], 1:region>[2], 2:cond>[3, 4], 3:region>[5], 4:region>[6], 5:ret>, 6:cond>[7, 8], 7:region>[5], 8:region>[9], 9:ret>

/-! ### (*satchel/disk.Disk).none -/
noncomputable def dk_none_g : Nat := globOf Tryz.f71
abbrev dk_none_nt : Nat := 12
noncomputable def dk_none_body : Code := Tryz.f71.body.getD .skip
theorem dk_none_fn : envS.fn.get 71 = some Tryz.f71 := by kernel_rfl
theorem dk_none_W {a0 : Value} {n : Nat} {s : St} {Q : Value → St → Prop} (h : ∀ tm, T.get tm 0 = some a0 → W (runF envS n ⟨71, 12, dk_none_g, tm, [.code dk_none_body], .run, .normal, none⟩) (s.cxN cxN) fun p s1 => Q p.1 (s1.cxN s.cx)) : W (callW envS (runF envS n) 71 [a0]) s Q :=
  W.call (by kernel_rfl) (by kernel_rfl) dk_none_fn (by kernel_rfl) rfl rfl (by simp) (h _ (by kernel_rfl))
theorem dk_none_res : Tryz.f71.results.toList = [.tmp 2] := by kernel_rfl
noncomputable def dk_none_P0 : List Item := skim 64 [.code dk_none_body]
noncomputable def dk_none_P1 : List Item := skim 64 dk_none_P0.tail
theorem dk_none_S0_1 : skim 64 dk_none_P0.tail = dk_none_P1 := by kernel_rfl
noncomputable def dk_none_P2 : List Item := skim 64 dk_none_P1.tail
theorem dk_none_S1_2 : skim 64 dk_none_P1.tail = dk_none_P2 := by kernel_rfl
/-- disk.go:40 -/
noncomputable def dk_none_r0 (E : Env) (call round : CallT) (tm : T Value) : M (T Value) :=
  mv (some (.bool false)) fun v2 =>
  setF 2 v2 tm fun tm1 =>
  M.pure tm1
theorem dk_none_q0 : RegEq 71 12 dk_none_g dk_none_P0 dk_none_r0 := ⟨by kernel_rfl, fun _ _ _ _ _ _ _ _ _ => by kernel_rfl⟩
/-- disk.go:40 -/
noncomputable def dk_none_r1 (E : Env) (call round : CallT) (tm : T Value) : M (T Value) :=
  mv (T.get tm 0) fun v3 =>
  M.bind (oS (some v3) fun a => oS (some (.pointer none)) fun b => Cl.get (aBin E .eql 35 (.tmp 3) (.const (.pointer none))) a b) fun v4 =>
  mv (some v4) fun v5 =>
  M.bind (M.chk (isK v5) (M.if (isB v5 false) (oS (T.get tm 0) fun a => M.pure a) (M.pure undef))) fun v6 =>
  M.bind (M.chk (isK v5) (M.if (isB v5 false) (oS (some v6) fun a => kNil a) (M.pure undef))) fun v7 =>
  M.bind (M.chk (isK v5) (M.if (isB v5 false) (oS (some v7) fun a => kFld E 116 a 0) (M.pure undef))) fun v8 =>
  M.bind (M.chk (isK v5) (M.if (isB v5 false) (oS (some v8) fun a => kLoad E 4 a) (M.pure undef))) fun v9 =>
  M.bind (M.chk (isK v5) (M.if (isB v5 false) (oS (some v9) fun a => kUn E.P .not a) (M.pure undef))) fun v10 =>
  M.bind (M.on (some v5) fun a => M.on (some (.bool true)) fun b => M.on (some v10) fun c => kPick a b c) fun v11 =>
  mv (some v11) fun v2 =>
  setF 2 v2 tm fun tm1 =>
  M.pure tm1
theorem dk_none_q1 : RegEq 71 12 dk_none_g dk_none_P1 dk_none_r1 := ⟨by kernel_rfl, fun _ _ _ _ _ _ _ _ _ => by kernel_rfl⟩
theorem dk_none_E2 : ∃ k, dk_none_P2 = .code .ret :: k := ⟨dk_none_P2.tail, by kernel_rfl⟩
-- points: 0:region>[1], 1:region>[2], 2:ret>
end Go.Proofs.YtbmkpcjkadifhaaGreatDoor.Am
