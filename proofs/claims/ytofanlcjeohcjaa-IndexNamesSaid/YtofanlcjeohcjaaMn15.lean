/- What each region of some functions comes to, as a word of the evaluator: equations, each checked by the kernel. Printed by a program. -/
import Derived.Test.YtofanlcjeohcjaaMn14
import Derived.Test.YtofanlcjeohcjaaMn08
import Derived.KernelRfl
namespace Go.Proofs.Ytofanlcjeohcjaa.Am
open Go.RowKit

/-! ### satchel/index.Name -/
noncomputable def index_Name_g : Nat := globOf Try.f47
abbrev index_Name_nt : Nat := 27
noncomputable def index_Name_body : Code := Try.f47.body.getD .skip
theorem index_Name_fn : envS.fn.get 47 = some Try.f47 := by kernel_rfl
theorem index_Name_W {a0 : Value} {n : Nat} {s : St} {Q : Value → St → Prop} (h : ∀ tm, T.get tm 0 = some a0 → W (runF envS n ⟨47, 27, index_Name_g, tm, [.code index_Name_body], .run, .normal, none⟩) (s.cxN cxN) fun p s1 => Q p.1 (s1.cxN s.cx)) : W (callW envS (runF envS n) 47 [a0]) s Q :=
  W.call (by kernel_rfl) (by kernel_rfl) index_Name_fn (by kernel_rfl) rfl rfl (by simp) (h _ (by kernel_rfl))
theorem index_Name_res : Try.f47.results.toList = [.tmp 2] := by kernel_rfl
noncomputable def index_Name_P0 : List Item := skim 64 [.code index_Name_body]
noncomputable def index_Name_P1 : List Item := skim 64 index_Name_P0.tail
theorem index_Name_S0_1 : skim 64 index_Name_P0.tail = index_Name_P1 := by kernel_rfl
noncomputable def index_Name_P2 : List Item := skim 64 index_Name_P1.tail
theorem index_Name_S1_2 : skim 64 index_Name_P1.tail = index_Name_P2 := by kernel_rfl
noncomputable def index_Name_P3 : List Item := skim 64 (brT index_Name_P2)
theorem index_Name_S2_3 : skim 64 (brT index_Name_P2) = index_Name_P3 := by kernel_rfl
noncomputable def index_Name_P4 : List Item := skim 64 (brF index_Name_P2)
theorem index_Name_S2_4 : skim 64 (brF index_Name_P2) = index_Name_P4 := by kernel_rfl
noncomputable def index_Name_P5 : List Item := skim 64 index_Name_P3.tail
theorem index_Name_S3_5 : skim 64 index_Name_P3.tail = index_Name_P5 := by kernel_rfl
noncomputable def index_Name_P6 : List Item := skim 64 index_Name_P4.tail
theorem index_Name_S4_6 : skim 64 index_Name_P4.tail = index_Name_P6 := by kernel_rfl
noncomputable def index_Name_P7 : List Item := skim 64 index_Name_P6.tail
theorem index_Name_S6_7 : skim 64 index_Name_P6.tail = index_Name_P7 := by kernel_rfl
noncomputable def index_Name_P8 : List Item := skim 64 index_Name_P7.tail
theorem index_Name_S7_8 : skim 64 index_Name_P7.tail = index_Name_P8 := by kernel_rfl
noncomputable def index_Name_P9 : List Item := skim 64 (brT index_Name_P8)
theorem index_Name_S8_9 : skim 64 (brT index_Name_P8) = index_Name_P9 := by kernel_rfl
noncomputable def index_Name_P10 : List Item := skim 64 (brF index_Name_P8)
theorem index_Name_S8_10 : skim 64 (brF index_Name_P8) = index_Name_P10 := by kernel_rfl
noncomputable def index_Name_P11 : List Item := skim 64 index_Name_P9.tail
theorem index_Name_S9_11 : skim 64 index_Name_P9.tail = index_Name_P11 := by kernel_rfl
noncomputable def index_Name_P12 : List Item := skim 64 index_Name_P10.tail
theorem index_Name_S10_12 : skim 64 index_Name_P10.tail = index_Name_P12 := by kernel_rfl
noncomputable def index_Name_P13 : List Item := skim 64 index_Name_P11.tail
theorem index_Name_S11_13 : skim 64 index_Name_P11.tail = index_Name_P13 := by kernel_rfl
noncomputable def index_Name_P14 : List Item := skim 64 index_Name_P13.tail
theorem index_Name_S13_14 : skim 64 index_Name_P13.tail = index_Name_P14 := by kernel_rfl
theorem index_Name_S14_7 : skim 64 index_Name_P14.tail = index_Name_P7 := by kernel_rfl
/-- index.go:18 -/
noncomputable def index_Name_r0 (E : Env) (call round : CallT) (tm : T Value) : M (T Value) :=
  mv (some (.string { data := #[] })) fun v2 =>
  setF 2 v2 tm fun tm1 =>
  M.pure tm1
theorem index_Name_q0 : RegEq 47 27 index_Name_g index_Name_P0 index_Name_r0 := ⟨by kernel_rfl, fun _ _ _ _ _ _ _ _ _ => by kernel_rfl⟩
/-- index.go:19 -/
noncomputable def index_Name_r1 (E : Env) (call round : CallT) (tm : T Value) : M (T Value) :=
  mv (T.get tm 0) fun v5 =>
  M.bind (oS (some v5) fun a => oS (some (.int .i64 1)) fun b => Cl.get (aBin E .lss 3 (.tmp 5) (.const (.int .i64 1))) a b) fun v6 =>
  mv (some v6) fun v7 =>
  M.bind (M.chk (isK v7) (M.if (isB v7 false) (oS (T.get tm 0) fun a => M.pure a) (M.pure undef))) fun v8 =>
  M.bind (M.chk (isK v7) (M.if (isB v7 false) (oS (some v8) fun a => oS (some (.int .i64 999999)) fun b => Cl.get (aBin E .gtr 3 (.tmp 8) (.const (.int .i64 999999))) a b) (M.pure undef))) fun v9 =>
  M.bind (M.on (some v7) fun a => M.on (some (.bool true)) fun b => M.on (some v9) fun c => kPick a b c) fun v10 =>
  setF 10 v10 tm fun tm1 =>
  M.pure tm1
theorem index_Name_q1 : RegEq 47 27 index_Name_g index_Name_P1 index_Name_r1 := ⟨by kernel_rfl, fun _ _ _ _ _ _ _ _ _ => by kernel_rfl⟩
theorem index_Name_C2 : condX index_Name_P2 = some 10 := by kernel_rfl
/-- index.go:20 -/
noncomputable def index_Name_r3 (E : Env) (call round : CallT) (tm : T Value) : M (T Value) :=
  mv (some (.string { data := #[] })) fun v2 =>
  setF 2 v2 tm fun tm1 =>
  M.pure tm1
theorem index_Name_q3 : RegEq 47 27 index_Name_g index_Name_P3 index_Name_r3 := ⟨by kernel_rfl, fun _ _ _ _ _ _ _ _ _ => by kernel_rfl⟩
/-- index.go:22 -/
noncomputable def index_Name_r4 (E : Env) (call round : CallT) (tm : T Value) : M (T Value) :=
  M.bind (kAlloc E 89) fun v3 =>
  setF 3 v3 tm fun tm1 =>
  M.pure tm1
theorem index_Name_q4 : RegEq 47 27 index_Name_g index_Name_P4 index_Name_r4 := ⟨by kernel_rfl, fun _ _ _ _ _ _ _ _ _ => by kernel_rfl⟩
theorem index_Name_E5 : ∃ k, index_Name_P5 = .code .ret :: k := ⟨index_Name_P5.tail, by kernel_rfl⟩
/-- index.go:23 -/
noncomputable def index_Name_r6 (E : Env) (call round : CallT) (tm : T Value) : M (T Value) :=
  mv (some (.int .i64 0)) fun v11 =>
  setF 11 v11 tm fun tm1 =>
  M.pure tm1
theorem index_Name_q6 : RegEq 47 27 index_Name_g index_Name_P6 index_Name_r6 := ⟨by kernel_rfl, fun _ _ _ _ _ _ _ _ _ => by kernel_rfl⟩
/-- index.go:23 -/
noncomputable def index_Name_r7 (E : Env) (call round : CallT) (tm : T Value) : M (T Value) :=
  M.bind (oS (T.get tm 11) fun a => oS (some (.int .i64 6)) fun b => Cl.get (aBin E .lss 3 (.tmp 11) (.const (.int .i64 6))) a b) fun v12 =>
  setF 12 v12 tm fun tm1 =>
  M.pure tm1
theorem index_Name_q7 : RegEq 47 27 index_Name_g index_Name_P7 index_Name_r7 := ⟨by kernel_rfl, fun _ _ _ _ _ _ _ _ _ => by kernel_rfl⟩
theorem index_Name_C8 : condX index_Name_P8 = some 12 := by kernel_rfl
/-- index.go:23 -/
noncomputable def index_Name_r9 (E : Env) (call round : CallT) (tm : T Value) : M (T Value) :=
  mv (T.get tm 11) fun v13 =>
  mv (some v13) fun v4 =>
  setF 4 v4 tm fun tm1 =>
  M.pure tm1
theorem index_Name_q9 : RegEq 47 27 index_Name_g index_Name_P9 index_Name_r9 := ⟨by kernel_rfl, fun _ _ _ _ _ _ _ _ _ => by kernel_rfl⟩
/-- index.go:27 -/
noncomputable def index_Name_r10 (E : Env) (call round : CallT) (tm : T Value) : M (T Value) :=
  M.bind (M.on (T.get tm 3) fun a => M.on (some none) fun b => M.on (some none) fun c => aSlice E 89 a b c) fun v24 =>
  M.bind (oS (some v24) fun a => kConvB E 22 9 a) fun v25 =>
  M.bind (oS (some (.string { data := #[112, 97, 99, 107, 47] })) fun a => oS (some v25) fun b => Cl.get (aBin E .add 9 (.const (.string { data := #[112, 97, 99, 107, 47] })) (.tmp 25)) a b) fun v26 =>
  mv (some v26) fun v2 =>
  setF 2 v2 tm fun tm1 =>
  M.pure tm1
theorem index_Name_q10 : RegEq 47 27 index_Name_g index_Name_P10 index_Name_r10 := ⟨by kernel_rfl, fun _ _ _ _ _ _ _ _ _ => by kernel_rfl⟩
/-- index.go:24 -/
noncomputable def index_Name_r11 (E : Env) (call round : CallT) (tm : T Value) : M (T Value) :=
  mv (T.get tm 4) fun v14 =>
  M.bind (oS (some (.int .i64 5)) fun a => oS (some v14) fun b => Cl.get (aBin E .sub 3 (.const (.int .i64 5)) (.tmp 14)) a b) fun v15 =>
  mv (T.get tm 0) fun v16 =>
  M.bind (oS (some v16) fun a => oS (some (.int .i64 10)) fun b => Cl.get (aBin E .rem 3 (.tmp 16) (.const (.int .i64 10))) a b) fun v17 =>
  M.bind (oS (some (.int .i64 48)) fun a => oS (some v17) fun b => Cl.get (aBin E .add 3 (.const (.int .i64 48)) (.tmp 17)) a b) fun v18 =>
  M.bind (oS (some v18) fun a => kConvB E 3 5 a) fun v19 =>
  M.bind (oS (T.get tm 3) fun a => oS (some v15) fun b => kIdxA E 89 a b) fun v20 =>
  M.bind (oS (some v20) fun a => oS (some v19) fun b => kStore E 5 a b) fun _ =>
  M.pure tm
theorem index_Name_q11 : RegEq 47 27 index_Name_g index_Name_P11 index_Name_r11 := ⟨by kernel_rfl, fun _ _ _ _ _ _ _ _ _ => by kernel_rfl⟩
theorem index_Name_E12 : ∃ k, index_Name_P12 = .code .ret :: k := ⟨index_Name_P12.tail, by kernel_rfl⟩
/-- index.go:25 -/
noncomputable def index_Name_r13 (E : Env) (call round : CallT) (tm : T Value) : M (T Value) :=
  mv (T.get tm 0) fun v21 =>
  M.bind (oS (some v21) fun a => oS (some (.int .i64 10)) fun b => Cl.get (aBin E .quo 3 (.tmp 21) (.const (.int .i64 10))) a b) fun v22 =>
  mv (some v22) fun v0 =>
  setF 0 v0 tm fun tm1 =>
  M.pure tm1
theorem index_Name_q13 : RegEq 47 27 index_Name_g index_Name_P13 index_Name_r13 := ⟨by kernel_rfl, fun _ _ _ _ _ _ _ _ _ => by kernel_rfl⟩
/-- index.go:23 -/
noncomputable def index_Name_r14 (E : Env) (call round : CallT) (tm : T Value) : M (T Value) :=
  M.bind (oS (T.get tm 11) fun a => oS (some (.int .i64 1)) fun b => Cl.get (aBin E .add 3 (.tmp 11) (.const (.int .i64 1))) a b) fun v23 =>
  mv (some v23) fun v11 =>
  setF 11 v11 tm fun tm1 =>
  M.pure tm1
theorem index_Name_q14 : RegEq 47 27 index_Name_g index_Name_P14 index_Name_r14 := ⟨by kernel_rfl, fun _ _ _ _ _ _ _ _ _ => by kernel_rfl⟩
-- points: 0:region>[1], 1:region>[2], 2:cond>[3, 4], 3:region>[5], 4:region>[6], 5:ret>, 6:region>[7], 7:region>[8], 8:cond>[9, 10], 9:region>[11], 10:region>[12], 11:region>[13], 12:ret>, 13:region>[14], 14:region>[7]

/-! ### satchel/index.Parse -/
noncomputable def index_Parse_g : Nat := globOf Try.f41
abbrev index_Parse_nt : Nat := 47
noncomputable def index_Parse_body : Code := Try.f41.body.getD .skip
theorem index_Parse_fn : envS.fn.get 41 = some Try.f41 := by kernel_rfl
theorem index_Parse_W {a0 : Value} {n : Nat} {s : St} {Q : Value → St → Prop} (h : ∀ tm, T.get tm 0 = some a0 → W (runF envS n ⟨41, 47, index_Parse_g, tm, [.code index_Parse_body], .run, .normal, none⟩) (s.cxN cxN) fun p s1 => Q p.1 (s1.cxN s.cx)) : W (callW envS (runF envS n) 41 [a0]) s Q :=
  W.call (by kernel_rfl) (by kernel_rfl) index_Parse_fn (by kernel_rfl) rfl rfl (by simp) (h _ (by kernel_rfl))
theorem index_Parse_res : Try.f41.results.toList = [.tmp 2, .tmp 3] := by kernel_rfl
noncomputable def index_Parse_P0 : List Item := skim 64 [.code index_Parse_body]
noncomputable def index_Parse_P1 : List Item := skim 64 index_Parse_P0.tail
theorem index_Parse_S0_1 : skim 64 index_Parse_P0.tail = index_Parse_P1 := by kernel_rfl
noncomputable def index_Parse_P2 : List Item := skim 64 index_Parse_P1.tail
theorem index_Parse_S1_2 : skim 64 index_Parse_P1.tail = index_Parse_P2 := by kernel_rfl
noncomputable def index_Parse_P3 : List Item := skim 64 index_Parse_P2.tail
theorem index_Parse_S2_3 : skim 64 index_Parse_P2.tail = index_Parse_P3 := by kernel_rfl
noncomputable def index_Parse_P4 : List Item := skim 64 (brT index_Parse_P3)
theorem index_Parse_S3_4 : skim 64 (brT index_Parse_P3) = index_Parse_P4 := by kernel_rfl
noncomputable def index_Parse_P5 : List Item := skim 64 (brF index_Parse_P3)
theorem index_Parse_S3_5 : skim 64 (brF index_Parse_P3) = index_Parse_P5 := by kernel_rfl
noncomputable def index_Parse_P6 : List Item := skim 64 index_Parse_P4.tail
theorem index_Parse_S4_6 : skim 64 index_Parse_P4.tail = index_Parse_P6 := by kernel_rfl
noncomputable def index_Parse_P7 : List Item := skim 64 index_Parse_P5.tail
theorem index_Parse_S5_7 : skim 64 index_Parse_P5.tail = index_Parse_P7 := by kernel_rfl
noncomputable def index_Parse_P8 : List Item := skim 64 index_Parse_P7.tail
theorem index_Parse_S7_8 : skim 64 index_Parse_P7.tail = index_Parse_P8 := by kernel_rfl
noncomputable def index_Parse_P9 : List Item := skim 64 index_Parse_P8.tail
theorem index_Parse_S8_9 : skim 64 index_Parse_P8.tail = index_Parse_P9 := by kernel_rfl
noncomputable def index_Parse_P10 : List Item := skim 64 (brT index_Parse_P9)
theorem index_Parse_S9_10 : skim 64 (brT index_Parse_P9) = index_Parse_P10 := by kernel_rfl
noncomputable def index_Parse_P11 : List Item := skim 64 (brF index_Parse_P9)
theorem index_Parse_S9_11 : skim 64 (brF index_Parse_P9) = index_Parse_P11 := by kernel_rfl
noncomputable def index_Parse_P12 : List Item := skim 64 index_Parse_P10.tail
theorem index_Parse_S10_12 : skim 64 index_Parse_P10.tail = index_Parse_P12 := by kernel_rfl
noncomputable def index_Parse_P13 : List Item := skim 64 index_Parse_P11.tail
theorem index_Parse_S11_13 : skim 64 index_Parse_P11.tail = index_Parse_P13 := by kernel_rfl
noncomputable def index_Parse_P14 : List Item := skim 64 index_Parse_P12.tail
theorem index_Parse_S12_14 : skim 64 index_Parse_P12.tail = index_Parse_P14 := by kernel_rfl
noncomputable def index_Parse_P15 : List Item := skim 64 (brT index_Parse_P14)
theorem index_Parse_S14_15 : skim 64 (brT index_Parse_P14) = index_Parse_P15 := by kernel_rfl
noncomputable def index_Parse_P16 : List Item := skim 64 (brF index_Parse_P14)
theorem index_Parse_S14_16 : skim 64 (brF index_Parse_P14) = index_Parse_P16 := by kernel_rfl
noncomputable def index_Parse_P17 : List Item := skim 64 index_Parse_P15.tail
theorem index_Parse_S15_17 : skim 64 index_Parse_P15.tail = index_Parse_P17 := by kernel_rfl
noncomputable def index_Parse_P18 : List Item := skim 64 index_Parse_P16.tail
theorem index_Parse_S16_18 : skim 64 index_Parse_P16.tail = index_Parse_P18 := by kernel_rfl
theorem index_Parse_S18_8 : skim 64 index_Parse_P18.tail = index_Parse_P8 := by kernel_rfl
/-- index.go:30 -/
noncomputable def index_Parse_r0 (E : Env) (call round : CallT) (tm : T Value) : M (T Value) :=
  mv (some (.int .i64 0)) fun v2 =>
  setF 2 v2 tm fun tm1 =>
  mv (some (.bool false)) fun v3 =>
  setF 3 v3 tm1 fun tm2 =>
  M.pure tm2
theorem index_Parse_q0 : RegEq 41 47 index_Parse_g index_Parse_P0 index_Parse_r0 := ⟨by kernel_rfl, fun _ _ _ _ _ _ _ _ _ => by kernel_rfl⟩
/-- index.go:31 -/
noncomputable def index_Parse_r1 (E : Env) (call round : CallT) (tm : T Value) : M (T Value) :=
  mv (T.get tm 0) fun v9 =>
  M.bind (M.on (some (.func (.func 93) #[] #[])) fun f => M.on (seqO [(some v9), (some (.string { data := #[112, 97, 99, 107, 47] }))]) fun l => callV call round f l) fun v10 =>
  mv (some v10) fun v8 =>
  M.bind (oS (some v8) fun a => kExt 0 a) fun v11 =>
  M.bind (oS (some v8) fun a => kExt 1 a) fun v12 =>
  mv (some v11) fun v4 =>
  setF 4 v4 tm fun tm1 =>
  mv (some v12) fun v5 =>
  setF 5 v5 tm1 fun tm2 =>
  M.pure tm2
theorem index_Parse_q1 : RegEq 41 47 index_Parse_g index_Parse_P1 index_Parse_r1 := ⟨by kernel_rfl, fun _ _ _ _ _ _ _ _ _ => by kernel_rfl⟩
/-- index.go:32 -/
noncomputable def index_Parse_r2 (E : Env) (call round : CallT) (tm : T Value) : M (T Value) :=
  mv (T.get tm 5) fun v13 =>
  M.bind (oS (some v13) fun a => kUn E.P .not a) fun v14 =>
  mv (some v14) fun v15 =>
  M.bind (M.chk (isK v15) (M.if (isB v15 false) (oS (T.get tm 4) fun a => M.pure a) (M.pure undef))) fun v16 =>
  M.bind (M.chk (isK v15) (M.if (isB v15 false) (oS (seqO [(some v16)]) fun l => aBuiltin E .len [9] l) (M.pure undef))) fun v17 =>
  M.bind (M.chk (isK v15) (M.if (isB v15 false) (oS (some v17) fun a => oS (some (.int .i64 6)) fun b => Cl.get (aBin E .neq 3 (.tmp 17) (.const (.int .i64 6))) a b) (M.pure undef))) fun v18 =>
  M.bind (M.on (some v15) fun a => M.on (some (.bool true)) fun b => M.on (some v18) fun c => kPick a b c) fun v19 =>
  setF 19 v19 tm fun tm1 =>
  M.pure tm1
theorem index_Parse_q2 : RegEq 41 47 index_Parse_g index_Parse_P2 index_Parse_r2 := ⟨by kernel_rfl, fun _ _ _ _ _ _ _ _ _ => by kernel_rfl⟩
theorem index_Parse_C3 : condX index_Parse_P3 = some 19 := by kernel_rfl
/-- index.go:33 -/
noncomputable def index_Parse_r4 (E : Env) (call round : CallT) (tm : T Value) : M (T Value) :=
  mv (some (.int .i64 0)) fun v2 =>
  setF 2 v2 tm fun tm1 =>
  mv (some (.bool false)) fun v3 =>
  setF 3 v3 tm1 fun tm2 =>
  M.pure tm2
theorem index_Parse_q4 : RegEq 41 47 index_Parse_g index_Parse_P4 index_Parse_r4 := ⟨by kernel_rfl, fun _ _ _ _ _ _ _ _ _ => by kernel_rfl⟩
/-- index.go:35 -/
noncomputable def index_Parse_r5 (E : Env) (call round : CallT) (tm : T Value) : M (T Value) :=
  mv (some (.int .i64 0)) fun v6 =>
  setF 6 v6 tm fun tm1 =>
  M.pure tm1
theorem index_Parse_q5 : RegEq 41 47 index_Parse_g index_Parse_P5 index_Parse_r5 := ⟨by kernel_rfl, fun _ _ _ _ _ _ _ _ _ => by kernel_rfl⟩
theorem index_Parse_E6 : ∃ k, index_Parse_P6 = .code .ret :: k := ⟨index_Parse_P6.tail, by kernel_rfl⟩
/-- index.go:36 -/
noncomputable def index_Parse_r7 (E : Env) (call round : CallT) (tm : T Value) : M (T Value) :=
  mv (T.get tm 4) fun v20 =>
  M.bind (oS (seqO [(some v20)]) fun l => aBuiltin E .len [9] l) fun v21 =>
  setF 21 v21 tm fun tm1 =>
  mv (some (.int .i64 0)) fun v22 =>
  setF 22 v22 tm1 fun tm2 =>
  M.pure tm2
theorem index_Parse_q7 : RegEq 41 47 index_Parse_g index_Parse_P7 index_Parse_r7 := ⟨by kernel_rfl, fun _ _ _ _ _ _ _ _ _ => by kernel_rfl⟩
/-- index.go:36 -/
noncomputable def index_Parse_r8 (E : Env) (call round : CallT) (tm : T Value) : M (T Value) :=
  M.bind (oS (T.get tm 22) fun a => oS (T.get tm 21) fun b => Cl.get (aBin E .lss 3 (.tmp 22) (.tmp 21)) a b) fun v23 =>
  setF 23 v23 tm fun tm1 =>
  M.pure tm1
theorem index_Parse_q8 : RegEq 41 47 index_Parse_g index_Parse_P8 index_Parse_r8 := ⟨by kernel_rfl, fun _ _ _ _ _ _ _ _ _ => by kernel_rfl⟩
theorem index_Parse_C9 : condX index_Parse_P9 = some 23 := by kernel_rfl
/-- index.go:36 -/
noncomputable def index_Parse_r10 (E : Env) (call round : CallT) (tm : T Value) : M (T Value) :=
  mv (T.get tm 22) fun v24 =>
  mv (some v24) fun v7 =>
  setF 7 v7 tm fun tm1 =>
  M.pure tm1
theorem index_Parse_q10 : RegEq 41 47 index_Parse_g index_Parse_P10 index_Parse_r10 := ⟨by kernel_rfl, fun _ _ _ _ _ _ _ _ _ => by kernel_rfl⟩
/-- index.go:42 -/
noncomputable def index_Parse_r11 (E : Env) (call round : CallT) (tm : T Value) : M (T Value) :=
  mv (T.get tm 6) fun v44 =>
  mv (T.get tm 6) fun v45 =>
  M.bind (oS (some v45) fun a => oS (some (.int .i64 0)) fun b => Cl.get (aBin E .gtr 3 (.tmp 45) (.const (.int .i64 0))) a b) fun v46 =>
  mv (some v44) fun v2 =>
  setF 2 v2 tm fun tm1 =>
  mv (some v46) fun v3 =>
  setF 3 v3 tm1 fun tm2 =>
  M.pure tm2
theorem index_Parse_q11 : RegEq 41 47 index_Parse_g index_Parse_P11 index_Parse_r11 := ⟨by kernel_rfl, fun _ _ _ _ _ _ _ _ _ => by kernel_rfl⟩
/-- index.go:37 -/
noncomputable def index_Parse_r12 (E : Env) (call round : CallT) (tm : T Value) : M (T Value) :=
  mv (T.get tm 4) fun v25 =>
  mv (T.get tm 7) fun v26 =>
  M.bind (oS (some v25) fun a => oS (some v26) fun b => kIdx E 9 a b) fun v27 =>
  M.bind (oS (some v27) fun a => oS (some (.int .u8 48)) fun b => Cl.get (aBin E .lss 5 (.tmp 27) (.const (.int .u8 48))) a b) fun v28 =>
  mv (some v28) fun v29 =>
  M.bind (M.chk (isK v29) (M.if (isB v29 false) (oS (T.get tm 4) fun a => M.pure a) (M.pure undef))) fun v30 =>
  M.bind (M.chk (isK v29) (M.if (isB v29 false) (oS (T.get tm 7) fun a => M.pure a) (M.pure undef))) fun v31 =>
  M.bind (M.chk (isK v29) (M.if (isB v29 false) (oS (some v30) fun a => oS (some v31) fun b => kIdx E 9 a b) (M.pure undef))) fun v32 =>
  M.bind (M.chk (isK v29) (M.if (isB v29 false) (oS (some v32) fun a => oS (some (.int .u8 57)) fun b => Cl.get (aBin E .gtr 5 (.tmp 32) (.const (.int .u8 57))) a b) (M.pure undef))) fun v33 =>
  M.bind (M.on (some v29) fun a => M.on (some (.bool true)) fun b => M.on (some v33) fun c => kPick a b c) fun v34 =>
  setF 34 v34 tm fun tm1 =>
  M.pure tm1
theorem index_Parse_q12 : RegEq 41 47 index_Parse_g index_Parse_P12 index_Parse_r12 := ⟨by kernel_rfl, fun _ _ _ _ _ _ _ _ _ => by kernel_rfl⟩
theorem index_Parse_E13 : ∃ k, index_Parse_P13 = .code .ret :: k := ⟨index_Parse_P13.tail, by kernel_rfl⟩
theorem index_Parse_C14 : condX index_Parse_P14 = some 34 := by kernel_rfl
/-- index.go:38 -/
noncomputable def index_Parse_r15 (E : Env) (call round : CallT) (tm : T Value) : M (T Value) :=
  mv (some (.int .i64 0)) fun v2 =>
  setF 2 v2 tm fun tm1 =>
  mv (some (.bool false)) fun v3 =>
  setF 3 v3 tm1 fun tm2 =>
  M.pure tm2
theorem index_Parse_q15 : RegEq 41 47 index_Parse_g index_Parse_P15 index_Parse_r15 := ⟨by kernel_rfl, fun _ _ _ _ _ _ _ _ _ => by kernel_rfl⟩
/-- index.go:40 -/
noncomputable def index_Parse_r16 (E : Env) (call round : CallT) (tm : T Value) : M (T Value) :=
  mv (T.get tm 6) fun v35 =>
  M.bind (oS (some (.int .i64 10)) fun a => oS (some v35) fun b => Cl.get (aBin E .mul 3 (.const (.int .i64 10)) (.tmp 35)) a b) fun v36 =>
  mv (T.get tm 4) fun v37 =>
  mv (T.get tm 7) fun v38 =>
  M.bind (oS (some v37) fun a => oS (some v38) fun b => kIdx E 9 a b) fun v39 =>
  M.bind (oS (some v39) fun a => oS (some (.int .u8 48)) fun b => Cl.get (aBin E .sub 5 (.tmp 39) (.const (.int .u8 48))) a b) fun v40 =>
  M.bind (oS (some v40) fun a => kConvB E 5 3 a) fun v41 =>
  M.bind (oS (some v36) fun a => oS (some v41) fun b => Cl.get (aBin E .add 3 (.tmp 36) (.tmp 41)) a b) fun v42 =>
  mv (some v42) fun v6 =>
  setF 6 v6 tm fun tm1 =>
  M.pure tm1
theorem index_Parse_q16 : RegEq 41 47 index_Parse_g index_Parse_P16 index_Parse_r16 := ⟨by kernel_rfl, fun _ _ _ _ _ _ _ _ _ => by kernel_rfl⟩
theorem index_Parse_E17 : ∃ k, index_Parse_P17 = .code .ret :: k := ⟨index_Parse_P17.tail, by kernel_rfl⟩
/-- index.go:36 -/
noncomputable def index_Parse_r18 (E : Env) (call round : CallT) (tm : T Value) : M (T Value) :=
  M.bind (oS (T.get tm 22) fun a => oS (some (.int .i64 1)) fun b => Cl.get (aBin E .add 3 (.tmp 22) (.const (.int .i64 1))) a b) fun v43 =>
  mv (some v43) fun v22 =>
  setF 22 v22 tm fun tm1 =>
  M.pure tm1
theorem index_Parse_q18 : RegEq 41 47 index_Parse_g index_Parse_P18 index_Parse_r18 := ⟨by kernel_rfl, fun _ _ _ _ _ _ _ _ _ => by kernel_rfl⟩
-- points: 0:region>[1], 1:region>[2], 2:region>[3], 3:cond>[4, 5], 4:region>[6], 5:region>[7], 6:ret>, 7:region>[8], 8:region>[9], 9:cond>[10, 11], 10:region>[12], 11:region>[13], 12:region>[14], 13:ret>, 14:cond>[15, 16], 15:region>[17], 16:region>[18], 17:ret>, 18:region>[8]

/-! ### strings.CutPrefix -/
noncomputable def str_CutPrefix_g : Nat := globOf Try.f93
abbrev str_CutPrefix_nt : Nat := 11
noncomputable def str_CutPrefix_body : Code := Try.f93.body.getD .skip
theorem str_CutPrefix_fn : envS.fn.get 93 = some Try.f93 := by kernel_rfl
theorem str_CutPrefix_W {a0 a1 : Value} {n : Nat} {s : St} {Q : Value → St → Prop} (h : ∀ tm, T.get tm 0 = some a0 → T.get tm 1 = some a1 → W (runF envS n ⟨93, 11, str_CutPrefix_g, tm, [.code str_CutPrefix_body], .run, .normal, none⟩) (s.cxN cxN) fun p s1 => Q p.1 (s1.cxN s.cx)) : W (callW envS (runF envS n) 93 [a0, a1]) s Q :=
  W.call (by kernel_rfl) (by kernel_rfl) str_CutPrefix_fn (by kernel_rfl) rfl rfl (by simp) (h _ (by kernel_rfl) (by kernel_rfl))
theorem str_CutPrefix_res : Try.f93.results.toList = [.tmp 4, .tmp 5] := by kernel_rfl
noncomputable def str_CutPrefix_P0 : List Item := skim 64 [.code str_CutPrefix_body]
noncomputable def str_CutPrefix_P1 : List Item := skim 64 str_CutPrefix_P0.tail
theorem str_CutPrefix_S0_1 : skim 64 str_CutPrefix_P0.tail = str_CutPrefix_P1 := by kernel_rfl
noncomputable def str_CutPrefix_P2 : List Item := skim 64 str_CutPrefix_P1.tail
theorem str_CutPrefix_S1_2 : skim 64 str_CutPrefix_P1.tail = str_CutPrefix_P2 := by kernel_rfl
/-- strings.go:1279 -/
noncomputable def str_CutPrefix_r0 (E : Env) (call round : CallT) (tm : T Value) : M (T Value) :=
  mv (some (.string { data := #[] })) fun v4 =>
  setF 4 v4 tm fun tm1 =>
  mv (some (.bool false)) fun v5 =>
  setF 5 v5 tm1 fun tm2 =>
  M.pure tm2
theorem str_CutPrefix_q0 : RegEq 93 11 str_CutPrefix_g str_CutPrefix_P0 str_CutPrefix_r0 := ⟨by kernel_rfl, fun _ _ _ _ _ _ _ _ _ => by kernel_rfl⟩
/-- strings.go:1280 -/
noncomputable def str_CutPrefix_r1 (E : Env) (call round : CallT) (tm : T Value) : M (T Value) :=
  mv (T.get tm 0) fun v6 =>
  mv (T.get tm 1) fun v7 =>
  M.bind (M.on (some (.func (.func 125) #[] #[])) fun f => M.on (seqO [(some v6), (some v7)]) fun l => callV call round f l) fun v8 =>
  M.bind (oS (some v8) fun a => kExt 0 a) fun v9 =>
  M.bind (oS (some v8) fun a => kExt 1 a) fun v10 =>
  mv (some v9) fun v4 =>
  setF 4 v4 tm fun tm1 =>
  mv (some v10) fun v5 =>
  setF 5 v5 tm1 fun tm2 =>
  M.pure tm2
theorem str_CutPrefix_q1 : RegEq 93 11 str_CutPrefix_g str_CutPrefix_P1 str_CutPrefix_r1 := ⟨by kernel_rfl, fun _ _ _ _ _ _ _ _ _ => by kernel_rfl⟩
theorem str_CutPrefix_E2 : ∃ k, str_CutPrefix_P2 = .code .ret :: k := ⟨str_CutPrefix_P2.tail, by kernel_rfl⟩
-- points: 0:region>[1], 1:region>[2], 2:ret>

/-! ### internal/stringslite.CutPrefix -/
noncomputable def sl_CutPrefix_g : Nat := globOf Try.f125
abbrev sl_CutPrefix_nt : Nat := 15
noncomputable def sl_CutPrefix_body : Code := Try.f125.body.getD .skip
theorem sl_CutPrefix_fn : envS.fn.get 125 = some Try.f125 := by kernel_rfl
theorem sl_CutPrefix_W {a0 a1 : Value} {n : Nat} {s : St} {Q : Value → St → Prop} (h : ∀ tm, T.get tm 0 = some a0 → T.get tm 1 = some a1 → W (runF envS n ⟨125, 15, sl_CutPrefix_g, tm, [.code sl_CutPrefix_body], .run, .normal, none⟩) (s.cxN cxN) fun p s1 => Q p.1 (s1.cxN s.cx)) : W (callW envS (runF envS n) 125 [a0, a1]) s Q :=
  W.call (by kernel_rfl) (by kernel_rfl) sl_CutPrefix_fn (by kernel_rfl) rfl rfl (by simp) (h _ (by kernel_rfl) (by kernel_rfl))
theorem sl_CutPrefix_res : Try.f125.results.toList = [.tmp 4, .tmp 5] := by kernel_rfl
noncomputable def sl_CutPrefix_P0 : List Item := skim 64 [.code sl_CutPrefix_body]
noncomputable def sl_CutPrefix_P1 : List Item := skim 64 sl_CutPrefix_P0.tail
theorem sl_CutPrefix_S0_1 : skim 64 sl_CutPrefix_P0.tail = sl_CutPrefix_P1 := by kernel_rfl
noncomputable def sl_CutPrefix_P2 : List Item := skim 64 sl_CutPrefix_P1.tail
theorem sl_CutPrefix_S1_2 : skim 64 sl_CutPrefix_P1.tail = sl_CutPrefix_P2 := by kernel_rfl
noncomputable def sl_CutPrefix_P3 : List Item := skim 64 (brT sl_CutPrefix_P2)
theorem sl_CutPrefix_S2_3 : skim 64 (brT sl_CutPrefix_P2) = sl_CutPrefix_P3 := by kernel_rfl
noncomputable def sl_CutPrefix_P4 : List Item := skim 64 (brF sl_CutPrefix_P2)
theorem sl_CutPrefix_S2_4 : skim 64 (brF sl_CutPrefix_P2) = sl_CutPrefix_P4 := by kernel_rfl
noncomputable def sl_CutPrefix_P5 : List Item := skim 64 sl_CutPrefix_P3.tail
theorem sl_CutPrefix_S3_5 : skim 64 sl_CutPrefix_P3.tail = sl_CutPrefix_P5 := by kernel_rfl
noncomputable def sl_CutPrefix_P6 : List Item := skim 64 sl_CutPrefix_P4.tail
theorem sl_CutPrefix_S4_6 : skim 64 sl_CutPrefix_P4.tail = sl_CutPrefix_P6 := by kernel_rfl
/-- strings.go:87 -/
noncomputable def sl_CutPrefix_r0 (E : Env) (call round : CallT) (tm : T Value) : M (T Value) :=
  mv (some (.string { data := #[] })) fun v4 =>
  setF 4 v4 tm fun tm1 =>
  mv (some (.bool false)) fun v5 =>
  setF 5 v5 tm1 fun tm2 =>
  M.pure tm2
theorem sl_CutPrefix_q0 : RegEq 125 15 sl_CutPrefix_g sl_CutPrefix_P0 sl_CutPrefix_r0 := ⟨by kernel_rfl, fun _ _ _ _ _ _ _ _ _ => by kernel_rfl⟩
/-- strings.go:88 -/
noncomputable def sl_CutPrefix_r1 (E : Env) (call round : CallT) (tm : T Value) : M (T Value) :=
  mv (T.get tm 0) fun v6 =>
  mv (T.get tm 1) fun v7 =>
  M.bind (M.on (some (.func (.func 143) #[] #[])) fun f => M.on (seqO [(some v6), (some v7)]) fun l => callV call round f l) fun v8 =>
  M.bind (oS (some v8) fun a => kUn E.P .not a) fun v9 =>
  setF 9 v9 tm fun tm1 =>
  M.pure tm1
theorem sl_CutPrefix_q1 : RegEq 125 15 sl_CutPrefix_g sl_CutPrefix_P1 sl_CutPrefix_r1 := ⟨by kernel_rfl, fun _ _ _ _ _ _ _ _ _ => by kernel_rfl⟩
theorem sl_CutPrefix_C2 : condX sl_CutPrefix_P2 = some 9 := by kernel_rfl
/-- strings.go:89 -/
noncomputable def sl_CutPrefix_r3 (E : Env) (call round : CallT) (tm : T Value) : M (T Value) :=
  mv (T.get tm 0) fun v10 =>
  mv (some v10) fun v4 =>
  setF 4 v4 tm fun tm1 =>
  mv (some (.bool false)) fun v5 =>
  setF 5 v5 tm1 fun tm2 =>
  M.pure tm2
theorem sl_CutPrefix_q3 : RegEq 125 15 sl_CutPrefix_g sl_CutPrefix_P3 sl_CutPrefix_r3 := ⟨by kernel_rfl, fun _ _ _ _ _ _ _ _ _ => by kernel_rfl⟩
/-- strings.go:91 -/
noncomputable def sl_CutPrefix_r4 (E : Env) (call round : CallT) (tm : T Value) : M (T Value) :=
  mv (T.get tm 0) fun v11 =>
  mv (T.get tm 1) fun v12 =>
  M.bind (oS (seqO [(some v12)]) fun l => aBuiltin E .len [9] l) fun v13 =>
  M.bind (M.on (some v11) fun a => M.on (onO (some v13) fun v => some (some v)) fun b => M.on (some none) fun c => aSlice E 9 a b c) fun v14 =>
  mv (some v14) fun v4 =>
  setF 4 v4 tm fun tm1 =>
  mv (some (.bool true)) fun v5 =>
  setF 5 v5 tm1 fun tm2 =>
  M.pure tm2
theorem sl_CutPrefix_q4 : RegEq 125 15 sl_CutPrefix_g sl_CutPrefix_P4 sl_CutPrefix_r4 := ⟨by kernel_rfl, fun _ _ _ _ _ _ _ _ _ => by kernel_rfl⟩
theorem sl_CutPrefix_E5 : ∃ k, sl_CutPrefix_P5 = .code .ret :: k := ⟨sl_CutPrefix_P5.tail, by kernel_rfl⟩
theorem sl_CutPrefix_E6 : ∃ k, sl_CutPrefix_P6 = .code .ret :: k := ⟨sl_CutPrefix_P6.tail, by kernel_rfl⟩
-- points: 0:region>[1], 1:region>[2], 2:cond>[3, 4], 3:region>[5], 4:region>[6], 5:ret>, 6:ret>

/-! ### internal/stringslite.HasPrefix -/
noncomputable def sl_HasPrefix_g : Nat := globOf Try.f143
abbrev sl_HasPrefix_nt : Nat := 18
noncomputable def sl_HasPrefix_body : Code := Try.f143.body.getD .skip
theorem sl_HasPrefix_fn : envS.fn.get 143 = some Try.f143 := by kernel_rfl
theorem sl_HasPrefix_W {a0 a1 : Value} {n : Nat} {s : St} {Q : Value → St → Prop} (h : ∀ tm, T.get tm 0 = some a0 → T.get tm 1 = some a1 → W (runF envS n ⟨143, 18, sl_HasPrefix_g, tm, [.code sl_HasPrefix_body], .run, .normal, none⟩) (s.cxN cxN) fun p s1 => Q p.1 (s1.cxN s.cx)) : W (callW envS (runF envS n) 143 [a0, a1]) s Q :=
  W.call (by kernel_rfl) (by kernel_rfl) sl_HasPrefix_fn (by kernel_rfl) rfl rfl (by simp) (h _ (by kernel_rfl) (by kernel_rfl))
theorem sl_HasPrefix_res : Try.f143.results.toList = [.tmp 4] := by kernel_rfl
noncomputable def sl_HasPrefix_P0 : List Item := skim 64 [.code sl_HasPrefix_body]
noncomputable def sl_HasPrefix_P1 : List Item := skim 64 sl_HasPrefix_P0.tail
theorem sl_HasPrefix_S0_1 : skim 64 sl_HasPrefix_P0.tail = sl_HasPrefix_P1 := by kernel_rfl
noncomputable def sl_HasPrefix_P2 : List Item := skim 64 sl_HasPrefix_P1.tail
theorem sl_HasPrefix_S1_2 : skim 64 sl_HasPrefix_P1.tail = sl_HasPrefix_P2 := by kernel_rfl
/-- strings.go:16 -/
noncomputable def sl_HasPrefix_r0 (E : Env) (call round : CallT) (tm : T Value) : M (T Value) :=
  mv (some (.bool false)) fun v4 =>
  setF 4 v4 tm fun tm1 =>
  M.pure tm1
theorem sl_HasPrefix_q0 : RegEq 143 18 sl_HasPrefix_g sl_HasPrefix_P0 sl_HasPrefix_r0 := ⟨by kernel_rfl, fun _ _ _ _ _ _ _ _ _ => by kernel_rfl⟩
/-- strings.go:17 -/
noncomputable def sl_HasPrefix_r1 (E : Env) (call round : CallT) (tm : T Value) : M (T Value) :=
  mv (T.get tm 0) fun v5 =>
  M.bind (oS (seqO [(some v5)]) fun l => aBuiltin E .len [9] l) fun v6 =>
  mv (T.get tm 1) fun v7 =>
  M.bind (oS (seqO [(some v7)]) fun l => aBuiltin E .len [9] l) fun v8 =>
  M.bind (oS (some v6) fun a => oS (some v8) fun b => Cl.get (aBin E .geq 3 (.tmp 6) (.tmp 8)) a b) fun v9 =>
  mv (some v9) fun v10 =>
  M.bind (M.chk (isK v10) (M.if (isB v10 true) (oS (T.get tm 0) fun a => M.pure a) (M.pure undef))) fun v11 =>
  M.bind (M.chk (isK v10) (M.if (isB v10 true) (oS (T.get tm 1) fun a => M.pure a) (M.pure undef))) fun v12 =>
  M.bind (M.chk (isK v10) (M.if (isB v10 true) (oS (seqO [(some v12)]) fun l => aBuiltin E .len [9] l) (M.pure undef))) fun v13 =>
  M.bind (M.chk (isK v10) (M.if (isB v10 true) (M.on (some v11) fun a => M.on (some none) fun b => M.on (onO (some v13) fun v => some (some v)) fun c => aSlice E 9 a b c) (M.pure undef))) fun v14 =>
  M.bind (M.chk (isK v10) (M.if (isB v10 true) (oS (T.get tm 1) fun a => M.pure a) (M.pure undef))) fun v15 =>
  M.bind (M.chk (isK v10) (M.if (isB v10 true) (oS (some v14) fun a => oS (some v15) fun b => Cl.get (aBin E .eql 9 (.tmp 14) (.tmp 15)) a b) (M.pure undef))) fun v16 =>
  M.bind (M.on (some v10) fun a => M.on (some v16) fun b => M.on (some (.bool false)) fun c => kPick a b c) fun v17 =>
  mv (some v17) fun v4 =>
  setF 4 v4 tm fun tm1 =>
  M.pure tm1
theorem sl_HasPrefix_q1 : RegEq 143 18 sl_HasPrefix_g sl_HasPrefix_P1 sl_HasPrefix_r1 := ⟨by kernel_rfl, fun _ _ _ _ _ _ _ _ _ => by kernel_rfl⟩
theorem sl_HasPrefix_E2 : ∃ k, sl_HasPrefix_P2 = .code .ret :: k := ⟨sl_HasPrefix_P2.tail, by kernel_rfl⟩
-- points: 0:region>[1], 1:region>[2], 2:ret>

/-! ### satchel/satchellaw18.IndexNames -/
noncomputable def law18_Names_g : Nat := globOf Try.f10
abbrev law18_Names_nt : Nat := 96
noncomputable def law18_Names_body : Code := Try.f10.body.getD .skip
theorem law18_Names_fn : envS.fn.get 10 = some Try.f10 := by kernel_rfl
theorem law18_Names_W {a0 a1 a2 : Value} {n : Nat} {s : St} {Q : Value → St → Prop} (h : ∀ tm, T.get tm 0 = some a0 → T.get tm 1 = some a1 → T.get tm 2 = some a2 → W (runF envS n ⟨10, 96, law18_Names_g, tm, [.code law18_Names_body], .run, .normal, none⟩) (s.cxN cxN) fun p s1 => Q p.1 (s1.cxN s.cx)) : W (callW envS (runF envS n) 10 [a0, a1, a2]) s Q :=
  W.call (by kernel_rfl) (by kernel_rfl) law18_Names_fn (by kernel_rfl) rfl rfl (by simp) (h _ (by kernel_rfl) (by kernel_rfl) (by kernel_rfl))
theorem law18_Names_res : Try.f10.results.toList = [.tmp 6] := by kernel_rfl
noncomputable def law18_Names_P0 : List Item := skim 64 [.code law18_Names_body]
noncomputable def law18_Names_P1 : List Item := skim 64 law18_Names_P0.tail
theorem law18_Names_S0_1 : skim 64 law18_Names_P0.tail = law18_Names_P1 := by kernel_rfl
noncomputable def law18_Names_P2 : List Item := skim 64 law18_Names_P1.tail
theorem law18_Names_S1_2 : skim 64 law18_Names_P1.tail = law18_Names_P2 := by kernel_rfl
noncomputable def law18_Names_P3 : List Item := skim 64 law18_Names_P2.tail
theorem law18_Names_S2_3 : skim 64 law18_Names_P2.tail = law18_Names_P3 := by kernel_rfl
noncomputable def law18_Names_P4 : List Item := skim 64 (brT law18_Names_P3)
theorem law18_Names_S3_4 : skim 64 (brT law18_Names_P3) = law18_Names_P4 := by kernel_rfl
noncomputable def law18_Names_P5 : List Item := skim 64 (brF law18_Names_P3)
theorem law18_Names_S3_5 : skim 64 (brF law18_Names_P3) = law18_Names_P5 := by kernel_rfl
noncomputable def law18_Names_P6 : List Item := skim 64 law18_Names_P4.tail
theorem law18_Names_S4_6 : skim 64 law18_Names_P4.tail = law18_Names_P6 := by kernel_rfl
noncomputable def law18_Names_P7 : List Item := skim 64 law18_Names_P5.tail
theorem law18_Names_S5_7 : skim 64 law18_Names_P5.tail = law18_Names_P7 := by kernel_rfl
noncomputable def law18_Names_P8 : List Item := skim 64 law18_Names_P7.tail
theorem law18_Names_S7_8 : skim 64 law18_Names_P7.tail = law18_Names_P8 := by kernel_rfl
noncomputable def law18_Names_P9 : List Item := skim 64 law18_Names_P8.tail
theorem law18_Names_S8_9 : skim 64 law18_Names_P8.tail = law18_Names_P9 := by kernel_rfl
noncomputable def law18_Names_P10 : List Item := skim 64 (brT law18_Names_P9)
theorem law18_Names_S9_10 : skim 64 (brT law18_Names_P9) = law18_Names_P10 := by kernel_rfl
noncomputable def law18_Names_P11 : List Item := skim 64 (brF law18_Names_P9)
theorem law18_Names_S9_11 : skim 64 (brF law18_Names_P9) = law18_Names_P11 := by kernel_rfl
noncomputable def law18_Names_P12 : List Item := skim 64 law18_Names_P10.tail
theorem law18_Names_S10_12 : skim 64 law18_Names_P10.tail = law18_Names_P12 := by kernel_rfl
noncomputable def law18_Names_P13 : List Item := skim 64 law18_Names_P11.tail
theorem law18_Names_S11_13 : skim 64 law18_Names_P11.tail = law18_Names_P13 := by kernel_rfl
noncomputable def law18_Names_P14 : List Item := skim 64 law18_Names_P13.tail
theorem law18_Names_S13_14 : skim 64 law18_Names_P13.tail = law18_Names_P14 := by kernel_rfl
/-- outright.go:123 -/
noncomputable def law18_Names_r0 (E : Env) (call round : CallT) (tm : T Value) : M (T Value) :=
  mv (some (.bool false)) fun v6 =>
  setF 6 v6 tm fun tm1 =>
  M.pure tm1
theorem law18_Names_q0 : RegEq 10 96 law18_Names_g law18_Names_P0 law18_Names_r0 := ⟨by kernel_rfl, fun _ _ _ _ _ _ _ _ _ => by kernel_rfl⟩
/-- outright.go:124 -/
noncomputable def law18_Names_r1 (E : Env) (call round : CallT) (tm : T Value) : M (T Value) :=
  M.bind (M.on (some (.func (.func 35) #[] #[])) fun f => M.on (seqO []) fun l => callV call round f l) fun v14 =>
  mv (some v14) fun v7 =>
  setF 7 v7 tm fun tm1 =>
  M.pure tm1
theorem law18_Names_q1 : RegEq 10 96 law18_Names_g law18_Names_P1 law18_Names_r1 := ⟨by kernel_rfl, fun _ _ _ _ _ _ _ _ _ => by kernel_rfl⟩
/-- outright.go:125 -/
noncomputable def law18_Names_r2 (E : Env) (call round : CallT) (tm : T Value) : M (T Value) :=
  mv (T.get tm 2) fun v15 =>
  M.bind (oS (seqO [(some v15)]) fun l => aBuiltin E .len [9] l) fun v16 =>
  M.bind (oS (some v16) fun a => oS (some (.int .i64 100)) fun b => Cl.get (aBin E .gtr 3 (.tmp 16) (.const (.int .i64 100))) a b) fun v17 =>
  setF 17 v17 tm fun tm1 =>
  M.pure tm1
theorem law18_Names_q2 : RegEq 10 96 law18_Names_g law18_Names_P2 law18_Names_r2 := ⟨by kernel_rfl, fun _ _ _ _ _ _ _ _ _ => by kernel_rfl⟩
theorem law18_Names_C3 : condX law18_Names_P3 = some 17 := by kernel_rfl
/-- outright.go:126 -/
noncomputable def law18_Names_r4 (E : Env) (call round : CallT) (tm : T Value) : M (T Value) :=
  mv (T.get tm 7) fun v18 =>
  mv (some v18) fun v6 =>
  setF 6 v6 tm fun tm1 =>
  M.pure tm1
theorem law18_Names_q4 : RegEq 10 96 law18_Names_g law18_Names_P4 law18_Names_r4 := ⟨by kernel_rfl, fun _ _ _ _ _ _ _ _ _ => by kernel_rfl⟩
/-- outright.go:128 -/
noncomputable def law18_Names_r5 (E : Env) (call round : CallT) (tm : T Value) : M (T Value) :=
  mv (T.get tm 0) fun v19 =>
  M.bind (M.on (some (.func (.func 47) #[] #[])) fun f => M.on (seqO [(some v19)]) fun l => callV call round f l) fun v20 =>
  mv (T.get tm 1) fun v21 =>
  M.bind (M.on (some (.func (.func 47) #[] #[])) fun f => M.on (seqO [(some v21)]) fun l => callV call round f l) fun v22 =>
  mv (some v20) fun v8 =>
  setF 8 v8 tm fun tm1 =>
  mv (some v22) fun v9 =>
  setF 9 v9 tm1 fun tm2 =>
  M.pure tm2
theorem law18_Names_q5 : RegEq 10 96 law18_Names_g law18_Names_P5 law18_Names_r5 := ⟨by kernel_rfl, fun _ _ _ _ _ _ _ _ _ => by kernel_rfl⟩
theorem law18_Names_E6 : ∃ k, law18_Names_P6 = .code .ret :: k := ⟨law18_Names_P6.tail, by kernel_rfl⟩
/-- outright.go:129 -/
noncomputable def law18_Names_r7 (E : Env) (call round : CallT) (tm : T Value) : M (T Value) :=
  mv (T.get tm 8) fun v24 =>
  M.bind (M.on (some (.func (.func 41) #[] #[])) fun f => M.on (seqO [(some v24)]) fun l => callV call round f l) fun v25 =>
  mv (some v25) fun v23 =>
  M.bind (oS (some v23) fun a => kExt 0 a) fun v26 =>
  M.bind (oS (some v23) fun a => kExt 1 a) fun v27 =>
  mv (some v26) fun v10 =>
  setF 10 v10 tm fun tm1 =>
  mv (some v27) fun v11 =>
  setF 11 v11 tm1 fun tm2 =>
  M.pure tm2
theorem law18_Names_q7 : RegEq 10 96 law18_Names_g law18_Names_P7 law18_Names_r7 := ⟨by kernel_rfl, fun _ _ _ _ _ _ _ _ _ => by kernel_rfl⟩
/-- outright.go:130 -/
noncomputable def law18_Names_r8 (E : Env) (call round : CallT) (tm : T Value) : M (T Value) :=
  mv (T.get tm 11) fun v28 =>
  mv (T.get tm 0) fun v29 =>
  M.bind (oS (some v29) fun a => oS (some (.int .i64 1)) fun b => Cl.get (aBin E .geq 3 (.tmp 29) (.const (.int .i64 1))) a b) fun v30 =>
  mv (some v30) fun v31 =>
  M.bind (M.chk (isK v31) (M.if (isB v31 true) (oS (T.get tm 0) fun a => M.pure a) (M.pure undef))) fun v32 =>
  M.bind (M.chk (isK v31) (M.if (isB v31 true) (oS (some v32) fun a => oS (some (.int .i64 999999)) fun b => Cl.get (aBin E .leq 3 (.tmp 32) (.const (.int .i64 999999))) a b) (M.pure undef))) fun v33 =>
  M.bind (M.on (some v31) fun a => M.on (some v33) fun b => M.on (some (.bool false)) fun c => kPick a b c) fun v34 =>
  M.bind (oS (some v28) fun a => oS (some v34) fun b => Cl.get (aBin E .neq 4 (.tmp 28) (.tmp 34)) a b) fun v35 =>
  mv (some v35) fun v36 =>
  M.bind (M.chk (isK v36) (M.if (isB v36 false) (oS (T.get tm 11) fun a => M.pure a) (M.pure undef))) fun v37 =>
  M.bind (M.chk (isK v36) (M.if (isB v36 false) (oS (some v37) fun a => M.pure a) (M.pure undef))) fun v38 =>
  M.bind (M.chk (isK v38) (M.if (isB v38 true) (oS (T.get tm 10) fun a => M.pure a) (M.pure undef))) fun v39 =>
  M.bind (M.chk (isK v38) (M.if (isB v38 true) (oS (T.get tm 0) fun a => M.pure a) (M.pure undef))) fun v40 =>
  M.bind (M.chk (isK v38) (M.if (isB v38 true) (oS (some v39) fun a => oS (some v40) fun b => Cl.get (aBin E .neq 3 (.tmp 39) (.tmp 40)) a b) (M.pure undef))) fun v41 =>
  M.bind (M.chk (isK v36) (M.if (isB v36 false) (M.on (some v38) fun a => M.on (some v41) fun b => M.on (some (.bool false)) fun c => kPick a b c) (M.pure undef))) fun v42 =>
  M.bind (M.on (some v36) fun a => M.on (some (.bool true)) fun b => M.on (some v42) fun c => kPick a b c) fun v43 =>
  mv (some v43) fun v44 =>
  M.bind (M.chk (isK v44) (M.if (isB v44 false) (oS (T.get tm 11) fun a => M.pure a) (M.pure undef))) fun v45 =>
  M.bind (M.chk (isK v44) (M.if (isB v44 false) (oS (some v45) fun a => kUn E.P .not a) (M.pure undef))) fun v46 =>
  M.bind (M.chk (isK v44) (M.if (isB v44 false) (oS (some v46) fun a => M.pure a) (M.pure undef))) fun v47 =>
  M.bind (M.chk (isK v47) (M.if (isB v47 true) (oS (T.get tm 10) fun a => M.pure a) (M.pure undef))) fun v48 =>
  M.bind (M.chk (isK v47) (M.if (isB v47 true) (oS (some v48) fun a => oS (some (.int .i64 0)) fun b => Cl.get (aBin E .neq 3 (.tmp 48) (.const (.int .i64 0))) a b) (M.pure undef))) fun v49 =>
  M.bind (M.chk (isK v47) (M.if (isB v47 true) (oS (some v49) fun a => M.pure a) (M.pure undef))) fun v50 =>
  M.bind (M.chk (isK v50) (M.if (isB v50 false) (oS (T.get tm 8) fun a => M.pure a) (M.pure undef))) fun v51 =>
  M.bind (M.chk (isK v50) (M.if (isB v50 false) (oS (some v51) fun a => oS (some (.string { data := #[] })) fun b => Cl.get (aBin E .neq 9 (.tmp 51) (.const (.string { data := #[] }))) a b) (M.pure undef))) fun v52 =>
  M.bind (M.chk (isK v47) (M.if (isB v47 true) (M.on (some v50) fun a => M.on (some (.bool true)) fun b => M.on (some v52) fun c => kPick a b c) (M.pure undef))) fun v53 =>
  M.bind (M.chk (isK v44) (M.if (isB v44 false) (M.on (some v47) fun a => M.on (some v53) fun b => M.on (some (.bool false)) fun c => kPick a b c) (M.pure undef))) fun v54 =>
  M.bind (M.on (some v44) fun a => M.on (some (.bool true)) fun b => M.on (some v54) fun c => kPick a b c) fun v55 =>
  mv (some v55) fun v56 =>
  M.bind (M.chk (isK v56) (M.if (isB v56 false) (oS (T.get tm 11) fun a => M.pure a) (M.pure undef))) fun v57 =>
  M.bind (M.chk (isK v56) (M.if (isB v56 false) (oS (some v57) fun a => M.pure a) (M.pure undef))) fun v58 =>
  M.bind (M.chk (isK v58) (M.if (isB v58 true) (oS (T.get tm 9) fun a => M.pure a) (M.pure undef))) fun v59 =>
  M.bind (M.chk (isK v58) (M.if (isB v58 true) (oS (some v59) fun a => oS (some (.string { data := #[] })) fun b => Cl.get (aBin E .neq 9 (.tmp 59) (.const (.string { data := #[] }))) a b) (M.pure undef))) fun v60 =>
  M.bind (M.chk (isK v56) (M.if (isB v56 false) (M.on (some v58) fun a => M.on (some v60) fun b => M.on (some (.bool false)) fun c => kPick a b c) (M.pure undef))) fun v61 =>
  M.bind (M.chk (isK v56) (M.if (isB v56 false) (oS (some v61) fun a => M.pure a) (M.pure undef))) fun v62 =>
  M.bind (M.chk (isK v62) (M.if (isB v62 true) (oS (T.get tm 0) fun a => M.pure a) (M.pure undef))) fun v63 =>
  M.bind (M.chk (isK v62) (M.if (isB v62 true) (oS (T.get tm 1) fun a => M.pure a) (M.pure undef))) fun v64 =>
  M.bind (M.chk (isK v62) (M.if (isB v62 true) (oS (some v63) fun a => oS (some v64) fun b => Cl.get (aBin E .lss 3 (.tmp 63) (.tmp 64)) a b) (M.pure undef))) fun v65 =>
  M.bind (M.chk (isK v56) (M.if (isB v56 false) (M.on (some v62) fun a => M.on (some v65) fun b => M.on (some (.bool false)) fun c => kPick a b c) (M.pure undef))) fun v66 =>
  M.bind (M.chk (isK v56) (M.if (isB v56 false) (oS (some v66) fun a => M.pure a) (M.pure undef))) fun v67 =>
  M.bind (M.chk (isK v67) (M.if (isB v67 true) (oS (T.get tm 8) fun a => M.pure a) (M.pure undef))) fun v68 =>
  M.bind (M.chk (isK v67) (M.if (isB v67 true) (oS (T.get tm 9) fun a => M.pure a) (M.pure undef))) fun v69 =>
  M.bind (M.chk (isK v67) (M.if (isB v67 true) (oS (some v68) fun a => oS (some v69) fun b => Cl.get (aBin E .geq 9 (.tmp 68) (.tmp 69)) a b) (M.pure undef))) fun v70 =>
  M.bind (M.chk (isK v56) (M.if (isB v56 false) (M.on (some v67) fun a => M.on (some v70) fun b => M.on (some (.bool false)) fun c => kPick a b c) (M.pure undef))) fun v71 =>
  M.bind (M.on (some v56) fun a => M.on (some (.bool true)) fun b => M.on (some v71) fun c => kPick a b c) fun v72 =>
  setF 72 v72 tm fun tm1 =>
  M.pure tm1
theorem law18_Names_q8 : RegEq 10 96 law18_Names_g law18_Names_P8 law18_Names_r8 := ⟨by kernel_rfl, fun _ _ _ _ _ _ _ _ _ => by kernel_rfl⟩
theorem law18_Names_C9 : condX law18_Names_P9 = some 72 := by kernel_rfl
/-- outright.go:131 -/
noncomputable def law18_Names_r10 (E : Env) (call round : CallT) (tm : T Value) : M (T Value) :=
  mv (some (.bool false)) fun v6 =>
  setF 6 v6 tm fun tm1 =>
  M.pure tm1
theorem law18_Names_q10 : RegEq 10 96 law18_Names_g law18_Names_P10 law18_Names_r10 := ⟨by kernel_rfl, fun _ _ _ _ _ _ _ _ _ => by kernel_rfl⟩
/-- outright.go:133 -/
noncomputable def law18_Names_r11 (E : Env) (call round : CallT) (tm : T Value) : M (T Value) :=
  mv (T.get tm 2) fun v74 =>
  M.bind (M.on (some (.func (.func 41) #[] #[])) fun f => M.on (seqO [(some v74)]) fun l => callV call round f l) fun v75 =>
  mv (some v75) fun v73 =>
  M.bind (oS (some v73) fun a => kExt 0 a) fun v76 =>
  M.bind (oS (some v73) fun a => kExt 1 a) fun v77 =>
  mv (some v76) fun v12 =>
  setF 12 v12 tm fun tm1 =>
  mv (some v77) fun v13 =>
  setF 13 v13 tm1 fun tm2 =>
  M.pure tm2
theorem law18_Names_q11 : RegEq 10 96 law18_Names_g law18_Names_P11 law18_Names_r11 := ⟨by kernel_rfl, fun _ _ _ _ _ _ _ _ _ => by kernel_rfl⟩
theorem law18_Names_E12 : ∃ k, law18_Names_P12 = .code .ret :: k := ⟨law18_Names_P12.tail, by kernel_rfl⟩
/-- outright.go:134 -/
noncomputable def law18_Names_r13 (E : Env) (call round : CallT) (tm : T Value) : M (T Value) :=
  mv (T.get tm 7) fun v78 =>
  mv (some v78) fun v79 =>
  M.bind (M.chk (isK v79) (M.if (isB v79 true) (oS (T.get tm 13) fun a => M.pure a) (M.pure undef))) fun v80 =>
  M.bind (M.chk (isK v79) (M.if (isB v79 true) (oS (some v80) fun a => kUn E.P .not a) (M.pure undef))) fun v81 =>
  M.bind (M.chk (isK v79) (M.if (isB v79 true) (oS (some v81) fun a => M.pure a) (M.pure undef))) fun v82 =>
  M.bind (M.chk (isK v82) (M.if (isB v82 true) (oS (T.get tm 12) fun a => M.pure a) (M.pure undef))) fun v83 =>
  M.bind (M.chk (isK v82) (M.if (isB v82 true) (oS (some v83) fun a => oS (some (.int .i64 0)) fun b => Cl.get (aBin E .eql 3 (.tmp 83) (.const (.int .i64 0))) a b) (M.pure undef))) fun v84 =>
  M.bind (M.chk (isK v79) (M.if (isB v79 true) (M.on (some v82) fun a => M.on (some v84) fun b => M.on (some (.bool false)) fun c => kPick a b c) (M.pure undef))) fun v85 =>
  M.bind (M.chk (isK v79) (M.if (isB v79 true) (oS (some v85) fun a => M.pure a) (M.pure undef))) fun v86 =>
  M.bind (M.chk (isK v86) (M.if (isB v86 false) (oS (T.get tm 13) fun a => M.pure a) (M.pure undef))) fun v87 =>
  M.bind (M.chk (isK v86) (M.if (isB v86 false) (oS (some v87) fun a => M.pure a) (M.pure undef))) fun v88 =>
  M.bind (M.chk (isK v88) (M.if (isB v88 true) (oS (T.get tm 12) fun a => M.pure a) (M.pure undef))) fun v89 =>
  M.bind (M.chk (isK v88) (M.if (isB v88 true) (M.on (some (.func (.func 47) #[] #[])) fun f => M.on (seqO [(some v89)]) fun l => callV call round f l) (M.pure undef))) fun v90 =>
  M.bind (M.chk (isK v88) (M.if (isB v88 true) (oS (T.get tm 2) fun a => M.pure a) (M.pure undef))) fun v91 =>
  M.bind (M.chk (isK v88) (M.if (isB v88 true) (oS (some v90) fun a => oS (some v91) fun b => Cl.get (aBin E .eql 9 (.tmp 90) (.tmp 91)) a b) (M.pure undef))) fun v92 =>
  M.bind (M.chk (isK v86) (M.if (isB v86 false) (M.on (some v88) fun a => M.on (some v92) fun b => M.on (some (.bool false)) fun c => kPick a b c) (M.pure undef))) fun v93 =>
  M.bind (M.chk (isK v79) (M.if (isB v79 true) (M.on (some v86) fun a => M.on (some (.bool true)) fun b => M.on (some v93) fun c => kPick a b c) (M.pure undef))) fun v94 =>
  M.bind (M.on (some v79) fun a => M.on (some v94) fun b => M.on (some (.bool false)) fun c => kPick a b c) fun v95 =>
  mv (some v95) fun v6 =>
  setF 6 v6 tm fun tm1 =>
  M.pure tm1
theorem law18_Names_q13 : RegEq 10 96 law18_Names_g law18_Names_P13 law18_Names_r13 := ⟨by kernel_rfl, fun _ _ _ _ _ _ _ _ _ => by kernel_rfl⟩
theorem law18_Names_E14 : ∃ k, law18_Names_P14 = .code .ret :: k := ⟨law18_Names_P14.tail, by kernel_rfl⟩
-- points: 0:region>[1], 1:region>[2], 2:region>[3], 3:cond>[4, 5], 4:region>[6], 5:region>[7], 6:ret>, 7:region>[8], 8:region>[9], 9:cond>[10, 11], 10:region>[12], 11:region>[13], 12:ret>, 13:region>[14], 14:ret>
end Go.Proofs.Ytofanlcjeohcjaa.Am
/- Types' facts for the names' walks. -/
namespace Go.Proofs.Ytofanlcjeohcjaa.Am
open Go.RowKit
theorem tx_u8_1 : tyS envS 5 = some (1, false) := by kernel_rfl
theorem tx_int_k : hasT envS 3 = true := by kernel_rfl
theorem tx_u8_k : intK envS 5 = some .u8 := by kernel_rfl
theorem tx_u8_h : hasT envS 5 = true := by kernel_rfl
theorem tx_i64_k : intK envS 3 = some .i64 := by kernel_rfl
theorem tx_wrap (n : Nat) (h : n < 9223372036854775808) : IntKind.i64.wrap ((n : Nat) : Int) = ((n : Nat) : Int) := by
  rw [← wrap64_eq]
  exact wrap64_id (by omega) (by omega)
theorem tx_a6 : arrN envS 89 = some (6, 1) := by kernel_rfl
theorem tx_a6_z : zeroL envS 89 = some (List.replicate 6 (.int .u8 0)) := by kernel_rfl
theorem Ext.cxO {F G : Nat → Prop} {s s1 : St} {c : Ctx} (x : Ext F G (s.cxN c) s1) : Ext F G s (s1.cxN s.cx) := ⟨x.nxt, x.lim, rfl, x.mem, x.rd, x.wr⟩
end Go.Proofs.Ytofanlcjeohcjaa.Am
/- strings.CutPrefix, said of all states. -/
namespace Go.Proofs.Ytofanlcjeohcjaa.Am
open Go.RowKit

theorem ty_str : isStrT envS 9 = true := by kernel_rfl
def hasP (a b : ByteArray) : Bool := decide (b.size ≤ a.size) && ((a.extract 0 b.size).data.toList == b.data.toList)
theorem bndV_nat (k : IntKind) (n d : Nat) : bndV (some (.int k (n : Nat))) d = some n := rfl
theorem HasPrefix_spec {n : Nat} {s : St} {a b : ByteArray} {Q : Value → St → Prop} (hn : 20 ≤ n) (q : Q (.bool (hasP a b)) s) : W (callW envS (runF envS n) 143 [.string a, .string b]) s Q := by
  refine sl_HasPrefix_W fun tm h0 h1 => ?_
  refine sl_HasPrefix_q0.w rfl (by omega) ?_
  simp -implicitDefEqProofs only [sl_HasPrefix_r0, W_bind, W_oS, W_on, W_pure, W_mv, W_setF, W_setT, T.get_set, seqO_cons, seqO_nil, seqP_cons, seqP_nil, onO_some', W_callV, reduceIte, isK_bool, isB_tt, isB_tf, isB_ft, isB_ff, W_chk, W_ifT, W_ifF, W_pick, W_nil, Nat.reduceEqDiff, Nat.reduceEqDiff, reduceCtorEq, ↓reduceIte]
  refine sl_HasPrefix_q1.w sl_HasPrefix_S0_1 (by omega) ?_
  unfold hasP at q
  by_cases hle : b.size ≤ a.size
  · rw [decide_eq_true hle, Bool.true_and] at q
    simp -implicitDefEqProofs only [sl_HasPrefix_r1, W_bind, W_oS, W_on, W_pure, W_mv, W_setF, W_setT, T.get_set, seqO_cons, seqO_nil, seqP_cons, seqP_nil, onO_some', W_callV, reduceIte, isK_bool, isB_tt, isB_tf, isB_ft, isB_ff, W_chk, W_ifT, W_ifF, W_pick, W_nil, Nat.reduceEqDiff, Nat.reduceEqDiff, reduceCtorEq, ↓reduceIte, W_add64, W_sub64, W_lss64, W_gtr64, W_leq64, W_geq64, W_eql64, W_neq64, h0, h1, W_lenS ty_str]
    rw [decide_eq_true (show ((b.size : Nat) : Int) ≤ ((a.size : Nat) : Int) by omega)]
    simp -implicitDefEqProofs only [W_bind, W_oS, W_on, W_pure, W_mv, W_setF, W_setT, T.get_set, seqO_cons, seqO_nil, seqP_cons, seqP_nil, onO_some', W_callV, reduceIte, isK_bool, isB_tt, isB_tf, isB_ft, isB_ff, W_chk, W_ifT, W_ifF, W_pick, W_nil, Nat.reduceEqDiff, Nat.reduceEqDiff, reduceCtorEq, ↓reduceIte, W_add64, W_sub64, W_lss64, W_gtr64, W_leq64, W_geq64, W_eql64, W_neq64, W_lenS ty_str]
    rw [W_slS ty_str (l := 0) (h := b.size) rfl (bndV_nat _ _ _) (Nat.zero_le _) hle]
    simp -implicitDefEqProofs only [W_bind, W_oS, W_on, W_pure, W_mv, W_setF, W_setT, T.get_set, seqO_cons, seqO_nil, seqP_cons, seqP_nil, onO_some', W_callV, reduceIte, isK_bool, isB_tt, isB_tf, isB_ft, isB_ff, W_chk, W_ifT, W_ifF, W_pick, W_nil, Nat.reduceEqDiff, Nat.reduceEqDiff, reduceCtorEq, ↓reduceIte, W_eqS]
    exact W.end' (rs := [4]) (vs := [.bool ((a.extract 0 b.size).data.toList == b.data.toList)]) sl_HasPrefix_S1_2 (.inl sl_HasPrefix_E2) (by omega) sl_HasPrefix_fn sl_HasPrefix_res rfl (by simp [T.get_set]) q
  · rw [decide_eq_false hle, Bool.false_and] at q
    simp -implicitDefEqProofs only [sl_HasPrefix_r1, W_bind, W_oS, W_on, W_pure, W_mv, W_setF, W_setT, T.get_set, seqO_cons, seqO_nil, seqP_cons, seqP_nil, onO_some', W_callV, reduceIte, isK_bool, isB_tt, isB_tf, isB_ft, isB_ff, W_chk, W_ifT, W_ifF, W_pick, W_nil, Nat.reduceEqDiff, Nat.reduceEqDiff, reduceCtorEq, ↓reduceIte, W_add64, W_sub64, W_lss64, W_gtr64, W_leq64, W_geq64, W_eql64, W_neq64, h0, h1, W_lenS ty_str]
    rw [decide_eq_false (show ¬ ((b.size : Nat) : Int) ≤ ((a.size : Nat) : Int) by omega)]
    simp -implicitDefEqProofs only [W_bind, W_oS, W_on, W_pure, W_mv, W_setF, W_setT, T.get_set, seqO_cons, seqO_nil, seqP_cons, seqP_nil, onO_some', W_callV, reduceIte, isK_bool, isB_tt, isB_tf, isB_ft, isB_ff, W_chk, W_ifT, W_ifF, W_pick, W_nil, Nat.reduceEqDiff, Nat.reduceEqDiff, reduceCtorEq, ↓reduceIte, W_add64, W_sub64, W_lss64, W_gtr64, W_leq64, W_geq64, W_eql64, W_neq64, W_lenS ty_str]
    exact W.end' (rs := [4]) (vs := [.bool false]) sl_HasPrefix_S1_2 (.inl sl_HasPrefix_E2) (by omega) sl_HasPrefix_fn sl_HasPrefix_res rfl (by simp [T.get_set]) q
theorem slCut_spec {n : Nat} {s : St} {a b : ByteArray} {Q : Value → St → Prop} (hn : 40 ≤ n) (q1 : hasP a b = true → Q (.tuple #[.string (a.extract b.size a.size), .bool true]) s) (q2 : hasP a b = false → Q (.tuple #[.string a, .bool false]) s) :
    W (callW envS (runF envS n) 125 [.string a, .string b]) s Q := by
  refine sl_CutPrefix_W fun tm h0 h1 => ?_
  refine sl_CutPrefix_q0.w rfl (by omega) ?_
  simp -implicitDefEqProofs only [sl_CutPrefix_r0, W_bind, W_oS, W_on, W_pure, W_mv, W_setF, W_setT, T.get_set, seqO_cons, seqO_nil, seqP_cons, seqP_nil, onO_some', W_callV, reduceIte, isK_bool, isB_tt, isB_tf, isB_ft, isB_ff, W_chk, W_ifT, W_ifF, W_pick, W_nil, Nat.reduceEqDiff, Nat.reduceEqDiff, reduceCtorEq, ↓reduceIte]
  refine sl_CutPrefix_q1.w sl_CutPrefix_S0_1 (by omega) ?_
  simp -implicitDefEqProofs only [sl_CutPrefix_r1, W_bind, W_oS, W_on, W_pure, W_mv, W_setF, W_setT, T.get_set, seqO_cons, seqO_nil, seqP_cons, seqP_nil, onO_some', W_callV, reduceIte, isK_bool, isB_tt, isB_tf, isB_ft, isB_ff, W_chk, W_ifT, W_ifF, W_pick, W_nil, Nat.reduceEqDiff, Nat.reduceEqDiff, reduceCtorEq, ↓reduceIte, h0, h1]
  refine HasPrefix_spec (by omega) ?_
  simp -implicitDefEqProofs only [W_not, W_bind, W_oS, W_on, W_pure, W_mv, W_setF, W_setT, T.get_set, seqO_cons, seqO_nil, seqP_cons, seqP_nil, onO_some', W_callV, reduceIte, isK_bool, isB_tt, isB_tf, isB_ft, isB_ff, W_chk, W_ifT, W_ifF, W_pick, W_nil, Nat.reduceEqDiff, Nat.reduceEqDiff, reduceCtorEq, ↓reduceIte]
  cases hp : hasP a b with
  | true =>
    refine W.cond (v := false) sl_CutPrefix_S1_2 sl_CutPrefix_C2 (by simp [T.get_set]) (by omega) (fun h => by cases h) fun _ => ?_
    refine sl_CutPrefix_q4.w sl_CutPrefix_S2_4 (by omega) ?_
    have hle : b.size ≤ a.size := by
      unfold hasP at hp
      rw [Bool.and_eq_true] at hp
      exact of_decide_eq_true hp.1
    simp -implicitDefEqProofs only [sl_CutPrefix_r4, W_bind, W_oS, W_on, W_pure, W_mv, W_setF, W_setT, T.get_set, seqO_cons, seqO_nil, seqP_cons, seqP_nil, onO_some', W_callV, reduceIte, isK_bool, isB_tt, isB_tf, isB_ft, isB_ff, W_chk, W_ifT, W_ifF, W_pick, W_nil, Nat.reduceEqDiff, Nat.reduceEqDiff, reduceCtorEq, ↓reduceIte, h0, h1, W_lenS ty_str]
    rw [W_slS ty_str (l := b.size) (h := a.size) (bndV_nat _ _ _) rfl hle (Nat.le_refl _)]
    exact W.end' (rs := [4, 5]) (vs := [.string (a.extract b.size a.size), .bool true]) sl_CutPrefix_S4_6 (.inl sl_CutPrefix_E6) (by omega) sl_CutPrefix_fn sl_CutPrefix_res rfl (by simp [T.get_set]) (q1 hp)
  | false =>
    refine W.cond (v := true) sl_CutPrefix_S1_2 sl_CutPrefix_C2 (by simp [T.get_set]) (by omega) (fun _ => ?_) fun h => by cases h
    refine sl_CutPrefix_q3.w sl_CutPrefix_S2_3 (by omega) ?_
    simp -implicitDefEqProofs only [sl_CutPrefix_r3, W_bind, W_oS, W_on, W_pure, W_mv, W_setF, W_setT, T.get_set, seqO_cons, seqO_nil, seqP_cons, seqP_nil, onO_some', W_callV, reduceIte, isK_bool, isB_tt, isB_tf, isB_ft, isB_ff, W_chk, W_ifT, W_ifF, W_pick, W_nil, Nat.reduceEqDiff, Nat.reduceEqDiff, reduceCtorEq, ↓reduceIte, h0]
    exact W.end' (rs := [4, 5]) (vs := [.string a, .bool false]) sl_CutPrefix_S3_5 (.inl sl_CutPrefix_E5) (by omega) sl_CutPrefix_fn sl_CutPrefix_res rfl (by simp [T.get_set]) (q2 hp)
theorem CutPrefix_spec {n : Nat} {s : St} {a b : ByteArray} {Q : Value → St → Prop} (hn : 60 ≤ n) (q1 : hasP a b = true → Q (.tuple #[.string (a.extract b.size a.size), .bool true]) s) (q2 : hasP a b = false → Q (.tuple #[.string a, .bool false]) s) :
    W (callW envS (runF envS n) 93 [.string a, .string b]) s Q := by
  refine str_CutPrefix_W fun tm h0 h1 => ?_
  refine str_CutPrefix_q0.w rfl (by omega) ?_
  simp -implicitDefEqProofs only [str_CutPrefix_r0, W_bind, W_oS, W_on, W_pure, W_mv, W_setF, W_setT, T.get_set, seqO_cons, seqO_nil, seqP_cons, seqP_nil, onO_some', W_callV, reduceIte, isK_bool, isB_tt, isB_tf, isB_ft, isB_ff, W_chk, W_ifT, W_ifF, W_pick, W_nil, Nat.reduceEqDiff, Nat.reduceEqDiff, reduceCtorEq, ↓reduceIte]
  refine str_CutPrefix_q1.w str_CutPrefix_S0_1 (by omega) ?_
  simp -implicitDefEqProofs only [str_CutPrefix_r1, W_bind, W_oS, W_on, W_pure, W_mv, W_setF, W_setT, T.get_set, seqO_cons, seqO_nil, seqP_cons, seqP_nil, onO_some', W_callV, reduceIte, isK_bool, isB_tt, isB_tf, isB_ft, isB_ff, W_chk, W_ifT, W_ifF, W_pick, W_nil, Nat.reduceEqDiff, Nat.reduceEqDiff, reduceCtorEq, ↓reduceIte, h0, h1]
  refine slCut_spec (by omega) (fun hp => ?_) fun hp => ?_
  · rw [W_ext (k := 0) rfl, W_ext (k := 1) rfl]
    exact W.end' (rs := [4, 5]) (vs := [.string (a.extract b.size a.size), .bool true]) str_CutPrefix_S1_2 (.inl str_CutPrefix_E2) (by omega) str_CutPrefix_fn str_CutPrefix_res rfl (by simp [T.get_set]) (q1 hp)
  · rw [W_ext (k := 0) rfl, W_ext (k := 1) rfl]
    exact W.end' (rs := [4, 5]) (vs := [.string a, .bool false]) str_CutPrefix_S1_2 (.inl str_CutPrefix_E2) (by omega) str_CutPrefix_fn str_CutPrefix_res rfl (by simp [T.get_set]) (q2 hp)
end Go.Proofs.Ytofanlcjeohcjaa.Am
/- index.Name, said of all states. -/
namespace Go.Proofs.Ytofanlcjeohcjaa.Am
open Go.RowKit

section
variable {E : Env} {s : St} {t : Nat}
theorem quo_run (m n : Nat) (hn : 1 ≤ n) (hm : m ≤ 9223372036854775807) (xo yo : Operand) : Cl.get (aBin E .quo t xo yo) (.int .i64 (m : Nat)) (.int .i64 (n : Nat)) s = .some (.int .i64 (m / n : Nat)) s := by
  show int3 quoK (binSlow E .quo t xo yo) (.int .i64 (.ofNat m)) (.int .i64 (.ofNat n)) s = _
  show Option.rec (motive := fun _ => R Value) _ (fun v => .some v s) (quoK .i64 .i64 m n) = _
  have : quoK .i64 .i64 m n = some (.int .i64 (m / n : Nat)) := by
    unfold quoK sameK
    rw [Nat.beq_refl, Nat.ble_eq_true_of_le hn]
    exact fit64 (Nat.le_trans (Nat.div_le_self m n) hm)
  rw [this]
theorem W_quo {m n : Nat} {xo yo : Operand} (hn : 1 ≤ n) (hm : m ≤ 9223372036854775807) (Q : Value → St → Prop) : W (Cl.get (aBin E .quo t xo yo) (.int .i64 (m : Nat)) (.int .i64 (n : Nat))) s Q = Q (.int .i64 (m / n : Nat)) s := W_run (quo_run m n hn hm xo yo)
end
theorem int_10 : (10 : Int) = ((10 : Nat) : Int) := rfl
/-- The digits, from the last one on. -/
def fillD : Nat → List Nat → Nat → Nat → List Nat
  | 0, l, _, _ => l
  | k + 1, l, m, i => fillD k (l.set (5 - i) (48 + m % 10)) (m / 10) (i + 1)
theorem fillD_all (m : Nat) : fillD 6 [0, 0, 0, 0, 0, 0] m 0 = dig6 m := by
  simp -implicitDefEqProofs only [fillD, List.set, Nat.sub_zero, Nat.reduceSub, Nat.reduceAdd, dig6]
  simp -implicitDefEqProofs only [Nat.div_div_eq_div_mul, Nat.reduceMul]
theorem name_loop {b : Nat} {Q : Value × FrameMode → St → Prop} {s0 : St} (hb0 : s0.lim ≤ s0.next) : ∀ (k i m n : Nat) (l : List Nat) (tm : T Value) (s : St) (td : List Item), i + k = 6 → m ≤ 999999 → l.length = 6 → 10 * k + 20 ≤ n → skim 64 td = index_Name_P7 → Ext (In b 0 6) (In b 0 6) s0 s → OwnRow s b 0 (u8l l) →
    T.get tm 0 = some (.int .i64 (m : Nat)) → T.get tm 3 = some (.pointer (some ⟨b, 0, none⟩)) → T.get tm 11 = some (.int .i64 (i : Nat)) →
    (∀ n' tm' s1 td', n ≤ n' + 10 * k + 5 → skim 64 td' = index_Name_P10 → Ext (In b 0 6) (In b 0 6) s0 s1 → OwnRow s1 b 0 (u8l (fillD k l m i)) → T.get tm' 3 = some (.pointer (some ⟨b, 0, none⟩)) → W (runF envS n' ⟨47, index_Name_nt, index_Name_g, tm', td', .run, .normal, none⟩) s1 Q) →
    W (runF envS n ⟨47, index_Name_nt, index_Name_g, tm, td, .run, .normal, none⟩) s Q := by
  intro k
  induction k with
  | zero =>
    intro i m n l tm s td hi hm hl hn hT hx ho h0 h3 h11 q
    refine index_Name_q7.w hT (by omega) ?_
    simp -implicitDefEqProofs only [index_Name_r7, W_bind, W_oS, W_on, W_pure, W_mv, W_setF, W_setT, T.get_set, seqO_cons, seqO_nil, seqP_cons, seqP_nil, onO_some', W_callV, reduceIte, isK_bool, isB_tt, isB_tf, isB_ft, isB_ff, W_chk, W_ifT, W_ifF, W_pick, W_nil, Nat.reduceEqDiff, Nat.reduceEqDiff, reduceCtorEq, ↓reduceIte, h11]
    simp -implicitDefEqProofs only [W_bind, W_oS, W_on, W_pure, W_mv, W_setF, W_setT, T.get_set, seqO_cons, seqO_nil, seqP_cons, seqP_nil, onO_some', W_callV, reduceIte, isK_bool, isB_tt, isB_tf, isB_ft, isB_ff, W_chk, W_ifT, W_ifF, W_pick, W_nil, Nat.reduceEqDiff, Nat.reduceEqDiff, reduceCtorEq, ↓reduceIte, W_add64, W_sub64, W_lss64, W_gtr64, W_leq64, W_geq64, W_eql64, W_neq64]
    refine W.cond (v := false) index_Name_S7_8 index_Name_C8 (by simp [T.get_set]; omega) (by omega) (fun h => by cases h) fun _ => ?_
    exact q _ _ _ _ (by omega) index_Name_S8_10 hx ho (by simp [T.get_set, h3])
  | succ k ih =>
    intro i m n l tm s td hi hm hl hn hT hx ho h0 h3 h11 q
    refine index_Name_q7.w hT (by omega) ?_
    simp -implicitDefEqProofs only [index_Name_r7, W_bind, W_oS, W_on, W_pure, W_mv, W_setF, W_setT, T.get_set, seqO_cons, seqO_nil, seqP_cons, seqP_nil, onO_some', W_callV, reduceIte, isK_bool, isB_tt, isB_tf, isB_ft, isB_ff, W_chk, W_ifT, W_ifF, W_pick, W_nil, Nat.reduceEqDiff, Nat.reduceEqDiff, reduceCtorEq, ↓reduceIte, h11]
    simp -implicitDefEqProofs only [W_bind, W_oS, W_on, W_pure, W_mv, W_setF, W_setT, T.get_set, seqO_cons, seqO_nil, seqP_cons, seqP_nil, onO_some', W_callV, reduceIte, isK_bool, isB_tt, isB_tf, isB_ft, isB_ff, W_chk, W_ifT, W_ifF, W_pick, W_nil, Nat.reduceEqDiff, Nat.reduceEqDiff, reduceCtorEq, ↓reduceIte, W_add64, W_sub64, W_lss64, W_gtr64, W_leq64, W_geq64, W_eql64, W_neq64]
    refine W.cond (v := true) index_Name_S7_8 index_Name_C8 (by simp [T.get_set]; omega) (by omega) (fun _ => ?_) fun h => by cases h
    refine index_Name_q9.w index_Name_S8_9 (by omega) ?_
    simp -implicitDefEqProofs only [index_Name_r9, W_bind, W_oS, W_on, W_pure, W_mv, W_setF, W_setT, T.get_set, seqO_cons, seqO_nil, seqP_cons, seqP_nil, onO_some', W_callV, reduceIte, isK_bool, isB_tt, isB_tf, isB_ft, isB_ff, W_chk, W_ifT, W_ifF, W_pick, W_nil, Nat.reduceEqDiff, Nat.reduceEqDiff, reduceCtorEq, ↓reduceIte, h11]
    refine index_Name_q11.w index_Name_S9_11 (by omega) ?_
    have e5 : wrap64 (5 - ((i : Nat) : Int)) = ((5 - i : Nat) : Int) := by
      rw [wrap64_id (by omega) (by omega)]; omega
    have e48 : wrap64 (48 + ((m % 10 : Nat) : Int)) = ((48 + m % 10 : Nat) : Int) := by
      rw [wrap64_id (by omega) (by omega)]; omega
    have e8 : IntKind.u8.wrap ((48 + m % 10 : Nat) : Int) = ((48 + m % 10 : Nat) : Int) := by
      rw [wrap_u8]; omega
    simp -implicitDefEqProofs only [index_Name_r11, W_bind, W_oS, W_on, W_pure, W_mv, W_setF, W_setT, T.get_set, seqO_cons, seqO_nil, seqP_cons, seqP_nil, onO_some', W_callV, reduceIte, isK_bool, isB_tt, isB_tf, isB_ft, isB_ff, W_chk, W_ifT, W_ifF, W_pick, W_nil, Nat.reduceEqDiff, Nat.reduceEqDiff, reduceCtorEq, ↓reduceIte, W_add64, W_sub64, W_lss64, W_gtr64, W_leq64, W_geq64, W_eql64, W_neq64, h0, h3, e5]
    rw [int_10, W_rem (by decide)]
    simp -implicitDefEqProofs only [W_bind, W_oS, W_on, W_pure, W_mv, W_setF, W_setT, T.get_set, seqO_cons, seqO_nil, seqP_cons, seqP_nil, onO_some', W_callV, reduceIte, isK_bool, isB_tt, isB_tf, isB_ft, isB_ff, W_chk, W_ifT, W_ifF, W_pick, W_nil, Nat.reduceEqDiff, Nat.reduceEqDiff, reduceCtorEq, ↓reduceIte, W_add64, W_sub64, W_lss64, W_gtr64, W_leq64, W_geq64, W_eql64, W_neq64, e48]
    rw [W_conv tx_int_k tx_u8_k, e8]
    rw [W_idxArr tx_a6 (show 5 - i < 6 by omega)]
    have ho5 : Own s b (0 + (5 - i) * 1) (u8 (l.getD (5 - i) 0)) := by
      have := ho (5 - i) (u8 (l.getD (5 - i) 0)) (by
        rw [List.getElem?_map, List.getD_eq_getElem?_getD, List.getElem?_eq_getElem (show 5 - i < l.length by omega)]; rfl)
      rw [show 0 + (5 - i) * 1 = 0 + (5 - i) by omega]
      exact this
    refine W.store1 tx_u8_1 rfl ho5 fun sa na xa oa => ?_
    have sub : ∀ x, In b (0 + (5 - i) * 1) 1 x → In b 0 6 x := fun x h => ⟨by have := h.1; omega, by
      have h2 : x < b + (0 + (5 - i) * 1) + 1 := h.2
      omega⟩
    have hxa : Ext (In b 0 6) (In b 0 6) s0 sa := hx.trans xa hb0 (fun x _ h => sub x h) fun x _ h => sub x h
    have hoa : OwnRow sa b 0 (u8l (l.set (5 - i) (48 + m % 10))) := fun j v e => by
      rw [List.getElem?_map, List.getElem?_set] at e
      by_cases hj : 5 - i = j
      · rw [if_pos hj, if_pos (by omega)] at e
        cases e
        rw [← hj, show 0 + (5 - i) = 0 + (5 - i) * 1 by omega]
        exact oa
      · rw [if_neg hj] at e
        have := ho j v (by rw [List.getElem?_map]; exact e)
        refine this.ext xa fun h => ?_
        have h1 : b + (0 + (5 - i) * 1) ≤ b + (0 + j) := h.1
        have h2 : b + (0 + j) < b + (0 + (5 - i) * 1) + 1 := h.2
        omega
    refine index_Name_q13.w index_Name_S11_13 (by omega) ?_
    simp -implicitDefEqProofs only [index_Name_r13, W_bind, W_oS, W_on, W_pure, W_mv, W_setF, W_setT, T.get_set, seqO_cons, seqO_nil, seqP_cons, seqP_nil, onO_some', W_callV, reduceIte, isK_bool, isB_tt, isB_tf, isB_ft, isB_ff, W_chk, W_ifT, W_ifF, W_pick, W_nil, Nat.reduceEqDiff, Nat.reduceEqDiff, reduceCtorEq, ↓reduceIte, h0]
    rw [int_10, W_quo (by decide) (by omega)]
    refine index_Name_q14.w index_Name_S13_14 (by omega) ?_
    have e1 : wrap64 (((i : Nat) : Int) + 1) = ((i + 1 : Nat) : Int) := by
      rw [wrap64_id (by omega) (by omega)]; omega
    simp -implicitDefEqProofs only [index_Name_r14, W_bind, W_oS, W_on, W_pure, W_mv, W_setF, W_setT, T.get_set, seqO_cons, seqO_nil, seqP_cons, seqP_nil, onO_some', W_callV, reduceIte, isK_bool, isB_tt, isB_tf, isB_ft, isB_ff, W_chk, W_ifT, W_ifF, W_pick, W_nil, Nat.reduceEqDiff, Nat.reduceEqDiff, reduceCtorEq, ↓reduceIte, W_add64, W_sub64, W_lss64, W_gtr64, W_leq64, W_geq64, W_eql64, W_neq64, h11, e1]
    refine ih (i + 1) (m / 10) _ _ _ sa _ (by omega) (by omega) (by rw [List.length_set]; exact hl) (by omega) index_Name_S14_7 hxa hoa (by simp [T.get_set]) (by simp [T.get_set, h3]) (by simp [T.get_set]) fun n' tm' s1 td' hn' hT' hx' ho' h3' => ?_
    exact q n' tm' s1 td' (by omega) hT' hx' ho' h3'
end Go.Proofs.Ytofanlcjeohcjaa.Am
/- index.Name, said of all states: the whole. -/
namespace Go.Proofs.Ytofanlcjeohcjaa.Am
open Go.RowKit

theorem ty_bytes_b : isU8S envS 22 = true := by kernel_rfl
def preB : ByteArray := { data := #[112, 97, 99, 107, 47] }
def nameB (n : Int) : ByteArray := if 1 ≤ n ∧ n ≤ 999999 then preB ++ txt (dig6 n.toNat) else { data := #[] }
theorem nameB_list (n : Int) : (nameB n).data.toList = nameL n := by
  unfold nameB nameL
  by_cases h : 1 ≤ n ∧ n ≤ 999999
  · rw [if_pos h, if_pos h]
    rfl
  · rw [if_neg h, if_neg h]
theorem index_Name_out {n : Nat} {i : Int} {s : St} {Q : Value → St → Prop} (hi1 : -9223372036854775808 ≤ i) (hi2 : i ≤ 9223372036854775807) (hi : ¬ (1 ≤ i ∧ i ≤ 999999)) (hn : 20 ≤ n) (q : Q (.string { data := #[] }) s) : W (callW envS (runF envS n) 47 [.int .i64 i]) s Q := by
  refine index_Name_W fun tm h0 => ?_
  refine index_Name_q0.w rfl (by omega) ?_
  simp -implicitDefEqProofs only [index_Name_r0, W_bind, W_oS, W_on, W_pure, W_mv, W_setF, W_setT, T.get_set, seqO_cons, seqO_nil, seqP_cons, seqP_nil, onO_some', W_callV, reduceIte, isK_bool, isB_tt, isB_tf, isB_ft, isB_ff, W_chk, W_ifT, W_ifF, W_pick, W_nil, Nat.reduceEqDiff, Nat.reduceEqDiff, reduceCtorEq, ↓reduceIte]
  refine index_Name_q1.w index_Name_S0_1 (by omega) ?_
  have fin : ∀ (n' : Nat) (tm' : T Value) (td' : List Item), 10 ≤ n' → skim 64 td' = index_Name_P2 → T.get tm' 10 = some (.bool true) → W (runF envS n' ⟨47, index_Name_nt, index_Name_g, tm', td', .run, .normal, none⟩) (s.cxN cxN) fun p s1 => Q p.1 (s1.cxN s.cx) := fun n' tm' td' hn' hT h10 => by
    refine W.cond (v := true) hT index_Name_C2 h10 (by omega) (fun _ => ?_) fun h => by cases h
    refine index_Name_q3.w index_Name_S2_3 (by omega) ?_
    simp -implicitDefEqProofs only [index_Name_r3, W_bind, W_oS, W_on, W_pure, W_mv, W_setF, W_setT, T.get_set, seqO_cons, seqO_nil, seqP_cons, seqP_nil, onO_some', W_callV, reduceIte, isK_bool, isB_tt, isB_tf, isB_ft, isB_ff, W_chk, W_ifT, W_ifF, W_pick, W_nil, Nat.reduceEqDiff, Nat.reduceEqDiff, reduceCtorEq, ↓reduceIte]
    exact W.end' (rs := [2]) (vs := [.string { data := #[] }]) index_Name_S3_5 (.inl index_Name_E5) (by omega) index_Name_fn index_Name_res rfl (by simp [T.get_set]) q
  by_cases h1 : i < 1
  · simp -implicitDefEqProofs only [index_Name_r1, W_bind, W_oS, W_on, W_pure, W_mv, W_setF, W_setT, T.get_set, seqO_cons, seqO_nil, seqP_cons, seqP_nil, onO_some', W_callV, reduceIte, isK_bool, isB_tt, isB_tf, isB_ft, isB_ff, W_chk, W_ifT, W_ifF, W_pick, W_nil, Nat.reduceEqDiff, Nat.reduceEqDiff, reduceCtorEq, ↓reduceIte, W_add64, W_sub64, W_lss64, W_gtr64, W_leq64, W_geq64, W_eql64, W_neq64, h0]
    rw [decide_eq_true h1]
    simp -implicitDefEqProofs only [W_bind, W_oS, W_on, W_pure, W_mv, W_setF, W_setT, T.get_set, seqO_cons, seqO_nil, seqP_cons, seqP_nil, onO_some', W_callV, reduceIte, isK_bool, isB_tt, isB_tf, isB_ft, isB_ff, W_chk, W_ifT, W_ifF, W_pick, W_nil, Nat.reduceEqDiff, Nat.reduceEqDiff, reduceCtorEq, ↓reduceIte, W_add64, W_sub64, W_lss64, W_gtr64, W_leq64, W_geq64, W_eql64, W_neq64]
    exact fin _ _ _ (by omega) index_Name_S1_2 (by simp [T.get_set])
  · simp -implicitDefEqProofs only [index_Name_r1, W_bind, W_oS, W_on, W_pure, W_mv, W_setF, W_setT, T.get_set, seqO_cons, seqO_nil, seqP_cons, seqP_nil, onO_some', W_callV, reduceIte, isK_bool, isB_tt, isB_tf, isB_ft, isB_ff, W_chk, W_ifT, W_ifF, W_pick, W_nil, Nat.reduceEqDiff, Nat.reduceEqDiff, reduceCtorEq, ↓reduceIte, W_add64, W_sub64, W_lss64, W_gtr64, W_leq64, W_geq64, W_eql64, W_neq64, h0]
    rw [decide_eq_false h1]
    simp -implicitDefEqProofs only [W_bind, W_oS, W_on, W_pure, W_mv, W_setF, W_setT, T.get_set, seqO_cons, seqO_nil, seqP_cons, seqP_nil, onO_some', W_callV, reduceIte, isK_bool, isB_tt, isB_tf, isB_ft, isB_ff, W_chk, W_ifT, W_ifF, W_pick, W_nil, Nat.reduceEqDiff, Nat.reduceEqDiff, reduceCtorEq, ↓reduceIte, W_add64, W_sub64, W_lss64, W_gtr64, W_leq64, W_geq64, W_eql64, W_neq64, h0]
    rw [decide_eq_true (show (999999 : Int) < i by omega)]
    exact fin _ _ _ (by omega) index_Name_S1_2 (by simp [T.get_set])
theorem index_Name_in {n m : Nat} {s : St} {Q : Value → St → Prop} (hbd : s.lim ≤ s.next) (hm1 : 1 ≤ m) (hm2 : m ≤ 999999) (hn : 120 ≤ n) (q : ∀ s1, Ext Non Non s s1 → Q (.string (preB ++ txt (dig6 m))) s1) : W (callW envS (runF envS n) 47 [.int .i64 (m : Nat)]) s Q := by
  refine index_Name_W fun tm h0 => ?_
  refine index_Name_q0.w rfl (by omega) ?_
  simp -implicitDefEqProofs only [index_Name_r0, W_bind, W_oS, W_on, W_pure, W_mv, W_setF, W_setT, T.get_set, seqO_cons, seqO_nil, seqP_cons, seqP_nil, onO_some', W_callV, reduceIte, isK_bool, isB_tt, isB_tf, isB_ft, isB_ff, W_chk, W_ifT, W_ifF, W_pick, W_nil, Nat.reduceEqDiff, Nat.reduceEqDiff, reduceCtorEq, ↓reduceIte]
  refine index_Name_q1.w index_Name_S0_1 (by omega) ?_
  simp -implicitDefEqProofs only [index_Name_r1, W_bind, W_oS, W_on, W_pure, W_mv, W_setF, W_setT, T.get_set, seqO_cons, seqO_nil, seqP_cons, seqP_nil, onO_some', W_callV, reduceIte, isK_bool, isB_tt, isB_tf, isB_ft, isB_ff, W_chk, W_ifT, W_ifF, W_pick, W_nil, Nat.reduceEqDiff, Nat.reduceEqDiff, reduceCtorEq, ↓reduceIte, W_add64, W_sub64, W_lss64, W_gtr64, W_leq64, W_geq64, W_eql64, W_neq64, h0]
  rw [decide_eq_false (show ¬ ((m : Nat) : Int) < 1 by omega)]
  simp -implicitDefEqProofs only [W_bind, W_oS, W_on, W_pure, W_mv, W_setF, W_setT, T.get_set, seqO_cons, seqO_nil, seqP_cons, seqP_nil, onO_some', W_callV, reduceIte, isK_bool, isB_tt, isB_tf, isB_ft, isB_ff, W_chk, W_ifT, W_ifF, W_pick, W_nil, Nat.reduceEqDiff, Nat.reduceEqDiff, reduceCtorEq, ↓reduceIte, W_add64, W_sub64, W_lss64, W_gtr64, W_leq64, W_geq64, W_eql64, W_neq64, h0]
  rw [decide_eq_false (show ¬ (999999 : Int) < ((m : Nat) : Int) by omega)]
  refine W.cond (v := false) index_Name_S1_2 index_Name_C2 (by simp [T.get_set]) (by omega) (fun h => by cases h) fun _ => ?_
  refine index_Name_q4.w index_Name_S2_4 (by omega) ?_
  simp -implicitDefEqProofs only [index_Name_r4, W_bind, W_oS, W_on, W_pure, W_mv, W_setF, W_setT, T.get_set, seqO_cons, seqO_nil, seqP_cons, seqP_nil, onO_some', W_callV, reduceIte, isK_bool, isB_tt, isB_tf, isB_ft, isB_ff, W_chk, W_ifT, W_ifF, W_pick, W_nil, Nat.reduceEqDiff, Nat.reduceEqDiff, reduceCtorEq, ↓reduceIte]
  refine W.alloc tx_a6_z fun sa na xa oa => ?_
  have na' : sa.next = s.next + 7 := na
  have hxa : Ext Non Non (s.cxN cxN) sa := xa
  refine index_Name_q6.w index_Name_S4_6 (by omega) ?_
  simp -implicitDefEqProofs only [index_Name_r6, W_bind, W_oS, W_on, W_pure, W_mv, W_setF, W_setT, T.get_set, seqO_cons, seqO_nil, seqP_cons, seqP_nil, onO_some', W_callV, reduceIte, isK_bool, isB_tt, isB_tf, isB_ft, isB_ff, W_chk, W_ifT, W_ifF, W_pick, W_nil, Nat.reduceEqDiff, Nat.reduceEqDiff, reduceCtorEq, ↓reduceIte]
  have hba : sa.lim ≤ sa.next := xa.bnd hbd
  refine name_loop (s0 := sa) (b := s.next) hba 6 0 m _ [0, 0, 0, 0, 0, 0] _ sa _ rfl hm2 rfl (by omega) index_Name_S6_7 (Ext.refl sa) oa (by simp [T.get_set, h0]) (by simp [T.get_set]; rfl) (by simp [T.get_set]) fun n' tm' s1 td' hn' hT' hx' ho' h3' => ?_
  rw [fillD_all] at ho'
  have up : ∀ x, In s.next 0 6 x → s.next ≤ x := fun x h => by have := h.1; omega
  have hx1 : Ext Non Non (s.cxN cxN) s1 := hxa.step hx' hbd (fun x hx h => by
    have h2 : x < s.lim := hx
    have := up x h
    omega) fun x h => up x h
  refine index_Name_q10.w hT' (by omega) ?_
  simp -implicitDefEqProofs only [index_Name_r10, W_bind, W_oS, W_on, W_pure, W_mv, W_setF, W_setT, T.get_set, seqO_cons, seqO_nil, seqP_cons, seqP_nil, onO_some', W_callV, reduceIte, isK_bool, isB_tt, isB_tf, isB_ft, isB_ff, W_chk, W_ifT, W_ifF, W_pick, W_nil, Nat.reduceEqDiff, Nat.reduceEqDiff, reduceCtorEq, ↓reduceIte, h3']
  rw [W_slArr (lo := none) (hi := none) (l := 0) (h := 6) tx_a6 (capU_gt (by decide)) rfl rfl (Nat.zero_le _) (Nat.le_refl _), if_neg (by decide)]
  have hB : Bs s1 (.slice (some ⟨s.next, 0 + 0 * 1, none⟩) (6 - 0) (6 - 0)) (dig6 m) := OwnRow.bn ho' (capU_gt (by simp [dig6]))
  refine W.str hB (.inl (by simp [dig6])) ty_bytes_b ty_str fun s2 m2 n2 x2 => ?_
  have hx2 : Ext Non Non (s.cxN cxN) s2 := hx1.step x2 hbd (fun x hx h => by
    have h2 : x < s.lim := hx
    have h3 : s.next + (0 + 0 * 1) ≤ x := h.1
    omega) fun _ h => h.elim
  rw [W_addS (by show 5 + _ ≤ _; simp [txt, ByteArray.size, dig6])]
  exact W.end' (rs := [2]) (vs := [.string (preB ++ txt (dig6 m))]) index_Name_S10_12 (.inl index_Name_E12) (by omega) index_Name_fn index_Name_res hx2.cx (by simp [T.get_set]; rfl) (q _ hx2.cxO)
theorem index_Name_spec {n : Nat} {i : Int} {s : St} {Q : Value → St → Prop} (hbd : s.lim ≤ s.next) (hi1 : -9223372036854775808 ≤ i) (hi2 : i ≤ 9223372036854775807) (hn : 120 ≤ n) (q : ∀ s1, Ext Non Non s s1 → Q (.string (nameB i)) s1) : W (callW envS (runF envS n) 47 [.int .i64 i]) s Q := by
  by_cases hi : 1 ≤ i ∧ i ≤ 999999
  · unfold nameB at q
    rw [if_pos hi] at q
    obtain ⟨m, rfl⟩ : ∃ m : Nat, i = (m : Int) := ⟨i.toNat, by omega⟩
    exact index_Name_in hbd (by omega) (by omega) hn q
  · unfold nameB at q
    rw [if_neg hi] at q
    exact index_Name_out hi1 hi2 hi (by omega) (q s (Ext.refl s))
end Go.Proofs.Ytofanlcjeohcjaa.Am
/- index.Parse, said of all states. -/
namespace Go.Proofs.Ytofanlcjeohcjaa.Am
open Go.RowKit

section
variable {E : Env} {s : St} {t : Nat}
theorem cmpU {c : Nat → Nat → Bool} (slow : Value → Value → M Value) (m n : Nat) : int3 (cmpK c) slow (.int .u8 (m : Nat)) (.int .u8 (n : Nat)) s = .some (.bool (c m n)) s := by
  show Option.rec (motive := fun _ => R Value) _ (fun v => .some v s) (cmpK c .u8 .u8 m n) = _
  have : cmpK c .u8 .u8 m n = some (.bool (c m n)) := by
    unfold cmpK sameK
    rw [Nat.beq_refl]
    show mkB (c m n) = _
    cases c m n <;> rfl
  rw [this]
theorem W_lssU {m n : Nat} {xo yo : Operand} (Q : Value → St → Prop) : W (Cl.get (aBin E .lss t xo yo) (.int .u8 (m : Nat)) (.int .u8 (n : Nat))) s Q = Q (.bool (Nat.blt m n)) s := W_run (cmpU _ m n)
theorem W_gtrU {m n : Nat} {xo yo : Operand} (Q : Value → St → Prop) : W (Cl.get (aBin E .gtr t xo yo) (.int .u8 (m : Nat)) (.int .u8 (n : Nat))) s Q = Q (.bool (Nat.blt n m)) s := W_run (cmpU _ m n)
theorem subU_run (m n : Nat) (hn : n ≤ m) (hm : m ≤ 255) (xo yo : Operand) : Cl.get (aBin E .sub t xo yo) (.int .u8 (m : Nat)) (.int .u8 (n : Nat)) s = .some (.int .u8 (m - n : Nat)) s := by
  show int3 subK (binSlow E .sub t xo yo) (.int .u8 (.ofNat m)) (.int .u8 (.ofNat n)) s = _
  show Option.rec (motive := fun _ => R Value) _ (fun v => .some v s) (subK .u8 .u8 m n) = _
  have : subK .u8 .u8 m n = some (.int .u8 (m - n : Nat)) := by
    unfold subK sameK
    rw [Nat.beq_refl, Nat.ble_eq_true_of_le hn]
    show fitI .u8 (m - n) = _
    unfold fitI
    rw [Nat.ble_eq_true_of_le (show m - n ≤ mxOf .u8 from Nat.le_trans (Nat.sub_le _ _) hm)]
    show mkI .u8 (m - n) = _
    unfold mkI
    rw [fN_eq]
    rfl
  rw [this]
theorem W_subU {m n : Nat} {xo yo : Operand} (hn : n ≤ m) (hm : m ≤ 255) (Q : Value → St → Prop) : W (Cl.get (aBin E .sub t xo yo) (.int .u8 (m : Nat)) (.int .u8 (n : Nat))) s Q = Q (.int .u8 (m - n : Nat)) s := W_run (subU_run m n hn hm xo yo)
end
theorem int_48 : (48 : Int) = ((48 : Nat) : Int) := rfl
theorem int_57 : (57 : Int) = ((57 : Nat) : Int) := rfl
theorem val6_snoc (a : Nat) (l : List UInt8) (c : UInt8) : val6 a (l ++ [c]) = 10 * val6 a l + (c.toNat - 48) := by
  unfold val6
  rw [List.foldl_append]
  rfl
theorem val6_lt (l : List UInt8) (h : l.all isDig = true) : val6 0 l < 10 ^ l.length := by
  have gen : ∀ (l : List UInt8) (a k : Nat), l.all isDig = true → a < 10 ^ k → val6 a l < 10 ^ (k + l.length) := by
    intro l
    induction l with
    | nil => intro a k _ h; exact h
    | cons c l ih =>
      intro a k h ha
      rw [List.all_cons, Bool.and_eq_true] at h
      have hc : c.toNat ≤ 57 := by
        have := h.1
        simp -implicitDefEqProofs only [isDig, Bool.and_eq_true, decide_eq_true_eq] at this
        exact this.2
      have := ih (10 * a + (c.toNat - 48)) (k + 1) h.2 (by rw [Nat.pow_succ]; omega)
      rw [List.length_cons, show k + (l.length + 1) = k + 1 + l.length by omega]
      exact this
  have := gen l 0 0 h (by decide)
  rwa [Nat.zero_add] at this
theorem parse_loop {a : ByteArray} {d : List UInt8} (hd : a.data.toList = d) (h6 : d.length = 6) {Q : Value × FrameMode → St → Prop} {s : St} (q1 : ∀ n' tm' td', 10 ≤ n' → skim 64 td' = index_Parse_P11 → d.all isDig = true → T.get tm' 6 = some (.int .i64 (val6 0 d : Nat)) → W (runF envS n' ⟨41, index_Parse_nt, index_Parse_g, tm', td', .run, .normal, none⟩) s Q)
    (q2 : ∀ n' tm' td', 10 ≤ n' → skim 64 td' = index_Parse_P15 → d.all isDig = false → W (runF envS n' ⟨41, index_Parse_nt, index_Parse_g, tm', td', .run, .normal, none⟩) s Q) : ∀ (k i n : Nat) (tm : T Value) (td : List Item), i + k = 6 → (d.take i).all isDig = true → 10 * k + 30 ≤ n → skim 64 td = index_Parse_P8 →
    T.get tm 4 = some (.string a) → T.get tm 6 = some (.int .i64 (val6 0 (d.take i) : Nat)) → T.get tm 21 = some (.int .i64 6) → T.get tm 22 = some (.int .i64 (i : Nat)) →
    W (runF envS n ⟨41, index_Parse_nt, index_Parse_g, tm, td, .run, .normal, none⟩) s Q := by
  intro k
  induction k with
  | zero =>
    intro i n tm td hi hall hn hT h4 h6' h21 h22
    refine index_Parse_q8.w hT (by omega) ?_
    simp -implicitDefEqProofs only [index_Parse_r8, W_bind, W_oS, W_on, W_pure, W_mv, W_setF, W_setT, T.get_set, seqO_cons, seqO_nil, seqP_cons, seqP_nil, onO_some', W_callV, reduceIte, isK_bool, isB_tt, isB_tf, isB_ft, isB_ff, W_chk, W_ifT, W_ifF, W_pick, W_nil, Nat.reduceEqDiff, Nat.reduceEqDiff, reduceCtorEq, ↓reduceIte, h21, h22]
    simp -implicitDefEqProofs only [W_bind, W_oS, W_on, W_pure, W_mv, W_setF, W_setT, T.get_set, seqO_cons, seqO_nil, seqP_cons, seqP_nil, onO_some', W_callV, reduceIte, isK_bool, isB_tt, isB_tf, isB_ft, isB_ff, W_chk, W_ifT, W_ifF, W_pick, W_nil, Nat.reduceEqDiff, Nat.reduceEqDiff, reduceCtorEq, ↓reduceIte, W_add64, W_sub64, W_lss64, W_gtr64, W_leq64, W_geq64, W_eql64, W_neq64]
    refine W.cond (v := false) index_Parse_S8_9 index_Parse_C9 (by simp [T.get_set]; omega) (by omega) (fun h => by cases h) fun _ => ?_
    have ht : d.take i = d := List.take_of_length_le (by omega)
    rw [ht] at hall h6'
    exact q1 _ _ _ (by omega) index_Parse_S9_11 hall (by simp [T.get_set, h6'])
  | succ k ih =>
    intro i n tm td hi hall hn hT h4 h6' h21 h22
    have hid : i < d.length := by omega
    refine index_Parse_q8.w hT (by omega) ?_
    simp -implicitDefEqProofs only [index_Parse_r8, W_bind, W_oS, W_on, W_pure, W_mv, W_setF, W_setT, T.get_set, seqO_cons, seqO_nil, seqP_cons, seqP_nil, onO_some', W_callV, reduceIte, isK_bool, isB_tt, isB_tf, isB_ft, isB_ff, W_chk, W_ifT, W_ifF, W_pick, W_nil, Nat.reduceEqDiff, Nat.reduceEqDiff, reduceCtorEq, ↓reduceIte, h21, h22]
    simp -implicitDefEqProofs only [W_bind, W_oS, W_on, W_pure, W_mv, W_setF, W_setT, T.get_set, seqO_cons, seqO_nil, seqP_cons, seqP_nil, onO_some', W_callV, reduceIte, isK_bool, isB_tt, isB_tf, isB_ft, isB_ff, W_chk, W_ifT, W_ifF, W_pick, W_nil, Nat.reduceEqDiff, Nat.reduceEqDiff, reduceCtorEq, ↓reduceIte, W_add64, W_sub64, W_lss64, W_gtr64, W_leq64, W_geq64, W_eql64, W_neq64]
    refine W.cond (v := true) index_Parse_S8_9 index_Parse_C9 (by simp [T.get_set]; omega) (by omega) (fun _ => ?_) fun h => by cases h
    refine index_Parse_q10.w index_Parse_S9_10 (by omega) ?_
    simp -implicitDefEqProofs only [index_Parse_r10, W_bind, W_oS, W_on, W_pure, W_mv, W_setF, W_setT, T.get_set, seqO_cons, seqO_nil, seqP_cons, seqP_nil, onO_some', W_callV, reduceIte, isK_bool, isB_tt, isB_tf, isB_ft, isB_ff, W_chk, W_ifT, W_ifF, W_pick, W_nil, Nat.reduceEqDiff, Nat.reduceEqDiff, reduceCtorEq, ↓reduceIte, h22]
    refine index_Parse_q12.w index_Parse_S10_12 (by omega) ?_
    obtain ⟨c, hc⟩ : ∃ c, d[i] = c := ⟨_, rfl⟩
    have hb : a.data.toList[i]? = some c := by rw [hd, List.getElem?_eq_getElem hid, hc]
    have hsnoc : d.take (i + 1) = d.take i ++ [c] := by rw [List.take_add_one, List.getElem?_eq_getElem hid, hc]; rfl
    have hvlt : val6 0 (d.take i) < 1000000 := by
      have h1 := val6_lt (d.take i) hall
      have h2 : 10 ^ (d.take i).length ≤ 10 ^ 6 := Nat.pow_le_pow_right (by decide) (by rw [List.length_take]; omega)
      omega
    have bad : ∀ n' tm' td', 20 ≤ n' → skim 64 td' = index_Parse_P14 → T.get tm' 34 = some (.bool true) → isDig c = false → W (runF envS n' ⟨41, index_Parse_nt, index_Parse_g, tm', td', .run, .normal, none⟩) s Q := fun n' tm' td' hn' hT' h34 hbad => by
      refine W.cond (v := true) hT' index_Parse_C14 h34 (by omega) (fun _ => ?_) fun h => by cases h
      refine q2 _ _ _ (by omega) index_Parse_S14_15 ?_
      rw [Bool.eq_false_iff]
      intro hq
      have := List.all_eq_true.1 hq c (by rw [← hc]; exact List.getElem_mem hid)
      rw [hbad] at this
      cases this
    by_cases g1 : c.toNat < 48
    · simp -implicitDefEqProofs only [index_Parse_r12, W_bind, W_oS, W_on, W_pure, W_mv, W_setF, W_setT, T.get_set, seqO_cons, seqO_nil, seqP_cons, seqP_nil, onO_some', W_callV, reduceIte, isK_bool, isB_tt, isB_tf, isB_ft, isB_ff, W_chk, W_ifT, W_ifF, W_pick, W_nil, Nat.reduceEqDiff, Nat.reduceEqDiff, reduceCtorEq, ↓reduceIte, h4, h22, W_idxS ty_str hb]
      rw [int_48, W_lssU, blt_t g1]
      simp -implicitDefEqProofs only [W_bind, W_oS, W_on, W_pure, W_mv, W_setF, W_setT, T.get_set, seqO_cons, seqO_nil, seqP_cons, seqP_nil, onO_some', W_callV, reduceIte, isK_bool, isB_tt, isB_tf, isB_ft, isB_ff, W_chk, W_ifT, W_ifF, W_pick, W_nil, Nat.reduceEqDiff, Nat.reduceEqDiff, reduceCtorEq, ↓reduceIte]
      exact bad _ _ _ (by omega) index_Parse_S12_14 (by simp [T.get_set]) (by simp [isDig]; omega)
    · simp -implicitDefEqProofs only [index_Parse_r12, W_bind, W_oS, W_on, W_pure, W_mv, W_setF, W_setT, T.get_set, seqO_cons, seqO_nil, seqP_cons, seqP_nil, onO_some', W_callV, reduceIte, isK_bool, isB_tt, isB_tf, isB_ft, isB_ff, W_chk, W_ifT, W_ifF, W_pick, W_nil, Nat.reduceEqDiff, Nat.reduceEqDiff, reduceCtorEq, ↓reduceIte, h4, h22, W_idxS ty_str hb]
      rw [int_48, W_lssU, blt_f (Nat.le_of_not_lt g1)]
      simp -implicitDefEqProofs only [W_bind, W_oS, W_on, W_pure, W_mv, W_setF, W_setT, T.get_set, seqO_cons, seqO_nil, seqP_cons, seqP_nil, onO_some', W_callV, reduceIte, isK_bool, isB_tt, isB_tf, isB_ft, isB_ff, W_chk, W_ifT, W_ifF, W_pick, W_nil, Nat.reduceEqDiff, Nat.reduceEqDiff, reduceCtorEq, ↓reduceIte, h4, h22, W_idxS ty_str hb]
      rw [int_57, W_gtrU]
      by_cases g2 : 57 < c.toNat
      · rw [blt_t g2]
        exact bad _ _ _ (by omega) index_Parse_S12_14 (by simp [T.get_set]) (by simp [isDig]; omega)
      · rw [blt_f (Nat.le_of_not_lt g2)]
        refine W.cond (v := false) index_Parse_S12_14 index_Parse_C14 (by simp [T.get_set]) (by omega) (fun h => by cases h) fun _ => ?_
        refine index_Parse_q16.w index_Parse_S14_16 (by omega) ?_
        simp -implicitDefEqProofs only [index_Parse_r16, W_bind, W_oS, W_on, W_pure, W_mv, W_setF, W_setT, T.get_set, seqO_cons, seqO_nil, seqP_cons, seqP_nil, onO_some', W_callV, reduceIte, isK_bool, isB_tt, isB_tf, isB_ft, isB_ff, W_chk, W_ifT, W_ifF, W_pick, W_nil, Nat.reduceEqDiff, Nat.reduceEqDiff, reduceCtorEq, ↓reduceIte, h4, h6', h22, W_idxS ty_str hb]
        have e1 : wrap64 (((10 * val6 0 (d.take i) : Nat) : Int) + ((c.toNat - 48 : Nat) : Int)) = ((val6 0 (d.take (i + 1)) : Nat) : Int) := by
          rw [wrap64_id (by omega) (by omega), hsnoc, val6_snoc]; omega
        have hc255 : c.toNat ≤ 255 := by omega
        have e2 : IntKind.i64.wrap ((c.toNat - 48 : Nat) : Int) = ((c.toNat - 48 : Nat) : Int) := tx_wrap _ (by omega)
        rw [int_10, W_mul (by omega)]
        rw [int_48, W_subU (by omega) hc255, W_conv tx_u8_h tx_i64_k, e2]
        simp -implicitDefEqProofs only [W_bind, W_oS, W_on, W_pure, W_mv, W_setF, W_setT, T.get_set, seqO_cons, seqO_nil, seqP_cons, seqP_nil, onO_some', W_callV, reduceIte, isK_bool, isB_tt, isB_tf, isB_ft, isB_ff, W_chk, W_ifT, W_ifF, W_pick, W_nil, Nat.reduceEqDiff, Nat.reduceEqDiff, reduceCtorEq, ↓reduceIte, W_add64, W_sub64, W_lss64, W_gtr64, W_leq64, W_geq64, W_eql64, W_neq64, e1]
        refine index_Parse_q18.w index_Parse_S16_18 (by omega) ?_
        have e3 : wrap64 (((i : Nat) : Int) + 1) = ((i + 1 : Nat) : Int) := by
          rw [wrap64_id (by omega) (by omega)]; omega
        simp -implicitDefEqProofs only [index_Parse_r18, W_bind, W_oS, W_on, W_pure, W_mv, W_setF, W_setT, T.get_set, seqO_cons, seqO_nil, seqP_cons, seqP_nil, onO_some', W_callV, reduceIte, isK_bool, isB_tt, isB_tf, isB_ft, isB_ff, W_chk, W_ifT, W_ifF, W_pick, W_nil, Nat.reduceEqDiff, Nat.reduceEqDiff, reduceCtorEq, ↓reduceIte, W_add64, W_sub64, W_lss64, W_gtr64, W_leq64, W_geq64, W_eql64, W_neq64, h22, e3]
        refine ih (i + 1) _ _ _ (by omega) ?_ (by omega) index_Parse_S18_8 (by simp [T.get_set, h4]) (by simp [T.get_set]) (by simp [T.get_set, h21]) (by simp [T.get_set])
        rw [hsnoc, List.all_append, hall]
        simp [isDig]
        omega
end Go.Proofs.Ytofanlcjeohcjaa.Am
/- index.Parse, said of all states: the whole. -/
namespace Go.Proofs.Ytofanlcjeohcjaa.Am
open Go.RowKit

theorem extract_list (a : ByteArray) (i j : Nat) : (a.extract i j).data.toList = (a.data.toList.take j).drop i := by
  rw [ByteArray.data_extract, Array.toList_extract]
  simp -implicitDefEqProofs only [List.extract, List.drop_take]
theorem size_list (a : ByteArray) : a.size = a.data.toList.length := rfl
/-- What is parsed of a text, as the program has it. -/
theorem parse_hasP (a : ByteArray) : parseL a.data.toList = if hasP a preB = true ∧ (a.extract preB.size a.size).size = 6 ∧ (a.extract preB.size a.size).data.toList.all isDig = true then (val6 0 (a.extract preB.size a.size).data.toList, decide (0 < val6 0 (a.extract preB.size a.size).data.toList)) else (0, false) := by
  have e1 : (a.extract preB.size a.size).data.toList = a.data.toList.drop 5 := by
    rw [extract_list, size_list a, List.take_length]; rfl
  have e2 : (a.extract preB.size a.size).size = a.data.toList.length - 5 := by
    rw [size_list, e1, List.length_drop]
  have e3 : hasP a preB = true ↔ a.data.toList.take 5 = preL := by
    unfold hasP
    rw [Bool.and_eq_true, decide_eq_true_eq, beq_iff_eq, extract_list, List.drop_zero, size_list a]
    constructor
    · exact fun h => h.2
    · intro h
      refine ⟨?_, h⟩
      have h2 := congrArg List.length h
      rw [List.length_take] at h2
      have h3 : preL.length = 5 := rfl
      show 5 ≤ _
      omega
  unfold parseL
  rw [e1, e2]
  by_cases h : a.data.toList.take 5 = preL ∧ a.data.toList.length = 11 ∧ (a.data.toList.drop 5).all isDig = true
  · rw [if_pos h, if_pos ⟨e3.2 h.1, by omega, h.2.2⟩]
  · rw [if_neg h, if_neg (fun q => h ⟨e3.1 q.1, by have := q.2.1; omega, q.2.2⟩)]
theorem index_Parse_spec {n : Nat} {a : ByteArray} {s : St} {Q : Value → St → Prop} (hn : 200 ≤ n) (q : Q (.tuple #[.int .i64 ((parseL a.data.toList).1 : Nat), .bool (parseL a.data.toList).2]) s) : W (callW envS (runF envS n) 41 [.string a]) s Q := by
  rw [parse_hasP] at q
  refine index_Parse_W fun tm h0 => ?_
  refine index_Parse_q0.w rfl (by omega) ?_
  simp -implicitDefEqProofs only [index_Parse_r0, W_bind, W_oS, W_on, W_pure, W_mv, W_setF, W_setT, T.get_set, seqO_cons, seqO_nil, seqP_cons, seqP_nil, onO_some', W_callV, reduceIte, isK_bool, isB_tt, isB_tf, isB_ft, isB_ff, W_chk, W_ifT, W_ifF, W_pick, W_nil, Nat.reduceEqDiff, Nat.reduceEqDiff, reduceCtorEq, ↓reduceIte]
  refine index_Parse_q1.w index_Parse_S0_1 (by omega) ?_
  simp -implicitDefEqProofs only [index_Parse_r1, W_bind, W_oS, W_on, W_pure, W_mv, W_setF, W_setT, T.get_set, seqO_cons, seqO_nil, seqP_cons, seqP_nil, onO_some', W_callV, reduceIte, isK_bool, isB_tt, isB_tf, isB_ft, isB_ff, W_chk, W_ifT, W_ifF, W_pick, W_nil, Nat.reduceEqDiff, Nat.reduceEqDiff, reduceCtorEq, ↓reduceIte, h0]
  have no : (¬ (hasP a preB = true ∧ (a.extract preB.size a.size).size = 6 ∧ (a.extract preB.size a.size).data.toList.all isDig = true)) → Q (.tuple #[.int .i64 0, .bool false]) s := fun h => by
    rw [if_neg h] at q
    exact q
  have fin4 : ∀ (n' : Nat) (tm' : T Value) (td' : List Item), 10 ≤ n' → skim 64 td' = index_Parse_P3 → T.get tm' 19 = some (.bool true) → Q (.tuple #[.int .i64 0, .bool false]) s → W (runF envS n' ⟨41, index_Parse_nt, index_Parse_g, tm', td', .run, .normal, none⟩) (s.cxN cxN) fun p s1 => Q p.1 (s1.cxN s.cx) := fun n' tm' td' hn' hT h19 q => by
    refine W.cond (v := true) hT index_Parse_C3 h19 (by omega) (fun _ => ?_) fun h => by cases h
    refine index_Parse_q4.w index_Parse_S3_4 (by omega) ?_
    simp -implicitDefEqProofs only [index_Parse_r4, W_bind, W_oS, W_on, W_pure, W_mv, W_setF, W_setT, T.get_set, seqO_cons, seqO_nil, seqP_cons, seqP_nil, onO_some', W_callV, reduceIte, isK_bool, isB_tt, isB_tf, isB_ft, isB_ff, W_chk, W_ifT, W_ifF, W_pick, W_nil, Nat.reduceEqDiff, Nat.reduceEqDiff, reduceCtorEq, ↓reduceIte]
    exact W.end' (rs := [2, 3]) (vs := [.int .i64 0, .bool false]) index_Parse_S4_6 (.inl index_Parse_E6) (by omega) index_Parse_fn index_Parse_res rfl (by simp [T.get_set]) q
  refine CutPrefix_spec (b := preB) (by omega) (fun hp => ?_) fun hp => ?_
  · rw [W_ext (k := 0) rfl, W_ext (k := 1) rfl]
    refine index_Parse_q2.w index_Parse_S1_2 (by omega) ?_
    generalize hx : a.extract preB.size a.size = x at *
    simp -implicitDefEqProofs only [index_Parse_r2, W_bind, W_oS, W_on, W_pure, W_mv, W_setF, W_setT, T.get_set, seqO_cons, seqO_nil, seqP_cons, seqP_nil, onO_some', W_callV, reduceIte, isK_bool, isB_tt, isB_tf, isB_ft, isB_ff, W_chk, W_ifT, W_ifF, W_pick, W_nil, Nat.reduceEqDiff, Nat.reduceEqDiff, reduceCtorEq, ↓reduceIte, W_not, Bool.not_true, W_lenS ty_str]
    rw [show (6 : Int) = ((6 : Nat) : Int) from rfl]
    simp -implicitDefEqProofs only [W_add64, W_sub64, W_lss64, W_gtr64, W_leq64, W_geq64, W_eql64, W_neq64]
    by_cases h6 : x.size = 6
    · rw [h6]
      simp -implicitDefEqProofs only [W_bind, W_oS, W_on, W_pure, W_mv, W_setF, W_setT, T.get_set, seqO_cons, seqO_nil, seqP_cons, seqP_nil, onO_some', W_callV, reduceIte, isK_bool, isB_tt, isB_tf, isB_ft, isB_ff, W_chk, W_ifT, W_ifF, W_pick, W_nil, Nat.reduceEqDiff, Nat.reduceEqDiff, reduceCtorEq, ↓reduceIte, decide_true, Bool.not_true]
      refine W.cond (v := false) index_Parse_S2_3 index_Parse_C3 (by simp [T.get_set]) (by omega) (fun h => by cases h) fun _ => ?_
      refine index_Parse_q5.w index_Parse_S3_5 (by omega) ?_
      simp -implicitDefEqProofs only [index_Parse_r5, W_bind, W_oS, W_on, W_pure, W_mv, W_setF, W_setT, T.get_set, seqO_cons, seqO_nil, seqP_cons, seqP_nil, onO_some', W_callV, reduceIte, isK_bool, isB_tt, isB_tf, isB_ft, isB_ff, W_chk, W_ifT, W_ifF, W_pick, W_nil, Nat.reduceEqDiff, Nat.reduceEqDiff, reduceCtorEq, ↓reduceIte]
      refine index_Parse_q7.w index_Parse_S5_7 (by omega) ?_
      simp -implicitDefEqProofs only [index_Parse_r7, W_bind, W_oS, W_on, W_pure, W_mv, W_setF, W_setT, T.get_set, seqO_cons, seqO_nil, seqP_cons, seqP_nil, onO_some', W_callV, reduceIte, isK_bool, isB_tt, isB_tf, isB_ft, isB_ff, W_chk, W_ifT, W_ifF, W_pick, W_nil, Nat.reduceEqDiff, Nat.reduceEqDiff, reduceCtorEq, ↓reduceIte, W_lenS ty_str, h6]
      refine parse_loop (a := x) rfl h6 (fun n' tm' td' hn' hT' hall h6' => ?_) (fun n' tm' td' hn' hT' hall => ?_) 6 0 _ _ _ rfl rfl (by omega) index_Parse_S7_8 (by simp [T.get_set]) (by simp [T.get_set]; rfl) (by simp [T.get_set]) (by simp [T.get_set])
      · refine index_Parse_q11.w hT' (by omega) ?_
        simp -implicitDefEqProofs only [index_Parse_r11, W_bind, W_oS, W_on, W_pure, W_mv, W_setF, W_setT, T.get_set, seqO_cons, seqO_nil, seqP_cons, seqP_nil, onO_some', W_callV, reduceIte, isK_bool, isB_tt, isB_tf, isB_ft, isB_ff, W_chk, W_ifT, W_ifF, W_pick, W_nil, Nat.reduceEqDiff, Nat.reduceEqDiff, reduceCtorEq, ↓reduceIte, W_add64, W_sub64, W_lss64, W_gtr64, W_leq64, W_geq64, W_eql64, W_neq64, h6']
        rw [if_pos ⟨hp, h6, hall⟩] at q
        refine W.end' (rs := [2, 3]) (vs := [.int .i64 (val6 0 x.data.toList : Nat), .bool (decide (0 < val6 0 x.data.toList))]) index_Parse_S11_13 (.inl index_Parse_E13) (by omega) index_Parse_fn index_Parse_res rfl ?_ q
        simp [T.get_set]
      · refine index_Parse_q15.w hT' (by omega) ?_
        simp -implicitDefEqProofs only [index_Parse_r15, W_bind, W_oS, W_on, W_pure, W_mv, W_setF, W_setT, T.get_set, seqO_cons, seqO_nil, seqP_cons, seqP_nil, onO_some', W_callV, reduceIte, isK_bool, isB_tt, isB_tf, isB_ft, isB_ff, W_chk, W_ifT, W_ifF, W_pick, W_nil, Nat.reduceEqDiff, Nat.reduceEqDiff, reduceCtorEq, ↓reduceIte]
        refine W.end' (rs := [2, 3]) (vs := [.int .i64 0, .bool false]) index_Parse_S15_17 (.inl index_Parse_E17) (by omega) index_Parse_fn index_Parse_res rfl (by simp [T.get_set]) (no fun h => ?_)
        rw [hall] at h
        cases h.2.2
    · rw [decide_eq_false (show ¬ ((x.size : Nat) : Int) = ((6 : Nat) : Int) by omega)]
      simp -implicitDefEqProofs only [W_bind, W_oS, W_on, W_pure, W_mv, W_setF, W_setT, T.get_set, seqO_cons, seqO_nil, seqP_cons, seqP_nil, onO_some', W_callV, reduceIte, isK_bool, isB_tt, isB_tf, isB_ft, isB_ff, W_chk, W_ifT, W_ifF, W_pick, W_nil, Nat.reduceEqDiff, Nat.reduceEqDiff, reduceCtorEq, ↓reduceIte, Bool.not_false]
      exact fin4 _ _ _ (by omega) index_Parse_S2_3 (by simp [T.get_set]) (no fun h => h6 h.2.1)
  · rw [W_ext (k := 0) rfl, W_ext (k := 1) rfl]
    refine index_Parse_q2.w index_Parse_S1_2 (by omega) ?_
    simp -implicitDefEqProofs only [index_Parse_r2, W_bind, W_oS, W_on, W_pure, W_mv, W_setF, W_setT, T.get_set, seqO_cons, seqO_nil, seqP_cons, seqP_nil, onO_some', W_callV, reduceIte, isK_bool, isB_tt, isB_tf, isB_ft, isB_ff, W_chk, W_ifT, W_ifF, W_pick, W_nil, Nat.reduceEqDiff, Nat.reduceEqDiff, reduceCtorEq, ↓reduceIte, W_not, Bool.not_false]
    exact fin4 _ _ _ (by omega) index_Parse_S2_3 (by simp [T.get_set]) (no fun h => by rw [hp] at h; cases h.1)
end Go.Proofs.Ytofanlcjeohcjaa.Am
/- satchellaw18.IndexNames, said of all states: it answers true. -/
namespace Go.Proofs.Ytofanlcjeohcjaa.Am
open Go.RowKit

section
variable {E : Env} {s : St} {t : Nat}
theorem neB_run {a b : Bool} {xo yo : Operand} (h : E.P.underlying t = some .bool) : Cl.get (aBin E .neq t xo yo) (.bool a) (.bool b) s = .some (.bool (!(a == b))) s := by
  show binSlow E .neq t xo yo (.bool a) (.bool b) s = _
  unfold binSlow
  show M.on (semP E.P (do pure (.bool (!(← Op.equalIn (9999 + 1) t (.bool a) (.bool b)))))) pV s = _
  have e : semP E.P (Op.equalIn (9999 + 1) t (.bool a) (.bool b)) = some (a == b) := by
    unfold Op.equalIn
    rw [semP_bind, semP_underlying h]
    rfl
  rw [semP_bind, e]
  rfl
theorem W_neB {a b : Bool} {xo yo : Operand} (h : E.P.underlying t = some .bool) (Q : Value → St → Prop) : W (Cl.get (aBin E .neq t xo yo) (.bool a) (.bool b)) s Q = Q (.bool (!(a == b))) s := W_run (neB_run h)
end
theorem ty_bool : envS.P.underlying 4 = some .bool := by kernel_rfl
theorem orc_awake18 : envS.orc.get 35 = some (closedM (.bool true)) := by kernel_rfl
theorem isK_undef : isK undef = true := rfl
theorem isB_ut : isB undef true = false := rfl
theorem isB_uf : isB undef false = false := rfl
abbrev emptyB : ByteArray := { data := #[] }
theorem ne_ff : (!(false == false)) = false := rfl
theorem ne_tt : (!(true == true)) = false := rfl
/-- The last step: what is parsed of any text. -/
theorem law18_Names_end {n : Nat} {a : ByteArray} {tm : T Value} {td : List Item} {s s0 : St} (hbd : s.lim ≤ s.next) (hn : 400 ≤ n) (hT : skim 64 td = law18_Names_P11) (hcx : s.cx = cxN) (h2 : T.get tm 2 = some (.string a)) (h7 : T.get tm 7 = some (.bool true)) :
    W (runF envS n ⟨10, law18_Names_nt, law18_Names_g, tm, td, .run, .normal, none⟩) s fun p s1 => (fun (u : Value) (_ : St) => u = .bool true) p.1 (s1.cxN s0.cx) := by
  refine law18_Names_q11.w hT (by omega) ?_
  simp -implicitDefEqProofs only [law18_Names_r11, W_bind, W_oS, W_on, W_pure, W_mv, W_setF, W_setT, T.get_set, seqO_cons, seqO_nil, seqP_cons, seqP_nil, onO_some', W_callV, reduceIte, isK_bool, isB_tt, isB_tf, isB_ft, isB_ff, W_chk, W_ifT, W_ifF, W_pick, W_nil, Nat.reduceEqDiff, Nat.reduceEqDiff, reduceCtorEq, ↓reduceIte, h2]
  refine index_Parse_spec (by omega) ?_
  rw [W_ext (k := 0) rfl, W_ext (k := 1) rfl]
  obtain ⟨p1, p2⟩ := name_parse a.data.toList
  refine law18_Names_q13.w law18_Names_S11_13 (by omega) ?_
  generalize hx : (parseL a.data.toList).1 = x at *
  cases hw : (parseL a.data.toList).2 with
  | false =>
    have h0 := p2 hw
    subst h0
    have e0 : decide (((0 : Nat) : Int) = 0) = true := rfl
    simp -implicitDefEqProofs only [law18_Names_r13, W_bind, W_oS, W_on, W_pure, W_mv, W_setF, W_setT, T.get_set, seqO_cons, seqO_nil, seqP_cons, seqP_nil, onO_some', W_callV, reduceIte, isK_bool, isB_tt, isB_tf, isB_ft, isB_ff, W_chk, W_ifT, W_ifF, W_pick, W_nil, Nat.reduceEqDiff, Nat.reduceEqDiff, reduceCtorEq, ↓reduceIte, W_add64, W_sub64, W_lss64, W_gtr64, W_leq64, W_geq64, W_eql64, W_neq64, isK_undef, isB_ut, isB_uf, h7, W_not, Bool.not_false, e0]
    exact W.end' (rs := [6]) (vs := [.bool true]) law18_Names_S13_14 (.inl law18_Names_E14) (by omega) law18_Names_fn law18_Names_res hcx (by simp [T.get_set]) rfl
  | true =>
    obtain ⟨g1, g2, g3⟩ := p1 hw
    simp -implicitDefEqProofs only [law18_Names_r13, W_bind, W_oS, W_on, W_pure, W_mv, W_setF, W_setT, T.get_set, seqO_cons, seqO_nil, seqP_cons, seqP_nil, onO_some', W_callV, reduceIte, isK_bool, isB_tt, isB_tf, isB_ft, isB_ff, W_chk, W_ifT, W_ifF, W_pick, W_nil, Nat.reduceEqDiff, Nat.reduceEqDiff, reduceCtorEq, ↓reduceIte, W_add64, W_sub64, W_lss64, W_gtr64, W_leq64, W_geq64, W_eql64, W_neq64, isK_undef, isB_ut, isB_uf, h7, W_not, Bool.not_true, h2]
    refine index_Name_spec hbd (by omega) (by omega) (by omega) fun s1 x1 => ?_
    have e1 : ((nameB (x : Nat)).data.toList == a.data.toList) = true := by rw [nameB_list, g1]; exact beq_self_eq_true _
    simp -implicitDefEqProofs only [W_bind, W_oS, W_on, W_pure, W_mv, W_setF, W_setT, T.get_set, seqO_cons, seqO_nil, seqP_cons, seqP_nil, onO_some', W_callV, reduceIte, isK_bool, isB_tt, isB_tf, isB_ft, isB_ff, W_chk, W_ifT, W_ifF, W_pick, W_nil, Nat.reduceEqDiff, Nat.reduceEqDiff, reduceCtorEq, ↓reduceIte, W_eqS, e1]
    exact W.end' (rs := [6]) (vs := [.bool true]) law18_Names_S13_14 (.inl law18_Names_E14) (by omega) law18_Names_fn law18_Names_res (x1.cx.trans hcx) (by simp [T.get_set]) rfl
theorem law18_Names_W' {n : Nat} {i j : Int} {a : ByteArray} {s : St} (hbd : s.lim ≤ s.next) (hi1 : -9223372036854775808 ≤ i) (hi2 : i ≤ 9223372036854775807) (hj1 : -9223372036854775808 ≤ j) (hj2 : j ≤ 9223372036854775807) (hn : 600 ≤ n) :
    W (callW envS (runF envS n) 10 [.int .i64 i, .int .i64 j, .string a]) s fun u _ => u = .bool true := by
  refine law18_Names_W fun tm h0 h1 h2 => ?_
  refine law18_Names_q0.w rfl (by omega) ?_
  simp -implicitDefEqProofs only [law18_Names_r0, W_bind, W_oS, W_on, W_pure, W_mv, W_setF, W_setT, T.get_set, seqO_cons, seqO_nil, seqP_cons, seqP_nil, onO_some', W_callV, reduceIte, isK_bool, isB_tt, isB_tf, isB_ft, isB_ff, W_chk, W_ifT, W_ifF, W_pick, W_nil, Nat.reduceEqDiff, Nat.reduceEqDiff, reduceCtorEq, ↓reduceIte]
  refine law18_Names_q1.w law18_Names_S0_1 (by omega) ?_
  simp -implicitDefEqProofs only [law18_Names_r1, W_bind, W_oS, W_on, W_pure, W_mv, W_setF, W_setT, T.get_set, seqO_cons, seqO_nil, seqP_cons, seqP_nil, onO_some', W_callV, reduceIte, isK_bool, isB_tt, isB_tf, isB_ft, isB_ff, W_chk, W_ifT, W_ifF, W_pick, W_nil, Nat.reduceEqDiff, Nat.reduceEqDiff, reduceCtorEq, ↓reduceIte]
  refine W.orc orc_awake18 (W.pure ?_)
  refine law18_Names_q2.w law18_Names_S1_2 (by omega) ?_
  simp -implicitDefEqProofs only [law18_Names_r2, W_bind, W_oS, W_on, W_pure, W_mv, W_setF, W_setT, T.get_set, seqO_cons, seqO_nil, seqP_cons, seqP_nil, onO_some', W_callV, reduceIte, isK_bool, isB_tt, isB_tf, isB_ft, isB_ff, W_chk, W_ifT, W_ifF, W_pick, W_nil, Nat.reduceEqDiff, Nat.reduceEqDiff, reduceCtorEq, ↓reduceIte, W_add64, W_sub64, W_lss64, W_gtr64, W_leq64, W_geq64, W_eql64, W_neq64, isK_undef, isB_ut, isB_uf, h2, W_lenS ty_str]
  by_cases hl : (100 : Int) < ((a.size : Nat) : Int)
  · refine W.cond (v := true) law18_Names_S2_3 law18_Names_C3 (by simp [T.get_set]; omega) (by omega) (fun _ => ?_) fun h => by cases h
    refine law18_Names_q4.w law18_Names_S3_4 (by omega) ?_
    simp -implicitDefEqProofs only [law18_Names_r4, W_bind, W_oS, W_on, W_pure, W_mv, W_setF, W_setT, T.get_set, seqO_cons, seqO_nil, seqP_cons, seqP_nil, onO_some', W_callV, reduceIte, isK_bool, isB_tt, isB_tf, isB_ft, isB_ff, W_chk, W_ifT, W_ifF, W_pick, W_nil, Nat.reduceEqDiff, Nat.reduceEqDiff, reduceCtorEq, ↓reduceIte]
    exact W.end' (rs := [6]) (vs := [.bool true]) law18_Names_S4_6 (.inl law18_Names_E6) (by omega) law18_Names_fn law18_Names_res rfl (by simp [T.get_set]) rfl
  · refine W.cond (v := false) law18_Names_S2_3 law18_Names_C3 (by simp [T.get_set]; omega) (by omega) (fun h => by cases h) fun _ => ?_
    refine law18_Names_q5.w law18_Names_S3_5 (by omega) ?_
    simp -implicitDefEqProofs only [law18_Names_r5, W_bind, W_oS, W_on, W_pure, W_mv, W_setF, W_setT, T.get_set, seqO_cons, seqO_nil, seqP_cons, seqP_nil, onO_some', W_callV, reduceIte, isK_bool, isB_tt, isB_tf, isB_ft, isB_ff, W_chk, W_ifT, W_ifF, W_pick, W_nil, Nat.reduceEqDiff, Nat.reduceEqDiff, reduceCtorEq, ↓reduceIte, h0, h1]
    refine index_Name_spec (s := s.cxN cxN) hbd hi1 hi2 (by omega) fun sa xa => ?_
    refine index_Name_spec (xa.bnd hbd) hj1 hj2 (by omega) fun sb xb => ?_
    have hxb : Ext Non Non (s.cxN cxN) sb := xa.step xb hbd (fun _ _ h => h.elim) fun _ h => h.elim
    have hbb : sb.lim ≤ sb.next := hxb.bnd hbd
    refine law18_Names_q7.w law18_Names_S5_7 (by omega) ?_
    simp -implicitDefEqProofs only [law18_Names_r7, W_bind, W_oS, W_on, W_pure, W_mv, W_setF, W_setT, T.get_set, seqO_cons, seqO_nil, seqP_cons, seqP_nil, onO_some', W_callV, reduceIte, isK_bool, isB_tt, isB_tf, isB_ft, isB_ff, W_chk, W_ifT, W_ifF, W_pick, W_nil, Nat.reduceEqDiff, Nat.reduceEqDiff, reduceCtorEq, ↓reduceIte]
    refine index_Parse_spec (by omega) ?_
    rw [W_ext (k := 0) rfl, W_ext (k := 1) rfl, nameB_list, parse_name]
    refine law18_Names_q8.w law18_Names_S7_8 (by omega) ?_
    have nil1 : ∀ k : Int, ¬ (1 ≤ k ∧ k ≤ 999999) → ((nameB k).data.toList == emptyB.data.toList) = true := fun k hk => by
      rw [nameB_list, nameL, if_neg hk]; rfl
    have nil2 : ∀ k : Int, 1 ≤ k ∧ k ≤ 999999 → ((nameB k).data.toList == emptyB.data.toList) = false := fun k hk => by
      rw [nameB_list, nameL, if_pos hk]; rfl
    by_cases hi : 1 ≤ i ∧ i ≤ 999999
    · rw [if_pos hi]
      have d1 : decide (1 ≤ i) = true := decide_eq_true hi.1
      have d2 : decide (i ≤ 999999) = true := decide_eq_true hi.2
      have d3 : decide (((i.toNat : Nat) : Int) = i) = true := decide_eq_true (by omega)
      by_cases hj : 1 ≤ j ∧ j ≤ 999999
      · have s1 := nil2 j hj
        by_cases hij : i < j
        · have d4 : decide (i < j) = true := decide_eq_true hij
          have d5 : Op.bytesLess (nameB i).data.toList (nameB j).data.toList = true := by
            rw [nameB_list, nameB_list]; exact name_less hi.1 hij hj.2
          simp -implicitDefEqProofs only [law18_Names_r8, W_bind, W_oS, W_on, W_pure, W_mv, W_setF, W_setT, T.get_set, seqO_cons, seqO_nil, seqP_cons, seqP_nil, onO_some', W_callV, reduceIte, isK_bool, isB_tt, isB_tf, isB_ft, isB_ff, W_chk, W_ifT, W_ifF, W_pick, W_nil, Nat.reduceEqDiff, Nat.reduceEqDiff, reduceCtorEq, ↓reduceIte, W_add64, W_sub64, W_lss64, W_gtr64, W_leq64, W_geq64, W_eql64, W_neq64, isK_undef, isB_ut, isB_uf, h0, h1, d1, d2, d3, d4, d5, s1, W_neB ty_bool, ne_tt, Bool.not_true, Bool.not_false, W_not, W_neS, W_geS]
          refine W.cond (v := false) law18_Names_S8_9 law18_Names_C9 (by simp [T.get_set]) (by omega) (fun h => by cases h) fun _ => ?_
          exact law18_Names_end (a := a) (s0 := s) hbb (by omega) law18_Names_S9_11 hxb.cx (by simp [T.get_set, h2]) (by simp [T.get_set])
        · have d4 : decide (i < j) = false := decide_eq_false hij
          simp -implicitDefEqProofs only [law18_Names_r8, W_bind, W_oS, W_on, W_pure, W_mv, W_setF, W_setT, T.get_set, seqO_cons, seqO_nil, seqP_cons, seqP_nil, onO_some', W_callV, reduceIte, isK_bool, isB_tt, isB_tf, isB_ft, isB_ff, W_chk, W_ifT, W_ifF, W_pick, W_nil, Nat.reduceEqDiff, Nat.reduceEqDiff, reduceCtorEq, ↓reduceIte, W_add64, W_sub64, W_lss64, W_gtr64, W_leq64, W_geq64, W_eql64, W_neq64, isK_undef, isB_ut, isB_uf, h0, h1, d1, d2, d3, d4, s1, W_neB ty_bool, ne_tt, Bool.not_true, Bool.not_false, W_not, W_neS, W_geS]
          refine W.cond (v := false) law18_Names_S8_9 law18_Names_C9 (by simp [T.get_set]) (by omega) (fun h => by cases h) fun _ => ?_
          exact law18_Names_end (a := a) (s0 := s) hbb (by omega) law18_Names_S9_11 hxb.cx (by simp [T.get_set, h2]) (by simp [T.get_set])
      · have s1 := nil1 j hj
        simp -implicitDefEqProofs only [law18_Names_r8, W_bind, W_oS, W_on, W_pure, W_mv, W_setF, W_setT, T.get_set, seqO_cons, seqO_nil, seqP_cons, seqP_nil, onO_some', W_callV, reduceIte, isK_bool, isB_tt, isB_tf, isB_ft, isB_ff, W_chk, W_ifT, W_ifF, W_pick, W_nil, Nat.reduceEqDiff, Nat.reduceEqDiff, reduceCtorEq, ↓reduceIte, W_add64, W_sub64, W_lss64, W_gtr64, W_leq64, W_geq64, W_eql64, W_neq64, isK_undef, isB_ut, isB_uf, h0, h1, d1, d2, d3, s1, W_neB ty_bool, ne_tt, Bool.not_true, Bool.not_false, W_not, W_neS, W_geS]
        refine W.cond (v := false) law18_Names_S8_9 law18_Names_C9 (by simp [T.get_set]) (by omega) (fun h => by cases h) fun _ => ?_
        exact law18_Names_end (a := a) (s0 := s) hbb (by omega) law18_Names_S9_11 hxb.cx (by simp [T.get_set, h2]) (by simp [T.get_set])
    · rw [if_neg hi]
      have s1 := nil1 i hi
      have d3 : decide (((0 : Nat) : Int) = 0) = true := rfl
      by_cases d1 : 1 ≤ i
      · have d2 : decide (i ≤ 999999) = false := decide_eq_false fun h => hi ⟨d1, h⟩
        have d1 : decide (1 ≤ i) = true := decide_eq_true d1
        simp -implicitDefEqProofs only [law18_Names_r8, W_bind, W_oS, W_on, W_pure, W_mv, W_setF, W_setT, T.get_set, seqO_cons, seqO_nil, seqP_cons, seqP_nil, onO_some', W_callV, reduceIte, isK_bool, isB_tt, isB_tf, isB_ft, isB_ff, W_chk, W_ifT, W_ifF, W_pick, W_nil, Nat.reduceEqDiff, Nat.reduceEqDiff, reduceCtorEq, ↓reduceIte, W_add64, W_sub64, W_lss64, W_gtr64, W_leq64, W_geq64, W_eql64, W_neq64, isK_undef, isB_ut, isB_uf, h0, h1, d1, d2, d3, s1, W_neB ty_bool, ne_ff, Bool.not_true, Bool.not_false, W_not, W_neS, W_geS]
        refine W.cond (v := false) law18_Names_S8_9 law18_Names_C9 (by simp [T.get_set]) (by omega) (fun h => by cases h) fun _ => ?_
        exact law18_Names_end (a := a) (s0 := s) hbb (by omega) law18_Names_S9_11 hxb.cx (by simp [T.get_set, h2]) (by simp [T.get_set])
      · have d1 : decide (1 ≤ i) = false := decide_eq_false d1
        simp -implicitDefEqProofs only [law18_Names_r8, W_bind, W_oS, W_on, W_pure, W_mv, W_setF, W_setT, T.get_set, seqO_cons, seqO_nil, seqP_cons, seqP_nil, onO_some', W_callV, reduceIte, isK_bool, isB_tt, isB_tf, isB_ft, isB_ff, W_chk, W_ifT, W_ifF, W_pick, W_nil, Nat.reduceEqDiff, Nat.reduceEqDiff, reduceCtorEq, ↓reduceIte, W_add64, W_sub64, W_lss64, W_gtr64, W_leq64, W_geq64, W_eql64, W_neq64, isK_undef, isB_ut, isB_uf, h0, h1, d1, d3, s1, W_neB ty_bool, ne_ff, Bool.not_true, Bool.not_false, W_not, W_neS, W_geS]
        refine W.cond (v := false) law18_Names_S8_9 law18_Names_C9 (by simp [T.get_set]) (by omega) (fun h => by cases h) fun _ => ?_
        exact law18_Names_end (a := a) (s0 := s) hbb (by omega) law18_Names_S9_11 hxb.cx (by simp [T.get_set, h2]) (by simp [T.get_set])
end Go.Proofs.Ytofanlcjeohcjaa.Am
/- satchellaw18.IndexNames: its contract, for all arguments of its types. -/
namespace Go.Proofs.Ytofanlcjeohcjaa.Am
open Go.RowKit

theorem envS_P : envS.P = Try.prog := by kernel_rfl
theorem names_params : Try.f10.params = #[3, 3, 9] := by kernel_rfl
theorem under_int : Try.prog.underlying 3 = some (.int .i64) := by kernel_rfl
theorem under_str : Try.prog.underlying 9 = some .string := by kernel_rfl
theorem names_orc : envS.orc.get 10 = none := by kernel_rfl
theorem names_ext : envS.ext.get 10 = none := by kernel_rfl
set_option maxRecDepth 1000000 in
theorem walkNames {w : World} {base : Nat} {args : Array Value} (hsz : args.toList.length = Try.f10.params.toList.length)
    (hv : ∀ (j : Nat) t v, Try.f10.params[j]? = some t → args[j]? = some v → Value.okWide Try.prog w .any base t v) : Calls Try.prog 10 args w fun e w' => e = .returned (.bool true) ∧ Below w.heap.size w w' := by
  rw [names_params] at hsz hv
  obtain ⟨l⟩ := args
  match l, hsz with
  | [a, b, c], _ =>
    obtain ⟨i, rfl, hi1, hi2⟩ := ok_int under_int (hv 0 _ a rfl rfl)
    obtain ⟨j, rfl, hj1, hj2⟩ := ok_int under_int (hv 1 _ b rfl rfl)
    obtain ⟨s, rfl, hs⟩ := ok_str under_str (hv 2 _ c rfl rfl)
    have h := calls_plain (args := #[.int .i64 i, .int .i64 j, .string s]) envS_ok names_orc names_ext (law18_Names_W' (n := 1000) (s := st0) (Nat.le_refl _) hi1 hi2 hj1 hj2 (by omega)) rfl (by
      intro v hv
      simp -implicitDefEqProofs only [List.mem_cons, List.not_mem_nil, or_false] at hv
      rcases hv with rfl | rfl | rfl <;> rfl) w
    rw [envS_P] at h
    exact h
end Go.Proofs.Ytofanlcjeohcjaa.Am
