/- What each region of some functions comes to, as a word of the evaluator: equations, each checked by the kernel. Printed by a program. -/
import Derived.Test.YtofanlcjeohcjaaMh13
import Derived.Test.YtofanlcjeohcjaaMh07
import Derived.KernelRfl
namespace Go.Proofs.Ytofanlcjeohcjaa.Am
open Go.RowKit

/-! ### satchel/guard.Sum -/
noncomputable def guard_Sum_g : Nat := globOf Try.f105
noncomputable def guard_Sum_body : Code := Try.f105.body.getD .skip
theorem guard_Sum_fn : envS.fn.get 105 = some Try.f105 := by kernel_rfl
theorem guard_Sum_W {a0 : Value} {n : Nat} {s : St} {Q : Value → St → Prop} (h : ∀ tm, T.get tm 0 = some a0 → W (runF envS n ⟨105, 5, guard_Sum_g, tm, [.code guard_Sum_body], .run, .normal, none⟩) (s.cxN cxN) fun p s1 => Q p.1 (s1.cxN s.cx)) : W (callW envS (runF envS n) 105 [a0]) s Q :=
  W.call (by kernel_rfl) (by kernel_rfl) guard_Sum_fn (by kernel_rfl) rfl rfl (by simp) (h _ (by kernel_rfl))
theorem guard_Sum_res : Try.f105.results.toList = [.tmp 2] := by kernel_rfl
noncomputable def guard_Sum_P0 : List Item := skim 64 [.code guard_Sum_body]
noncomputable def guard_Sum_P1 : List Item := skim 64 guard_Sum_P0.tail
theorem guard_Sum_S0_1 : skim 64 guard_Sum_P0.tail = guard_Sum_P1 := by kernel_rfl
noncomputable def guard_Sum_P2 : List Item := skim 64 guard_Sum_P1.tail
theorem guard_Sum_S1_2 : skim 64 guard_Sum_P1.tail = guard_Sum_P2 := by kernel_rfl
/-- guard.go:28 -/
noncomputable def guard_Sum_r0 (E : Env) (call round : CallT) (tm : T Value) : M (T Value) :=
  mv (some (.int .u32 0)) fun v2 =>
  setF 2 v2 tm fun tm1 =>
  M.pure tm1
theorem guard_Sum_q0 : RegEq 105 5 guard_Sum_g guard_Sum_P0 guard_Sum_r0 := ⟨by kernel_rfl, fun _ _ _ _ _ _ _ _ _ => by kernel_rfl⟩
/-- guard.go:28 -/
noncomputable def guard_Sum_r1 (E : Env) (call round : CallT) (tm : T Value) : M (T Value) :=
  mv (T.get tm 0) fun v3 =>
  M.bind (M.on (some (.func (.func 130) #[] #[])) fun f => M.on (seqO [(some (.int .u32 0)), (some v3)]) fun l => callV call round f l) fun v4 =>
  mv (some v4) fun v2 =>
  setF 2 v2 tm fun tm1 =>
  M.pure tm1
theorem guard_Sum_q1 : RegEq 105 5 guard_Sum_g guard_Sum_P1 guard_Sum_r1 := ⟨by kernel_rfl, fun _ _ _ _ _ _ _ _ _ => by kernel_rfl⟩
theorem guard_Sum_E2 : ∃ k, guard_Sum_P2 = .code .ret :: k := ⟨guard_Sum_P2.tail, by kernel_rfl⟩
-- points: 0:region>[1], 1:region>[2], 2:ret>

/-! ### satchel/guard.Put -/
noncomputable def guard_Put_g : Nat := globOf Try.f64
noncomputable def guard_Put_body : Code := Try.f64.body.getD .skip
theorem guard_Put_fn : envS.fn.get 64 = some Try.f64 := by kernel_rfl
theorem guard_Put_W {a0 : Value} {n : Nat} {s : St} {Q : Value → St → Prop} (h : ∀ tm, T.get tm 0 = some a0 → W (runF envS n ⟨64, 21, guard_Put_g, tm, [.code guard_Put_body], .run, .normal, none⟩) (s.cxN cxN) fun p s1 => Q p.1 (s1.cxN s.cx)) : W (callW envS (runF envS n) 64 [a0]) s Q :=
  W.call (by kernel_rfl) (by kernel_rfl) guard_Put_fn (by kernel_rfl) rfl rfl (by simp) (h _ (by kernel_rfl))
theorem guard_Put_res : Try.f64.results.toList = [.tmp 2] := by kernel_rfl
noncomputable def guard_Put_P0 : List Item := skim 64 [.code guard_Put_body]
noncomputable def guard_Put_P1 : List Item := skim 64 guard_Put_P0.tail
theorem guard_Put_S0_1 : skim 64 guard_Put_P0.tail = guard_Put_P1 := by kernel_rfl
noncomputable def guard_Put_P2 : List Item := skim 64 guard_Put_P1.tail
theorem guard_Put_S1_2 : skim 64 guard_Put_P1.tail = guard_Put_P2 := by kernel_rfl
noncomputable def guard_Put_P3 : List Item := skim 64 guard_Put_P2.tail
theorem guard_Put_S2_3 : skim 64 guard_Put_P2.tail = guard_Put_P3 := by kernel_rfl
/-- guard.go:39 -/
noncomputable def guard_Put_r0 (E : Env) (call round : CallT) (tm : T Value) : M (T Value) :=
  mv (some (.slice none 0 0)) fun v2 =>
  setF 2 v2 tm fun tm1 =>
  M.pure tm1
theorem guard_Put_q0 : RegEq 64 21 guard_Put_g guard_Put_P0 guard_Put_r0 := ⟨by kernel_rfl, fun _ _ _ _ _ _ _ _ _ => by kernel_rfl⟩
/-- guard.go:40 -/
noncomputable def guard_Put_r1 (E : Env) (call round : CallT) (tm : T Value) : M (T Value) :=
  mv (T.get tm 0) fun v4 =>
  M.bind (M.on (some (.func (.func 105) #[] #[])) fun f => M.on (seqO [(some v4)]) fun l => callV call round f l) fun v5 =>
  mv (some v5) fun v3 =>
  setF 3 v3 tm fun tm1 =>
  M.pure tm1
theorem guard_Put_q1 : RegEq 64 21 guard_Put_g guard_Put_P1 guard_Put_r1 := ⟨by kernel_rfl, fun _ _ _ _ _ _ _ _ _ => by kernel_rfl⟩
/-- guard.go:41 -/
noncomputable def guard_Put_r2 (E : Env) (call round : CallT) (tm : T Value) : M (T Value) :=
  mv (T.get tm 0) fun v6 =>
  mv (T.get tm 3) fun v7 =>
  M.bind (oS (some v7) fun a => kConvB E 51 5 a) fun v8 =>
  mv (T.get tm 3) fun v9 =>
  M.bind (oS (some v9) fun a => oS (some (.int .u64 8)) fun b => Cl.get (aBin E .shr 51 (.tmp 9) (.const (.int .u64 8))) a b) fun v10 =>
  M.bind (oS (some v10) fun a => kConvB E 51 5 a) fun v11 =>
  mv (T.get tm 3) fun v12 =>
  M.bind (oS (some v12) fun a => oS (some (.int .u64 16)) fun b => Cl.get (aBin E .shr 51 (.tmp 12) (.const (.int .u64 16))) a b) fun v13 =>
  M.bind (oS (some v13) fun a => kConvB E 51 5 a) fun v14 =>
  mv (T.get tm 3) fun v15 =>
  M.bind (oS (some v15) fun a => oS (some (.int .u64 24)) fun b => Cl.get (aBin E .shr 51 (.tmp 15) (.const (.int .u64 24))) a b) fun v16 =>
  M.bind (oS (some v16) fun a => kConvB E 51 5 a) fun v17 =>
  M.bind (oS (seqP [(0, (some v8)), (1, (some v11)), (2, (some v14)), (3, (some v17))]) fun ps => aBuildS E 22 4 ps) fun v18 =>
  M.bind (oS (seqP [(0, (some v6)), (1, (some v18))]) fun ps => aBuildS E 43 2 ps) fun v19 =>
  M.bind (M.on (some (.func (.func 63) #[] #[])) fun f => M.on (seqO [(some v19)]) fun l => callV call round f l) fun v20 =>
  mv (some v20) fun v2 =>
  setF 2 v2 tm fun tm1 =>
  M.pure tm1
theorem guard_Put_q2 : RegEq 64 21 guard_Put_g guard_Put_P2 guard_Put_r2 := ⟨by kernel_rfl, fun _ _ _ _ _ _ _ _ _ => by kernel_rfl⟩
theorem guard_Put_E3 : ∃ k, guard_Put_P3 = .code .ret :: k := ⟨guard_Put_P3.tail, by kernel_rfl⟩
-- points: 0:region>[1], 1:region>[2], 2:region>[3], 3:ret>

/-! ### satchel/guard.Check -/
noncomputable def guard_Check_g : Nat := globOf Try.f81
noncomputable def guard_Check_body : Code := Try.f81.body.getD .skip
theorem guard_Check_fn : envS.fn.get 81 = some Try.f81 := by kernel_rfl
theorem guard_Check_W {a0 : Value} {n : Nat} {s : St} {Q : Value → St → Prop} (h : ∀ tm, T.get tm 0 = some a0 → W (runF envS n ⟨81, 23, guard_Check_g, tm, [.code guard_Check_body], .run, .normal, none⟩) (s.cxN cxN) fun p s1 => Q p.1 (s1.cxN s.cx)) : W (callW envS (runF envS n) 81 [a0]) s Q :=
  W.call (by kernel_rfl) (by kernel_rfl) guard_Check_fn (by kernel_rfl) rfl rfl (by simp) (h _ (by kernel_rfl))
theorem guard_Check_res : Try.f81.results.toList = [.tmp 2, .tmp 3] := by kernel_rfl
noncomputable def guard_Check_P0 : List Item := skim 64 [.code guard_Check_body]
noncomputable def guard_Check_P1 : List Item := skim 64 guard_Check_P0.tail
theorem guard_Check_S0_1 : skim 64 guard_Check_P0.tail = guard_Check_P1 := by kernel_rfl
noncomputable def guard_Check_P2 : List Item := skim 64 guard_Check_P1.tail
theorem guard_Check_S1_2 : skim 64 guard_Check_P1.tail = guard_Check_P2 := by kernel_rfl
noncomputable def guard_Check_P3 : List Item := skim 64 guard_Check_P2.tail
theorem guard_Check_S2_3 : skim 64 guard_Check_P2.tail = guard_Check_P3 := by kernel_rfl
noncomputable def guard_Check_P4 : List Item := skim 64 (brT guard_Check_P3)
theorem guard_Check_S3_4 : skim 64 (brT guard_Check_P3) = guard_Check_P4 := by kernel_rfl
noncomputable def guard_Check_P5 : List Item := skim 64 (brF guard_Check_P3)
theorem guard_Check_S3_5 : skim 64 (brF guard_Check_P3) = guard_Check_P5 := by kernel_rfl
noncomputable def guard_Check_P6 : List Item := skim 64 guard_Check_P4.tail
theorem guard_Check_S4_6 : skim 64 guard_Check_P4.tail = guard_Check_P6 := by kernel_rfl
noncomputable def guard_Check_P7 : List Item := skim 64 guard_Check_P5.tail
theorem guard_Check_S5_7 : skim 64 guard_Check_P5.tail = guard_Check_P7 := by kernel_rfl
/-- guard.go:44 -/
noncomputable def guard_Check_r0 (E : Env) (call round : CallT) (tm : T Value) : M (T Value) :=
  mv (some (.slice none 0 0)) fun v2 =>
  setF 2 v2 tm fun tm1 =>
  mv (some (.int .i64 0)) fun v3 =>
  setF 3 v3 tm1 fun tm2 =>
  M.pure tm2
theorem guard_Check_q0 : RegEq 81 23 guard_Check_g guard_Check_P0 guard_Check_r0 := ⟨by kernel_rfl, fun _ _ _ _ _ _ _ _ _ => by kernel_rfl⟩
/-- guard.go:45 -/
noncomputable def guard_Check_r1 (E : Env) (call round : CallT) (tm : T Value) : M (T Value) :=
  mv (T.get tm 0) fun v5 =>
  M.bind (oS (seqO [(some v5)]) fun l => aBuiltin E .len [22] l) fun v6 =>
  M.bind (oS (some v6) fun a => oS (some (.int .i64 4)) fun b => Cl.get (aBin E .sub 3 (.tmp 6) (.const (.int .i64 4))) a b) fun v7 =>
  mv (some v7) fun v4 =>
  setF 4 v4 tm fun tm1 =>
  M.pure tm1
theorem guard_Check_q1 : RegEq 81 23 guard_Check_g guard_Check_P1 guard_Check_r1 := ⟨by kernel_rfl, fun _ _ _ _ _ _ _ _ _ => by kernel_rfl⟩
/-- guard.go:46 -/
noncomputable def guard_Check_r2 (E : Env) (call round : CallT) (tm : T Value) : M (T Value) :=
  mv (T.get tm 4) fun v8 =>
  M.bind (oS (some v8) fun a => oS (some (.int .i64 0)) fun b => Cl.get (aBin E .lss 3 (.tmp 8) (.const (.int .i64 0))) a b) fun v9 =>
  mv (some v9) fun v10 =>
  M.bind (M.chk (isK v10) (M.if (isB v10 false) (oS (T.get tm 0) fun a => M.pure a) (M.pure undef))) fun v11 =>
  M.bind (M.chk (isK v10) (M.if (isB v10 false) (oS (T.get tm 4) fun a => M.pure a) (M.pure undef))) fun v12 =>
  M.bind (M.chk (isK v10) (M.if (isB v10 false) (M.on (some v11) fun a => M.on (some none) fun b => M.on (onO (some v12) fun v => some (some v)) fun c => aSlice E 22 a b c) (M.pure undef))) fun v13 =>
  M.bind (M.chk (isK v10) (M.if (isB v10 false) (M.on (some (.func (.func 64) #[] #[])) fun f => M.on (seqO [(some v13)]) fun l => callV call round f l) (M.pure undef))) fun v14 =>
  M.bind (M.chk (isK v10) (M.if (isB v10 false) (oS (T.get tm 0) fun a => M.pure a) (M.pure undef))) fun v15 =>
  M.bind (M.chk (isK v10) (M.if (isB v10 false) (M.on (some (.func (.func 116) #[] #[])) fun f => M.on (seqO [(some v14), (some v15)]) fun l => callV call round f l) (M.pure undef))) fun v16 =>
  M.bind (M.chk (isK v10) (M.if (isB v10 false) (oS (some v16) fun a => kUn E.P .not a) (M.pure undef))) fun v17 =>
  M.bind (M.on (some v10) fun a => M.on (some (.bool true)) fun b => M.on (some v17) fun c => kPick a b c) fun v18 =>
  setF 18 v18 tm fun tm1 =>
  M.pure tm1
theorem guard_Check_q2 : RegEq 81 23 guard_Check_g guard_Check_P2 guard_Check_r2 := ⟨by kernel_rfl, fun _ _ _ _ _ _ _ _ _ => by kernel_rfl⟩
theorem guard_Check_C3 : condX guard_Check_P3 = some 18 := by kernel_rfl
/-- guard.go:47 -/
noncomputable def guard_Check_r4 (E : Env) (call round : CallT) (tm : T Value) : M (T Value) :=
  mv (some (.slice none 0 0)) fun v2 =>
  setF 2 v2 tm fun tm1 =>
  mv (some (.int .i64 4)) fun v3 =>
  setF 3 v3 tm1 fun tm2 =>
  M.pure tm2
theorem guard_Check_q4 : RegEq 81 23 guard_Check_g guard_Check_P4 guard_Check_r4 := ⟨by kernel_rfl, fun _ _ _ _ _ _ _ _ _ => by kernel_rfl⟩
/-- guard.go:49 -/
noncomputable def guard_Check_r5 (E : Env) (call round : CallT) (tm : T Value) : M (T Value) :=
  mv (T.get tm 0) fun v19 =>
  mv (T.get tm 4) fun v20 =>
  M.bind (M.on (some v19) fun a => M.on (some none) fun b => M.on (onO (some v20) fun v => some (some v)) fun c => aSlice E 22 a b c) fun v21 =>
  M.bind (M.on (some (.func (.func 117) #[] #[])) fun f => M.on (seqO [(some v21)]) fun l => callV call round f l) fun v22 =>
  mv (some v22) fun v2 =>
  setF 2 v2 tm fun tm1 =>
  mv (some (.int .i64 0)) fun v3 =>
  setF 3 v3 tm1 fun tm2 =>
  M.pure tm2
theorem guard_Check_q5 : RegEq 81 23 guard_Check_g guard_Check_P5 guard_Check_r5 := ⟨by kernel_rfl, fun _ _ _ _ _ _ _ _ _ => by kernel_rfl⟩
theorem guard_Check_E6 : ∃ k, guard_Check_P6 = .code .ret :: k := ⟨guard_Check_P6.tail, by kernel_rfl⟩
theorem guard_Check_E7 : ∃ k, guard_Check_P7 = .code .ret :: k := ⟨guard_Check_P7.tail, by kernel_rfl⟩
-- points: 0:region>[1], 1:region>[2], 2:region>[3], 3:cond>[4, 5], 4:region>[6], 5:region>[7], 6:ret>, 7:ret>

/-! ### slices.Concat[[]byte,byte] -/
noncomputable def sl_Concat_g : Nat := globOf Try.f63
abbrev sl_Concat_nt : Nat := 36
noncomputable def sl_Concat_body : Code := Try.f63.body.getD .skip
theorem sl_Concat_fn : envS.fn.get 63 = some Try.f63 := by kernel_rfl
theorem sl_Concat_W {a0 : Value} {n : Nat} {s : St} {Q : Value → St → Prop} (h : ∀ tm, T.get tm 0 = some a0 → W (runF envS n ⟨63, 36, sl_Concat_g, tm, [.code sl_Concat_body], .run, .normal, none⟩) (s.cxN cxN) fun p s1 => Q p.1 (s1.cxN s.cx)) : W (callW envS (runF envS n) 63 [a0]) s Q :=
  W.call (by kernel_rfl) (by kernel_rfl) sl_Concat_fn (by kernel_rfl) rfl rfl (by simp) (h _ (by kernel_rfl))
theorem sl_Concat_res : Try.f63.results.toList = [.tmp 2] := by kernel_rfl
noncomputable def sl_Concat_P0 : List Item := skim 64 [.code sl_Concat_body]
noncomputable def sl_Concat_P1 : List Item := skim 64 sl_Concat_P0.tail
theorem sl_Concat_S0_1 : skim 64 sl_Concat_P0.tail = sl_Concat_P1 := by kernel_rfl
noncomputable def sl_Concat_P2 : List Item := skim 64 sl_Concat_P1.tail
theorem sl_Concat_S1_2 : skim 64 sl_Concat_P1.tail = sl_Concat_P2 := by kernel_rfl
noncomputable def sl_Concat_P3 : List Item := skim 64 sl_Concat_P2.tail
theorem sl_Concat_S2_3 : skim 64 sl_Concat_P2.tail = sl_Concat_P3 := by kernel_rfl
noncomputable def sl_Concat_P4 : List Item := skim 64 sl_Concat_P3.tail
theorem sl_Concat_S3_4 : skim 64 sl_Concat_P3.tail = sl_Concat_P4 := by kernel_rfl
noncomputable def sl_Concat_P5 : List Item := skim 64 (brT sl_Concat_P4)
theorem sl_Concat_S4_5 : skim 64 (brT sl_Concat_P4) = sl_Concat_P5 := by kernel_rfl
noncomputable def sl_Concat_P6 : List Item := skim 64 (brF sl_Concat_P4)
theorem sl_Concat_S4_6 : skim 64 (brF sl_Concat_P4) = sl_Concat_P6 := by kernel_rfl
noncomputable def sl_Concat_P7 : List Item := skim 64 sl_Concat_P5.tail
theorem sl_Concat_S5_7 : skim 64 sl_Concat_P5.tail = sl_Concat_P7 := by kernel_rfl
noncomputable def sl_Concat_P8 : List Item := skim 64 sl_Concat_P6.tail
theorem sl_Concat_S6_8 : skim 64 sl_Concat_P6.tail = sl_Concat_P8 := by kernel_rfl
noncomputable def sl_Concat_P9 : List Item := skim 64 sl_Concat_P7.tail
theorem sl_Concat_S7_9 : skim 64 sl_Concat_P7.tail = sl_Concat_P9 := by kernel_rfl
noncomputable def sl_Concat_P10 : List Item := skim 64 sl_Concat_P8.tail
theorem sl_Concat_S8_10 : skim 64 sl_Concat_P8.tail = sl_Concat_P10 := by kernel_rfl
noncomputable def sl_Concat_P11 : List Item := skim 64 sl_Concat_P9.tail
theorem sl_Concat_S9_11 : skim 64 sl_Concat_P9.tail = sl_Concat_P11 := by kernel_rfl
noncomputable def sl_Concat_P12 : List Item := skim 64 sl_Concat_P10.tail
theorem sl_Concat_S10_12 : skim 64 sl_Concat_P10.tail = sl_Concat_P12 := by kernel_rfl
noncomputable def sl_Concat_P14 : List Item := skim 64 (brF sl_Concat_P11)
theorem sl_Concat_S11_14 : skim 64 (brF sl_Concat_P11) = sl_Concat_P14 := by kernel_rfl
noncomputable def sl_Concat_P15 : List Item := skim 64 (brT sl_Concat_P12)
theorem sl_Concat_S12_15 : skim 64 (brT sl_Concat_P12) = sl_Concat_P15 := by kernel_rfl
noncomputable def sl_Concat_P16 : List Item := skim 64 (brF sl_Concat_P12)
theorem sl_Concat_S12_16 : skim 64 (brF sl_Concat_P12) = sl_Concat_P16 := by kernel_rfl
theorem sl_Concat_S14_3 : skim 64 sl_Concat_P14.tail = sl_Concat_P3 := by kernel_rfl
noncomputable def sl_Concat_P17 : List Item := skim 64 sl_Concat_P15.tail
theorem sl_Concat_S15_17 : skim 64 sl_Concat_P15.tail = sl_Concat_P17 := by kernel_rfl
noncomputable def sl_Concat_P18 : List Item := skim 64 sl_Concat_P16.tail
theorem sl_Concat_S16_18 : skim 64 sl_Concat_P16.tail = sl_Concat_P18 := by kernel_rfl
noncomputable def sl_Concat_P19 : List Item := skim 64 sl_Concat_P17.tail
theorem sl_Concat_S17_19 : skim 64 sl_Concat_P17.tail = sl_Concat_P19 := by kernel_rfl
theorem sl_Concat_S19_10 : skim 64 sl_Concat_P19.tail = sl_Concat_P10 := by kernel_rfl
/-- slices.go:491 -/
noncomputable def sl_Concat_r0 (E : Env) (call round : CallT) (tm : T Value) : M (T Value) :=
  mv (some (.slice none 0 0)) fun v2 =>
  setF 2 v2 tm fun tm1 =>
  M.pure tm1
theorem sl_Concat_q0 : RegEq 63 36 sl_Concat_g sl_Concat_P0 sl_Concat_r0 := ⟨by kernel_rfl, fun _ _ _ _ _ _ _ _ _ => by kernel_rfl⟩
/-- slices.go:492 -/
noncomputable def sl_Concat_r1 (E : Env) (call round : CallT) (tm : T Value) : M (T Value) :=
  mv (some (.int .i64 0)) fun v3 =>
  setF 3 v3 tm fun tm1 =>
  M.pure tm1
theorem sl_Concat_q1 : RegEq 63 36 sl_Concat_g sl_Concat_P1 sl_Concat_r1 := ⟨by kernel_rfl, fun _ _ _ _ _ _ _ _ _ => by kernel_rfl⟩
/-- slices.go:493 -/
noncomputable def sl_Concat_r2 (E : Env) (call round : CallT) (tm : T Value) : M (T Value) :=
  mv (T.get tm 0) fun v9 =>
  setF 9 v9 tm fun tm1 =>
  M.bind (oS (seqO [(some v9)]) fun l => aBuiltin E .len [43] l) fun v10 =>
  setF 10 v10 tm1 fun tm2 =>
  mv (some (.int .i64 0)) fun v11 =>
  setF 11 v11 tm2 fun tm3 =>
  M.pure tm3
theorem sl_Concat_q2 : RegEq 63 36 sl_Concat_g sl_Concat_P2 sl_Concat_r2 := ⟨by kernel_rfl, fun _ _ _ _ _ _ _ _ _ => by kernel_rfl⟩
/-- slices.go:493 -/
noncomputable def sl_Concat_r3 (E : Env) (call round : CallT) (tm : T Value) : M (T Value) :=
  M.bind (oS (T.get tm 11) fun a => oS (T.get tm 10) fun b => Cl.get (aBin E .lss 3 (.tmp 11) (.tmp 10)) a b) fun v12 =>
  setF 12 v12 tm fun tm1 =>
  M.pure tm1
theorem sl_Concat_q3 : RegEq 63 36 sl_Concat_g sl_Concat_P3 sl_Concat_r3 := ⟨by kernel_rfl, fun _ _ _ _ _ _ _ _ _ => by kernel_rfl⟩
theorem sl_Concat_C4 : condX sl_Concat_P4 = some 12 := by kernel_rfl
/-- slices.go:493 -/
noncomputable def sl_Concat_r5 (E : Env) (call round : CallT) (tm : T Value) : M (T Value) :=
  M.bind (oS (T.get tm 9) fun a => oS (T.get tm 11) fun b => kIdxA E 43 a b) fun v13 =>
  M.bind (oS (some v13) fun a => kLoad E 22 a) fun v14 =>
  mv (some v14) fun v5 =>
  setF 5 v5 tm fun tm1 =>
  M.pure tm1
theorem sl_Concat_q5 : RegEq 63 36 sl_Concat_g sl_Concat_P5 sl_Concat_r5 := ⟨by kernel_rfl, fun _ _ _ _ _ _ _ _ _ => by kernel_rfl⟩
/-- slices.go:502 -/
noncomputable def sl_Concat_r6 (E : Env) (call round : CallT) (tm : T Value) : M (T Value) :=
  mv (T.get tm 3) fun v23 =>
  M.bind (M.on (some (.func (.func 106) #[] #[])) fun f => M.on (seqO [(some (.slice none 0 0)), (some v23)]) fun l => callV call round f l) fun v24 =>
  mv (some v24) fun v6 =>
  setF 6 v6 tm fun tm1 =>
  M.pure tm1
theorem sl_Concat_q6 : RegEq 63 36 sl_Concat_g sl_Concat_P6 sl_Concat_r6 := ⟨by kernel_rfl, fun _ _ _ _ _ _ _ _ _ => by kernel_rfl⟩
/-- slices.go:494 -/
noncomputable def sl_Concat_r7 (E : Env) (call round : CallT) (tm : T Value) : M (T Value) :=
  mv (T.get tm 3) fun v15 =>
  mv (T.get tm 5) fun v16 =>
  M.bind (oS (seqO [(some v16)]) fun l => aBuiltin E .len [22] l) fun v17 =>
  M.bind (oS (some v15) fun a => oS (some v17) fun b => Cl.get (aBin E .add 3 (.tmp 15) (.tmp 17)) a b) fun v18 =>
  mv (some v18) fun v3 =>
  setF 3 v3 tm fun tm1 =>
  M.pure tm1
theorem sl_Concat_q7 : RegEq 63 36 sl_Concat_g sl_Concat_P7 sl_Concat_r7 := ⟨by kernel_rfl, fun _ _ _ _ _ _ _ _ _ => by kernel_rfl⟩
/-- slices.go:503 -/
noncomputable def sl_Concat_r8 (E : Env) (call round : CallT) (tm : T Value) : M (T Value) :=
  mv (T.get tm 0) fun v25 =>
  setF 25 v25 tm fun tm1 =>
  M.bind (oS (seqO [(some v25)]) fun l => aBuiltin E .len [43] l) fun v26 =>
  setF 26 v26 tm1 fun tm2 =>
  mv (some (.int .i64 0)) fun v27 =>
  setF 27 v27 tm2 fun tm3 =>
  M.pure tm3
theorem sl_Concat_q8 : RegEq 63 36 sl_Concat_g sl_Concat_P8 sl_Concat_r8 := ⟨by kernel_rfl, fun _ _ _ _ _ _ _ _ _ => by kernel_rfl⟩
/-- slices.go:495 -/
noncomputable def sl_Concat_r9 (E : Env) (call round : CallT) (tm : T Value) : M (T Value) :=
  mv (T.get tm 3) fun v19 =>
  M.bind (oS (some v19) fun a => oS (some (.int .i64 0)) fun b => Cl.get (aBin E .lss 3 (.tmp 19) (.const (.int .i64 0))) a b) fun v20 =>
  setF 20 v20 tm fun tm1 =>
  M.pure tm1
theorem sl_Concat_q9 : RegEq 63 36 sl_Concat_g sl_Concat_P9 sl_Concat_r9 := ⟨by kernel_rfl, fun _ _ _ _ _ _ _ _ _ => by kernel_rfl⟩
/-- slices.go:503 -/
noncomputable def sl_Concat_r10 (E : Env) (call round : CallT) (tm : T Value) : M (T Value) :=
  M.bind (oS (T.get tm 27) fun a => oS (T.get tm 26) fun b => Cl.get (aBin E .lss 3 (.tmp 27) (.tmp 26)) a b) fun v28 =>
  setF 28 v28 tm fun tm1 =>
  M.pure tm1
theorem sl_Concat_q10 : RegEq 63 36 sl_Concat_g sl_Concat_P10 sl_Concat_r10 := ⟨by kernel_rfl, fun _ _ _ _ _ _ _ _ _ => by kernel_rfl⟩
theorem sl_Concat_C11 : condX sl_Concat_P11 = some 20 := by kernel_rfl
theorem sl_Concat_C12 : condX sl_Concat_P12 = some 28 := by kernel_rfl
/-- slices.go:493 -/
noncomputable def sl_Concat_r14 (E : Env) (call round : CallT) (tm : T Value) : M (T Value) :=
  M.bind (oS (T.get tm 11) fun a => oS (some (.int .i64 1)) fun b => Cl.get (aBin E .add 3 (.tmp 11) (.const (.int .i64 1))) a b) fun v22 =>
  mv (some v22) fun v11 =>
  setF 11 v11 tm fun tm1 =>
  M.pure tm1
theorem sl_Concat_q14 : RegEq 63 36 sl_Concat_g sl_Concat_P14 sl_Concat_r14 := ⟨by kernel_rfl, fun _ _ _ _ _ _ _ _ _ => by kernel_rfl⟩
/-- slices.go:503 -/
noncomputable def sl_Concat_r15 (E : Env) (call round : CallT) (tm : T Value) : M (T Value) :=
  M.bind (oS (T.get tm 25) fun a => oS (T.get tm 27) fun b => kIdxA E 43 a b) fun v29 =>
  M.bind (oS (some v29) fun a => kLoad E 22 a) fun v30 =>
  mv (some v30) fun v8 =>
  setF 8 v8 tm fun tm1 =>
  M.pure tm1
theorem sl_Concat_q15 : RegEq 63 36 sl_Concat_g sl_Concat_P15 sl_Concat_r15 := ⟨by kernel_rfl, fun _ _ _ _ _ _ _ _ _ => by kernel_rfl⟩
/-- slices.go:506 -/
noncomputable def sl_Concat_r16 (E : Env) (call round : CallT) (tm : T Value) : M (T Value) :=
  mv (T.get tm 6) fun v35 =>
  mv (some v35) fun v2 =>
  setF 2 v2 tm fun tm1 =>
  M.pure tm1
theorem sl_Concat_q16 : RegEq 63 36 sl_Concat_g sl_Concat_P16 sl_Concat_r16 := ⟨by kernel_rfl, fun _ _ _ _ _ _ _ _ _ => by kernel_rfl⟩
/-- slices.go:504 -/
noncomputable def sl_Concat_r17 (E : Env) (call round : CallT) (tm : T Value) : M (T Value) :=
  mv (T.get tm 6) fun v31 =>
  mv (T.get tm 8) fun v32 =>
  M.bind (oS (seqO [(some v31), (some v32)]) fun l => aBuiltin E .append [22, 22] l) fun v33 =>
  mv (some v33) fun v6 =>
  setF 6 v6 tm fun tm1 =>
  M.pure tm1
theorem sl_Concat_q17 : RegEq 63 36 sl_Concat_g sl_Concat_P17 sl_Concat_r17 := ⟨by kernel_rfl, fun _ _ _ _ _ _ _ _ _ => by kernel_rfl⟩
theorem sl_Concat_E18 : ∃ k, sl_Concat_P18 = .code .ret :: k := ⟨sl_Concat_P18.tail, by kernel_rfl⟩
/-- slices.go:503 -/
noncomputable def sl_Concat_r19 (E : Env) (call round : CallT) (tm : T Value) : M (T Value) :=
  M.bind (oS (T.get tm 27) fun a => oS (some (.int .i64 1)) fun b => Cl.get (aBin E .add 3 (.tmp 27) (.const (.int .i64 1))) a b) fun v34 =>
  mv (some v34) fun v27 =>
  setF 27 v27 tm fun tm1 =>
  M.pure tm1
theorem sl_Concat_q19 : RegEq 63 36 sl_Concat_g sl_Concat_P19 sl_Concat_r19 := ⟨by kernel_rfl, fun _ _ _ _ _ _ _ _ _ => by kernel_rfl⟩
-- points: 0:region>[1], 1:region>[2], 2:region>[3], 3:region>[4], 4:cond>[5, 6], 5:region>[7], 6:region>[8], 7:region>[9], 8:region>[10], 9:region>[11], 10:region>[12], 11:cond>[13, 14], 12:cond>[15, 16], 13:region>[14], 14:region>[3], 15:region>[17], 16:region>[18], 17:region>[19], 18:ret>, 19:region>[10]

/-! ### slices.Grow[[]byte,byte] -/
noncomputable def sl_Grow_g : Nat := globOf Try.f106
noncomputable def sl_Grow_body : Code := Try.f106.body.getD .skip
theorem sl_Grow_fn : envS.fn.get 106 = some Try.f106 := by kernel_rfl
theorem sl_Grow_W {a0 a1 : Value} {n : Nat} {s : St} {Q : Value → St → Prop} (h : ∀ tm, T.get tm 0 = some a0 → T.get tm 1 = some a1 → W (runF envS n ⟨106, 27, sl_Grow_g, tm, [.code sl_Grow_body], .run, .normal, none⟩) (s.cxN cxN) fun p s1 => Q p.1 (s1.cxN s.cx)) : W (callW envS (runF envS n) 106 [a0, a1]) s Q :=
  W.call (by kernel_rfl) (by kernel_rfl) sl_Grow_fn (by kernel_rfl) rfl rfl (by simp) (h _ (by kernel_rfl) (by kernel_rfl))
theorem sl_Grow_res : Try.f106.results.toList = [.tmp 4] := by kernel_rfl
noncomputable def sl_Grow_P0 : List Item := skim 64 [.code sl_Grow_body]
noncomputable def sl_Grow_P1 : List Item := skim 64 sl_Grow_P0.tail
theorem sl_Grow_S0_1 : skim 64 sl_Grow_P0.tail = sl_Grow_P1 := by kernel_rfl
noncomputable def sl_Grow_P2 : List Item := skim 64 sl_Grow_P1.tail
theorem sl_Grow_S1_2 : skim 64 sl_Grow_P1.tail = sl_Grow_P2 := by kernel_rfl
noncomputable def sl_Grow_P4 : List Item := skim 64 (brF sl_Grow_P2)
theorem sl_Grow_S2_4 : skim 64 (brF sl_Grow_P2) = sl_Grow_P4 := by kernel_rfl
noncomputable def sl_Grow_P5 : List Item := skim 64 sl_Grow_P4.tail
theorem sl_Grow_S4_5 : skim 64 sl_Grow_P4.tail = sl_Grow_P5 := by kernel_rfl
noncomputable def sl_Grow_P6 : List Item := skim 64 sl_Grow_P5.tail
theorem sl_Grow_S5_6 : skim 64 sl_Grow_P5.tail = sl_Grow_P6 := by kernel_rfl
noncomputable def sl_Grow_P7 : List Item := skim 64 (brT sl_Grow_P6)
theorem sl_Grow_S6_7 : skim 64 (brT sl_Grow_P6) = sl_Grow_P7 := by kernel_rfl
noncomputable def sl_Grow_P8 : List Item := skim 64 (brF sl_Grow_P6)
theorem sl_Grow_S7_8 : skim 64 sl_Grow_P7.tail = sl_Grow_P8 := by kernel_rfl
noncomputable def sl_Grow_P9 : List Item := skim 64 sl_Grow_P8.tail
theorem sl_Grow_S8_9 : skim 64 sl_Grow_P8.tail = sl_Grow_P9 := by kernel_rfl
/-- slices.go:422 -/
noncomputable def sl_Grow_r0 (E : Env) (call round : CallT) (tm : T Value) : M (T Value) :=
  mv (some (.slice none 0 0)) fun v4 =>
  setF 4 v4 tm fun tm1 =>
  M.pure tm1
theorem sl_Grow_q0 : RegEq 106 27 sl_Grow_g sl_Grow_P0 sl_Grow_r0 := ⟨by kernel_rfl, fun _ _ _ _ _ _ _ _ _ => by kernel_rfl⟩
/-- slices.go:423 -/
noncomputable def sl_Grow_r1 (E : Env) (call round : CallT) (tm : T Value) : M (T Value) :=
  mv (T.get tm 1) fun v5 =>
  M.bind (oS (some v5) fun a => oS (some (.int .i64 0)) fun b => Cl.get (aBin E .lss 3 (.tmp 5) (.const (.int .i64 0))) a b) fun v6 =>
  setF 6 v6 tm fun tm1 =>
  M.pure tm1
theorem sl_Grow_q1 : RegEq 106 27 sl_Grow_g sl_Grow_P1 sl_Grow_r1 := ⟨by kernel_rfl, fun _ _ _ _ _ _ _ _ _ => by kernel_rfl⟩
theorem sl_Grow_C2 : condX sl_Grow_P2 = some 6 := by kernel_rfl
/-- slices.go:426 -/
noncomputable def sl_Grow_r4 (E : Env) (call round : CallT) (tm : T Value) : M (T Value) :=
  mv (T.get tm 1) fun v8 =>
  mv (T.get tm 0) fun v9 =>
  M.bind (oS (seqO [(some v9)]) fun l => aBuiltin E .cap [22] l) fun v10 =>
  mv (T.get tm 0) fun v11 =>
  M.bind (oS (seqO [(some v11)]) fun l => aBuiltin E .len [22] l) fun v12 =>
  M.bind (oS (some v10) fun a => oS (some v12) fun b => Cl.get (aBin E .sub 3 (.tmp 10) (.tmp 12)) a b) fun v13 =>
  M.bind (oS (some v8) fun a => oS (some v13) fun b => Cl.get (aBin E .sub 3 (.tmp 8) (.tmp 13)) a b) fun v14 =>
  mv (some v14) fun v1 =>
  setF 1 v1 tm fun tm1 =>
  M.pure tm1
theorem sl_Grow_q4 : RegEq 106 27 sl_Grow_g sl_Grow_P4 sl_Grow_r4 := ⟨by kernel_rfl, fun _ _ _ _ _ _ _ _ _ => by kernel_rfl⟩
/-- slices.go:426 -/
noncomputable def sl_Grow_r5 (E : Env) (call round : CallT) (tm : T Value) : M (T Value) :=
  mv (T.get tm 1) fun v15 =>
  M.bind (oS (some v15) fun a => oS (some (.int .i64 0)) fun b => Cl.get (aBin E .gtr 3 (.tmp 15) (.const (.int .i64 0))) a b) fun v16 =>
  setF 16 v16 tm fun tm1 =>
  M.pure tm1
theorem sl_Grow_q5 : RegEq 106 27 sl_Grow_g sl_Grow_P5 sl_Grow_r5 := ⟨by kernel_rfl, fun _ _ _ _ _ _ _ _ _ => by kernel_rfl⟩
theorem sl_Grow_C6 : condX sl_Grow_P6 = some 16 := by kernel_rfl
/-- slices.go:428 -/
noncomputable def sl_Grow_r7 (E : Env) (call round : CallT) (tm : T Value) : M (T Value) :=
  mv (T.get tm 0) fun v17 =>
  mv (T.get tm 0) fun v18 =>
  M.bind (oS (seqO [(some v18)]) fun l => aBuiltin E .cap [22] l) fun v19 =>
  M.bind (M.on (some v17) fun a => M.on (some none) fun b => M.on (onO (some v19) fun v => some (some v)) fun c => aSlice E 22 a b c) fun v20 =>
  mv (T.get tm 1) fun v21 =>
  M.bind (oS (seqO [(some v20), (some v21)]) fun l => aBuiltin E .append [22, 3] l) fun v22 =>
  mv (T.get tm 0) fun v23 =>
  M.bind (oS (seqO [(some v23)]) fun l => aBuiltin E .len [22] l) fun v24 =>
  M.bind (M.on (some v22) fun a => M.on (some none) fun b => M.on (onO (some v24) fun v => some (some v)) fun c => aSlice E 22 a b c) fun v25 =>
  mv (some v25) fun v0 =>
  setF 0 v0 tm fun tm1 =>
  M.pure tm1
theorem sl_Grow_q7 : RegEq 106 27 sl_Grow_g sl_Grow_P7 sl_Grow_r7 := ⟨by kernel_rfl, fun _ _ _ _ _ _ _ _ _ => by kernel_rfl⟩
/-- slices.go:430 -/
noncomputable def sl_Grow_r8 (E : Env) (call round : CallT) (tm : T Value) : M (T Value) :=
  mv (T.get tm 0) fun v26 =>
  mv (some v26) fun v4 =>
  setF 4 v4 tm fun tm1 =>
  M.pure tm1
theorem sl_Grow_q8 : RegEq 106 27 sl_Grow_g sl_Grow_P8 sl_Grow_r8 := ⟨by kernel_rfl, fun _ _ _ _ _ _ _ _ _ => by kernel_rfl⟩
theorem sl_Grow_E9 : ∃ k, sl_Grow_P9 = .code .ret :: k := ⟨sl_Grow_P9.tail, by kernel_rfl⟩
-- points: 0:region>[1], 1:region>[2], 2:cond>[3, 4], 3:region>[4], 4:region>[5], 5:region>[6], 6:cond>[7, 8], 7:region>[8], 8:region>[9], 9:ret>

/-! ### slices.Equal[[]byte,byte] -/
noncomputable def sl_Equal_g : Nat := globOf Try.f116
abbrev sl_Equal_nt : Nat := 26
noncomputable def sl_Equal_body : Code := Try.f116.body.getD .skip
theorem sl_Equal_fn : envS.fn.get 116 = some Try.f116 := by kernel_rfl
theorem sl_Equal_W {a0 a1 : Value} {n : Nat} {s : St} {Q : Value → St → Prop} (h : ∀ tm, T.get tm 0 = some a0 → T.get tm 1 = some a1 → W (runF envS n ⟨116, 26, sl_Equal_g, tm, [.code sl_Equal_body], .run, .normal, none⟩) (s.cxN cxN) fun p s1 => Q p.1 (s1.cxN s.cx)) : W (callW envS (runF envS n) 116 [a0, a1]) s Q :=
  W.call (by kernel_rfl) (by kernel_rfl) sl_Equal_fn (by kernel_rfl) rfl rfl (by simp) (h _ (by kernel_rfl) (by kernel_rfl))
theorem sl_Equal_res : Try.f116.results.toList = [.tmp 4] := by kernel_rfl
noncomputable def sl_Equal_P0 : List Item := skim 64 [.code sl_Equal_body]
noncomputable def sl_Equal_P1 : List Item := skim 64 sl_Equal_P0.tail
theorem sl_Equal_S0_1 : skim 64 sl_Equal_P0.tail = sl_Equal_P1 := by kernel_rfl
noncomputable def sl_Equal_P2 : List Item := skim 64 sl_Equal_P1.tail
theorem sl_Equal_S1_2 : skim 64 sl_Equal_P1.tail = sl_Equal_P2 := by kernel_rfl
noncomputable def sl_Equal_P3 : List Item := skim 64 (brT sl_Equal_P2)
theorem sl_Equal_S2_3 : skim 64 (brT sl_Equal_P2) = sl_Equal_P3 := by kernel_rfl
noncomputable def sl_Equal_P4 : List Item := skim 64 (brF sl_Equal_P2)
theorem sl_Equal_S2_4 : skim 64 (brF sl_Equal_P2) = sl_Equal_P4 := by kernel_rfl
noncomputable def sl_Equal_P5 : List Item := skim 64 sl_Equal_P3.tail
theorem sl_Equal_S3_5 : skim 64 sl_Equal_P3.tail = sl_Equal_P5 := by kernel_rfl
noncomputable def sl_Equal_P6 : List Item := skim 64 sl_Equal_P4.tail
theorem sl_Equal_S4_6 : skim 64 sl_Equal_P4.tail = sl_Equal_P6 := by kernel_rfl
noncomputable def sl_Equal_P7 : List Item := skim 64 sl_Equal_P6.tail
theorem sl_Equal_S6_7 : skim 64 sl_Equal_P6.tail = sl_Equal_P7 := by kernel_rfl
noncomputable def sl_Equal_P8 : List Item := skim 64 (brT sl_Equal_P7)
theorem sl_Equal_S7_8 : skim 64 (brT sl_Equal_P7) = sl_Equal_P8 := by kernel_rfl
noncomputable def sl_Equal_P9 : List Item := skim 64 (brF sl_Equal_P7)
theorem sl_Equal_S7_9 : skim 64 (brF sl_Equal_P7) = sl_Equal_P9 := by kernel_rfl
noncomputable def sl_Equal_P10 : List Item := skim 64 sl_Equal_P8.tail
theorem sl_Equal_S8_10 : skim 64 sl_Equal_P8.tail = sl_Equal_P10 := by kernel_rfl
noncomputable def sl_Equal_P11 : List Item := skim 64 sl_Equal_P9.tail
theorem sl_Equal_S9_11 : skim 64 sl_Equal_P9.tail = sl_Equal_P11 := by kernel_rfl
noncomputable def sl_Equal_P12 : List Item := skim 64 sl_Equal_P10.tail
theorem sl_Equal_S10_12 : skim 64 sl_Equal_P10.tail = sl_Equal_P12 := by kernel_rfl
noncomputable def sl_Equal_P13 : List Item := skim 64 (brT sl_Equal_P12)
theorem sl_Equal_S12_13 : skim 64 (brT sl_Equal_P12) = sl_Equal_P13 := by kernel_rfl
noncomputable def sl_Equal_P14 : List Item := skim 64 (brF sl_Equal_P12)
theorem sl_Equal_S12_14 : skim 64 (brF sl_Equal_P12) = sl_Equal_P14 := by kernel_rfl
noncomputable def sl_Equal_P15 : List Item := skim 64 sl_Equal_P13.tail
theorem sl_Equal_S13_15 : skim 64 sl_Equal_P13.tail = sl_Equal_P15 := by kernel_rfl
theorem sl_Equal_S14_6 : skim 64 sl_Equal_P14.tail = sl_Equal_P6 := by kernel_rfl
/-- slices.go:20 -/
noncomputable def sl_Equal_r0 (E : Env) (call round : CallT) (tm : T Value) : M (T Value) :=
  mv (some (.bool false)) fun v4 =>
  setF 4 v4 tm fun tm1 =>
  M.pure tm1
theorem sl_Equal_q0 : RegEq 116 26 sl_Equal_g sl_Equal_P0 sl_Equal_r0 := ⟨by kernel_rfl, fun _ _ _ _ _ _ _ _ _ => by kernel_rfl⟩
/-- slices.go:21 -/
noncomputable def sl_Equal_r1 (E : Env) (call round : CallT) (tm : T Value) : M (T Value) :=
  mv (T.get tm 0) fun v6 =>
  M.bind (oS (seqO [(some v6)]) fun l => aBuiltin E .len [22] l) fun v7 =>
  mv (T.get tm 1) fun v8 =>
  M.bind (oS (seqO [(some v8)]) fun l => aBuiltin E .len [22] l) fun v9 =>
  M.bind (oS (some v7) fun a => oS (some v9) fun b => Cl.get (aBin E .neq 3 (.tmp 7) (.tmp 9)) a b) fun v10 =>
  setF 10 v10 tm fun tm1 =>
  M.pure tm1
theorem sl_Equal_q1 : RegEq 116 26 sl_Equal_g sl_Equal_P1 sl_Equal_r1 := ⟨by kernel_rfl, fun _ _ _ _ _ _ _ _ _ => by kernel_rfl⟩
theorem sl_Equal_C2 : condX sl_Equal_P2 = some 10 := by kernel_rfl
/-- slices.go:22 -/
noncomputable def sl_Equal_r3 (E : Env) (call round : CallT) (tm : T Value) : M (T Value) :=
  mv (some (.bool false)) fun v4 =>
  setF 4 v4 tm fun tm1 =>
  M.pure tm1
theorem sl_Equal_q3 : RegEq 116 26 sl_Equal_g sl_Equal_P3 sl_Equal_r3 := ⟨by kernel_rfl, fun _ _ _ _ _ _ _ _ _ => by kernel_rfl⟩
/-- slices.go:24 -/
noncomputable def sl_Equal_r4 (E : Env) (call round : CallT) (tm : T Value) : M (T Value) :=
  mv (T.get tm 0) fun v11 =>
  M.bind (oS (seqO [(some v11)]) fun l => aBuiltin E .len [22] l) fun v12 =>
  setF 12 v12 tm fun tm1 =>
  mv (some (.int .i64 0)) fun v13 =>
  setF 13 v13 tm1 fun tm2 =>
  M.pure tm2
theorem sl_Equal_q4 : RegEq 116 26 sl_Equal_g sl_Equal_P4 sl_Equal_r4 := ⟨by kernel_rfl, fun _ _ _ _ _ _ _ _ _ => by kernel_rfl⟩
theorem sl_Equal_E5 : ∃ k, sl_Equal_P5 = .code .ret :: k := ⟨sl_Equal_P5.tail, by kernel_rfl⟩
/-- slices.go:24 -/
noncomputable def sl_Equal_r6 (E : Env) (call round : CallT) (tm : T Value) : M (T Value) :=
  M.bind (oS (T.get tm 13) fun a => oS (T.get tm 12) fun b => Cl.get (aBin E .lss 3 (.tmp 13) (.tmp 12)) a b) fun v14 =>
  setF 14 v14 tm fun tm1 =>
  M.pure tm1
theorem sl_Equal_q6 : RegEq 116 26 sl_Equal_g sl_Equal_P6 sl_Equal_r6 := ⟨by kernel_rfl, fun _ _ _ _ _ _ _ _ _ => by kernel_rfl⟩
theorem sl_Equal_C7 : condX sl_Equal_P7 = some 14 := by kernel_rfl
/-- slices.go:24 -/
noncomputable def sl_Equal_r8 (E : Env) (call round : CallT) (tm : T Value) : M (T Value) :=
  mv (T.get tm 13) fun v15 =>
  mv (some v15) fun v5 =>
  setF 5 v5 tm fun tm1 =>
  M.pure tm1
theorem sl_Equal_q8 : RegEq 116 26 sl_Equal_g sl_Equal_P8 sl_Equal_r8 := ⟨by kernel_rfl, fun _ _ _ _ _ _ _ _ _ => by kernel_rfl⟩
/-- slices.go:29 -/
noncomputable def sl_Equal_r9 (E : Env) (call round : CallT) (tm : T Value) : M (T Value) :=
  mv (some (.bool true)) fun v4 =>
  setF 4 v4 tm fun tm1 =>
  M.pure tm1
theorem sl_Equal_q9 : RegEq 116 26 sl_Equal_g sl_Equal_P9 sl_Equal_r9 := ⟨by kernel_rfl, fun _ _ _ _ _ _ _ _ _ => by kernel_rfl⟩
/-- slices.go:25; the order is open -/
noncomputable def sl_Equal_d10 (E : Env) (call round : CallT) (tm : T Value) : M ((Rho × T Value) × List OpLog) :=
  M.bind (apartO (oS (T.get tm 0) fun a => M.pure a)) fun p0 =>
  M.bind (apartO (oS (T.get tm 5) fun a => M.pure a)) fun p1 =>
  M.bind (apartO (oS (some p0.1) fun a => oS (some p1.1) fun b => kIdxA E 22 a b)) fun p2 =>
  M.bind (apartO (oS (some p2.1) fun a => kLoad E 5 a)) fun p3 =>
  M.bind (apartO (oS (T.get tm 1) fun a => M.pure a)) fun p4 =>
  M.bind (apartO (oS (T.get tm 5) fun a => M.pure a)) fun p5 =>
  M.bind (apartO (oS (some p4.1) fun a => oS (some p5.1) fun b => kIdxA E 22 a b)) fun p6 =>
  M.bind (apartO (oS (some p6.1) fun a => kLoad E 5 a)) fun p7 =>
  M.pure (([p7.1, p6.1, p5.1, p4.1, p3.1, p2.1, p1.1, p0.1], tm), [p7.2, p6.2, p5.2, p4.2, p3.2, p2.2, p1.2, p0.2])
theorem sl_Equal_q10 : DrawEq 116 26 sl_Equal_g sl_Equal_P10 [0, 0, 3, 7, 0, 0, 48, 112, 255] sl_Equal_d10 := ⟨by kernel_rfl, by kernel_rfl, fun _ _ _ _ _ _ _ _ _ => by kernel_rfl⟩
theorem sl_Equal_L10 (E : Env) (call round : CallT) (x16 x17 x18 x19 x20 x21 x22 x23 : Value) (tm : T Value) (s : St) : opsIn call round (lastOps E sl_Equal_g 26 (hdC sl_Equal_P10)) [x23, x22, x21, x20, x19, x18, x17, x16] tm s = (M.bind (oS (some x19) fun a => oS (some x23) fun b => Cl.get (aBin E .neq 5 (.tmp 19) (.tmp 23)) a b) fun v24 => setT 24 v24 tm fun tm1 => M.pure tm1) s := by kernel_rfl
theorem sl_Equal_E11 : ∃ k, sl_Equal_P11 = .code .ret :: k := ⟨sl_Equal_P11.tail, by kernel_rfl⟩
theorem sl_Equal_C12 : condX sl_Equal_P12 = some 24 := by kernel_rfl
/-- slices.go:26 -/
noncomputable def sl_Equal_r13 (E : Env) (call round : CallT) (tm : T Value) : M (T Value) :=
  mv (some (.bool false)) fun v4 =>
  setF 4 v4 tm fun tm1 =>
  M.pure tm1
theorem sl_Equal_q13 : RegEq 116 26 sl_Equal_g sl_Equal_P13 sl_Equal_r13 := ⟨by kernel_rfl, fun _ _ _ _ _ _ _ _ _ => by kernel_rfl⟩
/-- slices.go:24 -/
noncomputable def sl_Equal_r14 (E : Env) (call round : CallT) (tm : T Value) : M (T Value) :=
  M.bind (oS (T.get tm 13) fun a => oS (some (.int .i64 1)) fun b => Cl.get (aBin E .add 3 (.tmp 13) (.const (.int .i64 1))) a b) fun v25 =>
  mv (some v25) fun v13 =>
  setF 13 v13 tm fun tm1 =>
  M.pure tm1
theorem sl_Equal_q14 : RegEq 116 26 sl_Equal_g sl_Equal_P14 sl_Equal_r14 := ⟨by kernel_rfl, fun _ _ _ _ _ _ _ _ _ => by kernel_rfl⟩
theorem sl_Equal_E15 : ∃ k, sl_Equal_P15 = .code .ret :: k := ⟨sl_Equal_P15.tail, by kernel_rfl⟩
-- points: 0:region>[1], 1:region>[2], 2:cond>[3, 4], 3:region>[5], 4:region>[6], 5:ret>, 6:region>[7], 7:cond>[8, 9], 8:region>[10], 9:region>[11], 10:region>[12], 11:ret>, 12:cond>[13, 14], 13:region>[15], 14:region>[6], 15:ret>

/-! ### slices.Clone[[]byte,byte] -/
noncomputable def sl_Clone_g : Nat := globOf Try.f117
noncomputable def sl_Clone_body : Code := Try.f117.body.getD .skip
theorem sl_Clone_fn : envS.fn.get 117 = some Try.f117 := by kernel_rfl
theorem sl_Clone_W {a0 : Value} {n : Nat} {s : St} {Q : Value → St → Prop} (h : ∀ tm, T.get tm 0 = some a0 → W (runF envS n ⟨117, 8, sl_Clone_g, tm, [.code sl_Clone_body], .run, .normal, none⟩) (s.cxN cxN) fun p s1 => Q p.1 (s1.cxN s.cx)) : W (callW envS (runF envS n) 117 [a0]) s Q :=
  W.call (by kernel_rfl) (by kernel_rfl) sl_Clone_fn (by kernel_rfl) rfl rfl (by simp) (h _ (by kernel_rfl))
theorem sl_Clone_res : Try.f117.results.toList = [.tmp 2] := by kernel_rfl
noncomputable def sl_Clone_P0 : List Item := skim 64 [.code sl_Clone_body]
noncomputable def sl_Clone_P1 : List Item := skim 64 sl_Clone_P0.tail
theorem sl_Clone_S0_1 : skim 64 sl_Clone_P0.tail = sl_Clone_P1 := by kernel_rfl
noncomputable def sl_Clone_P2 : List Item := skim 64 sl_Clone_P1.tail
theorem sl_Clone_S1_2 : skim 64 sl_Clone_P1.tail = sl_Clone_P2 := by kernel_rfl
noncomputable def sl_Clone_P4 : List Item := skim 64 (brF sl_Clone_P2)
theorem sl_Clone_S2_4 : skim 64 (brF sl_Clone_P2) = sl_Clone_P4 := by kernel_rfl
noncomputable def sl_Clone_P6 : List Item := skim 64 sl_Clone_P4.tail
theorem sl_Clone_S4_6 : skim 64 sl_Clone_P4.tail = sl_Clone_P6 := by kernel_rfl
/-- slices.go:355 -/
noncomputable def sl_Clone_r0 (E : Env) (call round : CallT) (tm : T Value) : M (T Value) :=
  mv (some (.slice none 0 0)) fun v2 =>
  setF 2 v2 tm fun tm1 =>
  M.pure tm1
theorem sl_Clone_q0 : RegEq 117 8 sl_Clone_g sl_Clone_P0 sl_Clone_r0 := ⟨by kernel_rfl, fun _ _ _ _ _ _ _ _ _ => by kernel_rfl⟩
/-- slices.go:357 -/
noncomputable def sl_Clone_r1 (E : Env) (call round : CallT) (tm : T Value) : M (T Value) :=
  mv (T.get tm 0) fun v3 =>
  M.bind (oS (some v3) fun a => oS (some (.slice none 0 0)) fun b => Cl.get (aBin E .eql 22 (.tmp 3) (.const (.slice none 0 0))) a b) fun v4 =>
  setF 4 v4 tm fun tm1 =>
  M.pure tm1
theorem sl_Clone_q1 : RegEq 117 8 sl_Clone_g sl_Clone_P1 sl_Clone_r1 := ⟨by kernel_rfl, fun _ _ _ _ _ _ _ _ _ => by kernel_rfl⟩
theorem sl_Clone_C2 : condX sl_Clone_P2 = some 4 := by kernel_rfl
/-- slices.go:362 -/
noncomputable def sl_Clone_r4 (E : Env) (call round : CallT) (tm : T Value) : M (T Value) :=
  M.bind (oS (seqP []) fun ps => aBuildS E 22 0 ps) fun v5 =>
  mv (T.get tm 0) fun v6 =>
  M.bind (oS (seqO [(some v5), (some v6)]) fun l => aBuiltin E .append [22, 22] l) fun v7 =>
  mv (some v7) fun v2 =>
  setF 2 v2 tm fun tm1 =>
  M.pure tm1
theorem sl_Clone_q4 : RegEq 117 8 sl_Clone_g sl_Clone_P4 sl_Clone_r4 := ⟨by kernel_rfl, fun _ _ _ _ _ _ _ _ _ => by kernel_rfl⟩
theorem sl_Clone_E6 : ∃ k, sl_Clone_P6 = .code .ret :: k := ⟨sl_Clone_P6.tail, by kernel_rfl⟩
-- points: 0:region>[1], 1:region>[2], 2:cond>[3, 4], 3:region>[5], 4:region>[6], 5:ret>, 6:ret>
end Go.Proofs.Ytofanlcjeohcjaa.Am
/- guard.Sum, said of all states. -/
namespace Go.Proofs.Ytofanlcjeohcjaa.Am
open Go.RowKit

section
variable {s : St}
/-- Bytes that stand in memory (not nil). -/
def Bn (s : St) (v : Value) (l : List Nat) : Prop := ∃ b o c, v = .slice (some ⟨b, o, none⟩) l.length c ∧ l.length ≤ c % capU ∧ sizeOk c 1 = true ∧ Row s b o (u8l l)
theorem Bn.bs {v : Value} {l : List Nat} (h : Bn s v l) : Bs s v l := .inr h
theorem Bn.ext {F G : Nat → Prop} {s s' : St} {v : Value} {l : List Nat} (h : Bn s v l) (e : Ext F G s s') (hG : ∀ x, BsF v x → ¬ G x) : Bn s' v l := by
  rcases h.bs.ext e hG with ⟨rfl, _⟩ | h'
  · obtain ⟨_, _, _, e, _⟩ := h; cases e
  · exact h'
theorem Bn.ext0 {F : Nat → Prop} {s s' : St} {v : Value} {l : List Nat} (h : Bn s v l) (e : Ext F Non s s') : Bn s' v l := h.ext e fun _ _ => id
/-- All below 256. -/
def Byt (l : List Nat) : Prop := ∀ x ∈ l, x < 256
theorem u8s_u8l : ∀ {l : List Nat}, Byt l → u8s (u8l l) = some l
  | [], _ => rfl
  | n :: l, h => by
    have e := u8s_u8l (l := l) fun x hx => h x (by simp [hx])
    show (match Value.int .u8 (.ofNat n), u8s (u8l l) with | .int .u8 (.ofNat n), some ns => bif Nat.blt n 256 then some (n :: ns) else none | _, _ => none) = _
    rw [e]
    simp -implicitDefEqProofs only [blt_t (h n (by simp)), cond_true]
theorem W.rdB {b o : Nat} {l : List Nat} {Q : List Value → St → Prop} (h : Row s b o (u8l l)) (q : ∀ s1, s1.mem = s.mem → s1.next = s.next → Ext (In b o l.length) Non s s1 → Q (u8l l) s1) : W (Am.rdL l.length ⟨b, o, none⟩) s Q := by
  have hl : l.length = (u8l l).length := (u8l_length l).symm
  rw [hl]
  refine W.rdL h fun s1 e1 e2 e3 => q s1 e1 e2 ?_
  rw [u8l_length] at e3
  exact e3
theorem W.more {sum : Nat} {v : Value} {l : List Nat} {Q : Value → St → Prop} (h : Bn s v l) (hl : Byt l) (hz : l.length ≤ 4611686018427387904) (hs : sum < 4294967296)
    (q : ∀ s1, s1.mem = s.mem → s1.next = s.next → Ext (BsF v) Non s s1 → Q (.int .u32 (crcMore sum l : Nat)) s1) : W (moreM [.int .u32 (sum : Nat), v]) s Q := by
  obtain ⟨b, o, c, rfl, h1, h2, h3⟩ := h
  refine W.chk (by rw [blt_t hs]; simpa using hz) (W.bind (W.rdB h3 fun s1 e1 e2 e3 => W.on (u8s_u8l hl) ?_))
  rw [moreV_eq]
  exact W.pure (q s1 e1 e2 e3)
end

theorem guard_Sum_spec {n : Nat} {s : St} {v : Value} {l : List Nat} {Q : Value → St → Prop} (hn : 10 ≤ n) (h : Bn s v l) (hl : Byt l) (hz : l.length ≤ 4611686018427387904)
    (q : ∀ s1, s1.mem = s.mem → s1.next = s.next → Ext (BsF v) Non s s1 → Q (.int .u32 (crcMore 0 l : Nat)) s1) : W (callW envS (runF envS n) 105 [v]) s Q := by
  refine guard_Sum_W fun tm h0 => ?_
  refine guard_Sum_q0.w rfl (by omega) ?_
  simp -implicitDefEqProofs only [guard_Sum_r0, W_pure, W_mv, W_setF]
  refine guard_Sum_q1.w guard_Sum_S0_1 (by omega) ?_
  simp -implicitDefEqProofs only [guard_Sum_r1, W_bind, W_on, W_pure, W_mv, W_setF, T.get_set, seqO_cons, seqO_nil, onO_some', W_callV, reduceIte, reduceCtorEq, ↓reduceIte, h0]
  refine W.orc (m := moreM) (by kernel_rfl) ?_
  change W (moreM [.int .u32 ((0 : Nat) : Int), v]) _ _
  refine W.more (s := s.cxN cxN) h hl hz (by decide) fun s1 e1 e2 e3 => ?_
  refine W.end' (rs := [2]) (vs := [.int .u32 (crcMore 0 l : Nat)]) guard_Sum_S1_2 (.inl guard_Sum_E2) (by omega) guard_Sum_fn guard_Sum_res e3.cx (by simp [T.get_set]) ?_
  refine q _ e1 e2 ⟨e3.nxt, e3.lim, rfl, e3.mem, e3.rd, e3.wr⟩
end Go.Proofs.Ytofanlcjeohcjaa.Am
/- slices.Grow, slices.Concat at bytes, said of all states. -/
namespace Go.Proofs.Ytofanlcjeohcjaa.Am
open Go.RowKit

theorem ty_b_sl : slN envS 22 = some 1 := by kernel_rfl
theorem ty_bb_sl : slN envS 43 = some 1 := by kernel_rfl
theorem ty_b_el : elT envS 22 = some (1, 1, [.int .u8 0]) := by kernel_rfl
theorem ty_b_ap : appT envS 22 22 = some (1, 1, false, [.int .u8 0]) := by kernel_rfl
theorem ty_b_az : appT envS 22 3 = some (1, 1, true, [.int .u8 0]) := by kernel_rfl
theorem ty_b_1 : tyS envS 22 = some (1, false) := by kernel_rfl
theorem ty_u8_1 : tyS envS 5 = some (1, false) := by kernel_rfl

theorem rep_u8 (n : Nat) : rep n [Value.int .u8 0] = List.replicate n (Value.int .u8 0) := by
  induction n with
  | zero => rfl
  | succ n ih =>
    show [Value.int .u8 0] ++ rep n [Value.int .u8 0] = _
    rw [ih]; rfl
/-- A new row of bytes, with room, of which nothing is told yet. -/
structure Room (s s' : St) (N : Nat) (v : Value) (b : Nat) : Prop where
  val : v = .slice (some ⟨b, 0, none⟩) 0 (capU * ((b + N * 1) * 1024 + 1) + N)
  new : s.next ≤ b
  own : OwnRow s' b 0 (List.replicate N (.int .u8 0))
theorem sl_Grow_spec {n N : Nat} {s : St} {Q : Value → St → Prop} (hbd : s.lim ≤ s.next) (hn : 20 ≤ n) (hN : 0 < N) (hN2 : N ≤ 1000000)
    (q : ∀ s1 v b, Room s s1 N v b → Ext Non Non s s1 → Q v s1) : W (callW envS (runF envS n) 106 [.slice none 0 0, .int .i64 (N : Nat)]) s Q := by
  refine sl_Grow_W fun tm h0 h1 => ?_
  refine sl_Grow_q0.w rfl (by omega) ?_
  simp -implicitDefEqProofs only [sl_Grow_r0, W_pure, W_mv, W_setF]
  refine sl_Grow_q1.w sl_Grow_S0_1 (by omega) ?_
  simp -implicitDefEqProofs only [sl_Grow_r1, W_bind, W_oS, W_pure, W_mv, W_setF, T.get_set, reduceIte, Nat.reduceEqDiff, Nat.reduceEqDiff, ↓reduceIte, W_lss64, h1]
  refine W.cond (v := false) sl_Grow_S1_2 sl_Grow_C2 (by simp [T.get_set]) (by omega) (fun h => by cases h) fun _ => ?_
  refine sl_Grow_q4.w sl_Grow_S2_4 (by omega) ?_
  simp -implicitDefEqProofs only [sl_Grow_r4, W_bind, W_oS, W_pure, W_mv, W_setF, T.get_set, seqO_cons, seqO_nil, onO_some', reduceIte, Nat.reduceEqDiff, Nat.reduceEqDiff, reduceCtorEq, ↓reduceIte, W_sub64, h0, h1, W_capNil ty_b_sl, W_lenSl ty_b_sl]
  refine sl_Grow_q5.w sl_Grow_S4_5 (by omega) ?_
  have e1 : wrap64 ((N : Int) - wrap64 (((0 : Nat) : Int) - ((0 : Nat) : Int))) = (N : Nat) := by
    rw [wrap64_id (n := ((0 : Nat) : Int) - ((0 : Nat) : Int)) (by simp) (by simp), wrap64_id] <;> simp <;> omega
  simp -implicitDefEqProofs only [sl_Grow_r5, W_bind, W_oS, W_pure, W_mv, W_setF, T.get_set, reduceIte, ↓reduceIte, W_gtr64, e1]
  refine W.cond (v := true) sl_Grow_S5_6 sl_Grow_C6 (by simp [T.get_set, hN]) (by omega) (fun _ => ?_) fun h => by cases h
  refine sl_Grow_q7.w sl_Grow_S6_7 (by omega) ?_
  simp -implicitDefEqProofs only [sl_Grow_r7, W_bind, W_oS, W_on, W_pure, W_mv, W_setF, T.get_set, seqO_cons, seqO_nil, onO_some', reduceIte, Nat.reduceEqDiff, Nat.reduceEqDiff, reduceCtorEq, ↓reduceIte, h0, W_capNil ty_b_sl, W_slNil (lo := none) (hi := some (.int .i64 ((0 : Nat) : Int))) ty_b_sl rfl rfl, W_app]
  refine W.appNil (s := s.cxN cxN) hbd (n := N) (l := rep N [.int .u8 0]) ty_b_az (src_zeros (by omega)) hN (by decide) (by decide) (by omega) (by rw [rep_u8]; simp) (by rw [rep_u8]; simp [oneCell]) fun s2 v b hf x2 => ?_
  obtain ⟨rfl, hnew, hown, hlen, htok, hlt⟩ := hf
  have hc := mark_mod (q := (b + N * 1) * 1024 + 1) (capU_gt (n := N) (by omega))
  simp -implicitDefEqProofs only [W_lenSl ty_b_sl, W_slSl (l := 0) (h := 0) (lo := none) (hi := some (.int .i64 ((0 : Nat) : Int))) ty_b_sl rfl rfl (Nat.le_refl _) (Nat.zero_le _) (mark_ok (m := b + N * 1) (capU_gt (n := N) (by omega)) (by decide)), reduceIte, ↓reduceIte, hc, hN]
  refine sl_Grow_q8.w sl_Grow_S7_8 (by omega) ?_
  simp -implicitDefEqProofs only [sl_Grow_r8, W_pure, W_mv, W_setF, T.get_set, reduceIte, ↓reduceIte]
  refine W.end' (rs := [4]) (vs := [.slice (some ⟨b, 0, none⟩) 0 (capU * ((b + N * 1) * 1024 + 1) + N)]) sl_Grow_S8_9 (.inl sl_Grow_E9) (by omega) sl_Grow_fn sl_Grow_res x2.cx (by simp [T.get_set]) ?_
  exact q _ _ b ⟨rfl, hnew, fun i v e => (hown i v (by rw [rep_u8]; exact e)).same rfl rfl⟩ ⟨x2.nxt, x2.lim, rfl, x2.mem, x2.rd, x2.wr⟩
end Go.Proofs.Ytofanlcjeohcjaa.Am
/- slices.Concat at bytes, said of all states. -/
namespace Go.Proofs.Ytofanlcjeohcjaa.Am
open Go.RowKit

/-- How many bytes some parts have. -/
def tot (l : List (Value × List Nat)) : Nat := (l.map fun p => p.2.length).sum
theorem tot_take {l : List (Value × List Nat)} {i : Nat} {p : Value × List Nat} (h : l[i]? = some p) : tot (l.take (i + 1)) = tot (l.take i) + p.2.length := by
  unfold tot
  rw [List.take_add_one, h]
  simp
theorem tot_le {l : List (Value × List Nat)} (i : Nat) : tot (l.take i) ≤ tot l := by
  unfold tot
  have : (l.map fun p => p.2.length).sum = ((l.take i).map fun p => p.2.length).sum + ((l.drop i).map fun p => p.2.length).sum := by
    rw [← List.sum_append, ← List.map_append, List.take_append_drop]
  omega
/-- Where the parts lie. -/
def PartF (b o : Nat) (l : List (Value × List Nat)) : Nat → Prop := fun x => In b o l.length x ∨ ∃ p ∈ l, BsF p.1 x
/-- Slices in a row, each of bytes. -/
structure Parts (s : St) (b o : Nat) (l : List (Value × List Nat)) : Prop where
  row : Row s b o (l.map (·.1))
  bs : ∀ p ∈ l, Bs s p.1 p.2
theorem Parts.same {s s' : St} {b o : Nat} {l : List (Value × List Nat)} (h : Parts s b o l) (hm : s'.mem = s.mem) (hn : s'.next = s.next) : Parts s' b o l :=
  ⟨fun i v e => (h.row i v e).same hm hn, fun p hp => (h.bs p hp).same hm hn⟩
theorem Parts.ext0 {F : Nat → Prop} {s s' : St} {b o : Nat} {l : List (Value × List Nat)} (h : Parts s b o l) (e : Ext F Non s s') : Parts s' b o l := ⟨h.row.ext0 e, fun p hp => (h.bs p hp).ext0 e⟩

section
variable {b o c : Nat} {parts : List (Value × List Nat)}
theorem Parts.get {s : St} (h : Parts s b o parts) {i : Nat} (hi : i < parts.length) : At s b (o + i * 1) parts[i].1 ∧ Bs s parts[i].1 parts[i].2 := by
  refine ⟨?_, h.bs _ (List.getElem_mem hi)⟩
  rw [Nat.mul_one]
  exact h.row i _ (by simp [hi])
theorem tot_take' {i : Nat} (hi : i < parts.length) : tot (parts.take (i + 1)) = tot (parts.take i) + parts[i].2.length := tot_take (List.getElem?_eq_getElem hi)
/-- The first loop: how many bytes there are. -/
theorem concat_sum (ht : tot parts ≤ 1000000) (hlen : parts.length ≤ 4611686018427387904) {F : Nat → Prop} (hF : ∀ x, PartF b o parts x → F x) {Q : Value × FrameMode → St → Prop} {s0 : St} (hb0 : s0.lim ≤ s0.next) (hp : Parts s0 b o parts) : ∀ (k i n : Nat) (tm : T Value) (s : St) (td : List Item), i + k = parts.length → 7 * k + 7 ≤ n → skim 64 td = sl_Concat_P3 → Ext F Non s0 s → s.mem = s0.mem → s.next = s0.next →
    T.get tm 0 = some (.slice (some ⟨b, o, none⟩) parts.length c) → T.get tm 9 = some (.slice (some ⟨b, o, none⟩) parts.length c) → T.get tm 10 = some (.int .i64 (parts.length : Nat)) → T.get tm 11 = some (.int .i64 (i : Nat)) → T.get tm 3 = some (.int .i64 (tot (parts.take i) : Nat)) →
    (∀ n' tm' s1 td', n ≤ n' + 7 * k + 2 → skim 64 td' = sl_Concat_P6 → Ext F Non s0 s1 → s1.mem = s0.mem → s1.next = s0.next → T.get tm' 0 = some (.slice (some ⟨b, o, none⟩) parts.length c) → T.get tm' 3 = some (.int .i64 (tot parts : Nat)) → W (runF envS n' ⟨63, sl_Concat_nt, sl_Concat_g, tm', td', .run, .normal, none⟩) s1 Q) →
    W (runF envS n ⟨63, sl_Concat_nt, sl_Concat_g, tm, td, .run, .normal, none⟩) s Q := by
  intro k
  induction k with
  | zero =>
    intro i n tm s td hi hn hT hx hm hnx h0 h9 h10 h11 h3 q
    refine sl_Concat_q3.w hT (by omega) ?_
    simp -implicitDefEqProofs only [sl_Concat_r3, W_bind, W_oS, W_pure, W_setF, W_lss64, h10, h11]
    refine W.cond (v := false) sl_Concat_S3_4 sl_Concat_C4 (by simp [T.get_set]; omega) (by omega) (fun h => by cases h) fun _ => ?_
    have e : tot (parts.take i) = tot parts := by rw [show i = parts.length by omega, List.take_length]
    rw [e] at h3
    exact q _ _ _ _ (by omega) sl_Concat_S4_6 hx hm hnx (by simp [T.get_set, h0]) (by simp [T.get_set, h3])
  | succ k ih =>
    intro i n tm s td hi hn hT hx hm hnx h0 h9 h10 h11 h3 q
    have hil : i < parts.length := by omega
    obtain ⟨g1, g2⟩ := hp.get hil
    have hlt := tot_take' hil
    have htl := tot_le (l := parts) (i + 1)
    refine sl_Concat_q3.w hT (by omega) ?_
    simp -implicitDefEqProofs only [sl_Concat_r3, W_bind, W_oS, W_pure, W_setF, W_lss64, h10, h11]
    refine W.cond (v := true) sl_Concat_S3_4 sl_Concat_C4 (by simp [T.get_set]; omega) (by omega) (fun _ => ?_) fun h => by cases h
    refine sl_Concat_q5.w sl_Concat_S4_5 (by omega) ?_
    simp -implicitDefEqProofs only [sl_Concat_r5, W_bind, W_oS, W_pure, W_mv, W_setF, T.get_set, reduceIte, Nat.reduceEqDiff, Nat.reduceEqDiff, ↓reduceIte, h9, h11, W_idxSl ty_bb_sl hil]
    refine W.load1 ty_b_1 (g1.same hm hnx) ?_
    refine sl_Concat_q7.w sl_Concat_S5_7 (by omega) ?_
    have ew : wrap64 ((tot (parts.take i) : Nat) + (parts[i].2.length : Nat) : Int) = (tot (parts.take (i + 1)) : Nat) := by
      rw [wrap64_id (by omega) (by omega), hlt]; simp
    have ei : wrap64 ((i : Nat) + 1 : Int) = ((i + 1 : Nat) : Int) := by
      have : parts.length ≤ 4611686018427387904 := hlen
      rw [wrap64_id (by omega) (by omega)]; simp
    have hx1 : Ext F Non s0 (s.rdN (b + (o + i * 1))) := hx.trans (Ext.rdN (F := F) s _ fun _ => hF _ (.inl ⟨by omega, by omega⟩)) hb0 (fun _ _ h => h) fun _ _ h => h
    simp -implicitDefEqProofs only [sl_Concat_r7, W_bind, W_oS, W_pure, W_mv, W_setF, T.get_set, seqO_cons, seqO_nil, onO_some', reduceIte, Nat.reduceEqDiff, Nat.reduceEqDiff, ↓reduceIte, W_add64, h3, Bs.len (s := s.rdN (b + (o + i * 1))) (g2.same hm hnx) ty_b_sl, ew]
    refine sl_Concat_q9.w sl_Concat_S7_9 (by omega) ?_
    simp -implicitDefEqProofs only [sl_Concat_r9, W_bind, W_oS, W_pure, W_mv, W_setF, T.get_set, reduceIte, ↓reduceIte, W_lss64]
    refine W.cond (v := false) sl_Concat_S9_11 sl_Concat_C11 (by simp [T.get_set]) (by omega) (fun h => by cases h) fun _ => ?_
    refine sl_Concat_q14.w sl_Concat_S11_14 (by omega) ?_
    simp -implicitDefEqProofs only [sl_Concat_r14, W_bind, W_oS, W_pure, W_mv, W_setF, T.get_set, reduceIte, Nat.reduceEqDiff, Nat.reduceEqDiff, ↓reduceIte, W_add64, h11, ei]
    exact ih (i + 1) _ _ _ _ (by omega) (by omega) sl_Concat_S14_3 hx1 hm hnx (by simp [T.get_set, h0]) (by simp [T.get_set, h9]) (by simp [T.get_set, h10]) (by simp [T.get_set]) (by simp [T.get_set]) fun n' tm' s1 td' e => q n' tm' s1 td' (by omega)
end
end Go.Proofs.Ytofanlcjeohcjaa.Am
/- slices.Concat at bytes: the second loop. -/
namespace Go.Proofs.Ytofanlcjeohcjaa.Am
open Go.RowKit

section
variable {b o c : Nat} {parts : List (Value × List Nat)}
/-- All their bytes. -/
def fl (l : List (Value × List Nat)) : List Nat := (l.map (·.2)).flatten
theorem fl_length (l : List (Value × List Nat)) : (fl l).length = tot l := by
  unfold fl tot
  rw [List.length_flatten, List.map_map]
  rfl
theorem fl_take {l : List (Value × List Nat)} {i : Nat} (h : i < l.length) : fl (l.take (i + 1)) = fl (l.take i) ++ l[i].2 := by
  unfold fl
  rw [List.take_add_one, List.getElem?_eq_getElem h, List.map_append, List.flatten_append]
  simp
/-- The second loop: each part laid behind the other. -/
theorem concat_lay (ht : tot parts ≤ 1000000) (hlen : parts.length ≤ 4611686018427387904) {F : Nat → Prop} (hF : ∀ x, PartF b o parts x → F x) {Q : Value × FrameMode → St → Prop} {s0 : St} (hb0 : s0.lim ≤ s0.next) (hp : Parts s0 b o parts) {nb cc : Nat} (hnb : s0.next ≤ nb) (hcc : cc % capU = tot parts) : ∀ (k i n : Nat) (tm : T Value) (s : St) (td : List Item), i + k = parts.length → 6 * k + 6 ≤ n → skim 64 td = sl_Concat_P10 → Ext F Non s0 s → Owned s nb 0 (tot parts) → OwnRow s nb 0 (u8l (fl (parts.take i))) →
    T.get tm 25 = some (.slice (some ⟨b, o, none⟩) parts.length c) → T.get tm 26 = some (.int .i64 (parts.length : Nat)) → T.get tm 27 = some (.int .i64 (i : Nat)) → T.get tm 6 = some (.slice (some ⟨nb, 0, none⟩) (tot (parts.take i)) cc) →
    (∀ n' tm' s1 td', n ≤ n' + 6 * k + 2 → skim 64 td' = sl_Concat_P16 → Ext F Non s0 s1 → OwnRow s1 nb 0 (u8l (fl parts)) → T.get tm' 6 = some (.slice (some ⟨nb, 0, none⟩) (tot parts) cc) → W (runF envS n' ⟨63, sl_Concat_nt, sl_Concat_g, tm', td', .run, .normal, none⟩) s1 Q) →
    W (runF envS n ⟨63, sl_Concat_nt, sl_Concat_g, tm, td, .run, .normal, none⟩) s Q := by
  intro k
  induction k with
  | zero =>
    intro i n tm s td hi hn hT hx hown hrow h25 h26 h27 h6 q
    refine sl_Concat_q10.w hT (by omega) ?_
    simp -implicitDefEqProofs only [sl_Concat_r10, W_bind, W_oS, W_pure, W_setF, W_lss64, h26, h27]
    refine W.cond (v := false) sl_Concat_S10_12 sl_Concat_C12 (by simp [T.get_set]; omega) (by omega) (fun h => by cases h) fun _ => ?_
    have e : parts.take i = parts := by rw [show i = parts.length by omega, List.take_length]
    rw [e] at h6 hrow
    exact q _ _ _ _ (by omega) sl_Concat_S12_16 hx hrow (by simp [T.get_set, h6])
  | succ k ih =>
    intro i n tm s td hi hn hT hx hown hrow h25 h26 h27 h6 q
    have hil : i < parts.length := by omega
    obtain ⟨g1, g2⟩ := (hp.ext0 hx).get hil
    have hlt := tot_take' hil
    have htl := tot_le (l := parts) (i + 1)
    refine sl_Concat_q10.w hT (by omega) ?_
    simp -implicitDefEqProofs only [sl_Concat_r10, W_bind, W_oS, W_pure, W_setF, W_lss64, h26, h27]
    refine W.cond (v := true) sl_Concat_S10_12 sl_Concat_C12 (by simp [T.get_set]; omega) (by omega) (fun _ => ?_) fun h => by cases h
    refine sl_Concat_q15.w sl_Concat_S12_15 (by omega) ?_
    simp -implicitDefEqProofs only [sl_Concat_r15, W_bind, W_oS, W_pure, W_mv, W_setF, T.get_set, reduceIte, Nat.reduceEqDiff, Nat.reduceEqDiff, ↓reduceIte, h25, h27, W_idxSl ty_bb_sl hil]
    refine W.load1 ty_b_1 g1 ?_
    have hx1 : Ext F Non s0 (s.rdN (b + (o + i * 1))) := hx.trans (Ext.rdN (F := F) s _ fun _ => hF _ (.inl ⟨by omega, by omega⟩)) hb0 (fun _ _ h => h) fun _ _ h => h
    refine sl_Concat_q17.w sl_Concat_S15_17 (by omega) ?_
    simp -implicitDefEqProofs only [sl_Concat_r17, W_bind, W_oS, W_pure, W_mv, W_setF, T.get_set, seqO_cons, seqO_nil, onO_some', reduceIte, Nat.reduceEqDiff, Nat.reduceEqDiff, ↓reduceIte, h6, W_app]
    refine W.appIn (s := s.rdN (b + (o + i * 1))) ty_b_ap (g2.same (s' := s.rdN (b + (o + i * 1))) rfl rfl).src.g (by rw [hcc]; omega) (by rw [u8l_length, Nat.mul_one]) (u8l_one _) (fun j hj => ?_) fun s2 n2 x2 r2 => ?_
    · obtain ⟨u, hu⟩ := hown (tot (parts.take i) + j) (by omega)
      exact ⟨u, by rw [show 0 + tot (parts.take i) * 1 + j = 0 + (tot (parts.take i) + j) by omega]; exact hu⟩
    have ei : wrap64 ((i : Nat) + 1 : Int) = ((i + 1 : Nat) : Int) := by
      rw [wrap64_id (by omega) (by omega)]; simp
    have hx2 : Ext F Non s0 s2 := hx1.step x2 hb0 (fun l hl h => by
      rcases h with h | h
      · exact hF _ (.inr ⟨_, List.getElem_mem hil, h⟩)
      · exact absurd h.1 (by omega)) fun l h => by have := h.1; omega
    have el : parts[i].2.length * 1 = (u8l parts[i].2).length := by rw [u8l_length, Nat.mul_one]
    rw [el] at x2
    have hown2 : Owned s2 nb 0 (tot parts) := Owned.ext (s := s.rdN (b + (o + i * 1))) (fun j hj => let ⟨u, hu⟩ := hown j hj; ⟨u, hu.same rfl rfl⟩) x2 r2
    have hrow2 : OwnRow s2 nb 0 (u8l (fl (parts.take (i + 1)))) := by
      rw [fl_take hil]
      unfold u8l
      rw [List.map_append]
      refine OwnRow.append (OwnRow.ext (s := s.rdN (b + (o + i * 1))) (fun j v e => (hrow j v e).same rfl rfl) x2 fun j hj => ?_) ?_
      · rw [u8l_length, fl_length] at hj
        intro h
        have := h.1
        omega
      · rw [u8l_length, fl_length]
        rw [Nat.mul_one] at r2
        exact r2
    refine sl_Concat_q19.w sl_Concat_S17_19 (by omega) ?_
    simp -implicitDefEqProofs only [sl_Concat_r19, W_bind, W_oS, W_pure, W_mv, W_setF, T.get_set, reduceIte, Nat.reduceEqDiff, Nat.reduceEqDiff, ↓reduceIte, W_add64, h27, ei]
    exact ih (i + 1) _ _ _ _ (by omega) (by omega) sl_Concat_S19_10 hx2 hown2 hrow2 (by simp [T.get_set, h25]) (by simp [T.get_set, h26]) (by simp [T.get_set]) (by simp [T.get_set, hlt]) fun n' tm' s1 td' e => q n' tm' s1 td' (by omega)
end
end Go.Proofs.Ytofanlcjeohcjaa.Am
/- slices.Concat at bytes, said of all states. -/
namespace Go.Proofs.Ytofanlcjeohcjaa.Am
open Go.RowKit

/-- New bytes. -/
structure New (s s' : St) (v : Value) (l : List Nat) : Prop where
  bn : Bn s' v l
  new : ∀ x, BsF v x → s.next ≤ x
theorem Ext.cx' {F G : Nat → Prop} {s s1 : St} {c : Ctx} (x : Ext F G (s.cxN c) s1) : Ext F G s (s1.cxN s.cx) := ⟨x.nxt, x.lim, rfl, x.mem, x.rd, x.wr⟩
theorem Bn.same {s s' : St} {v : Value} {l : List Nat} (h : Bn s v l) (hm : s'.mem = s.mem) (hn : s'.next = s.next) : Bn s' v l := by
  obtain ⟨b, o, c, h0, h1, h2, h3⟩ := h
  exact ⟨b, o, c, h0, h1, h2, fun i v e => (h3 i v e).same hm hn⟩
theorem sl_Concat_spec {n : Nat} {s : St} {b o c : Nat} {parts : List (Value × List Nat)} {Q : Value → St → Prop} (hbd : s.lim ≤ s.next) (hp : Parts s b o parts) (h0 : 0 < tot parts) (ht : tot parts ≤ 1000000) (hlen : parts.length ≤ 4611686018427387904) (hn : 13 * parts.length + 60 ≤ n)
    (q : ∀ s1 v, Ext (PartF b o parts) Non s s1 → New s s1 v (fl parts) → Q v s1) : W (callW envS (runF envS n) 63 [.slice (some ⟨b, o, none⟩) parts.length c]) s Q := by
  refine sl_Concat_W fun tm hk0 => ?_
  have hpc : Parts (s.cxN cxN) b o parts := hp.same rfl rfl
  refine sl_Concat_q0.w rfl (by omega) ?_
  simp -implicitDefEqProofs only [sl_Concat_r0, W_pure, W_mv, W_setF]
  refine sl_Concat_q1.w sl_Concat_S0_1 (by omega) ?_
  simp -implicitDefEqProofs only [sl_Concat_r1, W_pure, W_mv, W_setF]
  refine sl_Concat_q2.w sl_Concat_S1_2 (by omega) ?_
  simp -implicitDefEqProofs only [sl_Concat_r2, W_bind, W_oS, W_pure, W_mv, W_setF, T.get_set, seqO_cons, seqO_nil, onO_some', reduceIte, reduceCtorEq, ↓reduceIte, hk0, W_lenSl ty_bb_sl]
  refine concat_sum (c := c) ht hlen (F := PartF b o parts) (fun _ h => h) (s0 := s.cxN cxN) hbd hpc parts.length 0 _ _ _ _ (by omega) (by omega) sl_Concat_S2_3 (Ext.refl _) rfl rfl (by simp [T.get_set, hk0]) (by simp [T.get_set]) (by simp [T.get_set]) (by simp [T.get_set]) (by simp [T.get_set, tot]) fun n1 tm1 s1 td1 hn1 hT1 hx1 hm1 hnx1 g0 g3 => ?_
  refine sl_Concat_q6.w hT1 (by omega) ?_
  simp -implicitDefEqProofs only [sl_Concat_r6, W_bind, W_on, W_pure, W_mv, W_setF, seqO_cons, seqO_nil, onO_some', W_callV, g3]
  have hb1 : s1.lim ≤ s1.next := hx1.bnd hbd
  refine sl_Grow_spec hb1 (by omega) h0 ht fun s2 v nb hr x2 => ?_
  obtain ⟨rfl, hnew, hown⟩ := hr
  have hx2 : Ext (PartF b o parts) Non (s.cxN cxN) s2 := hx1.step x2 hbd (fun _ _ h => h.elim) fun _ h => h.elim
  have hnb : s.next ≤ nb := by
    have : s1.next = s.next := hnx1
    omega
  have hcc := mark_mod (q := (nb + tot parts * 1) * 1024 + 1) (capU_gt (n := tot parts) (by omega))
  have hok := mark_ok (m := nb + tot parts * 1) (sz := 1) (capU_gt (n := tot parts) (by omega)) (by decide)
  generalize hC : capU * ((nb + tot parts * 1) * 1024 + 1) + tot parts = C at *
  refine sl_Concat_q8.w sl_Concat_S6_8 (by omega) ?_
  simp -implicitDefEqProofs only [sl_Concat_r8, W_bind, W_oS, W_pure, W_mv, W_setF, T.get_set, seqO_cons, seqO_nil, onO_some', reduceIte, reduceCtorEq, ↓reduceIte, g0, W_lenSl ty_bb_sl]
  refine concat_lay (c := c) ht hlen (F := PartF b o parts) (fun _ h => h) (s0 := s.cxN cxN) hbd hpc (nb := nb) (cc := C) hnb hcc parts.length 0 _ _ _ _ (by omega) (by omega) sl_Concat_S8_10 hx2 (by have := hown.owned; rwa [List.length_replicate] at this) (fun i v e => by simp [fl] at e) (by simp [T.get_set]) (by simp [T.get_set]) (by simp [T.get_set]) (by simp [T.get_set, tot]) fun n3 tm3 s3 td3 hn3 hT3 hx3 hrow g6 => ?_
  refine sl_Concat_q16.w hT3 (by omega) ?_
  simp -implicitDefEqProofs only [sl_Concat_r16, W_pure, W_mv, W_setF, g6]
  refine W.end' (rs := [2]) (vs := [.slice (some ⟨nb, 0, none⟩) (tot parts) C]) sl_Concat_S16_18 (.inl sl_Concat_E18) (by omega) sl_Concat_fn sl_Concat_res hx3.cx (by simp [T.get_set]) ?_
  refine q _ _ hx3.cx' ⟨⟨nb, 0, C, by rw [fl_length]; rfl, by rw [fl_length, hcc]; exact Nat.le_refl _, hok, hrow.row⟩, fun x hx => ?_⟩
  have : nb + 0 ≤ x := hx.1
  omega
end Go.Proofs.Ytofanlcjeohcjaa.Am
/- guard.Put, said of all states. -/
namespace Go.Proofs.Ytofanlcjeohcjaa.Am
open Go.RowKit

theorem ty_bb_el : elT envS 43 = some (1, 24, [.slice none 0 0]) := by kernel_rfl
theorem ty_u32_k : hasT envS 51 = true := by kernel_rfl
theorem ty_u8_k : intK envS 5 = some .u8 := by kernel_rfl
/-- A number's four bytes, the lowest first. -/
def le4 (n : Nat) : List Nat := [n % 256, n >>> 8 % 256, n >>> 16 % 256, n >>> 24 % 256]
/-- Bytes, and their sum behind them. -/
def gput (l : List Nat) : List Nat := l ++ le4 (crcMore 0 l)
theorem Byt.le4 (n : Nat) : Byt (le4 n) := fun x hx => by
  simp -implicitDefEqProofs only [Am.le4, List.mem_cons, List.not_mem_nil, or_false] at hx
  omega
theorem Byt.gput {l : List Nat} (h : Byt l) : Byt (gput l) := fun x hx => by
  rcases List.mem_append.1 hx with hx | hx
  · exact h x hx
  · exact Byt.le4 _ x hx
theorem guard_Put_spec {n : Nat} {s : St} {v : Value} {l : List Nat} {Q : Value → St → Prop} (hbd : s.lim ≤ s.next) (hn : 120 ≤ n) (h : Bn s v l) (hl : Byt l) (hz : l.length ≤ 900000)
    (q : ∀ s1 w, Ext (BsF v) Non s s1 → New s s1 w (gput l) → Q w s1) : W (callW envS (runF envS n) 64 [v]) s Q := by
  refine guard_Put_W fun tm h0 => ?_
  have hc : Bn (s.cxN cxN) v l := h.same rfl rfl
  refine guard_Put_q0.w rfl (by omega) ?_
  simp -implicitDefEqProofs only [guard_Put_r0, W_pure, W_mv, W_setF]
  refine guard_Put_q1.w guard_Put_S0_1 (by omega) ?_
  simp -implicitDefEqProofs only [guard_Put_r1, W_bind, W_on, W_pure, W_mv, W_setF, T.get_set, seqO_cons, seqO_nil, onO_some', W_callV, reduceIte, reduceCtorEq, ↓reduceIte, h0]
  refine guard_Sum_spec (by omega) hc hl (by omega) fun s1 m1 n1 x1 => ?_
  refine guard_Put_q2.w guard_Put_S1_2 (by omega) ?_
  generalize hS : crcMore 0 l = S
  simp -implicitDefEqProofs only [guard_Put_r2, W_bind, W_oS, W_on, W_pure, W_mv, W_setF, T.get_set, seqO_cons, seqO_nil, seqP_cons, seqP_nil, onO_some', W_callV, reduceIte, reduceCtorEq, ↓reduceIte, h0]
  simp -implicitDefEqProofs only [W_conv ty_u32_k ty_u8_k, wrap_u8, W_shr8 (k := .u32) (by decide), W_shr16 (k := .u32) (by decide), W_shr24 (k := .u32) (by decide)]
  have hb1 : s1.lim ≤ s1.next := x1.bnd hbd
  refine W.buildS hb1 (r := u8l (le4 S)) ty_b_el (by decide) rfl (capU_gt (by decide)) fun s2 n2 x2 r2 => ?_
  have hb2 : s2.lim ≤ s2.next := x2.bnd hb1
  obtain ⟨b, o, c, rfl, hv⟩ := hc
  refine W.buildS hb2 (r := [.slice (some ⟨b, o, none⟩) l.length c, .slice (some ⟨s1.next, 0, none⟩) 4 4]) ty_bb_el (by decide) rfl (capU_gt (by decide)) fun s3 n3 x3 r3 => ?_
  have hb3 : s3.lim ≤ s3.next := x3.bnd hb2
  have hx1 : Ext (BsF (.slice (some ⟨b, o, none⟩) l.length c)) Non (s.cxN cxN) s1 := x1
  have hx2 := hx1.step x2 hbd (fun _ _ h => h.elim) fun _ h => h.elim
  have hx3 := hx2.step x3 hbd (fun _ _ h => h.elim) fun _ h => h.elim
  have hBv : Bs s3 (.slice (some ⟨b, o, none⟩) l.length c) l := (Bn.bs ⟨b, o, c, rfl, hv⟩).ext0 hx3
  have hB4 : Bs s3 (.slice (some ⟨s1.next, 0, none⟩) 4 4) (le4 S) := (OwnRow.bn r2 (capU_gt (by simp [le4]))).ext0 x3
  have hlt : tot [((.slice (some ⟨b, o, none⟩) l.length c : Value), l), (.slice (some ⟨s1.next, 0, none⟩) 4 4, le4 S)] = l.length + 4 := by simp [tot, le4]
  refine sl_Concat_spec (parts := [(.slice (some ⟨b, o, none⟩) l.length c, l), (.slice (some ⟨s1.next, 0, none⟩) 4 4, le4 S)]) hb3 ⟨r3.row, fun p hp => ?_⟩ (by rw [hlt]; omega) (by rw [hlt]; omega) (by simp) (by simp; omega) fun s4 w x4 hw => ?_
  · rcases List.mem_cons.1 hp with rfl | hp
    · exact hBv
    · rcases List.mem_cons.1 hp with rfl | hp
      · exact hB4
      · cases hp
  have hx4 := hx3.step x4 hbd (fun x hx h => by
    have hn1 : s.next ≤ s1.next := x1.nxt
    have hn2 : s1.next ≤ s2.next := x2.nxt
    have hxl : x < s.lim := hx
    rcases h with h | ⟨p, hp, h⟩
    · have := h.1; omega
    · rcases List.mem_cons.1 hp with rfl | hp
      · exact h
      · rcases List.mem_cons.1 hp with rfl | hp
        · have : s1.next + 0 ≤ x := h.1
          omega
        · cases hp) fun _ h => h.elim
  refine W.end' (rs := [2]) (vs := [w]) guard_Put_S2_3 (.inl guard_Put_E3) (by omega) guard_Put_fn guard_Put_res hx4.cx (by simp [T.get_set]) ?_
  refine q _ _ hx4.cx' ⟨?_, fun x hx => ?_⟩
  · have := hw.bn.same (s' := s4.cxN s.cx) rfl rfl
    show Bn (s4.cxN s.cx) w (gput l)
    unfold gput
    rw [hS]
    simpa [fl] using this
  · have h1 := hw.new x hx
    have h2 : s.next ≤ s3.next := hx3.nxt
    omega
end Go.Proofs.Ytofanlcjeohcjaa.Am
/- slices.Equal at bytes, said of all states. -/
namespace Go.Proofs.Ytofanlcjeohcjaa.Am
open Go.RowKit

theorem Bs.at {s : St} {v : Value} {l : List Nat} (h : Bs s v l) {i : Nat} (hi : i < l.length) : ∃ b o c, v = .slice (some ⟨b, o, none⟩) l.length c ∧ At s b (o + i * 1) (u8 l[i]) ∧ (∀ x, x = b + (o + i * 1) → BsF v x) := by
  rcases h with ⟨rfl, rfl⟩ | ⟨b, o, c, rfl, _, _, h3⟩
  · simp at hi
  · refine ⟨b, o, c, rfl, ?_, fun x hx => ⟨by omega, by omega⟩⟩
    rw [Nat.mul_one]
    exact h3.at (List.getElem?_eq_getElem hi)
section
variable {va vb : Value} {la lb : List Nat}
theorem equal_loop {F : Nat → Prop} (hFa : ∀ x, BsF va x → F x) (hFb : ∀ x, BsF vb x → F x) {Q : Value × FrameMode → St → Prop} {s0 : St} (hb0 : s0.lim ≤ s0.next) (ha : Bs s0 va la) (hb : Bs s0 vb lb) (hlen : la.length = lb.length) (hz : la.length ≤ 4611686018427387904) (hcx : s0.cx = .cx none (some [])) (q : ∀ s1, Ext F Non s0 s1 → s1.mem = s0.mem → s1.next = s0.next → Q (.bool (decide (la = lb)), .run) s1) :
    ∀ (k i n : Nat) (tm : T Value) (s : St) (td : List Item), i + k = la.length → 7 * k + 20 ≤ n → skim 64 td = sl_Equal_P6 → Ext F Non s0 s → s.mem = s0.mem → s.next = s0.next → la.take i = lb.take i →
    T.get tm 0 = some va → T.get tm 1 = some vb → T.get tm 12 = some (.int .i64 (la.length : Nat)) → T.get tm 13 = some (.int .i64 (i : Nat)) →
    W (runF envS n ⟨116, sl_Equal_nt, sl_Equal_g, tm, td, .run, .normal, none⟩) s Q := by
  intro k
  induction k with
  | zero =>
    intro i n tm s td hi hn hT hx hm hnx heq h0 h1 h12 h13
    refine sl_Equal_q6.w hT (by omega) ?_
    simp -implicitDefEqProofs only [sl_Equal_r6, W_bind, W_oS, W_pure, W_setF, W_lss64, h12, h13]
    refine W.cond (v := false) sl_Equal_S6_7 sl_Equal_C7 (by simp [T.get_set]; omega) (by omega) (fun h => by cases h) fun _ => ?_
    refine sl_Equal_q9.w sl_Equal_S7_9 (by omega) ?_
    simp -implicitDefEqProofs only [sl_Equal_r9, W_pure, W_mv, W_setF]
    have e : la = lb := by
      rw [show i = la.length by omega, List.take_length, hlen, List.take_length] at heq
      exact heq
    refine W.end' (rs := [4]) (vs := [.bool true]) sl_Equal_S9_11 (.inl sl_Equal_E11) (by omega) sl_Equal_fn sl_Equal_res (hx.cx.trans hcx) (by simp [T.get_set]) ?_
    have := q s hx hm hnx
    rw [decide_eq_true e] at this
    exact this
  | succ k ih =>
    intro i n tm s td hi hn hT hx hm hnx heq h0 h1 h12 h13
    have hia : i < la.length := by omega
    have hib : i < lb.length := by omega
    obtain ⟨ba, oa, ca, rfl, ga, fa⟩ := ha.at hia
    obtain ⟨bb, ob, cb, rfl, gb, fb⟩ := hb.at hib
    refine sl_Equal_q6.w hT (by omega) ?_
    simp -implicitDefEqProofs only [sl_Equal_r6, W_bind, W_oS, W_pure, W_setF, W_lss64, h12, h13]
    refine W.cond (v := true) sl_Equal_S6_7 sl_Equal_C7 (by simp [T.get_set]; omega) (by omega) (fun _ => ?_) fun h => by cases h
    refine sl_Equal_q8.w sl_Equal_S7_8 (by omega) ?_
    simp -implicitDefEqProofs only [sl_Equal_r8, W_pure, W_mv, W_setF, T.get_set, reduceIte, Nat.reduceEqDiff, Nat.reduceEqDiff, ↓reduceIte, h13]
    refine sl_Equal_q10.w sl_Equal_S8_10 (by omega) ?_
    simp -implicitDefEqProofs only [sl_Equal_d10, T.get_set, Nat.reduceEqDiff, ↓reduceIte, h0, h1, oS_some, W_dpure]
    rw [W_dq fun s Q => W_idxSl (s := s) ty_b_sl hia Q]
    refine W.dload ty_u8_1 (ga.same hm hnx) fun rd1 hr1 => ?_
    simp -implicitDefEqProofs only [W_dpure]
    rw [W_dq fun s Q => W_idxSl (s := s) ty_b_sl hib Q]
    refine W.dload ty_u8_1 (gb.same hm hnx) fun rd2 hr2 => ?_
    rw [W_pure]
    refine ⟨apartM_q (by simp) (by simp), ?_⟩
    refine W.cast (sl_Equal_L10 _ _ _ _ _ _ _ _ _ _ _ _ _) ?_
    simp -implicitDefEqProofs only [W_bind, W_oS, W_pure, W_setT, W_neqU8]
    generalize hs' : (⟨(dSt s.mem s.next).mem, (dSt s.mem s.next).next, s.lim, _, _, s.cx⟩ : St) = s'
    have hx' : Ext F Non s0 s' := by
      rw [← hs']
      refine hx.trans (Ext.draw (F := F) (Nat.le_refl _) (fun _ _ => rfl) (by simp) (by
        simp -implicitDefEqProofs only [List.mem_cons, List.not_mem_nil, or_false]
        rintro m (rfl | rfl | rfl | rfl | rfl | rfl | rfl | rfl) x hx _ <;> first | (exact hFa _ (fa _ (hr1 _ hx))) | (exact hFb _ (fb _ (hr2 _ hx))) | (cases hx))) hb0 (fun _ _ h => h) fun _ _ h => h
    have hm' : s'.mem = s0.mem := by rw [← hs']; exact hm
    have hn' : s'.next = s0.next := by rw [← hs']; exact hnx
    by_cases he : la[i] = lb[i]
    · refine W.cond (v := false) sl_Equal_S10_12 sl_Equal_C12 (by simp [T.get_set, he]) (by omega) (fun h => by cases h) fun _ => ?_
      refine sl_Equal_q14.w sl_Equal_S12_14 (by omega) ?_
      have ei : wrap64 ((i : Nat) + 1 : Int) = ((i + 1 : Nat) : Int) := by
        rw [wrap64_id (by omega) (by omega)]; simp
      simp -implicitDefEqProofs only [sl_Equal_r14, W_bind, W_oS, W_pure, W_mv, W_setF, T.get_set, reduceIte, Nat.reduceEqDiff, Nat.reduceEqDiff, ↓reduceIte, W_add64, h13, ei]
      refine ih (i + 1) _ _ _ _ (by omega) (by omega) sl_Equal_S14_6 hx' hm' hn' ?_ (by simp [T.get_set, h0]) (by simp [T.get_set, h1]) (by simp [T.get_set, h12]) (by simp [T.get_set])
      rw [List.take_add_one, List.take_add_one, heq, List.getElem?_eq_getElem hia, List.getElem?_eq_getElem hib, he]
    · refine W.cond (v := true) sl_Equal_S10_12 sl_Equal_C12 (by simp [T.get_set, he]) (by omega) (fun _ => ?_) fun h => by cases h
      refine sl_Equal_q13.w sl_Equal_S12_13 (by omega) ?_
      simp -implicitDefEqProofs only [sl_Equal_r13, W_pure, W_mv, W_setF]
      have e : la ≠ lb := by
        intro e
        subst e
        exact he rfl
      refine W.end' (rs := [4]) (vs := [.bool false]) sl_Equal_S13_15 (.inl sl_Equal_E15) (by omega) sl_Equal_fn sl_Equal_res (hx'.cx.trans hcx) (by simp [T.get_set]) ?_
      have := q s' hx' hm' hn'
      rw [decide_eq_false e] at this
      exact this
theorem sl_Equal_spec {n : Nat} {s : St} {Q : Value → St → Prop} (hbd : s.lim ≤ s.next) (ha : Bs s va la) (hb : Bs s vb lb) (hz : la.length ≤ 4611686018427387904) (hn : 7 * la.length + 40 ≤ n)
    (q : ∀ s1, Ext (fun x => BsF va x ∨ BsF vb x) Non s s1 → s1.mem = s.mem → s1.next = s.next → Q (.bool (decide (la = lb))) s1) : W (callW envS (runF envS n) 116 [va, vb]) s Q := by
  refine sl_Equal_W fun tm h0 h1 => ?_
  have ha' : Bs (s.cxN cxN) va la := ha.same rfl rfl
  have hb' : Bs (s.cxN cxN) vb lb := hb.same rfl rfl
  refine sl_Equal_q0.w rfl (by omega) ?_
  simp -implicitDefEqProofs only [sl_Equal_r0, W_pure, W_mv, W_setF]
  refine sl_Equal_q1.w sl_Equal_S0_1 (by omega) ?_
  simp -implicitDefEqProofs only [sl_Equal_r1, W_bind, W_oS, W_pure, W_mv, W_setF, T.get_set, seqO_cons, seqO_nil, onO_some', reduceIte, Nat.reduceEqDiff, Nat.reduceEqDiff, reduceCtorEq, ↓reduceIte, W_neq64, h0, h1, ha'.len ty_b_sl, hb'.len ty_b_sl]
  by_cases hlen : la.length = lb.length
  · refine W.cond (v := false) sl_Equal_S1_2 sl_Equal_C2 (by simp [T.get_set, hlen]) (by omega) (fun h => by cases h) fun _ => ?_
    refine sl_Equal_q4.w sl_Equal_S2_4 (by omega) ?_
    simp -implicitDefEqProofs only [sl_Equal_r4, W_bind, W_oS, W_pure, W_mv, W_setF, T.get_set, seqO_cons, seqO_nil, onO_some', reduceIte, reduceCtorEq, ↓reduceIte, h0, ha'.len ty_b_sl]
    exact equal_loop (s0 := s.cxN cxN) (F := fun x => BsF va x ∨ BsF vb x) (fun _ h => .inl h) (fun _ h => .inr h) hbd ha' hb' hlen hz rfl (fun s1 x1 m1 n1 => q _ x1.cx' m1 n1) la.length 0 _ _ _ _ (by omega) (by omega) sl_Equal_S4_6 (Ext.refl _) rfl rfl (by simp) (by simp [T.get_set, h0]) (by simp [T.get_set, h1]) (by simp [T.get_set]) (by simp [T.get_set])
  · refine W.cond (v := true) sl_Equal_S1_2 sl_Equal_C2 (by simp [T.get_set]; omega) (by omega) (fun _ => ?_) fun h => by cases h
    refine sl_Equal_q3.w sl_Equal_S2_3 (by omega) ?_
    simp -implicitDefEqProofs only [sl_Equal_r3, W_pure, W_mv, W_setF]
    have e : la ≠ lb := fun e => hlen (by rw [e])
    refine W.end' (rs := [4]) (vs := [.bool false]) sl_Equal_S3_5 (.inl sl_Equal_E5) (by omega) sl_Equal_fn sl_Equal_res rfl (by simp [T.get_set]) ?_
    have := q _ (Ext.refl s) rfl rfl
    rw [decide_eq_false e] at this
    exact this
end
end Go.Proofs.Ytofanlcjeohcjaa.Am
/- slices.Clone at bytes, guard.Check, said of all states. -/
namespace Go.Proofs.Ytofanlcjeohcjaa.Am
open Go.RowKit

theorem Fresh1.toNew {s s' : St} {v : Value} {b : Nat} {l : List Nat} (h : Fresh1 s s' 1 l.length (u8l l) v b) (hl : l.length < capU) : New s s' v l := by
  obtain ⟨rfl, hnew, hown, _, _, _⟩ := h
  refine ⟨⟨b, 0, _, rfl, by rw [mark_mod hl]; exact Nat.le_refl _, mark_ok hl (by decide), hown.row⟩, fun x hx => ?_⟩
  have : b + 0 ≤ x := hx.1
  omega
theorem sl_Clone_spec {n : Nat} {s : St} {v : Value} {l : List Nat} {Q : Value → St → Prop} (hbd : s.lim ≤ s.next) (h : Bn s v l) (hz : l.length ≤ 1000000) (hn : 30 ≤ n)
    (q : ∀ s1 w, Ext (BsF v) Non s s1 → New s s1 w l → Q w s1) : W (callW envS (runF envS n) 117 [v]) s Q := by
  refine sl_Clone_W fun tm h0 => ?_
  have hc : Bn (s.cxN cxN) v l := h.same rfl rfl
  refine sl_Clone_q0.w rfl (by omega) ?_
  simp -implicitDefEqProofs only [sl_Clone_r0, W_pure, W_mv, W_setF]
  refine sl_Clone_q1.w sl_Clone_S0_1 (by omega) ?_
  obtain ⟨b, o, c, rfl, hv⟩ := hc
  simp -implicitDefEqProofs only [sl_Clone_r1, W_bind, W_oS, W_pure, W_mv, W_setF, T.get_set, reduceIte, reduceCtorEq, ↓reduceIte, h0, W_eqNil ty_b_sl]
  refine W.cond (v := false) sl_Clone_S1_2 sl_Clone_C2 (by simp [T.get_set]) (by omega) (fun h => by cases h) fun _ => ?_
  refine sl_Clone_q4.w sl_Clone_S2_4 (by omega) ?_
  simp -implicitDefEqProofs only [sl_Clone_r4, W_bind, W_oS, W_pure, W_mv, W_setF, T.get_set, seqO_cons, seqO_nil, seqP_nil, onO_some', reduceIte, reduceCtorEq, ↓reduceIte, h0]
  refine W.buildS (s := s.cxN cxN) hbd (r := []) ty_b_el (by decide) rfl (capU_gt (by decide)) fun s1 n1 x1 r1 => ?_
  have hb1 : s1.lim ≤ s1.next := x1.bnd hbd
  have hx1 : Ext (BsF (.slice (some ⟨b, o, none⟩) l.length c)) Non (s.cxN cxN) s1 := x1.weak hbd (fun _ _ h => h.elim) fun _ _ h => h
  have hv1 : Bs s1 (.slice (some ⟨b, o, none⟩) l.length c) l := (Bn.bs ⟨b, o, c, rfl, hv⟩).ext0 hx1
  rw [W_app]
  by_cases hl : 0 < l.length
  · refine W.appEmp hb1 ty_b_ap hv1.src.g hl (by decide) (by decide) (by omega) (by rw [u8l_length, Nat.mul_one]) (u8l_one _) fun s2 w nb hf x2 => ?_
    have hx2 := hx1.step x2 hbd (fun _ _ h => h) fun _ h => h.elim
    refine W.end' (rs := [2]) (vs := [w]) sl_Clone_S4_6 (.inl sl_Clone_E6) (by omega) sl_Clone_fn sl_Clone_res hx2.cx (by simp [T.get_set]) ?_
    have hN := hf.toNew (capU_gt (by omega))
    refine q _ _ hx2.cx' ⟨hN.bn.same rfl rfl, fun x hx => ?_⟩
    have h1 := hN.new x hx
    have h2 : s.next ≤ s1.next := hx1.nxt
    omega
  · have h0l : l = [] := List.eq_nil_of_length_eq_zero (by omega)
    subst h0l
    refine W.appIn (s := s1) (n := 0) (len := 0) (c := 0) (l := []) ty_b_ap hv1.src.g (by simp) rfl rfl (fun i hi => absurd hi (by omega)) fun s2 n2 x2 r2 => ?_
    have hx2 := hx1.step x2 hbd (fun _ _ h => by
      rcases h with h | h
      · exact h
      · have h3 := h.1; have h4 := h.2; omega) fun l h => by have h3 := h.1; have h4 := h.2; omega
    refine W.end' (rs := [2]) (vs := [.slice (some ⟨s.next, 0, none⟩) (0 + 0) 0]) sl_Clone_S4_6 (.inl sl_Clone_E6) (by omega) sl_Clone_fn sl_Clone_res hx2.cx (by simp [T.get_set]; rfl) ?_
    refine q _ _ hx2.cx' ⟨⟨s.next, 0, 0, rfl, by simp, sizeOk_exact (by unfold capU; decide), fun i v e => by simp at e⟩, fun x hx => ?_⟩
    have h3 : s.next + 0 ≤ x := hx.1
    have h4 : x < s.next + 0 + (0 + 0) := hx.2
    omega
end Go.Proofs.Ytofanlcjeohcjaa.Am
/- guard.Check, said of all states. -/
namespace Go.Proofs.Ytofanlcjeohcjaa.Am
open Go.RowKit

/-- A part of bytes. -/
theorem W.cut {E : Env} {t : Nat} {s : St} {v : Value} {l : List Nat} {i j : Nat} {lo hi : Option Value} {Q : Value → St → Prop} (h : Bn s v l) (ht : slN E t = some 1) (hlo : bndV lo 0 = some i) (hhi : bndV hi l.length = some j) (hij : i ≤ j) (hj : j ≤ l.length)
    (q : ∀ v', Bn s v' ((l.take j).drop i) → (∀ x, BsF v' x → BsF v x) → Q v' s) : W (aSlice E t v lo hi) s Q := by
  obtain ⟨b, o, c, rfl, h1, h2, h3⟩ := h
  rw [W_slSl ht hlo hhi hij (by omega) h2]
  obtain ⟨o', e1, e2, e3, e4, e5⟩ := Bs.sub' hij hj h1 h2 h3
  rw [e1]
  refine q _ ⟨b, o', c - i, rfl, e2, e3, e4⟩ fun x hx => ?_
  have hlen : ((l.take j).drop i).length = j - i := by rw [List.length_drop, List.length_take]; omega
  have h6 : b + o' ≤ x := hx.1
  have h7 : x < b + o' + ((l.take j).drop i).length := hx.2
  rw [hlen] at h7
  rcases e5 with rfl | e5
  · exact ⟨by omega, by omega⟩
  · rw [hlen] at e5; omega
/-- Are bytes guarded by the sum behind them? -/
def GOk (l : List Nat) : Prop := 4 ≤ l.length ∧ gput (l.take (l.length - 4)) = l
instance (l : List Nat) : Decidable (GOk l) := by unfold GOk; infer_instance
theorem gput_length (l : List Nat) : (gput l).length = l.length + 4 := by simp [gput, le4]
theorem guard_Check_spec {n : Nat} {s : St} {v : Value} {l : List Nat} {Q : Value → St → Prop} (hbd : s.lim ≤ s.next) (h : Bn s v l) (hb : Byt l) (hz : l.length ≤ 900000) (hn : 7 * l.length + 200 ≤ n)
    (q1 : GOk l → ∀ s1 w, Ext (BsF v) Non s s1 → New s s1 w (l.take (l.length - 4)) → Q (.tuple #[w, .int .i64 0]) s1) (q2 : ¬ GOk l → ∀ s1, Ext (BsF v) Non s s1 → Q (.tuple #[.slice none 0 0, .int .i64 4]) s1) : W (callW envS (runF envS n) 81 [v]) s Q := by
  refine guard_Check_W fun tm h0 => ?_
  have hc : Bn (s.cxN cxN) v l := h.same rfl rfl
  refine guard_Check_q0.w rfl (by omega) ?_
  simp -implicitDefEqProofs only [guard_Check_r0, W_pure, W_mv, W_setF]
  refine guard_Check_q1.w guard_Check_S0_1 (by omega) ?_
  simp -implicitDefEqProofs only [guard_Check_r1, W_bind, W_oS, W_pure, W_mv, W_setF, T.get_set, seqO_cons, seqO_nil, onO_some', reduceIte, reduceCtorEq, ↓reduceIte, W_sub64, h0, hc.bs.len ty_b_sl]
  refine guard_Check_q2.w guard_Check_S1_2 (by omega) ?_
  by_cases h4 : 4 ≤ l.length
  · have ek : wrap64 ((l.length : Nat) - 4 : Int) = ((l.length - 4 : Nat) : Int) := by
      rw [wrap64_id (by omega) (by omega)]; omega
    have ed : decide (((l.length - 4 : Nat) : Int) < 0) = false := by simp
    simp -implicitDefEqProofs only [guard_Check_r2, W_bind, W_oS, W_on, W_pure, W_mv, W_setF, T.get_set, seqO_cons, seqO_nil, onO_some', W_callV, reduceIte, isK_bool, isB_ff, W_chk, W_ifT, W_pick, reduceCtorEq, ↓reduceIte, W_lss64, h0, ek, ed]
    have hcut : (l.take (l.length - 4)).drop 0 = l.take (l.length - 4) := rfl
    refine W.cut hc ty_b_sl (i := 0) (j := l.length - 4) rfl rfl (Nat.zero_le _) (by omega) fun v1 hv1 hF1 => ?_
    rw [hcut] at hv1
    have hB1 : Byt (l.take (l.length - 4)) := fun x hx => hb x (List.mem_of_mem_take hx)
    have hl1 : (l.take (l.length - 4)).length = l.length - 4 := by rw [List.length_take]; omega
    refine guard_Put_spec (s := s.cxN cxN) hbd (by omega) hv1 hB1 (by omega) fun s1 w1 x1 hw1 => ?_
    have hb1 : s1.lim ≤ s1.next := x1.bnd hbd
    have hx1 : Ext (BsF v) Non (s.cxN cxN) s1 := x1.weak hbd (fun x _ hx => hF1 x hx) fun _ _ h => h
    refine sl_Equal_spec hb1 hw1.bn.bs (hc.ext0 hx1).bs (by rw [gput_length]; omega) (by rw [gput_length]; omega) fun s2 x2 m2 n2 => ?_
    have hx2 : Ext (BsF v) Non (s.cxN cxN) s2 := hx1.step x2 hbd (fun x hx h => by
      rcases h with h | h
      · have h5 : s.next ≤ x := hw1.new x h
        have h6 : x < s.lim := hx
        omega
      · exact h) fun _ h => h.elim
    have hb2 : s2.lim ≤ s2.next := hx2.bnd hbd
    simp -implicitDefEqProofs only [W_not]
    by_cases hg : gput (l.take (l.length - 4)) = l
    · refine W.cond (v := false) guard_Check_S2_3 guard_Check_C3 (by simp [T.get_set, hg]) (by omega) (fun h => by cases h) fun _ => ?_
      refine guard_Check_q5.w guard_Check_S3_5 (by omega) ?_
      simp -implicitDefEqProofs only [guard_Check_r5, W_bind, W_on, W_pure, W_mv, W_setF, T.get_set, seqO_cons, seqO_nil, onO_some', W_callV, reduceIte, Nat.reduceEqDiff, Nat.reduceEqDiff, reduceCtorEq, ↓reduceIte, h0]
      refine W.cut (hc.ext0 hx2) ty_b_sl (i := 0) (j := l.length - 4) rfl rfl (Nat.zero_le _) (by omega) fun v3 hv3 hF3 => ?_
      rw [hcut] at hv3
      refine sl_Clone_spec hb2 hv3 (by omega) (by omega) fun s3 w x3 hw3 => ?_
      have hx3 : Ext (BsF v) Non (s.cxN cxN) s3 := hx2.step x3 hbd (fun x _ hx => hF3 x hx) fun _ h => h.elim
      refine W.end' (rs := [2, 3]) (vs := [w, .int .i64 0]) guard_Check_S5_7 (.inl guard_Check_E7) (by omega) guard_Check_fn guard_Check_res hx3.cx (by simp [T.get_set]) ?_
      refine q1 ⟨h4, hg⟩ _ w hx3.cx' ⟨hw3.bn.same rfl rfl, fun x hx => ?_⟩
      have h5 := hw3.new x hx
      have h6 : s.next ≤ s2.next := hx2.nxt
      omega
    · refine W.cond (v := true) guard_Check_S2_3 guard_Check_C3 (by simp [T.get_set, hg]) (by omega) (fun _ => ?_) fun h => by cases h
      refine guard_Check_q4.w guard_Check_S3_4 (by omega) ?_
      simp -implicitDefEqProofs only [guard_Check_r4, W_pure, W_mv, W_setF]
      refine W.end' (rs := [2, 3]) (vs := [.slice none 0 0, .int .i64 4]) guard_Check_S4_6 (.inl guard_Check_E6) (by omega) guard_Check_fn guard_Check_res hx2.cx (by simp [T.get_set]) ?_
      exact q2 (fun h => hg h.2) _ hx2.cx'
  · have ed : decide (wrap64 ((l.length : Nat) - 4 : Int) < 0) = true := by
      rw [wrap64_id (by omega) (by omega)]; simp; omega
    simp -implicitDefEqProofs only [guard_Check_r2, W_bind, W_oS, W_on, W_pure, W_mv, W_setF, T.get_set, seqO_cons, seqO_nil, onO_some', reduceIte, isK_bool, isB_tf, W_chk, W_ifF, W_pick, reduceCtorEq, ↓reduceIte, W_lss64, h0, ed]
    refine W.cond (v := true) guard_Check_S2_3 guard_Check_C3 (by simp [T.get_set]) (by omega) (fun _ => ?_) fun h => by cases h
    refine guard_Check_q4.w guard_Check_S3_4 (by omega) ?_
    simp -implicitDefEqProofs only [guard_Check_r4, W_pure, W_mv, W_setF]
    refine W.end' (rs := [2, 3]) (vs := [.slice none 0 0, .int .i64 4]) guard_Check_S4_6 (.inl guard_Check_E6) (by omega) guard_Check_fn guard_Check_res rfl (by simp [T.get_set]) ?_
    exact q2 (fun h => h4 h.1) _ (Ext.refl s)
end Go.Proofs.Ytofanlcjeohcjaa.Am
/- What each region of some functions comes to, as a word of the evaluator: equations, each checked by the kernel. Printed by a program. -/
namespace Go.Proofs.Ytofanlcjeohcjaa.Am
open Go.RowKit

/-! ### satchel/digest.New -/
noncomputable def digest_New_g : Nat := globOf Try.f110
noncomputable def digest_New_body : Code := Try.f110.body.getD .skip
theorem digest_New_fn : envS.fn.get 110 = some Try.f110 := by kernel_rfl
theorem digest_New_W {n : Nat} {s : St} {Q : Value → St → Prop} (h : ∀ tm, W (runF envS n ⟨110, 4, digest_New_g, tm, [.code digest_New_body], .run, .normal, none⟩) (s.cxN cxN) fun p s1 => Q p.1 (s1.cxN s.cx)) : W (callW envS (runF envS n) 110 []) s Q :=
  W.call (by kernel_rfl) (by kernel_rfl) digest_New_fn (by kernel_rfl) rfl rfl (by simp) (h _ )
theorem digest_New_res : Try.f110.results.toList = [.tmp 0] := by kernel_rfl
noncomputable def digest_New_P0 : List Item := skim 64 [.code digest_New_body]
noncomputable def digest_New_P1 : List Item := skim 64 digest_New_P0.tail
theorem digest_New_S0_1 : skim 64 digest_New_P0.tail = digest_New_P1 := by kernel_rfl
noncomputable def digest_New_P2 : List Item := skim 64 digest_New_P1.tail
theorem digest_New_S1_2 : skim 64 digest_New_P1.tail = digest_New_P2 := by kernel_rfl
/-- digest.go:83 -/
noncomputable def digest_New_r0 (E : Env) (call round : CallT) (tm : T Value) : M (T Value) :=
  mv (some (.pointer none)) fun v0 =>
  setF 0 v0 tm fun tm1 =>
  M.pure tm1
theorem digest_New_q0 : RegEq 110 4 digest_New_g digest_New_P0 digest_New_r0 := ⟨by kernel_rfl, fun _ _ _ _ _ _ _ _ _ => by kernel_rfl⟩
/-- digest.go:83 -/
noncomputable def digest_New_r1 (E : Env) (call round : CallT) (tm : T Value) : M (T Value) :=
  M.bind (M.on (some (.func (.func 133) #[] #[])) fun f => M.on (seqO []) fun l => callV call round f l) fun v1 =>
  M.bind (oS (seqP [(0, (some (.bool true))), (1, (some v1))]) fun ps => aBuild E 167 ps) fun v2 =>
  M.bind (oS (some v2) fun a => kBox a) fun v3 =>
  mv (some v3) fun v0 =>
  setF 0 v0 tm fun tm1 =>
  M.pure tm1
theorem digest_New_q1 : RegEq 110 4 digest_New_g digest_New_P1 digest_New_r1 := ⟨by kernel_rfl, fun _ _ _ _ _ _ _ _ _ => by kernel_rfl⟩
theorem digest_New_E2 : ∃ k, digest_New_P2 = .code .ret :: k := ⟨digest_New_P2.tail, by kernel_rfl⟩
-- points: 0:region>[1], 1:region>[2], 2:ret>

/-! ### satchel/digest.first -/
noncomputable def digest_first_g : Nat := globOf Try.f133
noncomputable def digest_first_body : Code := Try.f133.body.getD .skip
theorem digest_first_fn : envS.fn.get 133 = some Try.f133 := by kernel_rfl
theorem digest_first_W {n : Nat} {s : St} {Q : Value → St → Prop} (h : ∀ tm, W (runF envS n ⟨133, 2, digest_first_g, tm, [.code digest_first_body], .run, .normal, none⟩) (s.cxN cxN) fun p s1 => Q p.1 (s1.cxN s.cx)) : W (callW envS (runF envS n) 133 []) s Q :=
  W.call (by kernel_rfl) (by kernel_rfl) digest_first_fn (by kernel_rfl) rfl rfl (by simp) (h _ )
theorem digest_first_res : Try.f133.results.toList = [.cell 0 163] := by kernel_rfl
noncomputable def digest_first_P0 : List Item := skim 64 [.code digest_first_body]
noncomputable def digest_first_P1 : List Item := skim 64 digest_first_P0.tail
theorem digest_first_S0_1 : skim 64 digest_first_P0.tail = digest_first_P1 := by kernel_rfl
noncomputable def digest_first_P2 : List Item := skim 64 digest_first_P1.tail
theorem digest_first_S1_2 : skim 64 digest_first_P1.tail = digest_first_P2 := by kernel_rfl
/-- digest.go:14 -/
noncomputable def digest_first_r0 (E : Env) (call round : CallT) (tm : T Value) : M (T Value) :=
  M.bind (kAlloc E 163) fun v0 =>
  setF 0 v0 tm fun tm1 =>
  M.pure tm1
theorem digest_first_q0 : RegEq 133 2 digest_first_g digest_first_P0 digest_first_r0 := ⟨by kernel_rfl, fun _ _ _ _ _ _ _ _ _ => by kernel_rfl⟩
/-- digest.go:15 -/
noncomputable def digest_first_r1 (E : Env) (call round : CallT) (tm : T Value) : M (T Value) :=
  M.bind (oS (seqP [(0, (some (.int .u32 1779033703))), (1, (some (.int .u32 3144134277))), (2, (some (.int .u32 1013904242))), (3, (some (.int .u32 2773480762))), (4, (some (.int .u32 1359893119))), (5, (some (.int .u32 2600822924))), (6, (some (.int .u32 528734635))), (7, (some (.int .u32 1541459225)))]) fun ps => aBuild E 163 ps) fun v1 =>
  M.bind (oS (T.get tm 0) fun a => oS (some v1) fun b => kStore E 163 a b) fun _ =>
  M.pure tm
theorem digest_first_q1 : RegEq 133 2 digest_first_g digest_first_P1 digest_first_r1 := ⟨by kernel_rfl, fun _ _ _ _ _ _ _ _ _ => by kernel_rfl⟩
theorem digest_first_E2 : ∃ k, digest_first_P2 = .code .ret :: k := ⟨digest_first_P2.tail, by kernel_rfl⟩
-- points: 0:region>[1], 1:region>[2], 2:ret>

/-! ### (*satchel/digest.Digest).Write -/
noncomputable def digest_Write_g : Nat := globOf Try.f111
abbrev digest_Write_nt : Nat := 57
noncomputable def digest_Write_body : Code := Try.f111.body.getD .skip
theorem digest_Write_fn : envS.fn.get 111 = some Try.f111 := by kernel_rfl
theorem digest_Write_W {a0 a1 : Value} {n : Nat} {s : St} {Q : Value → St → Prop} (h : ∀ tm, T.get tm 0 = some a0 → T.get tm 1 = some a1 → W (runF envS n ⟨111, 57, digest_Write_g, tm, [.code digest_Write_body], .run, .normal, none⟩) (s.cxN cxN) fun p s1 => Q p.1 (s1.cxN s.cx)) : W (callW envS (runF envS n) 111 [a0, a1]) s Q :=
  W.call (by kernel_rfl) (by kernel_rfl) digest_Write_fn (by kernel_rfl) rfl rfl (by simp) (h _ (by kernel_rfl) (by kernel_rfl))
theorem digest_Write_res : Try.f111.results.toList = [] := by kernel_rfl
noncomputable def digest_Write_P0 : List Item := skim 64 [.code digest_Write_body]
noncomputable def digest_Write_P1 : List Item := skim 64 digest_Write_P0.tail
theorem digest_Write_S0_1 : skim 64 digest_Write_P0.tail = digest_Write_P1 := by kernel_rfl
noncomputable def digest_Write_P3 : List Item := skim 64 (brF digest_Write_P1)
theorem digest_Write_S1_3 : skim 64 (brF digest_Write_P1) = digest_Write_P3 := by kernel_rfl
noncomputable def digest_Write_P4 : List Item := skim 64 digest_Write_P3.tail
theorem digest_Write_S3_4 : skim 64 digest_Write_P3.tail = digest_Write_P4 := by kernel_rfl
noncomputable def digest_Write_P5 : List Item := skim 64 (brT digest_Write_P4)
theorem digest_Write_S4_5 : skim 64 (brT digest_Write_P4) = digest_Write_P5 := by kernel_rfl
noncomputable def digest_Write_P6 : List Item := skim 64 (brF digest_Write_P4)
theorem digest_Write_S4_6 : skim 64 (brF digest_Write_P4) = digest_Write_P6 := by kernel_rfl
noncomputable def digest_Write_P7 : List Item := skim 64 digest_Write_P5.tail
theorem digest_Write_S5_7 : skim 64 digest_Write_P5.tail = digest_Write_P7 := by kernel_rfl
noncomputable def digest_Write_P8 : List Item := skim 64 digest_Write_P7.tail
theorem digest_Write_S7_8 : skim 64 digest_Write_P7.tail = digest_Write_P8 := by kernel_rfl
noncomputable def digest_Write_P9 : List Item := skim 64 digest_Write_P8.tail
theorem digest_Write_S8_9 : skim 64 digest_Write_P8.tail = digest_Write_P9 := by kernel_rfl
noncomputable def digest_Write_P10 : List Item := skim 64 digest_Write_P9.tail
theorem digest_Write_S9_10 : skim 64 digest_Write_P9.tail = digest_Write_P10 := by kernel_rfl
noncomputable def digest_Write_P11 : List Item := skim 64 digest_Write_P10.tail
theorem digest_Write_S10_11 : skim 64 digest_Write_P10.tail = digest_Write_P11 := by kernel_rfl
noncomputable def digest_Write_P12 : List Item := skim 64 (brT digest_Write_P11)
theorem digest_Write_S11_12 : skim 64 (brT digest_Write_P11) = digest_Write_P12 := by kernel_rfl
theorem digest_Write_S11_3 : skim 64 (brF digest_Write_P11) = digest_Write_P3 := by kernel_rfl
theorem digest_Write_S12_3 : skim 64 digest_Write_P12.tail = digest_Write_P3 := by kernel_rfl
/-- digest.go:87 -/
noncomputable def digest_Write_r0 (E : Env) (call round : CallT) (tm : T Value) : M (T Value) :=
  mv (T.get tm 0) fun v6 =>
  M.bind (oS (some v6) fun a => oS (some (.pointer none)) fun b => Cl.get (aBin E .eql 145 (.tmp 6) (.const (.pointer none))) a b) fun v7 =>
  mv (some v7) fun v8 =>
  M.bind (M.chk (isK v8) (M.if (isB v8 false) (oS (T.get tm 0) fun a => M.pure a) (M.pure undef))) fun v9 =>
  M.bind (M.chk (isK v8) (M.if (isB v8 false) (oS (some v9) fun a => kNil a) (M.pure undef))) fun v10 =>
  M.bind (M.chk (isK v8) (M.if (isB v8 false) (oS (some v10) fun a => kFld E 167 a 0) (M.pure undef))) fun v11 =>
  M.bind (M.chk (isK v8) (M.if (isB v8 false) (oS (some v11) fun a => kLoad E 4 a) (M.pure undef))) fun v12 =>
  M.bind (M.chk (isK v8) (M.if (isB v8 false) (oS (some v12) fun a => kUn E.P .not a) (M.pure undef))) fun v13 =>
  M.bind (M.on (some v8) fun a => M.on (some (.bool true)) fun b => M.on (some v13) fun c => kPick a b c) fun v14 =>
  setF 14 v14 tm fun tm1 =>
  M.pure tm1
theorem digest_Write_q0 : RegEq 111 57 digest_Write_g digest_Write_P0 digest_Write_r0 := ⟨by kernel_rfl, fun _ _ _ _ _ _ _ _ _ => by kernel_rfl⟩
theorem digest_Write_C1 : condX digest_Write_P1 = some 14 := by kernel_rfl
/-- digest.go:90 -/
noncomputable def digest_Write_r3 (E : Env) (call round : CallT) (tm : T Value) : M (T Value) :=
  mv (T.get tm 1) fun v15 =>
  M.bind (oS (seqO [(some v15)]) fun l => aBuiltin E .len [22] l) fun v16 =>
  M.bind (oS (some v16) fun a => oS (some (.int .i64 0)) fun b => Cl.get (aBin E .gtr 3 (.tmp 16) (.const (.int .i64 0))) a b) fun v17 =>
  setF 17 v17 tm fun tm1 =>
  M.pure tm1
theorem digest_Write_q3 : RegEq 111 57 digest_Write_g digest_Write_P3 digest_Write_r3 := ⟨by kernel_rfl, fun _ _ _ _ _ _ _ _ _ => by kernel_rfl⟩
theorem digest_Write_C4 : condX digest_Write_P4 = some 17 := by kernel_rfl
/-- digest.go:91 -/
noncomputable def digest_Write_r5 (E : Env) (call round : CallT) (tm : T Value) : M (T Value) :=
  mv (T.get tm 0) fun v18 =>
  M.bind (oS (some v18) fun a => kNil a) fun v19 =>
  M.bind (oS (some v19) fun a => kFld E 167 a 3) fun v20 =>
  M.bind (oS (some v20) fun a => kLoad E 3 a) fun v21 =>
  M.bind (oS (some v21) fun a => oS (some (.int .i64 64)) fun b => Cl.get (aBin E .rem 3 (.tmp 21) (.const (.int .i64 64))) a b) fun v22 =>
  mv (some v22) fun v4 =>
  setF 4 v4 tm fun tm1 =>
  M.pure tm1
theorem digest_Write_q5 : RegEq 111 57 digest_Write_g digest_Write_P5 digest_Write_r5 := ⟨by kernel_rfl, fun _ _ _ _ _ _ _ _ _ => by kernel_rfl⟩
-- P6: the end
/-- digest.go:92 -/
noncomputable def digest_Write_r7 (E : Env) (call round : CallT) (tm : T Value) : M (T Value) :=
  mv (T.get tm 0) fun v23 =>
  M.bind (oS (some v23) fun a => kNil a) fun v24 =>
  M.bind (oS (some v24) fun a => kFld E 167 a 2) fun v25 =>
  mv (T.get tm 4) fun v26 =>
  M.bind (M.on (some v25) fun a => M.on (onO (some v26) fun v => some (some v)) fun b => M.on (some none) fun c => aSlice E 165 a b c) fun v27 =>
  mv (T.get tm 1) fun v28 =>
  M.bind (oS (seqO [(some v27), (some v28)]) fun l => aBuiltin E .copy [22, 22] l) fun v29 =>
  mv (some v29) fun v5 =>
  setF 5 v5 tm fun tm1 =>
  M.pure tm1
theorem digest_Write_q7 : RegEq 111 57 digest_Write_g digest_Write_P7 digest_Write_r7 := ⟨by kernel_rfl, fun _ _ _ _ _ _ _ _ _ => by kernel_rfl⟩
/-- digest.go:93 -/
noncomputable def digest_Write_r8 (E : Env) (call round : CallT) (tm : T Value) : M (T Value) :=
  mv (T.get tm 1) fun v30 =>
  mv (T.get tm 5) fun v31 =>
  M.bind (M.on (some v30) fun a => M.on (onO (some v31) fun v => some (some v)) fun b => M.on (some none) fun c => aSlice E 22 a b c) fun v32 =>
  mv (some v32) fun v1 =>
  setF 1 v1 tm fun tm1 =>
  M.pure tm1
theorem digest_Write_q8 : RegEq 111 57 digest_Write_g digest_Write_P8 digest_Write_r8 := ⟨by kernel_rfl, fun _ _ _ _ _ _ _ _ _ => by kernel_rfl⟩
/-- digest.go:94 -/
noncomputable def digest_Write_r9 (E : Env) (call round : CallT) (tm : T Value) : M (T Value) :=
  mv (T.get tm 0) fun v33 =>
  M.bind (oS (some v33) fun a => kNil a) fun v34 =>
  M.bind (oS (some v34) fun a => kFld E 167 a 3) fun v35 =>
  M.bind (oS (some v35) fun a => kLoad E 3 a) fun v36 =>
  mv (T.get tm 5) fun v37 =>
  M.bind (oS (some v36) fun a => oS (some v37) fun b => Cl.get (aBin E .add 3 (.tmp 36) (.tmp 37)) a b) fun v38 =>
  M.bind (oS (some v33) fun a => kNil a) fun v39 =>
  M.bind (oS (some v39) fun a => kFld E 167 a 3) fun v40 =>
  M.bind (oS (some v40) fun a => oS (some v38) fun b => kStore E 3 a b) fun _ =>
  M.pure tm
theorem digest_Write_q9 : RegEq 111 57 digest_Write_g digest_Write_P9 digest_Write_r9 := ⟨by kernel_rfl, fun _ _ _ _ _ _ _ _ _ => by kernel_rfl⟩
/-- digest.go:95 -/
noncomputable def digest_Write_r10 (E : Env) (call round : CallT) (tm : T Value) : M (T Value) :=
  mv (T.get tm 4) fun v41 =>
  mv (T.get tm 5) fun v42 =>
  M.bind (oS (some v41) fun a => oS (some v42) fun b => Cl.get (aBin E .add 3 (.tmp 41) (.tmp 42)) a b) fun v43 =>
  M.bind (oS (some v43) fun a => oS (some (.int .i64 64)) fun b => Cl.get (aBin E .eql 3 (.tmp 43) (.const (.int .i64 64))) a b) fun v44 =>
  setF 44 v44 tm fun tm1 =>
  M.pure tm1
theorem digest_Write_q10 : RegEq 111 57 digest_Write_g digest_Write_P10 digest_Write_r10 := ⟨by kernel_rfl, fun _ _ _ _ _ _ _ _ _ => by kernel_rfl⟩
theorem digest_Write_C11 : condX digest_Write_P11 = some 44 := by kernel_rfl
/-- digest.go:96; the order is open -/
noncomputable def digest_Write_d12 (E : Env) (call round : CallT) (tm : T Value) : M ((Rho × T Value) × List OpLog) :=
  M.bind (apartO (oS (T.get tm 0) fun a => M.pure a)) fun p0 =>
  M.bind (apartO (oS (T.get tm 0) fun a => M.pure a)) fun p1 =>
  M.bind (apartO (oS (some p1.1) fun a => kNil a)) fun p2 =>
  M.bind (apartO (oS (some p2.1) fun a => kFld E 167 a 1)) fun p3 =>
  M.bind (apartO (oS (some p3.1) fun a => kLoad E 163 a)) fun p4 =>
  M.bind (apartO (oS (T.get tm 0) fun a => M.pure a)) fun p5 =>
  M.bind (apartO (oS (some p5.1) fun a => kNil a)) fun p6 =>
  M.bind (apartO (oS (some p6.1) fun a => kFld E 167 a 2)) fun p7 =>
  M.bind (apartO (M.on (some p7.1) fun a => M.on (some none) fun b => M.on (some none) fun c => aSlice E 165 a b c)) fun p8 =>
  M.bind (apartO (M.on (some (.func (.func 134) #[] #[])) fun f => M.on (seqO [(some p4.1), (some p8.1)]) fun l => callV call round f l)) fun p9 =>
  M.bind (apartO (oS (some p0.1) fun a => kNil a)) fun p10 =>
  M.bind (apartO (oS (some p10.1) fun a => kFld E 167 a 1)) fun p11 =>
  M.pure (([p11.1, p10.1, p9.1, p8.1, p7.1, p6.1, p5.1, p4.1, p3.1, p2.1, p1.1, p0.1], tm), [p11.2, p10.2, p9.2, p8.2, p7.2, p6.2, p5.2, p4.2, p3.2, p2.2, p1.2, p0.2])
theorem digest_Write_q12 : DrawEq 111 57 digest_Write_g digest_Write_P12 [0, 0, 2, 6, 14, 0, 32, 96, 224, 510, 1023, 2047, 4095] digest_Write_d12 := ⟨by kernel_rfl, by kernel_rfl, fun _ _ _ _ _ _ _ _ _ => by kernel_rfl⟩
theorem digest_Write_L12 (E : Env) (call round : CallT) (x45 x46 x47 x48 x49 x50 x51 x52 x53 x54 x55 x56 : Value) (tm : T Value) (s : St) : opsIn call round (lastOps E digest_Write_g 57 (hdC digest_Write_P12)) [x56, x55, x54, x53, x52, x51, x50, x49, x48, x47, x46, x45] tm s = (M.bind (oS (some x56) fun a => oS (some x54) fun b => kStore E 163 a b) fun _ => M.pure tm) s := by kernel_rfl
-- points: 0:region>[1], 1:cond>[2, 3], 2:ret>, 3:region>[4], 4:cond>[5, 6], 5:region>[7], 6:end>, 7:region>[8], 8:region>[9], 9:region>[10], 10:region>[11], 11:cond>[12, 3], 12:region>[3]

/-! ### (*satchel/digest.Digest).Sum -/
noncomputable def digest_DSum_g : Nat := globOf Try.f112
abbrev digest_DSum_nt : Nat := 74
noncomputable def digest_DSum_body : Code := Try.f112.body.getD .skip
theorem digest_DSum_fn : envS.fn.get 112 = some Try.f112 := by kernel_rfl
theorem digest_DSum_W {a0 : Value} {n : Nat} {s : St} {Q : Value → St → Prop} (h : ∀ tm, T.get tm 0 = some a0 → W (runF envS n ⟨112, 74, digest_DSum_g, tm, [.code digest_DSum_body], .run, .normal, none⟩) (s.cxN cxN) fun p s1 => Q p.1 (s1.cxN s.cx)) : W (callW envS (runF envS n) 112 [a0]) s Q :=
  W.call (by kernel_rfl) (by kernel_rfl) digest_DSum_fn (by kernel_rfl) rfl rfl (by simp) (h _ (by kernel_rfl))
theorem digest_DSum_res : Try.f112.results.toList = [.cell 2 101] := by kernel_rfl
noncomputable def digest_DSum_P0 : List Item := skim 64 [.code digest_DSum_body]
noncomputable def digest_DSum_P1 : List Item := skim 64 digest_DSum_P0.tail
theorem digest_DSum_S0_1 : skim 64 digest_DSum_P0.tail = digest_DSum_P1 := by kernel_rfl
noncomputable def digest_DSum_P2 : List Item := skim 64 digest_DSum_P1.tail
theorem digest_DSum_S1_2 : skim 64 digest_DSum_P1.tail = digest_DSum_P2 := by kernel_rfl
noncomputable def digest_DSum_P3 : List Item := skim 64 digest_DSum_P2.tail
theorem digest_DSum_S2_3 : skim 64 digest_DSum_P2.tail = digest_DSum_P3 := by kernel_rfl
noncomputable def digest_DSum_P5 : List Item := skim 64 (brF digest_DSum_P3)
theorem digest_DSum_S3_5 : skim 64 (brF digest_DSum_P3) = digest_DSum_P5 := by kernel_rfl
noncomputable def digest_DSum_P7 : List Item := skim 64 digest_DSum_P5.tail
theorem digest_DSum_S5_7 : skim 64 digest_DSum_P5.tail = digest_DSum_P7 := by kernel_rfl
noncomputable def digest_DSum_P8 : List Item := skim 64 digest_DSum_P7.tail
theorem digest_DSum_S7_8 : skim 64 digest_DSum_P7.tail = digest_DSum_P8 := by kernel_rfl
noncomputable def digest_DSum_P9 : List Item := skim 64 digest_DSum_P8.tail
theorem digest_DSum_S8_9 : skim 64 digest_DSum_P8.tail = digest_DSum_P9 := by kernel_rfl
noncomputable def digest_DSum_P10 : List Item := skim 64 digest_DSum_P9.tail
theorem digest_DSum_S9_10 : skim 64 digest_DSum_P9.tail = digest_DSum_P10 := by kernel_rfl
noncomputable def digest_DSum_P11 : List Item := skim 64 digest_DSum_P10.tail
theorem digest_DSum_S10_11 : skim 64 digest_DSum_P10.tail = digest_DSum_P11 := by kernel_rfl
noncomputable def digest_DSum_P12 : List Item := skim 64 (brT digest_DSum_P11)
theorem digest_DSum_S11_12 : skim 64 (brT digest_DSum_P11) = digest_DSum_P12 := by kernel_rfl
noncomputable def digest_DSum_P13 : List Item := skim 64 (brF digest_DSum_P11)
theorem digest_DSum_S11_13 : skim 64 (brF digest_DSum_P11) = digest_DSum_P13 := by kernel_rfl
noncomputable def digest_DSum_P14 : List Item := skim 64 digest_DSum_P12.tail
theorem digest_DSum_S12_14 : skim 64 digest_DSum_P12.tail = digest_DSum_P14 := by kernel_rfl
noncomputable def digest_DSum_P15 : List Item := skim 64 digest_DSum_P13.tail
theorem digest_DSum_S13_15 : skim 64 digest_DSum_P13.tail = digest_DSum_P15 := by kernel_rfl
theorem digest_DSum_S14_10 : skim 64 digest_DSum_P14.tail = digest_DSum_P10 := by kernel_rfl
noncomputable def digest_DSum_P16 : List Item := skim 64 digest_DSum_P15.tail
theorem digest_DSum_S15_16 : skim 64 digest_DSum_P15.tail = digest_DSum_P16 := by kernel_rfl
noncomputable def digest_DSum_P17 : List Item := skim 64 digest_DSum_P16.tail
theorem digest_DSum_S16_17 : skim 64 digest_DSum_P16.tail = digest_DSum_P17 := by kernel_rfl
noncomputable def digest_DSum_P18 : List Item := skim 64 (brT digest_DSum_P17)
theorem digest_DSum_S17_18 : skim 64 (brT digest_DSum_P17) = digest_DSum_P18 := by kernel_rfl
noncomputable def digest_DSum_P19 : List Item := skim 64 (brF digest_DSum_P17)
theorem digest_DSum_S17_19 : skim 64 (brF digest_DSum_P17) = digest_DSum_P19 := by kernel_rfl
noncomputable def digest_DSum_P20 : List Item := skim 64 digest_DSum_P18.tail
theorem digest_DSum_S18_20 : skim 64 digest_DSum_P18.tail = digest_DSum_P20 := by kernel_rfl
noncomputable def digest_DSum_P21 : List Item := skim 64 digest_DSum_P19.tail
theorem digest_DSum_S19_21 : skim 64 digest_DSum_P19.tail = digest_DSum_P21 := by kernel_rfl
noncomputable def digest_DSum_P22 : List Item := skim 64 digest_DSum_P20.tail
theorem digest_DSum_S20_22 : skim 64 digest_DSum_P20.tail = digest_DSum_P22 := by kernel_rfl
theorem digest_DSum_S22_16 : skim 64 digest_DSum_P22.tail = digest_DSum_P16 := by kernel_rfl
/-- digest.go:102 -/
noncomputable def digest_DSum_r0 (E : Env) (call round : CallT) (tm : T Value) : M (T Value) :=
  M.bind (kAlloc E 101) fun v2 =>
  setF 2 v2 tm fun tm1 =>
  M.pure tm1
theorem digest_DSum_q0 : RegEq 112 74 digest_DSum_g digest_DSum_P0 digest_DSum_r0 := ⟨by kernel_rfl, fun _ _ _ _ _ _ _ _ _ => by kernel_rfl⟩
/-- digest.go:103 -/
noncomputable def digest_DSum_r1 (E : Env) (call round : CallT) (tm : T Value) : M (T Value) :=
  M.bind (kAlloc E 101) fun v3 =>
  setF 3 v3 tm fun tm1 =>
  M.pure tm1
theorem digest_DSum_q1 : RegEq 112 74 digest_DSum_g digest_DSum_P1 digest_DSum_r1 := ⟨by kernel_rfl, fun _ _ _ _ _ _ _ _ _ => by kernel_rfl⟩
/-- digest.go:104 -/
noncomputable def digest_DSum_r2 (E : Env) (call round : CallT) (tm : T Value) : M (T Value) :=
  mv (T.get tm 0) fun v9 =>
  M.bind (oS (some v9) fun a => oS (some (.pointer none)) fun b => Cl.get (aBin E .eql 145 (.tmp 9) (.const (.pointer none))) a b) fun v10 =>
  mv (some v10) fun v11 =>
  M.bind (M.chk (isK v11) (M.if (isB v11 false) (oS (T.get tm 0) fun a => M.pure a) (M.pure undef))) fun v12 =>
  M.bind (M.chk (isK v11) (M.if (isB v11 false) (oS (some v12) fun a => kNil a) (M.pure undef))) fun v13 =>
  M.bind (M.chk (isK v11) (M.if (isB v11 false) (oS (some v13) fun a => kFld E 167 a 0) (M.pure undef))) fun v14 =>
  M.bind (M.chk (isK v11) (M.if (isB v11 false) (oS (some v14) fun a => kLoad E 4 a) (M.pure undef))) fun v15 =>
  M.bind (M.chk (isK v11) (M.if (isB v11 false) (oS (some v15) fun a => kUn E.P .not a) (M.pure undef))) fun v16 =>
  M.bind (M.on (some v11) fun a => M.on (some (.bool true)) fun b => M.on (some v16) fun c => kPick a b c) fun v17 =>
  setF 17 v17 tm fun tm1 =>
  M.pure tm1
theorem digest_DSum_q2 : RegEq 112 74 digest_DSum_g digest_DSum_P2 digest_DSum_r2 := ⟨by kernel_rfl, fun _ _ _ _ _ _ _ _ _ => by kernel_rfl⟩
theorem digest_DSum_C3 : condX digest_DSum_P3 = some 17 := by kernel_rfl
/-- digest.go:107 -/
noncomputable def digest_DSum_r5 (E : Env) (call round : CallT) (tm : T Value) : M (T Value) :=
  mv (T.get tm 0) fun v19 =>
  M.bind (oS (some v19) fun a => kNil a) fun v20 =>
  M.bind (oS (some v20) fun a => kLoad E 167 a) fun v21 =>
  M.bind (kAlloc E 167) fun v4 =>
  setF 4 v4 tm fun tm1 =>
  M.bind (oS (some v4) fun a => oS (some v21) fun b => kStore E 167 a b) fun _ =>
  M.pure tm1
theorem digest_DSum_q5 : RegEq 112 74 digest_DSum_g digest_DSum_P5 digest_DSum_r5 := ⟨by kernel_rfl, fun _ _ _ _ _ _ _ _ _ => by kernel_rfl⟩
/-- digest.go:108 -/
noncomputable def digest_DSum_r7 (E : Env) (call round : CallT) (tm : T Value) : M (T Value) :=
  mv (T.get tm 0) fun v22 =>
  M.bind (oS (some v22) fun a => kNil a) fun v23 =>
  M.bind (oS (some v23) fun a => kFld E 167 a 3) fun v24 =>
  M.bind (oS (some v24) fun a => kLoad E 3 a) fun v25 =>
  M.bind (oS (some v25) fun a => oS (some (.int .i64 64)) fun b => Cl.get (aBin E .rem 3 (.tmp 25) (.const (.int .i64 64))) a b) fun v26 =>
  M.bind (oS (some (.int .i64 119)) fun a => oS (some v26) fun b => Cl.get (aBin E .sub 3 (.const (.int .i64 119)) (.tmp 26)) a b) fun v27 =>
  M.bind (oS (some v27) fun a => oS (some (.int .i64 64)) fun b => Cl.get (aBin E .rem 3 (.tmp 27) (.const (.int .i64 64))) a b) fun v28 =>
  M.bind (oS (some (.int .i64 1)) fun a => oS (some v28) fun b => Cl.get (aBin E .add 3 (.const (.int .i64 1)) (.tmp 28)) a b) fun v29 =>
  M.bind (oS (some v29) fun a => oS (some (.int .i64 80)) fun b => kMkSl E 22 a b) fun v30 =>
  mv (some v30) fun v5 =>
  setF 5 v5 tm fun tm1 =>
  M.pure tm1
theorem digest_DSum_q7 : RegEq 112 74 digest_DSum_g digest_DSum_P7 digest_DSum_r7 := ⟨by kernel_rfl, fun _ _ _ _ _ _ _ _ _ => by kernel_rfl⟩
/-- digest.go:109 -/
noncomputable def digest_DSum_r8 (E : Env) (call round : CallT) (tm : T Value) : M (T Value) :=
  mv (T.get tm 5) fun v31 =>
  M.bind (oS (some v31) fun a => oS (some (.int .i64 0)) fun b => kIdxA E 22 a b) fun v32 =>
  M.bind (oS (some v32) fun a => oS (some (.int .u8 128)) fun b => kStore E 5 a b) fun _ =>
  M.pure tm
theorem digest_DSum_q8 : RegEq 112 74 digest_DSum_g digest_DSum_P8 digest_DSum_r8 := ⟨by kernel_rfl, fun _ _ _ _ _ _ _ _ _ => by kernel_rfl⟩
/-- digest.go:110 -/
noncomputable def digest_DSum_r9 (E : Env) (call round : CallT) (tm : T Value) : M (T Value) :=
  mv (some (.int .i64 56)) fun v6 =>
  setF 6 v6 tm fun tm1 =>
  M.pure tm1
theorem digest_DSum_q9 : RegEq 112 74 digest_DSum_g digest_DSum_P9 digest_DSum_r9 := ⟨by kernel_rfl, fun _ _ _ _ _ _ _ _ _ => by kernel_rfl⟩
/-- digest.go:110 -/
noncomputable def digest_DSum_r10 (E : Env) (call round : CallT) (tm : T Value) : M (T Value) :=
  mv (T.get tm 6) fun v33 =>
  M.bind (oS (some v33) fun a => oS (some (.int .i64 0)) fun b => Cl.get (aBin E .geq 3 (.tmp 33) (.const (.int .i64 0))) a b) fun v34 =>
  setF 34 v34 tm fun tm1 =>
  M.pure tm1
theorem digest_DSum_q10 : RegEq 112 74 digest_DSum_g digest_DSum_P10 digest_DSum_r10 := ⟨by kernel_rfl, fun _ _ _ _ _ _ _ _ _ => by kernel_rfl⟩
theorem digest_DSum_C11 : condX digest_DSum_P11 = some 34 := by kernel_rfl
/-- digest.go:111 -/
noncomputable def digest_DSum_r12 (E : Env) (call round : CallT) (tm : T Value) : M (T Value) :=
  mv (T.get tm 5) fun v37 =>
  mv (T.get tm 0) fun v38 =>
  M.bind (oS (some v38) fun a => kNil a) fun v39 =>
  M.bind (oS (some v39) fun a => kFld E 167 a 3) fun v40 =>
  M.bind (oS (some v40) fun a => kLoad E 3 a) fun v41 =>
  M.bind (oS (some (.int .i64 8)) fun a => oS (some v41) fun b => Cl.get (aBin E .mul 3 (.const (.int .i64 8)) (.tmp 41)) a b) fun v42 =>
  mv (T.get tm 6) fun v43 =>
  M.bind (oS (some v42) fun a => oS (some v43) fun b => Cl.get (aBin E .shr 3 (.tmp 42) (.tmp 43)) a b) fun v44 =>
  M.bind (oS (some v44) fun a => kConvB E 3 5 a) fun v45 =>
  M.bind (oS (seqP [(0, (some v45))]) fun ps => aBuildS E 22 1 ps) fun v46 =>
  M.bind (oS (seqO [(some v37), (some v46)]) fun l => aBuiltin E .append [22, 22] l) fun v47 =>
  mv (some v47) fun v5 =>
  setF 5 v5 tm fun tm1 =>
  M.pure tm1
theorem digest_DSum_q12 : RegEq 112 74 digest_DSum_g digest_DSum_P12 digest_DSum_r12 := ⟨by kernel_rfl, fun _ _ _ _ _ _ _ _ _ => by kernel_rfl⟩
/-- digest.go:113 -/
noncomputable def digest_DSum_r13 (E : Env) (call round : CallT) (tm : T Value) : M (T Value) :=
  mv (T.get tm 5) fun v48 =>
  M.bind (M.on (some (.func (.func 111) #[] #[])) fun f => M.on (seqO [(T.get tm 4), (some v48)]) fun l => callV call round f l) fun v49 =>
  M.pure tm
theorem digest_DSum_q13 : RegEq 112 74 digest_DSum_g digest_DSum_P13 digest_DSum_r13 := ⟨by kernel_rfl, fun _ _ _ _ _ _ _ _ _ => by kernel_rfl⟩
/-- digest.go:110 -/
noncomputable def digest_DSum_r14 (E : Env) (call round : CallT) (tm : T Value) : M (T Value) :=
  mv (T.get tm 6) fun v35 =>
  M.bind (oS (some v35) fun a => oS (some (.int .i64 8)) fun b => Cl.get (aBin E .sub 3 (.tmp 35) (.const (.int .i64 8))) a b) fun v36 =>
  mv (some v36) fun v6 =>
  setF 6 v6 tm fun tm1 =>
  M.pure tm1
theorem digest_DSum_q14 : RegEq 112 74 digest_DSum_g digest_DSum_P14 digest_DSum_r14 := ⟨by kernel_rfl, fun _ _ _ _ _ _ _ _ _ => by kernel_rfl⟩
/-- digest.go:114 -/
noncomputable def digest_DSum_r15 (E : Env) (call round : CallT) (tm : T Value) : M (T Value) :=
  M.bind (oS (T.get tm 4) fun a => kFld E 167 a 1) fun v50 =>
  M.bind (oS (some v50) fun a => kLoad E 163 a) fun v51 =>
  setF 51 v51 tm fun tm1 =>
  mv (some (.int .i64 0)) fun v52 =>
  setF 52 v52 tm1 fun tm2 =>
  M.pure tm2
theorem digest_DSum_q15 : RegEq 112 74 digest_DSum_g digest_DSum_P15 digest_DSum_r15 := ⟨by kernel_rfl, fun _ _ _ _ _ _ _ _ _ => by kernel_rfl⟩
/-- digest.go:114 -/
noncomputable def digest_DSum_r16 (E : Env) (call round : CallT) (tm : T Value) : M (T Value) :=
  M.bind (oS (T.get tm 52) fun a => oS (some (.int .i64 8)) fun b => Cl.get (aBin E .lss 3 (.tmp 52) (.const (.int .i64 8))) a b) fun v53 =>
  setF 53 v53 tm fun tm1 =>
  M.pure tm1
theorem digest_DSum_q16 : RegEq 112 74 digest_DSum_g digest_DSum_P16 digest_DSum_r16 := ⟨by kernel_rfl, fun _ _ _ _ _ _ _ _ _ => by kernel_rfl⟩
theorem digest_DSum_C17 : condX digest_DSum_P17 = some 53 := by kernel_rfl
/-- digest.go:114 -/
noncomputable def digest_DSum_r18 (E : Env) (call round : CallT) (tm : T Value) : M (T Value) :=
  mv (T.get tm 52) fun v54 =>
  M.bind (oS (T.get tm 51) fun a => oS (T.get tm 52) fun b => kIdx E 163 a b) fun v55 =>
  mv (some v54) fun v7 =>
  setF 7 v7 tm fun tm1 =>
  mv (some v55) fun v8 =>
  setF 8 v8 tm1 fun tm2 =>
  M.pure tm2
theorem digest_DSum_q18 : RegEq 112 74 digest_DSum_g digest_DSum_P18 digest_DSum_r18 := ⟨by kernel_rfl, fun _ _ _ _ _ _ _ _ _ => by kernel_rfl⟩
/-- digest.go:117 -/
noncomputable def digest_DSum_r19 (E : Env) (call round : CallT) (tm : T Value) : M (T Value) :=
  M.bind (oS (T.get tm 3) fun a => kLoad E 101 a) fun v73 =>
  M.bind (oS (T.get tm 2) fun a => oS (some v73) fun b => kStore E 101 a b) fun _ =>
  M.pure tm
theorem digest_DSum_q19 : RegEq 112 74 digest_DSum_g digest_DSum_P19 digest_DSum_r19 := ⟨by kernel_rfl, fun _ _ _ _ _ _ _ _ _ => by kernel_rfl⟩
/-- digest.go:115 -/
noncomputable def digest_DSum_r20 (E : Env) (call round : CallT) (tm : T Value) : M (T Value) :=
  mv (T.get tm 7) fun v56 =>
  M.bind (oS (some (.int .i64 4)) fun a => oS (some v56) fun b => Cl.get (aBin E .mul 3 (.const (.int .i64 4)) (.tmp 56)) a b) fun v57 =>
  M.bind (M.on (T.get tm 3) fun a => M.on (onO (some v57) fun v => some (some v)) fun b => M.on (some none) fun c => aSlice E 101 a b c) fun v58 =>
  mv (T.get tm 8) fun v59 =>
  M.bind (oS (some v59) fun a => oS (some (.int .u64 24)) fun b => Cl.get (aBin E .shr 51 (.tmp 59) (.const (.int .u64 24))) a b) fun v60 =>
  M.bind (oS (some v60) fun a => kConvB E 51 5 a) fun v61 =>
  mv (T.get tm 8) fun v62 =>
  M.bind (oS (some v62) fun a => oS (some (.int .u64 16)) fun b => Cl.get (aBin E .shr 51 (.tmp 62) (.const (.int .u64 16))) a b) fun v63 =>
  M.bind (oS (some v63) fun a => kConvB E 51 5 a) fun v64 =>
  mv (T.get tm 8) fun v65 =>
  M.bind (oS (some v65) fun a => oS (some (.int .u64 8)) fun b => Cl.get (aBin E .shr 51 (.tmp 65) (.const (.int .u64 8))) a b) fun v66 =>
  M.bind (oS (some v66) fun a => kConvB E 51 5 a) fun v67 =>
  mv (T.get tm 8) fun v68 =>
  M.bind (oS (some v68) fun a => kConvB E 51 5 a) fun v69 =>
  M.bind (oS (seqP [(0, (some v61)), (1, (some v64)), (2, (some v67)), (3, (some v69))]) fun ps => aBuildS E 22 4 ps) fun v70 =>
  M.bind (oS (seqO [(some v58), (some v70)]) fun l => aBuiltin E .copy [22, 22] l) fun v71 =>
  M.pure tm
theorem digest_DSum_q20 : RegEq 112 74 digest_DSum_g digest_DSum_P20 digest_DSum_r20 := ⟨by kernel_rfl, fun _ _ _ _ _ _ _ _ _ => by kernel_rfl⟩
theorem digest_DSum_E21 : ∃ k, digest_DSum_P21 = .code .ret :: k := ⟨digest_DSum_P21.tail, by kernel_rfl⟩
/-- digest.go:114 -/
noncomputable def digest_DSum_r22 (E : Env) (call round : CallT) (tm : T Value) : M (T Value) :=
  M.bind (oS (T.get tm 52) fun a => oS (some (.int .i64 1)) fun b => Cl.get (aBin E .add 3 (.tmp 52) (.const (.int .i64 1))) a b) fun v72 =>
  mv (some v72) fun v52 =>
  setF 52 v52 tm fun tm1 =>
  M.pure tm1
theorem digest_DSum_q22 : RegEq 112 74 digest_DSum_g digest_DSum_P22 digest_DSum_r22 := ⟨by kernel_rfl, fun _ _ _ _ _ _ _ _ _ => by kernel_rfl⟩
-- points: 0:region>[1], 1:region>[2], 2:region>[3], 3:cond>[4, 5], 4:region>[6], 5:region>[7], 6:ret>, 7:region>[8], 8:region>[9], 9:region>[10], 10:region>[11], 11:cond>[12, 13], 12:region>[14], 13:region>[15], 14:region>[10], 15:region>[16], 16:region>[17], 17:cond>[18, 19], 18:region>[20], 19:region>[21], 20:region>[22], 21:ret>, 22:region>[16]

/-! ### satchel/digest.Sum -/
noncomputable def digest_Sum_g : Nat := globOf Try.f73
noncomputable def digest_Sum_body : Code := Try.f73.body.getD .skip
theorem digest_Sum_fn : envS.fn.get 73 = some Try.f73 := by kernel_rfl
theorem digest_Sum_W {a0 : Value} {n : Nat} {s : St} {Q : Value → St → Prop} (h : ∀ tm, T.get tm 0 = some a0 → W (runF envS n ⟨73, 10, digest_Sum_g, tm, [.code digest_Sum_body], .run, .normal, none⟩) (s.cxN cxN) fun p s1 => Q p.1 (s1.cxN s.cx)) : W (callW envS (runF envS n) 73 [a0]) s Q :=
  W.call (by kernel_rfl) (by kernel_rfl) digest_Sum_fn (by kernel_rfl) rfl rfl (by simp) (h _ (by kernel_rfl))
theorem digest_Sum_res : Try.f73.results.toList = [.cell 2 101] := by kernel_rfl
noncomputable def digest_Sum_P0 : List Item := skim 64 [.code digest_Sum_body]
noncomputable def digest_Sum_P1 : List Item := skim 64 digest_Sum_P0.tail
theorem digest_Sum_S0_1 : skim 64 digest_Sum_P0.tail = digest_Sum_P1 := by kernel_rfl
noncomputable def digest_Sum_P2 : List Item := skim 64 digest_Sum_P1.tail
theorem digest_Sum_S1_2 : skim 64 digest_Sum_P1.tail = digest_Sum_P2 := by kernel_rfl
noncomputable def digest_Sum_P3 : List Item := skim 64 digest_Sum_P2.tail
theorem digest_Sum_S2_3 : skim 64 digest_Sum_P2.tail = digest_Sum_P3 := by kernel_rfl
noncomputable def digest_Sum_P4 : List Item := skim 64 digest_Sum_P3.tail
theorem digest_Sum_S3_4 : skim 64 digest_Sum_P3.tail = digest_Sum_P4 := by kernel_rfl
/-- digest.go:129 -/
noncomputable def digest_Sum_r0 (E : Env) (call round : CallT) (tm : T Value) : M (T Value) :=
  M.bind (kAlloc E 101) fun v2 =>
  setF 2 v2 tm fun tm1 =>
  M.pure tm1
theorem digest_Sum_q0 : RegEq 73 10 digest_Sum_g digest_Sum_P0 digest_Sum_r0 := ⟨by kernel_rfl, fun _ _ _ _ _ _ _ _ _ => by kernel_rfl⟩
/-- digest.go:130 -/
noncomputable def digest_Sum_r1 (E : Env) (call round : CallT) (tm : T Value) : M (T Value) :=
  M.bind (M.on (some (.func (.func 110) #[] #[])) fun f => M.on (seqO []) fun l => callV call round f l) fun v4 =>
  mv (some v4) fun v3 =>
  setF 3 v3 tm fun tm1 =>
  M.pure tm1
theorem digest_Sum_q1 : RegEq 73 10 digest_Sum_g digest_Sum_P1 digest_Sum_r1 := ⟨by kernel_rfl, fun _ _ _ _ _ _ _ _ _ => by kernel_rfl⟩
/-- digest.go:131 -/
noncomputable def digest_Sum_r2 (E : Env) (call round : CallT) (tm : T Value) : M (T Value) :=
  mv (T.get tm 3) fun v5 =>
  mv (T.get tm 0) fun v6 =>
  M.bind (M.on (some (.func (.func 111) #[] #[])) fun f => M.on (seqO [(some v5), (some v6)]) fun l => callV call round f l) fun v7 =>
  M.pure tm
theorem digest_Sum_q2 : RegEq 73 10 digest_Sum_g digest_Sum_P2 digest_Sum_r2 := ⟨by kernel_rfl, fun _ _ _ _ _ _ _ _ _ => by kernel_rfl⟩
/-- digest.go:132 -/
noncomputable def digest_Sum_r3 (E : Env) (call round : CallT) (tm : T Value) : M (T Value) :=
  mv (T.get tm 3) fun v8 =>
  M.bind (M.on (some (.func (.func 112) #[] #[])) fun f => M.on (seqO [(some v8)]) fun l => callV call round f l) fun v9 =>
  M.bind (oS (T.get tm 2) fun a => oS (some v9) fun b => kStore E 101 a b) fun _ =>
  M.pure tm
theorem digest_Sum_q3 : RegEq 73 10 digest_Sum_g digest_Sum_P3 digest_Sum_r3 := ⟨by kernel_rfl, fun _ _ _ _ _ _ _ _ _ => by kernel_rfl⟩
theorem digest_Sum_E4 : ∃ k, digest_Sum_P4 = .code .ret :: k := ⟨digest_Sum_P4.tail, by kernel_rfl⟩
-- points: 0:region>[1], 1:region>[2], 2:region>[3], 3:region>[4], 4:ret>

/-! ### satchel/digest.ID -/
noncomputable def digest_ID_g : Nat := globOf Try.f32
noncomputable def digest_ID_body : Code := Try.f32.body.getD .skip
theorem digest_ID_fn : envS.fn.get 32 = some Try.f32 := by kernel_rfl
theorem digest_ID_W {a0 : Value} {n : Nat} {s : St} {Q : Value → St → Prop} (h : ∀ tm, T.get tm 0 = some a0 → W (runF envS n ⟨32, 9, digest_ID_g, tm, [.code digest_ID_body], .run, .normal, none⟩) (s.cxN cxN) fun p s1 => Q p.1 (s1.cxN s.cx)) : W (callW envS (runF envS n) 32 [a0]) s Q :=
  W.call (by kernel_rfl) (by kernel_rfl) digest_ID_fn (by kernel_rfl) rfl rfl (by simp) (h _ (by kernel_rfl))
theorem digest_ID_res : Try.f32.results.toList = [.cell 2 26] := by kernel_rfl
noncomputable def digest_ID_P0 : List Item := skim 64 [.code digest_ID_body]
noncomputable def digest_ID_P1 : List Item := skim 64 digest_ID_P0.tail
theorem digest_ID_S0_1 : skim 64 digest_ID_P0.tail = digest_ID_P1 := by kernel_rfl
noncomputable def digest_ID_P2 : List Item := skim 64 digest_ID_P1.tail
theorem digest_ID_S1_2 : skim 64 digest_ID_P1.tail = digest_ID_P2 := by kernel_rfl
noncomputable def digest_ID_P3 : List Item := skim 64 digest_ID_P2.tail
theorem digest_ID_S2_3 : skim 64 digest_ID_P2.tail = digest_ID_P3 := by kernel_rfl
/-- digest.go:135 -/
noncomputable def digest_ID_r0 (E : Env) (call round : CallT) (tm : T Value) : M (T Value) :=
  M.bind (kAlloc E 26) fun v2 =>
  setF 2 v2 tm fun tm1 =>
  M.pure tm1
theorem digest_ID_q0 : RegEq 32 9 digest_ID_g digest_ID_P0 digest_ID_r0 := ⟨by kernel_rfl, fun _ _ _ _ _ _ _ _ _ => by kernel_rfl⟩
/-- digest.go:136 -/
noncomputable def digest_ID_r1 (E : Env) (call round : CallT) (tm : T Value) : M (T Value) :=
  mv (T.get tm 0) fun v4 =>
  M.bind (M.on (some (.func (.func 73) #[] #[])) fun f => M.on (seqO [(some v4)]) fun l => callV call round f l) fun v5 =>
  M.bind (kAlloc E 101) fun v3 =>
  setF 3 v3 tm fun tm1 =>
  M.bind (oS (some v3) fun a => oS (some v5) fun b => kStore E 101 a b) fun _ =>
  M.pure tm1
theorem digest_ID_q1 : RegEq 32 9 digest_ID_g digest_ID_P1 digest_ID_r1 := ⟨by kernel_rfl, fun _ _ _ _ _ _ _ _ _ => by kernel_rfl⟩
/-- digest.go:137 -/
noncomputable def digest_ID_r2 (E : Env) (call round : CallT) (tm : T Value) : M (T Value) :=
  M.bind (M.on (T.get tm 3) fun a => M.on (some none) fun b => M.on (onO (some (.int .i64 16)) fun v => some (some v)) fun c => aSlice E 101 a b c) fun v6 =>
  M.bind (oS (some v6) fun a => kSlArr E 26 a) fun v7 =>
  M.bind (oS (some v7) fun a => kLoad E 26 a) fun v8 =>
  M.bind (oS (T.get tm 2) fun a => oS (some v8) fun b => kStore E 26 a b) fun _ =>
  M.pure tm
theorem digest_ID_q2 : RegEq 32 9 digest_ID_g digest_ID_P2 digest_ID_r2 := ⟨by kernel_rfl, fun _ _ _ _ _ _ _ _ _ => by kernel_rfl⟩
theorem digest_ID_E3 : ∃ k, digest_ID_P3 = .code .ret :: k := ⟨digest_ID_P3.tail, by kernel_rfl⟩
-- points: 0:region>[1], 1:region>[2], 2:region>[3], 3:ret>
end Go.Proofs.Ytofanlcjeohcjaa.Am
/- digest.Digest.Write, said of all states. -/
namespace Go.Proofs.Ytofanlcjeohcjaa.Am
open Go.RowKit

/-- A digest: eight words, bytes that wait, how many there were. -/
structure DS where
  st : Sha.St8
  w : List Nat
  n : Nat
/-- A step: as many bytes as there is room for. -/
def DS.k (d : DS) (b : List Nat) : Nat := Nat.min (64 - d.n % 64) b.length
def DS.w' (d : DS) (b : List Nat) : List Nat := d.w.take (d.n % 64) ++ (b.take (d.k b) ++ d.w.drop (d.n % 64 + d.k b))
def DS.step (d : DS) (b : List Nat) : DS := ⟨if d.n % 64 + d.k b = 64 then Sha.next d.st (fun j => (d.w' b).getD j 0) else d.st, d.w' b, d.n + d.k b⟩
def DS.write : Nat → DS → List Nat → DS
  | 0, d, _ => d
  | f + 1, d, b => if b.length = 0 then d else DS.write f (d.step b) (b.drop (d.k b))
/-- It lies there. -/
structure Dig (s : St) (D : Nat) (d : DS) : Prop where
  made : Own s D 0 (.bool true)
  st : OwnRow s D 1 (st8V d.st).toList
  w : OwnRow s D 9 (u8l d.w)
  n : Own s D 73 (.int .i64 (d.n : Nat))
  len : d.w.length = 64
  byt : Byt d.w
  ok : d.st.Ok
theorem st8_len (r : Sha.St8) : (st8V r).toList.length = 8 := rfl
theorem Dig.ext0 {F : Nat → Prop} {s s' : St} {D : Nat} {d : DS} (h : Dig s D d) (e : Ext F Non s s') : Dig s' D d := ⟨h.made.ext0 e, h.st.ext0 e, h.w.ext0 e, h.n.ext0 e, h.len, h.byt, h.ok⟩
theorem Dig.same {s s' : St} {D : Nat} {d : DS} (h : Dig s D d) (hm : s'.mem = s.mem) (hn : s'.next = s.next) : Dig s' D d :=
  ⟨h.made.same hm hn, fun i v e => (h.st i v e).same hm hn, fun i v e => (h.w i v e).same hm hn, h.n.same hm hn, h.len, h.byt, h.ok⟩
theorem u32s_st8 {r : Sha.St8} (h : r.Ok) : u32s (st8V r).toList = some [r.a, r.b, r.c, r.d, r.e, r.f, r.g, r.h] := by
  have e : ∀ (n : Nat) (l : List Value) (ns : List Nat), n < 4294967296 → u32s l = some ns → u32s (.int .u32 (n : Int) :: l) = some (n :: ns) := fun n l ns hn hl => by
    show (match Value.int .u32 (.ofNat n), u32s l with | .int .u32 (.ofNat n), some ns => bif Nat.blt n 4294967296 then some (n :: ns) else none | _, _ => none) = _
    rw [hl]
    simp -implicitDefEqProofs only [blt_t hn, cond_true]
  exact e _ _ _ h.a (e _ _ _ h.b (e _ _ _ h.c (e _ _ _ h.d (e _ _ _ h.e (e _ _ _ h.f (e _ _ _ h.g (e _ _ _ h.h rfl)))))))
theorem W.next {s : St} {r : Sha.St8} {b o c : Nat} {l : List Nat} {Q : Value → St → Prop} (hr : r.Ok) (h : Row s b o (u8l l)) (hl : l.length = 64) (hb : Byt l)
    (q : ∀ s1, s1.mem = s.mem → s1.next = s.next → Ext (In b o 64) Non s s1 → Q (.agg (st8V (Sha.next r fun j => l.getD j 0))) s1) : W (nextM [.agg (st8V r), .slice (some ⟨b, o, none⟩) 64 c]) s Q := by
  refine W.on (u32s_st8 hr) (W.chk (by decide) (W.bind ?_))
  have h2 : l.length = (u8l l).length := (u8l_length l).symm
  show W (Am.rdL 64 ⟨b, o, none⟩) s _
  rw [← hl]
  refine W.rdB h fun s1 e1 e2 e3 => W.on (u8s_u8l hb) ?_
  show W (nextK r l st8M) s1 Q
  rw [nextK_eq, st8M_eq]
  rw [hl] at e3
  exact W.pure (q s1 e1 e2 e3)
end Go.Proofs.Ytofanlcjeohcjaa.Am
/- digest.Digest.Write, said of all states: a step. -/
namespace Go.Proofs.Ytofanlcjeohcjaa.Am
open Go.RowKit

theorem ty_D0 : fldN envS 167 0 = some (0, 1, false) := by kernel_rfl
theorem ty_D1 : fldN envS 167 1 = some (1, 8, true) := by kernel_rfl
theorem ty_D2 : fldN envS 167 2 = some (9, 64, true) := by kernel_rfl
theorem ty_D3 : fldN envS 167 3 = some (73, 1, false) := by kernel_rfl
theorem ty_Dp : ptrT envS 145 = true := by kernel_rfl
theorem ty_bool_1 : tyS envS 4 = some (1, false) := by kernel_rfl
theorem ty_int_1 : tyS envS 3 = some (1, false) := by kernel_rfl
theorem ty_a64 : arrN envS 165 = some (64, 1) := by kernel_rfl
theorem ty_st : tyS envS 163 = some (8, true) := by kernel_rfl
/-- Some of the bytes of a slice, as a source. -/
theorem Bs.srcK {s : St} {v : Value} {l : List Nat} (h : Bs s v l) {k : Nat} (hk : k ≤ l.length) : ∃ s1, srcL 1 v k s = .some (u8l (l.take k)) s1 ∧ s1.mem = s.mem ∧ s1.next = s.next ∧ Ext (BsF v) Non s s1 := by
  rcases h with ⟨rfl, rfl⟩ | ⟨b, o, c, rfl, _, _, h3⟩
  · simp at hk
    subst hk
    exact ⟨s, rfl, rfl, rfl, Ext.refl s⟩
  · have h4 : Row s b o (u8l (l.take k)) := by
      have := h3.take (n := k)
      rw [← List.map_take] at this
      exact this
    have hl : (l.take k).length = k := by rw [List.length_take]; omega
    obtain ⟨a, s1, e, rfl, h1, h2, h5⟩ := W.rdB (Q := fun a s1 => a = u8l (l.take k) ∧ s1.mem = s.mem ∧ s1.next = s.next ∧ Ext (In b o (l.take k).length) Non s s1) h4 fun s1 e1 e2 e3 => ⟨rfl, e1, e2, e3⟩
    rw [hl] at e h5
    refine ⟨s1, ?_, h1, h2, ?_⟩
    · show Am.rdL (k * 1) ⟨b, o, none⟩ s = _
      rw [Nat.mul_one]
      exact e
    · refine ⟨h5.nxt, h5.lim, h5.cx, h5.mem, ?_, h5.wr⟩
      obtain ⟨d, p1, p2⟩ := h5.rd
      exact ⟨d, p1, fun x hx => ⟨(p2 x hx).1, by have := (p2 x hx).2; exact ⟨this.1, by have := this.2; omega⟩⟩⟩
theorem DS.k_le (d : DS) (b : List Nat) : d.k b ≤ b.length ∧ d.n % 64 + d.k b ≤ 64 := by
  unfold DS.k
  have h1 : Nat.min (64 - d.n % 64) b.length ≤ 64 - d.n % 64 := Nat.min_le_left _ _
  have h2 : Nat.min (64 - d.n % 64) b.length ≤ b.length := Nat.min_le_right _ _
  have h3 : d.n % 64 < 64 := Nat.mod_lt _ (by decide)
  exact ⟨h2, by omega⟩
theorem DS.w'_len (d : DS) (b : List Nat) (h : d.w.length = 64) : (d.w' b).length = 64 := by
  obtain ⟨h1, h2⟩ := d.k_le b
  unfold DS.w'
  rw [List.length_append, List.length_append, List.length_take, List.length_take, List.length_drop, h]
  omega
theorem DS.w'_byt (d : DS) (b : List Nat) (h : Byt d.w) (hb : Byt b) : Byt (d.w' b) := fun x hx => by
  unfold DS.w' at hx
  rcases List.mem_append.1 hx with hx | hx
  · exact h x (List.mem_of_mem_take hx)
  · rcases List.mem_append.1 hx with hx | hx
    · exact hb x (List.mem_of_mem_take hx)
    · exact h x (List.mem_of_mem_drop hx)
/-- Bytes laid into those that wait. -/
theorem Dig.lay {F : Nat → Prop} {s s2 : St} {D : Nat} {d : DS} {b : List Nat} (h : Dig s D d) (x : Ext F (In D (0 + 9 + d.n % 64 * 1) (d.k b * 1)) s s2) (r : OwnRow s2 D (0 + 9 + d.n % 64 * 1) (u8l (b.take (d.k b)))) (hb : Byt b) : Dig s2 D ⟨d.st, d.w' b, d.n⟩ := by
  obtain ⟨h1, h2⟩ := d.k_le b
  have hm : d.n % 64 < 64 := Nat.mod_lt _ (by decide)
  have hkl : (b.take (d.k b)).length = d.k b := by rw [List.length_take]; omega
  refine ⟨h.made.ext x fun q => by have := q.1; omega, h.st.ext x fun i hi q => ?_, ?_, h.n.ext x fun q => by have := q.2; omega, d.w'_len b h.len, d.w'_byt b h.byt hb, h.ok⟩
  · have h3 : i < 8 := hi
    have := q.1; omega
  · show OwnRow s2 D 9 (u8l (d.w' b))
    have e : u8l (d.w' b) = u8l (d.w.take (d.n % 64)) ++ (u8l (b.take (d.k b)) ++ u8l (d.w.drop (d.n % 64 + d.k b))) := by
      unfold DS.w' u8l
      rw [List.map_append, List.map_append]
    have hl1 : (u8l (d.w.take (d.n % 64))).length = d.n % 64 := by rw [u8l_length, List.length_take, h.len]; omega
    have hw1 : OwnRow s D 9 (u8l (d.w.take (d.n % 64))) := by
      have := h.w.take (n := d.n % 64)
      rw [← List.map_take] at this
      exact this
    have hw3 : OwnRow s D (9 + (d.n % 64 + d.k b)) (u8l (d.w.drop (d.n % 64 + d.k b))) := by
      have := h.w.drop (n := d.n % 64 + d.k b)
      rw [← List.map_drop] at this
      exact this
    rw [e]
    refine OwnRow.append (hw1.ext x fun i hi q => ?_) (OwnRow.append ?_ ?_)
    · rw [hl1] at hi
      have := q.1; omega
    · rw [hl1, show 9 + d.n % 64 = 0 + 9 + d.n % 64 * 1 by omega]
      exact r
    · rw [hl1, u8l_length, hkl, Nat.add_assoc]
      refine hw3.ext x fun i hi q => ?_
      have := q.2; omega
end Go.Proofs.Ytofanlcjeohcjaa.Am
