/- The snaps that are none, or that Open did not make: what their methods answer, in every state. -/
import Derived.Test.YtbmkpcjkadifhaaGreatDoorSNo21
import Derived.Test.YtbmkpcjkadifhaaGreatDoorSNo08
namespace Go.Proofs.YtbmkpcjkadifhaaGreatDoor.Am
open Go.RowKit

theorem p_sn : ptrT envS 34 = true := by kernel_rfl
theorem qp_sn (k : Nat) (s : St) : Cl.get (aBin envS .eql 34 (.tmp k) (.const (.pointer none))) (.pointer none) (.pointer none) s = .some (.bool true) s := by kernel_rfl
theorem ep_sn (k : Nat) (s : St) (Q : Value → St → Prop) : W (Cl.get (aBin envS .eql 34 (.tmp k) (.const (.pointer none))) (.pointer none) (.pointer none)) s Q = Q (.bool true) s := W_run (qp_sn k s)
theorem p_dk : ptrT envS 35 = true := by kernel_rfl
theorem qp_dk (k : Nat) (s : St) : Cl.get (aBin envS .eql 35 (.tmp k) (.const (.pointer none))) (.pointer none) (.pointer none) s = .some (.bool true) s := by kernel_rfl
theorem ep_dk (k : Nat) (s : St) (Q : Value → St → Prop) : W (Cl.get (aBin envS .eql 35 (.tmp k) (.const (.pointer none))) (.pointer none) (.pointer none)) s Q = Q (.bool true) s := W_run (qp_dk k s)
theorem ty_sn_1 : tyS envS 34 = some (1, false) := by kernel_rfl
theorem ty_dk_1 : tyS envS 35 = some (1, false) := by kernel_rfl
theorem fl_sn0 : fldN envS 37 0 = some (0, 1, false) := by kernel_rfl
theorem sn_li : slN envS 49 = some 4 := by kernel_rfl
def zMan : List Value := [.int .i64 0, .int .i64 0, .int .i64 0, .int .i64 0, .slice none 0 0]
theorem man_z : zeroL envS 24 = some zMan := by kernel_rfl
theorem man_b : buildN envS 24 [] = some zMan := by kernel_rfl
theorem man_5 : tyS envS 24 = some (5, true) := by kernel_rfl
/-- No snaps, or such as Open did not make. -/
def SnN (s : St) (v : Value) : Prop := v = .pointer none ∨ ∃ A, v = .pointer (some ⟨A, 0, none⟩) ∧ At s A (0 + 0) (.pointer none)
theorem SnN.same {s s' : St} {v : Value} (h : SnN s v) (hm : s'.mem = s.mem) (hn : s'.next = s.next) : SnN s' v := by
  rcases h with h | ⟨A, e, h2⟩
  · exact .inl h
  · exact .inr ⟨A, e, h2.same hm hn⟩
theorem SnN.ext0 {F : Nat → Prop} {s s' : St} {v : Value} (h : SnN s v) (x : Ext F Non s s') : SnN s' v := by
  rcases h with h | ⟨A, e, h2⟩
  · exact .inl h
  · exact .inr ⟨A, e, h2.ext x fun h => h⟩
section
variable {va : Value} {n : Nat} {s : St} {Q : Value → St → Prop}
theorem neTT : (!decide True) = false := rfl
theorem ne10 : (!decide ((1 : Int) = 0)) = true := rfl
theorem sn_none_spec (hb : s.lim ≤ s.next) (h : SnN s va) (hn : 40 ≤ n) (q : ∀ s1, Ext Any Non s s1 → Q (.bool true) s1) : W (callW envS (runF envS n) 33 [va]) s Q := by
  refine sn_none_W fun tm h0 => ?_
  refine sn_none_q0.w rfl (by omega) ?_
  simp only [sn_none_r0, W_bind, W_oS, W_on, W_pure, W_mv, W_setF, W_setT, T.get_set, seqO_cons, seqO_nil, seqP_cons, seqP_nil, onO_some', W_callV, reduceIte, isK_bool, isB_tt, isB_tf, isB_ft, isB_ff, W_chk, W_ifT, W_ifF, W_pick, W_nil, Nat.reduceEqDiff, Nat.reduceEqDiff, reduceCtorEq, ↓reduceIte]
  refine sn_none_q1.w sn_none_S0_1 (by omega) ?_
  rcases h with rfl | ⟨A, rfl, k2⟩
  · simp only [sn_none_r1, W_bind, W_oS, W_on, W_pure, W_mv, W_setF, W_setT, T.get_set, seqO_cons, seqO_nil, seqP_cons, seqP_nil, onO_some', W_callV, reduceIte, isK_bool, isB_tt, isB_tf, isB_ft, isB_ff, W_chk, W_ifT, W_ifF, W_pick, W_nil, Nat.reduceEqDiff, Nat.reduceEqDiff, reduceCtorEq, ↓reduceIte, h0, ep_sn]
    exact W.end' (rs := [2]) (vs := [.bool true]) sn_none_S1_2 (.inl sn_none_E2) (by omega) sn_none_fn sn_none_res rfl (by simp [T.get_set]) (q _ (Ext.refl (s.cxN cxN)).cx')
  · simp only [sn_none_r1, W_bind, W_oS, W_on, W_pure, W_mv, W_setF, W_setT, T.get_set, seqO_cons, seqO_nil, seqP_cons, seqP_nil, onO_some', W_callV, reduceIte, isK_bool, isB_tt, isB_tf, isB_ft, isB_ff, W_chk, W_ifT, W_ifF, W_pick, W_nil, Nat.reduceEqDiff, Nat.reduceEqDiff, reduceCtorEq, ↓reduceIte, h0, W_eqNilP p_sn, W_fld fl_sn0 (by decide)]
    refine W.load1 ty_dk_1 (k2.same rfl rfl) ?_
    simp only [W_bind, W_oS, W_on, W_pure, W_mv, W_setF, W_setT, T.get_set, seqO_cons, seqO_nil, seqP_cons, seqP_nil, onO_some', W_callV, reduceIte, isK_bool, isB_tt, isB_tf, isB_ft, isB_ff, W_chk, W_ifT, W_ifF, W_pick, W_nil, Nat.reduceEqDiff, Nat.reduceEqDiff, reduceCtorEq, ↓reduceIte, ep_dk]
    exact W.end' (rs := [2]) (vs := [.bool true]) sn_none_S1_2 (.inl sn_none_E2) (by omega) sn_none_fn sn_none_res rfl (by simp [T.get_set]) (q _ ((Ext.refl (s.cxN cxN)).thenRd hb _).cx')
theorem sn_off_spec (hb : s.lim ≤ s.next) (h : SnN s va) (hn : 90 ≤ n) (q : ∀ s1, Ext Any Non s s1 → Q (.int .i64 1) s1) : W (callW envS (runF envS n) 19 [va]) s Q := by
  refine sn_off_W fun tm h0 => ?_
  refine sn_off_q0.w rfl (by omega) ?_
  simp only [sn_off_r0, W_bind, W_oS, W_on, W_pure, W_mv, W_setF, W_setT, T.get_set, seqO_cons, seqO_nil, seqP_cons, seqP_nil, onO_some', W_callV, reduceIte, isK_bool, isB_tt, isB_tf, isB_ft, isB_ff, W_chk, W_ifT, W_ifF, W_pick, W_nil, Nat.reduceEqDiff, Nat.reduceEqDiff, reduceCtorEq, ↓reduceIte]
  refine sn_off_q1.w sn_off_S0_1 (by omega) ?_
  simp only [sn_off_r1, W_bind, W_oS, W_on, W_pure, W_mv, W_setF, W_setT, T.get_set, seqO_cons, seqO_nil, seqP_cons, seqP_nil, onO_some', W_callV, reduceIte, isK_bool, isB_tt, isB_tf, isB_ft, isB_ff, W_chk, W_ifT, W_ifF, W_pick, W_nil, Nat.reduceEqDiff, Nat.reduceEqDiff, reduceCtorEq, ↓reduceIte, h0]
  refine sn_none_spec (s := s.cxN cxN) hb (h.same rfl rfl) (by omega) fun s1 x1 => ?_
  try simp only [W_bind, W_oS, W_on, W_pure, W_mv, W_setF, W_setT, T.get_set, seqO_cons, seqO_nil, seqP_cons, seqP_nil, onO_some', W_callV, reduceIte, isK_bool, isB_tt, isB_tf, isB_ft, isB_ff, W_chk, W_ifT, W_ifF, W_pick, W_nil, Nat.reduceEqDiff, Nat.reduceEqDiff, reduceCtorEq, ↓reduceIte]
  refine W.cond (v := true) sn_off_S1_2 sn_off_C2 (by simp [T.get_set]) (by omega) (fun _ => ?_) fun h => by cases h
  refine sn_off_q3.w sn_off_S2_3 (by omega) ?_
  simp only [sn_off_r3, W_bind, W_oS, W_on, W_pure, W_mv, W_setF, W_setT, T.get_set, seqO_cons, seqO_nil, seqP_cons, seqP_nil, onO_some', W_callV, reduceIte, isK_bool, isB_tt, isB_tf, isB_ft, isB_ff, W_chk, W_ifT, W_ifF, W_pick, W_nil, Nat.reduceEqDiff, Nat.reduceEqDiff, reduceCtorEq, ↓reduceIte]
  exact W.end' (rs := [2]) (vs := [.int .i64 1]) sn_off_S3_5 (.inl sn_off_E5) (by omega) sn_off_fn sn_off_res x1.cx (by simp [T.get_set]) (q _ x1.cx')
theorem isK_undef : isK undef = true := rfl
theorem isB_undef (b : Bool) : isB undef b = false := rfl
theorem sn_Out_spec (hb : s.lim ≤ s.next) (h : SnN s va) (hn : 90 ≤ n) (q : ∀ s1, Ext Any Non s s1 → Q (.bool false) s1) : W (callW envS (runF envS n) 13 [va]) s Q := by
  refine sn_Out_W fun tm h0 => ?_
  refine sn_Out_q0.w rfl (by omega) ?_
  simp only [sn_Out_r0, W_bind, W_oS, W_on, W_pure, W_mv, W_setF, W_setT, T.get_set, seqO_cons, seqO_nil, seqP_cons, seqP_nil, onO_some', W_callV, reduceIte, isK_bool, isB_tt, isB_tf, isB_ft, isB_ff, W_chk, W_ifT, W_ifF, W_pick, W_nil, Nat.reduceEqDiff, Nat.reduceEqDiff, reduceCtorEq, ↓reduceIte]
  refine sn_Out_q1.w sn_Out_S0_1 (by omega) ?_
  simp only [sn_Out_r1, W_bind, W_oS, W_on, W_pure, W_mv, W_setF, W_setT, T.get_set, seqO_cons, seqO_nil, seqP_cons, seqP_nil, onO_some', W_callV, reduceIte, isK_bool, isB_tt, isB_tf, isB_ft, isB_ff, W_chk, W_ifT, W_ifF, W_pick, W_nil, Nat.reduceEqDiff, Nat.reduceEqDiff, reduceCtorEq, ↓reduceIte, h0]
  refine sn_none_spec (s := s.cxN cxN) hb (h.same rfl rfl) (by omega) fun s1 x1 => ?_
  simp only [W_bind, W_oS, W_on, W_pure, W_mv, W_setF, W_setT, T.get_set, seqO_cons, seqO_nil, seqP_cons, seqP_nil, onO_some', W_callV, reduceIte, isK_bool, isB_tt, isB_tf, isB_ft, isB_ff, W_chk, W_ifT, W_ifF, W_pick, W_nil, Nat.reduceEqDiff, Nat.reduceEqDiff, reduceCtorEq, ↓reduceIte, W_not, Bool.not_true, isK_undef, isB_undef]
  exact W.end' (rs := [2]) (vs := [.bool false]) sn_Out_S1_2 (.inl sn_Out_E2) (by omega) sn_Out_fn sn_Out_res x1.cx (by simp [T.get_set]) (q _ x1.cx')
theorem sn_Greatest_spec (hb : s.lim ≤ s.next) (h : SnN s va) (hn : 150 ≤ n) (q : ∀ s1, Ext Any Non s s1 → Q (.int .i64 0) s1) : W (callW envS (runF envS n) 12 [va]) s Q := by
  refine sn_Greatest_W fun tm h0 => ?_
  refine sn_Greatest_q0.w rfl (by omega) ?_
  simp only [sn_Greatest_r0, W_bind, W_oS, W_on, W_pure, W_mv, W_setF, W_setT, T.get_set, seqO_cons, seqO_nil, seqP_cons, seqP_nil, onO_some', W_callV, reduceIte, isK_bool, isB_tt, isB_tf, isB_ft, isB_ff, W_chk, W_ifT, W_ifF, W_pick, W_nil, Nat.reduceEqDiff, Nat.reduceEqDiff, reduceCtorEq, ↓reduceIte]
  refine sn_Greatest_q1.w sn_Greatest_S0_1 (by omega) ?_
  simp only [sn_Greatest_r1, W_bind, W_oS, W_on, W_pure, W_mv, W_setF, W_setT, T.get_set, seqO_cons, seqO_nil, seqP_cons, seqP_nil, onO_some', W_callV, reduceIte, isK_bool, isB_tt, isB_tf, isB_ft, isB_ff, W_chk, W_ifT, W_ifF, W_pick, W_nil, Nat.reduceEqDiff, Nat.reduceEqDiff, reduceCtorEq, ↓reduceIte, h0]
  refine sn_off_spec (s := s.cxN cxN) hb (h.same rfl rfl) (by omega) fun s1 x1 => ?_
  simp only [W_bind, W_oS, W_on, W_pure, W_mv, W_setF, W_setT, T.get_set, seqO_cons, seqO_nil, seqP_cons, seqP_nil, onO_some', W_callV, reduceIte, isK_bool, isB_tt, isB_tf, isB_ft, isB_ff, W_chk, W_ifT, W_ifF, W_pick, W_nil, Nat.reduceEqDiff, Nat.reduceEqDiff, reduceCtorEq, ↓reduceIte, W_add64, W_sub64, W_lss64, W_gtr64, W_leq64, W_geq64, W_eql64, W_neq64, ne10]
  refine W.cond (v := true) sn_Greatest_S1_2 sn_Greatest_C2 (by simp [T.get_set]) (by omega) (fun _ => ?_) fun h => by cases h
  refine sn_Greatest_q3.w sn_Greatest_S2_3 (by omega) ?_
  simp only [sn_Greatest_r3, W_bind, W_oS, W_on, W_pure, W_mv, W_setF, W_setT, T.get_set, seqO_cons, seqO_nil, seqP_cons, seqP_nil, onO_some', W_callV, reduceIte, isK_bool, isB_tt, isB_tf, isB_ft, isB_ff, W_chk, W_ifT, W_ifF, W_pick, W_nil, Nat.reduceEqDiff, Nat.reduceEqDiff, reduceCtorEq, ↓reduceIte]
  exact W.end' (rs := [2]) (vs := [.int .i64 0]) sn_Greatest_S3_5 (.inl sn_Greatest_E5) (by omega) sn_Greatest_fn sn_Greatest_res x1.cx (by simp [T.get_set]) (q _ x1.cx')
theorem sn_List_spec (hb : s.lim ≤ s.next) (h : SnN s va) (hn : 150 ≤ n) (q : ∀ s1, Ext Any Non s s1 → Q (.slice none 0 0) s1) : W (callW envS (runF envS n) 11 [va]) s Q := by
  refine sn_List_W fun tm h0 => ?_
  refine sn_List_q0.w rfl (by omega) ?_
  simp only [sn_List_r0, W_bind, W_oS, W_on, W_pure, W_mv, W_setF, W_setT, T.get_set, seqO_cons, seqO_nil, seqP_cons, seqP_nil, onO_some', W_callV, reduceIte, isK_bool, isB_tt, isB_tf, isB_ft, isB_ff, W_chk, W_ifT, W_ifF, W_pick, W_nil, Nat.reduceEqDiff, Nat.reduceEqDiff, reduceCtorEq, ↓reduceIte]
  refine sn_List_q1.w sn_List_S0_1 (by omega) ?_
  simp only [sn_List_r1, W_bind, W_oS, W_on, W_pure, W_mv, W_setF, W_setT, T.get_set, seqO_cons, seqO_nil, seqP_cons, seqP_nil, onO_some', W_callV, reduceIte, isK_bool, isB_tt, isB_tf, isB_ft, isB_ff, W_chk, W_ifT, W_ifF, W_pick, W_nil, Nat.reduceEqDiff, Nat.reduceEqDiff, reduceCtorEq, ↓reduceIte, h0]
  refine sn_off_spec (s := s.cxN cxN) hb (h.same rfl rfl) (by omega) fun s1 x1 => ?_
  simp only [W_bind, W_oS, W_on, W_pure, W_mv, W_setF, W_setT, T.get_set, seqO_cons, seqO_nil, seqP_cons, seqP_nil, onO_some', W_callV, reduceIte, isK_bool, isB_tt, isB_tf, isB_ft, isB_ff, W_chk, W_ifT, W_ifF, W_pick, W_nil, Nat.reduceEqDiff, Nat.reduceEqDiff, reduceCtorEq, ↓reduceIte, W_add64, W_sub64, W_lss64, W_gtr64, W_leq64, W_geq64, W_eql64, W_neq64, ne10]
  refine W.cond (v := true) sn_List_S1_2 sn_List_C2 (by simp [T.get_set]) (by omega) (fun _ => ?_) fun h => by cases h
  refine sn_List_q3.w sn_List_S2_3 (by omega) ?_
  simp only [sn_List_r3, W_bind, W_oS, W_on, W_pure, W_mv, W_setF, W_setT, T.get_set, seqO_cons, seqO_nil, seqP_cons, seqP_nil, onO_some', W_callV, reduceIte, isK_bool, isB_tt, isB_tf, isB_ft, isB_ff, W_chk, W_ifT, W_ifF, W_pick, W_nil, Nat.reduceEqDiff, Nat.reduceEqDiff, reduceCtorEq, ↓reduceIte]
  exact W.end' (rs := [2]) (vs := [.slice none 0 0]) sn_List_S3_5 (.inl sn_List_E5) (by omega) sn_List_fn sn_List_res x1.cx (by simp [T.get_set]) (q _ x1.cx')
theorem sn_Forget_spec {vn : Value} (hb : s.lim ≤ s.next) (h : SnN s va) (hn : 150 ≤ n) (q : ∀ s1, Ext Any Non s s1 → Q (.int .i64 1) s1) : W (callW envS (runF envS n) 10 [va, vn]) s Q := by
  refine sn_Forget_W fun tm h0 _ => ?_
  refine sn_Forget_q0.w rfl (by omega) ?_
  simp only [sn_Forget_r0, W_bind, W_oS, W_on, W_pure, W_mv, W_setF, W_setT, T.get_set, seqO_cons, seqO_nil, seqP_cons, seqP_nil, onO_some', W_callV, reduceIte, isK_bool, isB_tt, isB_tf, isB_ft, isB_ff, W_chk, W_ifT, W_ifF, W_pick, W_nil, Nat.reduceEqDiff, Nat.reduceEqDiff, reduceCtorEq, ↓reduceIte]
  refine sn_Forget_q1.w sn_Forget_S0_1 (by omega) ?_
  simp only [sn_Forget_r1, W_bind, W_oS, W_on, W_pure, W_mv, W_setF, W_setT, T.get_set, seqO_cons, seqO_nil, seqP_cons, seqP_nil, onO_some', W_callV, reduceIte, isK_bool, isB_tt, isB_tf, isB_ft, isB_ff, W_chk, W_ifT, W_ifF, W_pick, W_nil, Nat.reduceEqDiff, Nat.reduceEqDiff, reduceCtorEq, ↓reduceIte, h0]
  refine sn_off_spec (s := s.cxN cxN) hb (h.same rfl rfl) (by omega) fun s1 x1 => ?_
  try simp only [W_bind, W_oS, W_on, W_pure, W_mv, W_setF, W_setT, T.get_set, seqO_cons, seqO_nil, seqP_cons, seqP_nil, onO_some', W_callV, reduceIte, isK_bool, isB_tt, isB_tf, isB_ft, isB_ff, W_chk, W_ifT, W_ifF, W_pick, W_nil, Nat.reduceEqDiff, Nat.reduceEqDiff, reduceCtorEq, ↓reduceIte]
  refine sn_Forget_q2.w sn_Forget_S1_2 (by omega) ?_
  simp only [sn_Forget_r2, W_bind, W_oS, W_on, W_pure, W_mv, W_setF, W_setT, T.get_set, seqO_cons, seqO_nil, seqP_cons, seqP_nil, onO_some', W_callV, reduceIte, isK_bool, isB_tt, isB_tf, isB_ft, isB_ff, W_chk, W_ifT, W_ifF, W_pick, W_nil, Nat.reduceEqDiff, Nat.reduceEqDiff, reduceCtorEq, ↓reduceIte, W_add64, W_sub64, W_lss64, W_gtr64, W_leq64, W_geq64, W_eql64, W_neq64, ne10]
  refine W.cond (v := true) sn_Forget_S2_3 sn_Forget_C3 (by simp [T.get_set]) (by omega) (fun _ => ?_) fun h => by cases h
  refine sn_Forget_q4.w sn_Forget_S3_4 (by omega) ?_
  simp only [sn_Forget_r4, W_bind, W_oS, W_on, W_pure, W_mv, W_setF, W_setT, T.get_set, seqO_cons, seqO_nil, seqP_cons, seqP_nil, onO_some', W_callV, reduceIte, isK_bool, isB_tt, isB_tf, isB_ft, isB_ff, W_chk, W_ifT, W_ifF, W_pick, W_nil, Nat.reduceEqDiff, Nat.reduceEqDiff, reduceCtorEq, ↓reduceIte]
  exact W.end' (rs := [4]) (vs := [.int .i64 1]) sn_Forget_S4_6 (.inl sn_Forget_E6) (by omega) sn_Forget_fn sn_Forget_res x1.cx (by simp [T.get_set]) (q _ x1.cx')
theorem sn_Commit_spec {vx : Value} (hb : s.lim ≤ s.next) (h : SnN s va) (hn : 150 ≤ n) (q : ∀ s1, Ext Any Non s s1 → Q (.tuple #[.int .i64 0, .int .i64 1]) s1) : W (callW envS (runF envS n) 6 [va, vx]) s Q := by
  refine sn_Commit_W fun tm h0 h1 => ?_
  refine sn_Commit_q0.w rfl (by omega) ?_
  simp only [sn_Commit_r0, W_bind, W_oS, W_on, W_pure, W_mv, W_setF, W_setT, T.get_set, seqO_cons, seqO_nil, seqP_cons, seqP_nil, onO_some', W_callV, reduceIte, isK_bool, isB_tt, isB_tf, isB_ft, isB_ff, W_chk, W_ifT, W_ifF, W_pick, W_nil, Nat.reduceEqDiff, Nat.reduceEqDiff, reduceCtorEq, ↓reduceIte, h1]
  refine W.box fun sa na xa oa => ?_
  have ya : Ext Any Non (s.cxN cxN) sa := xa.any hb
  try simp only [W_bind, W_oS, W_on, W_pure, W_mv, W_setF, W_setT, T.get_set, seqO_cons, seqO_nil, seqP_cons, seqP_nil, onO_some', W_callV, reduceIte, isK_bool, isB_tt, isB_tf, isB_ft, isB_ff, W_chk, W_ifT, W_ifF, W_pick, W_nil, Nat.reduceEqDiff, Nat.reduceEqDiff, reduceCtorEq, ↓reduceIte]
  refine sn_Commit_q1.w sn_Commit_S0_1 (by omega) ?_
  simp only [sn_Commit_r1, W_bind, W_oS, W_on, W_pure, W_mv, W_setF, W_setT, T.get_set, seqO_cons, seqO_nil, seqP_cons, seqP_nil, onO_some', W_callV, reduceIte, isK_bool, isB_tt, isB_tf, isB_ft, isB_ff, W_chk, W_ifT, W_ifF, W_pick, W_nil, Nat.reduceEqDiff, Nat.reduceEqDiff, reduceCtorEq, ↓reduceIte, h0]
  refine sn_off_spec (ya.bnd (s := s.cxN cxN) hb) ((h.same (s' := s.cxN cxN) rfl rfl).ext0 ya) (by omega) fun s1 x1 => ?_
  have y1 := ya.then0 x1 hb
  try simp only [W_bind, W_oS, W_on, W_pure, W_mv, W_setF, W_setT, T.get_set, seqO_cons, seqO_nil, seqP_cons, seqP_nil, onO_some', W_callV, reduceIte, isK_bool, isB_tt, isB_tf, isB_ft, isB_ff, W_chk, W_ifT, W_ifF, W_pick, W_nil, Nat.reduceEqDiff, Nat.reduceEqDiff, reduceCtorEq, ↓reduceIte]
  refine sn_Commit_q2.w sn_Commit_S1_2 (by omega) ?_
  simp only [sn_Commit_r2, W_bind, W_oS, W_on, W_pure, W_mv, W_setF, W_setT, T.get_set, seqO_cons, seqO_nil, seqP_cons, seqP_nil, onO_some', W_callV, reduceIte, isK_bool, isB_tt, isB_tf, isB_ft, isB_ff, W_chk, W_ifT, W_ifF, W_pick, W_nil, Nat.reduceEqDiff, Nat.reduceEqDiff, reduceCtorEq, ↓reduceIte, W_add64, W_sub64, W_lss64, W_gtr64, W_leq64, W_geq64, W_eql64, W_neq64, ne10]
  refine W.cond (v := true) sn_Commit_S2_3 sn_Commit_C3 (by simp [T.get_set]) (by omega) (fun _ => ?_) fun h => by cases h
  refine sn_Commit_q4.w sn_Commit_S3_4 (by omega) ?_
  simp only [sn_Commit_r4, W_bind, W_oS, W_on, W_pure, W_mv, W_setF, W_setT, T.get_set, seqO_cons, seqO_nil, seqP_cons, seqP_nil, onO_some', W_callV, reduceIte, isK_bool, isB_tt, isB_tf, isB_ft, isB_ff, W_chk, W_ifT, W_ifF, W_pick, W_nil, Nat.reduceEqDiff, Nat.reduceEqDiff, reduceCtorEq, ↓reduceIte]
  exact W.end' (rs := [4, 5]) (vs := [.int .i64 0, .int .i64 1]) sn_Commit_S4_6 (.inl sn_Commit_E6) (by omega) sn_Commit_fn sn_Commit_res y1.cx (by simp [T.get_set]) (q _ y1.cx')
theorem sn_Expire_spec {vx : Value} (hb : s.lim ≤ s.next) (h : SnN s va) (hn : 150 ≤ n) (q : ∀ s1, Ext Any Non s s1 → Q (.tuple #[.slice none 0 0, .int .i64 1]) s1) : W (callW envS (runF envS n) 7 [va, vx]) s Q := by
  refine sn_Expire_W fun tm h0 h1 => ?_
  refine sn_Expire_q0.w rfl (by omega) ?_
  simp only [sn_Expire_r0, W_bind, W_oS, W_on, W_pure, W_mv, W_setF, W_setT, T.get_set, seqO_cons, seqO_nil, seqP_cons, seqP_nil, onO_some', W_callV, reduceIte, isK_bool, isB_tt, isB_tf, isB_ft, isB_ff, W_chk, W_ifT, W_ifF, W_pick, W_nil, Nat.reduceEqDiff, Nat.reduceEqDiff, reduceCtorEq, ↓reduceIte, h1]
  refine W.box fun sa na xa oa => ?_
  have ya : Ext Any Non (s.cxN cxN) sa := xa.any hb
  try simp only [W_bind, W_oS, W_on, W_pure, W_mv, W_setF, W_setT, T.get_set, seqO_cons, seqO_nil, seqP_cons, seqP_nil, onO_some', W_callV, reduceIte, isK_bool, isB_tt, isB_tf, isB_ft, isB_ff, W_chk, W_ifT, W_ifF, W_pick, W_nil, Nat.reduceEqDiff, Nat.reduceEqDiff, reduceCtorEq, ↓reduceIte]
  refine sn_Expire_q1.w sn_Expire_S0_1 (by omega) ?_
  simp only [sn_Expire_r1, W_bind, W_oS, W_on, W_pure, W_mv, W_setF, W_setT, T.get_set, seqO_cons, seqO_nil, seqP_cons, seqP_nil, onO_some', W_callV, reduceIte, isK_bool, isB_tt, isB_tf, isB_ft, isB_ff, W_chk, W_ifT, W_ifF, W_pick, W_nil, Nat.reduceEqDiff, Nat.reduceEqDiff, reduceCtorEq, ↓reduceIte, h0]
  refine sn_off_spec (ya.bnd (s := s.cxN cxN) hb) ((h.same (s' := s.cxN cxN) rfl rfl).ext0 ya) (by omega) fun s1 x1 => ?_
  have y1 := ya.then0 x1 hb
  try simp only [W_bind, W_oS, W_on, W_pure, W_mv, W_setF, W_setT, T.get_set, seqO_cons, seqO_nil, seqP_cons, seqP_nil, onO_some', W_callV, reduceIte, isK_bool, isB_tt, isB_tf, isB_ft, isB_ff, W_chk, W_ifT, W_ifF, W_pick, W_nil, Nat.reduceEqDiff, Nat.reduceEqDiff, reduceCtorEq, ↓reduceIte]
  refine sn_Expire_q2.w sn_Expire_S1_2 (by omega) ?_
  simp only [sn_Expire_r2, W_bind, W_oS, W_on, W_pure, W_mv, W_setF, W_setT, T.get_set, seqO_cons, seqO_nil, seqP_cons, seqP_nil, onO_some', W_callV, reduceIte, isK_bool, isB_tt, isB_tf, isB_ft, isB_ff, W_chk, W_ifT, W_ifF, W_pick, W_nil, Nat.reduceEqDiff, Nat.reduceEqDiff, reduceCtorEq, ↓reduceIte, W_add64, W_sub64, W_lss64, W_gtr64, W_leq64, W_geq64, W_eql64, W_neq64, ne10]
  refine W.cond (v := true) sn_Expire_S2_3 sn_Expire_C3 (by simp [T.get_set]) (by omega) (fun _ => ?_) fun h => by cases h
  refine sn_Expire_q4.w sn_Expire_S3_4 (by omega) ?_
  simp only [sn_Expire_r4, W_bind, W_oS, W_on, W_pure, W_mv, W_setF, W_setT, T.get_set, seqO_cons, seqO_nil, seqP_cons, seqP_nil, onO_some', W_callV, reduceIte, isK_bool, isB_tt, isB_tf, isB_ft, isB_ff, W_chk, W_ifT, W_ifF, W_pick, W_nil, Nat.reduceEqDiff, Nat.reduceEqDiff, reduceCtorEq, ↓reduceIte]
  exact W.end' (rs := [4, 5]) (vs := [.slice none 0 0, .int .i64 1]) sn_Expire_S4_6 (.inl sn_Expire_E6) (by omega) sn_Expire_fn sn_Expire_res y1.cx (by simp [T.get_set]) (q _ y1.cx')
theorem sn_Of_spec {vn : Value} (hb : s.lim ≤ s.next) (h : SnN s va) (hn : 250 ≤ n) (q : ∀ s1, Ext Any Non s s1 → Q (.tuple #[.int .i64 0, .bool false]) s1) : W (callW envS (runF envS n) 9 [va, vn]) s Q := by
  have e00 : decide (((0 : Nat) : Int) < ((0 : Nat) : Int)) = false := rfl
  have e0' : decide ((0 : Int) < ((0 : Nat) : Int)) = false := rfl
  have e0 : decide ((0 : Int) < 0) = false := rfl
  refine sn_Of_W fun tm h0 _ => ?_
  refine sn_Of_q0.w rfl (by omega) ?_
  simp only [sn_Of_r0, W_bind, W_oS, W_on, W_pure, W_mv, W_setF, W_setT, T.get_set, seqO_cons, seqO_nil, seqP_cons, seqP_nil, onO_some', W_callV, reduceIte, isK_bool, isB_tt, isB_tf, isB_ft, isB_ff, W_chk, W_ifT, W_ifF, W_pick, W_nil, Nat.reduceEqDiff, Nat.reduceEqDiff, reduceCtorEq, ↓reduceIte]
  refine sn_Of_q1.w sn_Of_S0_1 (by omega) ?_
  simp only [sn_Of_r1, W_bind, W_oS, W_on, W_pure, W_mv, W_setF, W_setT, T.get_set, seqO_cons, seqO_nil, seqP_cons, seqP_nil, onO_some', W_callV, reduceIte, isK_bool, isB_tt, isB_tf, isB_ft, isB_ff, W_chk, W_ifT, W_ifF, W_pick, W_nil, Nat.reduceEqDiff, Nat.reduceEqDiff, reduceCtorEq, ↓reduceIte]
  refine sn_Of_q2.w sn_Of_S1_2 (by omega) ?_
  simp only [sn_Of_r2, W_bind, W_oS, W_on, W_pure, W_mv, W_setF, W_setT, T.get_set, seqO_cons, seqO_nil, seqP_cons, seqP_nil, onO_some', W_callV, reduceIte, isK_bool, isB_tt, isB_tf, isB_ft, isB_ff, W_chk, W_ifT, W_ifF, W_pick, W_nil, Nat.reduceEqDiff, Nat.reduceEqDiff, reduceCtorEq, ↓reduceIte, h0]
  refine sn_List_spec (s := s.cxN cxN) hb (h.same rfl rfl) (by omega) fun s1 x1 => ?_
  simp only [W_bind, W_oS, W_on, W_pure, W_mv, W_setF, W_setT, T.get_set, seqO_cons, seqO_nil, seqP_cons, seqP_nil, onO_some', W_callV, reduceIte, isK_bool, isB_tt, isB_tf, isB_ft, isB_ff, W_chk, W_ifT, W_ifF, W_pick, W_nil, Nat.reduceEqDiff, Nat.reduceEqDiff, reduceCtorEq, ↓reduceIte, W_lenSl sn_li]
  refine sn_Of_q3.w sn_Of_S2_3 (by omega) ?_
  simp only [sn_Of_r3, W_bind, W_oS, W_on, W_pure, W_mv, W_setF, W_setT, T.get_set, seqO_cons, seqO_nil, seqP_cons, seqP_nil, onO_some', W_callV, reduceIte, isK_bool, isB_tt, isB_tf, isB_ft, isB_ff, W_chk, W_ifT, W_ifF, W_pick, W_nil, Nat.reduceEqDiff, Nat.reduceEqDiff, reduceCtorEq, ↓reduceIte, W_add64, W_sub64, W_lss64, W_gtr64, W_leq64, W_geq64, W_eql64, W_neq64, e0', e00]
  refine W.cond (v := false) sn_Of_S3_4 sn_Of_C4 (by simp [T.get_set]) (by omega) (fun h => by cases h) fun _ => ?_
  refine sn_Of_q6.w sn_Of_S4_6 (by omega) ?_
  simp only [sn_Of_r6, W_bind, W_oS, W_on, W_pure, W_mv, W_setF, W_setT, T.get_set, seqO_cons, seqO_nil, seqP_cons, seqP_nil, onO_some', W_callV, reduceIte, isK_bool, isB_tt, isB_tf, isB_ft, isB_ff, W_chk, W_ifT, W_ifF, W_pick, W_nil, Nat.reduceEqDiff, Nat.reduceEqDiff, reduceCtorEq, ↓reduceIte, W_add64, W_sub64, W_lss64, W_gtr64, W_leq64, W_geq64, W_eql64, W_neq64, e0]
  exact W.end' (rs := [4, 5]) (vs := [.int .i64 0, .bool false]) sn_Of_S6_8 (.inl sn_Of_E8) (by omega) sn_Of_fn sn_Of_res x1.cx (by simp [T.get_set]) (q _ x1.cx')
theorem sn_Get_spec {vn : Value} (hb : s.lim ≤ s.next) (h : SnN s va) (hn : 200 ≤ n) (q : ∀ s1, Ext Any Non s s1 → Q (.tuple #[.agg zMan.toArray, .int .i64 1]) s1) : W (callW envS (runF envS n) 8 [va, vn]) s Q := by
  refine sn_Get_W fun tm h0 _ => ?_
  refine sn_Get_q0.w rfl (by omega) ?_
  simp only [sn_Get_r0, W_bind, W_oS, W_on, W_pure, W_mv, W_setF, W_setT, T.get_set, seqO_cons, seqO_nil, seqP_cons, seqP_nil, onO_some', W_callV, reduceIte, isK_bool, isB_tt, isB_tf, isB_ft, isB_ff, W_chk, W_ifT, W_ifF, W_pick, W_nil, Nat.reduceEqDiff, Nat.reduceEqDiff, reduceCtorEq, ↓reduceIte]
  refine W.alloc man_z fun sa na xa oa => ?_
  have ya : Ext Any Non (s.cxN cxN) sa := xa.any hb
  have oa' : OwnRow sa s.next 0 zMan := oa
  try simp only [W_bind, W_oS, W_on, W_pure, W_mv, W_setF, W_setT, T.get_set, seqO_cons, seqO_nil, seqP_cons, seqP_nil, onO_some', W_callV, reduceIte, isK_bool, isB_tt, isB_tf, isB_ft, isB_ff, W_chk, W_ifT, W_ifF, W_pick, W_nil, Nat.reduceEqDiff, Nat.reduceEqDiff, reduceCtorEq, ↓reduceIte]
  refine sn_Get_q1.w sn_Get_S0_1 (by omega) ?_
  simp only [sn_Get_r1, W_bind, W_oS, W_on, W_pure, W_mv, W_setF, W_setT, T.get_set, seqO_cons, seqO_nil, seqP_cons, seqP_nil, onO_some', W_callV, reduceIte, isK_bool, isB_tt, isB_tf, isB_ft, isB_ff, W_chk, W_ifT, W_ifF, W_pick, W_nil, Nat.reduceEqDiff, Nat.reduceEqDiff, reduceCtorEq, ↓reduceIte, h0]
  refine sn_off_spec (ya.bnd (s := s.cxN cxN) hb) ((h.same (s' := s.cxN cxN) rfl rfl).ext0 ya) (by omega) fun s1 x1 => ?_
  have y1 := ya.then0 x1 hb
  have o1 : OwnRow s1 s.next 0 zMan := oa'.ext0 x1
  try simp only [W_bind, W_oS, W_on, W_pure, W_mv, W_setF, W_setT, T.get_set, seqO_cons, seqO_nil, seqP_cons, seqP_nil, onO_some', W_callV, reduceIte, isK_bool, isB_tt, isB_tf, isB_ft, isB_ff, W_chk, W_ifT, W_ifF, W_pick, W_nil, Nat.reduceEqDiff, Nat.reduceEqDiff, reduceCtorEq, ↓reduceIte]
  refine sn_Get_q2.w sn_Get_S1_2 (by omega) ?_
  simp only [sn_Get_r2, W_bind, W_oS, W_on, W_pure, W_mv, W_setF, W_setT, T.get_set, seqO_cons, seqO_nil, seqP_cons, seqP_nil, onO_some', W_callV, reduceIte, isK_bool, isB_tt, isB_tf, isB_ft, isB_ff, W_chk, W_ifT, W_ifF, W_pick, W_nil, Nat.reduceEqDiff, Nat.reduceEqDiff, reduceCtorEq, ↓reduceIte, W_add64, W_sub64, W_lss64, W_gtr64, W_leq64, W_geq64, W_eql64, W_neq64, ne10]
  refine W.cond (v := true) sn_Get_S2_3 sn_Get_C3 (by simp [T.get_set]) (by omega) (fun _ => ?_) fun h => by cases h
  refine sn_Get_q4.w sn_Get_S3_4 (by omega) ?_
  simp only [sn_Get_r4, W_bind, W_oS, W_on, W_pure, W_mv, W_setF, W_setT, T.get_set, seqO_cons, seqO_nil, seqP_cons, seqP_nil, onO_some', W_callV, reduceIte, isK_bool, isB_tt, isB_tf, isB_ft, isB_ff, W_chk, W_ifT, W_ifF, W_pick, W_nil, Nat.reduceEqDiff, Nat.reduceEqDiff, reduceCtorEq, ↓reduceIte, W_build man_b]
  refine W.store man_5 rfl rfl (fun i hi => ⟨_, o1 i (zMan[i]'hi) (List.getElem?_eq_getElem hi)⟩) fun sc nc xc oc => ?_
  have yc : Ext Any Non (s.cxN cxN) sc := y1.thenW xc hb (Nat.le_refl _)
  try simp only [W_bind, W_oS, W_on, W_pure, W_mv, W_setF, W_setT, T.get_set, seqO_cons, seqO_nil, seqP_cons, seqP_nil, onO_some', W_callV, reduceIte, isK_bool, isB_tt, isB_tf, isB_ft, isB_ff, W_chk, W_ifT, W_ifF, W_pick, W_nil, Nat.reduceEqDiff, Nat.reduceEqDiff, reduceCtorEq, ↓reduceIte]
  refine W.endG sn_Get_S4_6 (.inl sn_Get_E6) (by omega) sn_Get_fn sn_Get_res yc.cx (W.resCell (a := ⟨s.next, 0, none⟩) (by simp [T.get_set]; rfl) ?_)
  refine W.loadA man_5 (l := zMan) oc.row rfl fun sd md nd xd => ?_
  have yd := yc.then0 xd hb
  exact W.resTmp (v := .int .i64 1) (by simp [T.get_set]) (W.resNil (q _ yd.cx'))
theorem dk_none_spec (hn : 40 ≤ n) (q : ∀ s1, Ext Any Non s s1 → Q (.bool true) s1) : W (callW envS (runF envS n) 71 [.pointer none]) s Q := by
  refine dk_none_W fun tm h0 => ?_
  refine dk_none_q0.w rfl (by omega) ?_
  simp only [dk_none_r0, W_bind, W_oS, W_on, W_pure, W_mv, W_setF, W_setT, T.get_set, seqO_cons, seqO_nil, seqP_cons, seqP_nil, onO_some', W_callV, reduceIte, isK_bool, isB_tt, isB_tf, isB_ft, isB_ff, W_chk, W_ifT, W_ifF, W_pick, W_nil, Nat.reduceEqDiff, Nat.reduceEqDiff, reduceCtorEq, ↓reduceIte]
  refine dk_none_q1.w dk_none_S0_1 (by omega) ?_
  simp only [dk_none_r1, W_bind, W_oS, W_on, W_pure, W_mv, W_setF, W_setT, T.get_set, seqO_cons, seqO_nil, seqP_cons, seqP_nil, onO_some', W_callV, reduceIte, isK_bool, isB_tt, isB_tf, isB_ft, isB_ff, W_chk, W_ifT, W_ifF, W_pick, W_nil, Nat.reduceEqDiff, Nat.reduceEqDiff, reduceCtorEq, ↓reduceIte, h0, ep_dk]
  exact W.end' (rs := [2]) (vs := [.bool true]) dk_none_S1_2 (.inl dk_none_E2) (by omega) dk_none_fn dk_none_res rfl (by simp [T.get_set]) (q _ (Ext.refl (s.cxN cxN)).cx')
theorem dk_ready_spec (hn : 90 ≤ n) (q : ∀ s1, Ext Any Non s s1 → Q (.int .i64 1) s1) : W (callW envS (runF envS n) 64 [.pointer none]) s Q := by
  refine dk_ready_W fun tm h0 => ?_
  refine dk_ready_q0.w rfl (by omega) ?_
  simp only [dk_ready_r0, W_bind, W_oS, W_on, W_pure, W_mv, W_setF, W_setT, T.get_set, seqO_cons, seqO_nil, seqP_cons, seqP_nil, onO_some', W_callV, reduceIte, isK_bool, isB_tt, isB_tf, isB_ft, isB_ff, W_chk, W_ifT, W_ifF, W_pick, W_nil, Nat.reduceEqDiff, Nat.reduceEqDiff, reduceCtorEq, ↓reduceIte]
  refine dk_ready_q1.w dk_ready_S0_1 (by omega) ?_
  simp only [dk_ready_r1, W_bind, W_oS, W_on, W_pure, W_mv, W_setF, W_setT, T.get_set, seqO_cons, seqO_nil, seqP_cons, seqP_nil, onO_some', W_callV, reduceIte, isK_bool, isB_tt, isB_tf, isB_ft, isB_ff, W_chk, W_ifT, W_ifF, W_pick, W_nil, Nat.reduceEqDiff, Nat.reduceEqDiff, reduceCtorEq, ↓reduceIte, h0]
  refine dk_none_spec (s := s.cxN cxN) (by omega) fun s1 x1 => ?_
  try simp only [W_bind, W_oS, W_on, W_pure, W_mv, W_setF, W_setT, T.get_set, seqO_cons, seqO_nil, seqP_cons, seqP_nil, onO_some', W_callV, reduceIte, isK_bool, isB_tt, isB_tf, isB_ft, isB_ff, W_chk, W_ifT, W_ifF, W_pick, W_nil, Nat.reduceEqDiff, Nat.reduceEqDiff, reduceCtorEq, ↓reduceIte]
  refine W.cond (v := true) dk_ready_S1_2 dk_ready_C2 (by simp [T.get_set]) (by omega) (fun _ => ?_) fun h => by cases h
  refine dk_ready_q3.w dk_ready_S2_3 (by omega) ?_
  simp only [dk_ready_r3, W_bind, W_oS, W_on, W_pure, W_mv, W_setF, W_setT, T.get_set, seqO_cons, seqO_nil, seqP_cons, seqP_nil, onO_some', W_callV, reduceIte, isK_bool, isB_tt, isB_tf, isB_ft, isB_ff, W_chk, W_ifT, W_ifF, W_pick, W_nil, Nat.reduceEqDiff, Nat.reduceEqDiff, reduceCtorEq, ↓reduceIte]
  exact W.end' (rs := [2]) (vs := [.int .i64 1]) dk_ready_S3_5 (.inl dk_ready_E5) (by omega) dk_ready_fn dk_ready_res x1.cx (by simp [T.get_set]) (q _ x1.cx')
theorem dk_Read_spec {v : Value} (hn : 150 ≤ n) (q : ∀ s1, Ext Any Non s s1 → Q (.tuple #[.slice none 0 0, .int .i64 1]) s1) : W (callW envS (runF envS n) 35 [.pointer none, v]) s Q := by
  refine dk_Read_W fun tm h0 _ => ?_
  refine dk_Read_q0.w rfl (by omega) ?_
  simp only [dk_Read_r0, W_bind, W_oS, W_on, W_pure, W_mv, W_setF, W_setT, T.get_set, seqO_cons, seqO_nil, seqP_cons, seqP_nil, onO_some', W_callV, reduceIte, isK_bool, isB_tt, isB_tf, isB_ft, isB_ff, W_chk, W_ifT, W_ifF, W_pick, W_nil, Nat.reduceEqDiff, Nat.reduceEqDiff, reduceCtorEq, ↓reduceIte]
  refine dk_Read_q1.w dk_Read_S0_1 (by omega) ?_
  simp only [dk_Read_r1, W_bind, W_oS, W_on, W_pure, W_mv, W_setF, W_setT, T.get_set, seqO_cons, seqO_nil, seqP_cons, seqP_nil, onO_some', W_callV, reduceIte, isK_bool, isB_tt, isB_tf, isB_ft, isB_ff, W_chk, W_ifT, W_ifF, W_pick, W_nil, Nat.reduceEqDiff, Nat.reduceEqDiff, reduceCtorEq, ↓reduceIte, h0]
  refine dk_ready_spec (s := s.cxN cxN) (by omega) fun s1 x1 => ?_
  try simp only [W_bind, W_oS, W_on, W_pure, W_mv, W_setF, W_setT, T.get_set, seqO_cons, seqO_nil, seqP_cons, seqP_nil, onO_some', W_callV, reduceIte, isK_bool, isB_tt, isB_tf, isB_ft, isB_ff, W_chk, W_ifT, W_ifF, W_pick, W_nil, Nat.reduceEqDiff, Nat.reduceEqDiff, reduceCtorEq, ↓reduceIte]
  refine dk_Read_q2.w dk_Read_S1_2 (by omega) ?_
  simp only [dk_Read_r2, W_bind, W_oS, W_on, W_pure, W_mv, W_setF, W_setT, T.get_set, seqO_cons, seqO_nil, seqP_cons, seqP_nil, onO_some', W_callV, reduceIte, isK_bool, isB_tt, isB_tf, isB_ft, isB_ff, W_chk, W_ifT, W_ifF, W_pick, W_nil, Nat.reduceEqDiff, Nat.reduceEqDiff, reduceCtorEq, ↓reduceIte, W_add64, W_sub64, W_lss64, W_gtr64, W_leq64, W_geq64, W_eql64, W_neq64, ne10]
  refine W.cond (v := true) dk_Read_S2_3 dk_Read_C3 (by simp [T.get_set]) (by omega) (fun _ => ?_) fun h => by cases h
  refine dk_Read_q4.w dk_Read_S3_4 (by omega) ?_
  simp only [dk_Read_r4, W_bind, W_oS, W_on, W_pure, W_mv, W_setF, W_setT, T.get_set, seqO_cons, seqO_nil, seqP_cons, seqP_nil, onO_some', W_callV, reduceIte, isK_bool, isB_tt, isB_tf, isB_ft, isB_ff, W_chk, W_ifT, W_ifF, W_pick, W_nil, Nat.reduceEqDiff, Nat.reduceEqDiff, reduceCtorEq, ↓reduceIte]
  exact W.end' (rs := [4, 5]) (vs := [.slice none 0 0, .int .i64 1]) dk_Read_S4_6 (.inl dk_Read_E6) (by omega) dk_Read_fn dk_Read_res x1.cx (by simp [T.get_set]) (q _ x1.cx')
theorem sn_Open_spec {v : Value} (hn : 250 ≤ n) (q : ∀ s1, Ext Any Non s s1 → Q (.tuple #[.pointer none, .int .i64 1]) s1) : W (callW envS (runF envS n) 14 [.pointer none, v]) s Q := by
  have e1 : decide ((1 : Int) = 1) = true := rfl
  refine sn_Open_W fun tm h0 _ => ?_
  refine sn_Open_q0.w rfl (by omega) ?_
  simp only [sn_Open_r0, W_bind, W_oS, W_on, W_pure, W_mv, W_setF, W_setT, T.get_set, seqO_cons, seqO_nil, seqP_cons, seqP_nil, onO_some', W_callV, reduceIte, isK_bool, isB_tt, isB_tf, isB_ft, isB_ff, W_chk, W_ifT, W_ifF, W_pick, W_nil, Nat.reduceEqDiff, Nat.reduceEqDiff, reduceCtorEq, ↓reduceIte]
  refine sn_Open_q1.w sn_Open_S0_1 (by omega) ?_
  simp only [sn_Open_r1, W_bind, W_oS, W_on, W_pure, W_mv, W_setF, W_setT, T.get_set, seqO_cons, seqO_nil, seqP_cons, seqP_nil, onO_some', W_callV, reduceIte, isK_bool, isB_tt, isB_tf, isB_ft, isB_ff, W_chk, W_ifT, W_ifF, W_pick, W_nil, Nat.reduceEqDiff, Nat.reduceEqDiff, reduceCtorEq, ↓reduceIte, h0]
  refine dk_Read_spec (s := s.cxN cxN) (by omega) fun s1 x1 => ?_
  rw [W_ext (k := 0) rfl, W_ext (k := 1) rfl]
  try simp only [W_bind, W_oS, W_on, W_pure, W_mv, W_setF, W_setT, T.get_set, seqO_cons, seqO_nil, seqP_cons, seqP_nil, onO_some', W_callV, reduceIte, isK_bool, isB_tt, isB_tf, isB_ft, isB_ff, W_chk, W_ifT, W_ifF, W_pick, W_nil, Nat.reduceEqDiff, Nat.reduceEqDiff, reduceCtorEq, ↓reduceIte]
  refine sn_Open_q2.w sn_Open_S1_2 (by omega) ?_
  simp only [sn_Open_r2, W_bind, W_oS, W_on, W_pure, W_mv, W_setF, W_setT, T.get_set, seqO_cons, seqO_nil, seqP_cons, seqP_nil, onO_some', W_callV, reduceIte, isK_bool, isB_tt, isB_tf, isB_ft, isB_ff, W_chk, W_ifT, W_ifF, W_pick, W_nil, Nat.reduceEqDiff, Nat.reduceEqDiff, reduceCtorEq, ↓reduceIte, W_add64, W_sub64, W_lss64, W_gtr64, W_leq64, W_geq64, W_eql64, W_neq64, e1, decide_true]
  refine W.cond (v := true) sn_Open_S2_3 sn_Open_C3 (by simp [T.get_set]) (by omega) (fun _ => ?_) fun h => by cases h
  refine sn_Open_q4.w sn_Open_S3_4 (by omega) ?_
  simp only [sn_Open_r4, W_bind, W_oS, W_on, W_pure, W_mv, W_setF, W_setT, T.get_set, seqO_cons, seqO_nil, seqP_cons, seqP_nil, onO_some', W_callV, reduceIte, isK_bool, isB_tt, isB_tf, isB_ft, isB_ff, W_chk, W_ifT, W_ifF, W_pick, W_nil, Nat.reduceEqDiff, Nat.reduceEqDiff, reduceCtorEq, ↓reduceIte]
  exact W.end' (rs := [4, 5]) (vs := [.pointer none, .int .i64 1]) sn_Open_S4_6 (.inl sn_Open_E6) (by omega) sn_Open_fn sn_Open_res x1.cx (by simp [T.get_set]) (q _ x1.cx')
end
end Go.Proofs.YtbmkpcjkadifhaaGreatDoor.Am
/- satchelkit.BigManifest and satchellaw23.long answer something. -/
namespace Go.Proofs.YtbmkpcjkadifhaaGreatDoor.Am
open Go.RowKit

theorem sn_str : isStrT envS 9 = true := by kernel_rfl
theorem sn_str_1 : tyS envS 9 = some (1, false) := by kernel_rfl
theorem sn_by : slN envS 28 = some 1 := by kernel_rfl
theorem sn_by_1 : tyS envS 28 = some (1, false) := by kernel_rfl
theorem sn_is : slN envS 27 = some 1 := by kernel_rfl
theorem sn_is_1 : tyS envS 27 = some (1, false) := by kernel_rfl
theorem sn_it : slN envS 22 = some 6 := by kernel_rfl
theorem sn_it_1 : tyS envS 22 = some (1, false) := by kernel_rfl
theorem sn_id : slN envS 84 = some 16 := by kernel_rfl
theorem sn_id_1 : tyS envS 84 = some (1, false) := by kernel_rfl
theorem sn_ac : slN envS 32 = some 13 := by kernel_rfl
theorem fl_it0 : fldN envS 86 0 = some (0, 1, false) := by kernel_rfl
theorem fl_it4 : fldN envS 86 4 = some (4, 1, false) := by kernel_rfl
theorem fl_it5 : fldN envS 86 5 = some (5, 1, false) := by kernel_rfl
theorem fl_mn4 : fldN envS 24 4 = some (4, 1, false) := by kernel_rfl
theorem fl_ac2 : fldN envS 30 2 = some (2, 5, true) := by kernel_rfl
theorem fl_ac4 : fldN envS 30 4 = some (10, 1, false) := by kernel_rfl
theorem fl_ac5 : fldN envS 30 5 = some (11, 1, false) := by kernel_rfl
theorem fl_ac6 : fldN envS 30 6 = some (12, 1, false) := by kernel_rfl
/-- An item lies there. -/
def ItAt (s : St) (b o : Nat) : Prop := ∃ (x y : ByteArray) (p : Option Addr) (n c : Nat), At s b (o + 0) (.string x) ∧ At s b (o + 4) (.string y) ∧ At s b (o + 5) (.slice p n c)
/-- A slice of so many items. -/
def ItR (s : St) (v : Value) (k : Nat) : Prop := (v = .slice none 0 0 ∧ k = 0) ∨ ∃ b o c, v = .slice (some ⟨b, o, none⟩) k c ∧ ∀ i, i < k → ItAt s b (o + i * 6)
theorem ItR.same {s s' : St} {v : Value} {k : Nat} (h : ItR s v k) (hm : s'.mem = s.mem) (hn : s'.next = s.next) : ItR s' v k := by
  rcases h with h | ⟨b, o, c, e, h⟩
  · exact .inl h
  · refine .inr ⟨b, o, c, e, fun i hi => ?_⟩
    obtain ⟨x, y, p, n, c, h1, h2, h3⟩ := h i hi
    exact ⟨x, y, p, n, c, h1.same hm hn, h2.same hm hn, h3.same hm hn⟩
theorem ItR.ext0 {F : Nat → Prop} {s s' : St} {v : Value} {k : Nat} (h : ItR s v k) (x : Ext F Non s s') : ItR s' v k := by
  rcases h with h | ⟨b, o, c, e, h⟩
  · exact .inl h
  · refine .inr ⟨b, o, c, e, fun i hi => ?_⟩
    obtain ⟨x1, y, p, n, c, h1, h2, h3⟩ := h i hi
    exact ⟨x1, y, p, n, c, h1.ext x fun h => h, h2.ext x fun h => h, h3.ext x fun h => h⟩
theorem ItR.len {s s' : St} {v : Value} {k : Nat} (h : ItR s v k) (Q : Value → St → Prop) : W (aBuiltin envS .len [22] [v]) s' Q = Q (.int .i64 (k : Nat)) s' := by
  rcases h with ⟨rfl, rfl⟩ | ⟨b, o, c, rfl, _⟩
  · exact W_lenSl sn_it Q
  · exact W_lenSl sn_it Q
section
variable {vl : Value} {len B : Nat} {Q : Value × FrameMode → St → Prop} {s0 : St}
theorem man_loop (hb0 : s0.lim ≤ s0.next) (hB : At s0 B (0 + 4) vl) (he : ItR s0 vl len) (hcx : s0.cx = cxN) (q : ∀ b s1, Ext Any Non s0 s1 → Q (.bool b, .run) s1) :
    ∀ (k i n : Nat) (x y : Int) (tm : T Value) (s : St) (td : List Item), i + k = 21 → 12 * k + 20 ≤ n → skim 64 td = kit_BigMan_P3 → Ext Any Non s0 s →
    T.get tm 2 = some (.pointer (some ⟨B, 0, none⟩)) → T.get tm 1 = some (.int .i64 20) → T.get tm 5 = some (.int .i64 x) → T.get tm 6 = some (.int .i64 y) → T.get tm 7 = some (.int .i64 (i : Nat)) →
    W (runF envS n ⟨15, kit_BigMan_nt, kit_BigMan_g, tm, td, .run, .normal, none⟩) s Q := by
  have tail : ∀ (n' : Nat) (x y : Int) (tm : T Value) (s : St) (td : List Item), 10 ≤ n' → skim 64 td = kit_BigMan_P6 → Ext Any Non s0 s → T.get tm 2 = some (.pointer (some ⟨B, 0, none⟩)) → T.get tm 1 = some (.int .i64 20) → T.get tm 5 = some (.int .i64 x) → T.get tm 6 = some (.int .i64 y) → W (runF envS n' ⟨15, kit_BigMan_nt, kit_BigMan_g, tm, td, .run, .normal, none⟩) s Q := by
    intro n' x y tm s td hn hT hx h2 h1 h5 h6
    refine kit_BigMan_q6.w hT (by omega) ?_
    simp only [kit_BigMan_r6, W_bind, W_oS, W_on, W_pure, W_mv, W_setF, W_setT, T.get_set, seqO_cons, seqO_nil, seqP_cons, seqP_nil, onO_some', W_callV, reduceIte, isK_bool, isB_tt, isB_tf, isB_ft, isB_ff, W_chk, W_ifT, W_ifF, W_pick, W_nil, Nat.reduceEqDiff, Nat.reduceEqDiff, reduceCtorEq, ↓reduceIte, h2, W_fld fl_mn4 (by decide)]
    refine W.load1 sn_it_1 (hB.ext hx fun h => h) ?_
    have y1 := hx.thenRd hb0 (B + (0 + 4))
    simp only [W_bind, W_oS, W_on, W_pure, W_mv, W_setF, W_setT, T.get_set, seqO_cons, seqO_nil, seqP_cons, seqP_nil, onO_some', W_callV, reduceIte, isK_bool, isB_tt, isB_tf, isB_ft, isB_ff, W_chk, W_ifT, W_ifF, W_pick, W_nil, Nat.reduceEqDiff, Nat.reduceEqDiff, reduceCtorEq, ↓reduceIte, W_add64, W_sub64, W_lss64, W_gtr64, W_leq64, W_geq64, W_eql64, W_neq64, h1]
    rw [he.len]
    try simp only [W_bind, W_oS, W_on, W_pure, W_mv, W_setF, W_setT, T.get_set, seqO_cons, seqO_nil, seqP_cons, seqP_nil, onO_some', W_callV, reduceIte, isK_bool, isB_tt, isB_tf, isB_ft, isB_ff, W_chk, W_ifT, W_ifF, W_pick, W_nil, Nat.reduceEqDiff, Nat.reduceEqDiff, reduceCtorEq, ↓reduceIte, W_add64, W_sub64, W_lss64, W_gtr64, W_leq64, W_geq64, W_eql64, W_neq64]
    cases e1 : decide ((20 : Int) < ((len : Nat) : Int)) with
    | true =>
      simp only [W_bind, W_oS, W_on, W_pure, W_mv, W_setF, W_setT, T.get_set, seqO_cons, seqO_nil, seqP_cons, seqP_nil, onO_some', W_callV, reduceIte, isK_bool, isB_tt, isB_tf, isB_ft, isB_ff, W_chk, W_ifT, W_ifF, W_pick, W_nil, Nat.reduceEqDiff, Nat.reduceEqDiff, reduceCtorEq, ↓reduceIte]
      exact W.end' (rs := [4]) (vs := [.bool true]) kit_BigMan_S6_8 (.inl kit_BigMan_E8) (by omega) kit_BigMan_fn kit_BigMan_res (y1.cx.trans hcx) (by simp [T.get_set]) (q _ _ y1)
    | false =>
      simp only [W_bind, W_oS, W_on, W_pure, W_mv, W_setF, W_setT, T.get_set, seqO_cons, seqO_nil, seqP_cons, seqP_nil, onO_some', W_callV, reduceIte, isK_bool, isB_tt, isB_tf, isB_ft, isB_ff, W_chk, W_ifT, W_ifF, W_pick, W_nil, Nat.reduceEqDiff, Nat.reduceEqDiff, reduceCtorEq, ↓reduceIte, W_add64, W_sub64, W_lss64, W_gtr64, W_leq64, W_geq64, W_eql64, W_neq64, h5]
      cases e2 : decide ((400 : Int) < x) with
      | true =>
        simp only [W_bind, W_oS, W_on, W_pure, W_mv, W_setF, W_setT, T.get_set, seqO_cons, seqO_nil, seqP_cons, seqP_nil, onO_some', W_callV, reduceIte, isK_bool, isB_tt, isB_tf, isB_ft, isB_ff, W_chk, W_ifT, W_ifF, W_pick, W_nil, Nat.reduceEqDiff, Nat.reduceEqDiff, reduceCtorEq, ↓reduceIte]
        exact W.end' (rs := [4]) (vs := [.bool true]) kit_BigMan_S6_8 (.inl kit_BigMan_E8) (by omega) kit_BigMan_fn kit_BigMan_res (y1.cx.trans hcx) (by simp [T.get_set]) (q _ _ y1)
      | false =>
        simp only [W_bind, W_oS, W_on, W_pure, W_mv, W_setF, W_setT, T.get_set, seqO_cons, seqO_nil, seqP_cons, seqP_nil, onO_some', W_callV, reduceIte, isK_bool, isB_tt, isB_tf, isB_ft, isB_ff, W_chk, W_ifT, W_ifF, W_pick, W_nil, Nat.reduceEqDiff, Nat.reduceEqDiff, reduceCtorEq, ↓reduceIte, W_add64, W_sub64, W_lss64, W_gtr64, W_leq64, W_geq64, W_eql64, W_neq64, h6]
        exact W.end' (rs := [4]) (vs := [.bool (decide (6000 < y))]) kit_BigMan_S6_8 (.inl kit_BigMan_E8) (by omega) kit_BigMan_fn kit_BigMan_res (y1.cx.trans hcx) (by simp [T.get_set]) (q _ _ y1)
  intro k
  induction k with
  | zero =>
    intro i n x y tm s td hi hn hT hx h2 h1 h5 h6 h7
    refine kit_BigMan_q3.w hT (by omega) ?_
    simp only [kit_BigMan_r3, W_bind, W_oS, W_on, W_pure, W_mv, W_setF, W_setT, T.get_set, seqO_cons, seqO_nil, seqP_cons, seqP_nil, onO_some', W_callV, reduceIte, isK_bool, isB_tt, isB_tf, isB_ft, isB_ff, W_chk, W_ifT, W_ifF, W_pick, W_nil, Nat.reduceEqDiff, Nat.reduceEqDiff, reduceCtorEq, ↓reduceIte, h2, h7, W_fld fl_mn4 (by decide)]
    refine W.load1 sn_it_1 (hB.ext hx fun h => h) ?_
    have y1 := hx.thenRd hb0 (B + (0 + 4))
    try simp only [W_bind, W_oS, W_on, W_pure, W_mv, W_setF, W_setT, T.get_set, seqO_cons, seqO_nil, seqP_cons, seqP_nil, onO_some', W_callV, reduceIte, isK_bool, isB_tt, isB_tf, isB_ft, isB_ff, W_chk, W_ifT, W_ifF, W_pick, W_nil, Nat.reduceEqDiff, Nat.reduceEqDiff, reduceCtorEq, ↓reduceIte, W_add64, W_sub64, W_lss64, W_gtr64, W_leq64, W_geq64, W_eql64, W_neq64]
    rw [he.len]
    try simp only [W_bind, W_oS, W_on, W_pure, W_mv, W_setF, W_setT, T.get_set, seqO_cons, seqO_nil, seqP_cons, seqP_nil, onO_some', W_callV, reduceIte, isK_bool, isB_tt, isB_tf, isB_ft, isB_ff, W_chk, W_ifT, W_ifF, W_pick, W_nil, Nat.reduceEqDiff, Nat.reduceEqDiff, reduceCtorEq, ↓reduceIte, W_add64, W_sub64, W_lss64, W_gtr64, W_leq64, W_geq64, W_eql64, W_neq64]
    cases e1 : decide (((i : Nat) : Int) < ((len : Nat) : Int)) with
    | true =>
      have e2 : decide (((i : Nat) : Int) ≤ 20) = false := decide_eq_false (by omega)
      simp only [W_bind, W_oS, W_on, W_pure, W_mv, W_setF, W_setT, T.get_set, seqO_cons, seqO_nil, seqP_cons, seqP_nil, onO_some', W_callV, reduceIte, isK_bool, isB_tt, isB_tf, isB_ft, isB_ff, W_chk, W_ifT, W_ifF, W_pick, W_nil, Nat.reduceEqDiff, Nat.reduceEqDiff, reduceCtorEq, ↓reduceIte, W_add64, W_sub64, W_lss64, W_gtr64, W_leq64, W_geq64, W_eql64, W_neq64, h1, h7, e2]
      refine W.cond (v := false) kit_BigMan_S3_4 kit_BigMan_C4 (by simp [T.get_set]) (by omega) (fun h => by cases h) fun _ => ?_
      exact tail _ x y _ _ _ (by omega) kit_BigMan_S4_6 y1 (by simp [T.get_set, h2]) (by simp [T.get_set, h1]) (by simp [T.get_set, h5]) (by simp [T.get_set, h6])
    | false =>
      simp only [W_bind, W_oS, W_on, W_pure, W_mv, W_setF, W_setT, T.get_set, seqO_cons, seqO_nil, seqP_cons, seqP_nil, onO_some', W_callV, reduceIte, isK_bool, isB_tt, isB_tf, isB_ft, isB_ff, W_chk, W_ifT, W_ifF, W_pick, W_nil, Nat.reduceEqDiff, Nat.reduceEqDiff, reduceCtorEq, ↓reduceIte]
      refine W.cond (v := false) kit_BigMan_S3_4 kit_BigMan_C4 (by simp [T.get_set]) (by omega) (fun h => by cases h) fun _ => ?_
      exact tail _ x y _ _ _ (by omega) kit_BigMan_S4_6 y1 (by simp [T.get_set, h2]) (by simp [T.get_set, h1]) (by simp [T.get_set, h5]) (by simp [T.get_set, h6])
  | succ k ih =>
    intro i n x y tm s td hi hn hT hx h2 h1 h5 h6 h7
    refine kit_BigMan_q3.w hT (by omega) ?_
    simp only [kit_BigMan_r3, W_bind, W_oS, W_on, W_pure, W_mv, W_setF, W_setT, T.get_set, seqO_cons, seqO_nil, seqP_cons, seqP_nil, onO_some', W_callV, reduceIte, isK_bool, isB_tt, isB_tf, isB_ft, isB_ff, W_chk, W_ifT, W_ifF, W_pick, W_nil, Nat.reduceEqDiff, Nat.reduceEqDiff, reduceCtorEq, ↓reduceIte, h2, h7, W_fld fl_mn4 (by decide)]
    refine W.load1 sn_it_1 (hB.ext hx fun h => h) ?_
    have y1 := hx.thenRd hb0 (B + (0 + 4))
    try simp only [W_bind, W_oS, W_on, W_pure, W_mv, W_setF, W_setT, T.get_set, seqO_cons, seqO_nil, seqP_cons, seqP_nil, onO_some', W_callV, reduceIte, isK_bool, isB_tt, isB_tf, isB_ft, isB_ff, W_chk, W_ifT, W_ifF, W_pick, W_nil, Nat.reduceEqDiff, Nat.reduceEqDiff, reduceCtorEq, ↓reduceIte, W_add64, W_sub64, W_lss64, W_gtr64, W_leq64, W_geq64, W_eql64, W_neq64]
    rw [he.len]
    try simp only [W_bind, W_oS, W_on, W_pure, W_mv, W_setF, W_setT, T.get_set, seqO_cons, seqO_nil, seqP_cons, seqP_nil, onO_some', W_callV, reduceIte, isK_bool, isB_tt, isB_tf, isB_ft, isB_ff, W_chk, W_ifT, W_ifF, W_pick, W_nil, Nat.reduceEqDiff, Nat.reduceEqDiff, reduceCtorEq, ↓reduceIte, W_add64, W_sub64, W_lss64, W_gtr64, W_leq64, W_geq64, W_eql64, W_neq64]
    cases e1 : decide (((i : Nat) : Int) < ((len : Nat) : Int)) with
    | false =>
      simp only [W_bind, W_oS, W_on, W_pure, W_mv, W_setF, W_setT, T.get_set, seqO_cons, seqO_nil, seqP_cons, seqP_nil, onO_some', W_callV, reduceIte, isK_bool, isB_tt, isB_tf, isB_ft, isB_ff, W_chk, W_ifT, W_ifF, W_pick, W_nil, Nat.reduceEqDiff, Nat.reduceEqDiff, reduceCtorEq, ↓reduceIte]
      refine W.cond (v := false) kit_BigMan_S3_4 kit_BigMan_C4 (by simp [T.get_set]) (by omega) (fun h => by cases h) fun _ => ?_
      exact tail _ x y _ _ _ (by omega) kit_BigMan_S4_6 y1 (by simp [T.get_set, h2]) (by simp [T.get_set, h1]) (by simp [T.get_set, h5]) (by simp [T.get_set, h6])
    | true =>
      have hil : i < len := by
        have := of_decide_eq_true e1
        omega
      have e2 : decide (((i : Nat) : Int) ≤ 20) = true := decide_eq_true (by omega)
      simp only [W_bind, W_oS, W_on, W_pure, W_mv, W_setF, W_setT, T.get_set, seqO_cons, seqO_nil, seqP_cons, seqP_nil, onO_some', W_callV, reduceIte, isK_bool, isB_tt, isB_tf, isB_ft, isB_ff, W_chk, W_ifT, W_ifF, W_pick, W_nil, Nat.reduceEqDiff, Nat.reduceEqDiff, reduceCtorEq, ↓reduceIte, W_add64, W_sub64, W_lss64, W_gtr64, W_leq64, W_geq64, W_eql64, W_neq64, h1, h7, e2]
      refine W.cond (v := true) kit_BigMan_S3_4 kit_BigMan_C4 (by simp [T.get_set]) (by omega) (fun _ => ?_) fun h => by cases h
      obtain ⟨b, o, c, ev, ge⟩ : ∃ b o c, vl = .slice (some ⟨b, o, none⟩) len c ∧ ItAt s0 b (o + i * 6) := by
        rcases he with ⟨_, rfl⟩ | ⟨b, o, c, e, h⟩
        · omega
        · exact ⟨b, o, c, e, h i hil⟩
      obtain ⟨x1, x2, p, m, c', g0, g4, g5⟩ := ge
      refine kit_BigMan_q5.w kit_BigMan_S4_5 (by omega) ?_
      simp only [kit_BigMan_r5, W_bind, W_oS, W_on, W_pure, W_mv, W_setF, W_setT, T.get_set, seqO_cons, seqO_nil, seqP_cons, seqP_nil, onO_some', W_callV, reduceIte, isK_bool, isB_tt, isB_tf, isB_ft, isB_ff, W_chk, W_ifT, W_ifF, W_pick, W_nil, Nat.reduceEqDiff, Nat.reduceEqDiff, reduceCtorEq, ↓reduceIte, h2, h5, h7, W_fld fl_mn4 (by decide)]
      refine W.load1 sn_it_1 (hB.ext y1 fun h => h) ?_
      have y2 := y1.thenRd hb0 (B + (0 + 4))
      rw [ev]
      simp only [W_bind, W_oS, W_on, W_pure, W_mv, W_setF, W_setT, T.get_set, seqO_cons, seqO_nil, seqP_cons, seqP_nil, onO_some', W_callV, reduceIte, isK_bool, isB_tt, isB_tf, isB_ft, isB_ff, W_chk, W_ifT, W_ifF, W_pick, W_nil, Nat.reduceEqDiff, Nat.reduceEqDiff, reduceCtorEq, ↓reduceIte, h7, W_idxSl sn_it hil, W_fld fl_it5 (by decide)]
      refine W.load1 sn_id_1 (g5.ext y2 fun h => h) ?_
      have y3 := y2.thenRd hb0 (b + (o + i * 6 + 5))
      simp only [W_bind, W_oS, W_on, W_pure, W_mv, W_setF, W_setT, T.get_set, seqO_cons, seqO_nil, seqP_cons, seqP_nil, onO_some', W_callV, reduceIte, isK_bool, isB_tt, isB_tf, isB_ft, isB_ff, W_chk, W_ifT, W_ifF, W_pick, W_nil, Nat.reduceEqDiff, Nat.reduceEqDiff, reduceCtorEq, ↓reduceIte, W_add64, W_sub64, W_lss64, W_gtr64, W_leq64, W_geq64, W_eql64, W_neq64, W_lenSl sn_id]
      generalize wrap64 (x + (m : Nat)) = x'
      generalize hs3 : St.rdN _ (b + (o + i * 6 + 5)) = s3 at y3 ⊢
      have hB3 : At s3 B (0 + 4) vl := hB.ext y3 fun h => h
      rw [ev] at hB3
      have g0' : At (dSt s3.mem s3.next) b (o + i * 6 + 0) (.string x1) := (g0.ext y3 fun h => h).same rfl rfl
      have g4' : At (dSt s3.mem s3.next) b (o + i * 6 + 4) (.string x2) := (g4.ext y3 fun h => h).same rfl rfl
      have hB3' : At (dSt s3.mem s3.next) B (0 + 4) (.slice (some ⟨b, o, none⟩) len c) := hB3.same rfl rfl
      refine kit_BigMan_q7.w kit_BigMan_S5_7 (by omega) ?_
      simp only [kit_BigMan_d7, T.get_set, reduceIte, Nat.reduceEqDiff, h2, h6, h7, oS_some, on_some', seqO_cons, seqO_nil, onO_some', W_dpure]
      rw [W_dq fun s Q => W_fld (s := s) fl_mn4 (by decide) Q]
      refine W.dload sn_it_1 hB3' fun rd0 hr0 => ?_
      simp only [W_dpure]
      rw [W_dq fun s Q => W_idxSl (s := s) sn_it hil Q]
      rw [W_dq fun s Q => W_fld (s := s) fl_it0 (by decide) Q]
      refine W.dload sn_str_1 g0' fun rd1 hr1 => ?_
      rw [W_dq fun s Q => W_lenS (s := s) sn_str _ Q]
      dsimp only
      rw [W_dq fun s Q => W_add64 (s := s) _ _]
      dsimp only
      rw [W_dq fun s Q => W_fld (s := s) fl_mn4 (by decide) Q]
      refine W.dload sn_it_1 hB3' fun rd2 hr2 => ?_
      simp only [W_dpure]
      rw [W_dq fun s Q => W_idxSl (s := s) sn_it hil Q]
      rw [W_dq fun s Q => W_fld (s := s) fl_it4 (by decide) Q]
      refine W.dload sn_str_1 g4' fun rd3 hr3 => ?_
      rw [W_dq fun s Q => W_lenS (s := s) sn_str _ Q]
      dsimp only
      rw [W_dq fun s Q => W_add64 (s := s) _ _, W_pure]
      refine ⟨apartM_q (by simp) (by simp), ?_⟩
      refine W.cast (kit_BigMan_L7 _ _ _ _ _ _ _ _ _ _ _ _ _ _ _ _ _ _ _ _ _ _) ?_
      simp only [W_bind, W_oS, W_on, W_pure, W_mv, W_setF, W_setT, T.get_set, seqO_cons, seqO_nil, seqP_cons, seqP_nil, onO_some', W_callV, reduceIte, isK_bool, isB_tt, isB_tf, isB_ft, isB_ff, W_chk, W_ifT, W_ifF, W_pick, W_nil, Nat.reduceEqDiff, Nat.reduceEqDiff, reduceCtorEq, ↓reduceIte]
      refine kit_BigMan_q9.w kit_BigMan_S7_9 (by omega) ?_
      have ei : wrap64 ((i : Nat) + 1 : Int) = ((i + 1 : Nat) : Int) := by
        rw [wrap64_id (by omega) (by omega)]; simp
      simp only [kit_BigMan_r9, W_bind, W_oS, W_on, W_pure, W_mv, W_setF, W_setT, T.get_set, seqO_cons, seqO_nil, seqP_cons, seqP_nil, onO_some', W_callV, reduceIte, isK_bool, isB_tt, isB_tf, isB_ft, isB_ff, W_chk, W_ifT, W_ifF, W_pick, W_nil, Nat.reduceEqDiff, Nat.reduceEqDiff, reduceCtorEq, ↓reduceIte, W_add64, W_sub64, W_lss64, W_gtr64, W_leq64, W_geq64, W_eql64, W_neq64, h7, ei]
      exact ih (i + 1) _ _ _ _ _ _ (by omega) (by omega) kit_BigMan_S9_3 (y3.then0 (Ext.draw (F := Any) (Nat.le_refl _) (fun _ _ => rfl) (by simp) fun _ _ _ _ _ => trivial) hb0) (by simp [T.get_set, h2]) (by simp [T.get_set, h1]) (by simp [T.get_set]; rfl) (by simp [T.get_set]; rfl) (by simp [T.get_set])
end
theorem kit_BigMan_spec {n len : Nat} {us : List Value} {vl : Value} {s : St} {Q : Value → St → Prop} (hb : s.lim ≤ s.next) (hu : us[4]? = some vl) (he : ItR s vl len) (hn : 400 ≤ n) (q : ∀ b s1, Ext Any Non s s1 → Q (.bool b) s1) : W (callW envS (runF envS n) 15 [.agg us.toArray, .int .i64 20]) s Q := by
  refine kit_BigMan_W fun tm h0 h1 => ?_
  refine kit_BigMan_q0.w rfl (by omega) ?_
  simp only [kit_BigMan_r0, W_bind, W_oS, W_on, W_pure, W_mv, W_setF, W_setT, T.get_set, seqO_cons, seqO_nil, seqP_cons, seqP_nil, onO_some', W_callV, reduceIte, isK_bool, isB_tt, isB_tf, isB_ft, isB_ff, W_chk, W_ifT, W_ifF, W_pick, W_nil, Nat.reduceEqDiff, Nat.reduceEqDiff, reduceCtorEq, ↓reduceIte, h0]
  refine W.box fun sa na xa oa => ?_
  rw [cellsOf_agg] at oa
  have ya : Ext Any Non (s.cxN cxN) sa := xa.any hb
  try simp only [W_bind, W_oS, W_on, W_pure, W_mv, W_setF, W_setT, T.get_set, seqO_cons, seqO_nil, seqP_cons, seqP_nil, onO_some', W_callV, reduceIte, isK_bool, isB_tt, isB_tf, isB_ft, isB_ff, W_chk, W_ifT, W_ifF, W_pick, W_nil, Nat.reduceEqDiff, Nat.reduceEqDiff, reduceCtorEq, ↓reduceIte]
  refine kit_BigMan_q1.w kit_BigMan_S0_1 (by omega) ?_
  simp only [kit_BigMan_r1, W_bind, W_oS, W_on, W_pure, W_mv, W_setF, W_setT, T.get_set, seqO_cons, seqO_nil, seqP_cons, seqP_nil, onO_some', W_callV, reduceIte, isK_bool, isB_tt, isB_tf, isB_ft, isB_ff, W_chk, W_ifT, W_ifF, W_pick, W_nil, Nat.reduceEqDiff, Nat.reduceEqDiff, reduceCtorEq, ↓reduceIte]
  refine kit_BigMan_q2.w kit_BigMan_S1_2 (by omega) ?_
  simp only [kit_BigMan_r2, W_bind, W_oS, W_on, W_pure, W_mv, W_setF, W_setT, T.get_set, seqO_cons, seqO_nil, seqP_cons, seqP_nil, onO_some', W_callV, reduceIte, isK_bool, isB_tt, isB_tf, isB_ft, isB_ff, W_chk, W_ifT, W_ifF, W_pick, W_nil, Nat.reduceEqDiff, Nat.reduceEqDiff, reduceCtorEq, ↓reduceIte]
  have oa' : OwnRow sa s.next 0 us := oa
  exact man_loop (s0 := sa) (B := s.next) (vl := vl) (len := len) (ya.bnd (s := s.cxN cxN) hb) (oa' 4 vl hu).at' ((he.same (s' := s.cxN cxN) rfl rfl).ext0 ya) ya.cx (fun b s1 x1 => q b _ (ya.then0 x1 hb).cx') 21 0 _ 0 0 _ _ _ (by omega) (by omega) kit_BigMan_S2_3 (Ext.refl _) (by simp [T.get_set]; rfl) (by simp [T.get_set, h1]) (by simp [T.get_set]) (by simp [T.get_set]) (by simp [T.get_set])
end Go.Proofs.YtbmkpcjkadifhaaGreatDoor.Am
/- satchellaw23.long of one act; what SnapsNone asks in a round. -/
namespace Go.Proofs.YtbmkpcjkadifhaaGreatDoor.Am
open Go.RowKit

theorem Row.sub {s : St} {b o k j : Nat} {l m r : List Value} (h : Row s b o (l ++ (m ++ r))) (hk : l.length = k) (hj : o + k = j) : Row s b j m := fun i v e => by
  have hi := (List.getElem?_eq_some_iff.1 e).1
  have := h (k + i) v (by
    rw [List.getElem?_append_right (by omega), List.getElem?_append_left (by omega), hk, Nat.add_sub_cancel_left]
    exact e)
  rwa [show o + (k + i) = j + i by omega] at this
/-- An act's cells. -/
def actC (a b m0 m1 m2 m3 m4 p0 p1 p2 ks nm bs : Value) : List Value := [a, b, m0, m1, m2, m3, m4, p0, p1, p2, ks, nm, bs]
theorem idx_ac0 {s : St} {b o n c : Nat} (hk : 0 < n) (Q : Value → St → Prop) : W (kIdxA envS 32 (.slice (some ⟨b, o, none⟩) n c) (.int .i64 0)) s Q = Q (.pointer (some ⟨b, o + 0 * 13, none⟩)) s := W_idxSl (k := 0) sn_ac hk Q
section
variable {a b m0 m1 m2 m3 m4 p0 p1 p2 : Value} {kp bp : Option Addr} {kn kc bn bc : Nat} {nm : ByteArray}
theorem long_spec {n len L : Nat} {s : St} {Q : Value → St → Prop} (hb : s.lim ≤ s.next) (hL : Row s L 0 (actC a b m0 m1 m2 m3 m4 p0 p1 p2 (.slice kp kn kc) (.string nm) (.slice bp bn bc))) (he : ItR s m4 len) (hn : 900 ≤ n) (q : ∀ b s1, Ext Any Non s s1 → Q (.bool b) s1) :
    W (callW envS (runF envS n) 4 [.slice (some ⟨L, 0, none⟩) 1 1]) s Q := by
  have e01 : decide ((0 : Int) < ((1 : Nat) : Int)) = true := rfl
  have e41 : decide ((0 : Int) < 41) = true := rfl
  have e11 : decide ((1 : Int) < ((1 : Nat) : Int)) = false := rfl
  have e40 : decide ((40 : Int) < ((1 : Nat) : Int)) = false := rfl
  have ew : wrap64 ((0 : Int) + 1) = 1 := rfl
  refine law23_long_W fun tm h0 => ?_
  refine law23_long_q0.w rfl (by omega) ?_
  simp only [law23_long_r0, W_bind, W_oS, W_on, W_pure, W_mv, W_setF, W_setT, T.get_set, seqO_cons, seqO_nil, seqP_cons, seqP_nil, onO_some', W_callV, reduceIte, isK_bool, isB_tt, isB_tf, isB_ft, isB_ff, W_chk, W_ifT, W_ifF, W_pick, W_nil, Nat.reduceEqDiff, Nat.reduceEqDiff, reduceCtorEq, ↓reduceIte]
  refine law23_long_q1.w law23_long_S0_1 (by omega) ?_
  simp only [law23_long_r1, W_bind, W_oS, W_on, W_pure, W_mv, W_setF, W_setT, T.get_set, seqO_cons, seqO_nil, seqP_cons, seqP_nil, onO_some', W_callV, reduceIte, isK_bool, isB_tt, isB_tf, isB_ft, isB_ff, W_chk, W_ifT, W_ifF, W_pick, W_nil, Nat.reduceEqDiff, Nat.reduceEqDiff, reduceCtorEq, ↓reduceIte]
  refine law23_long_q2.w law23_long_S1_2 (by omega) ?_
  simp only [law23_long_r2, W_bind, W_oS, W_on, W_pure, W_mv, W_setF, W_setT, T.get_set, seqO_cons, seqO_nil, seqP_cons, seqP_nil, onO_some', W_callV, reduceIte, isK_bool, isB_tt, isB_tf, isB_ft, isB_ff, W_chk, W_ifT, W_ifF, W_pick, W_nil, Nat.reduceEqDiff, Nat.reduceEqDiff, reduceCtorEq, ↓reduceIte, W_add64, W_sub64, W_lss64, W_gtr64, W_leq64, W_geq64, W_eql64, W_neq64, h0, W_lenSl sn_ac, e01, e41]
  refine W.cond (v := true) law23_long_S2_3 law23_long_C3 (by simp [T.get_set]) (by omega) (fun _ => ?_) fun h => by cases h
  refine law23_long_q4.w law23_long_S3_4 (by omega) ?_
  simp only [law23_long_r4, W_bind, W_oS, W_on, W_pure, W_mv, W_setF, W_setT, T.get_set, seqO_cons, seqO_nil, seqP_cons, seqP_nil, onO_some', W_callV, reduceIte, isK_bool, isB_tt, isB_tf, isB_ft, isB_ff, W_chk, W_ifT, W_ifF, W_pick, W_nil, Nat.reduceEqDiff, Nat.reduceEqDiff, reduceCtorEq, ↓reduceIte, h0, idx_ac0 Nat.one_pos, W_fld fl_ac2 (by decide)]
  have hL' : Row (s.cxN cxN) L 0 (actC a b m0 m1 m2 m3 m4 p0 p1 p2 (.slice kp kn kc) (.string nm) (.slice bp bn bc)) := fun i v e => (hL i v e).same rfl rfl
  have hM : Row (s.cxN cxN) L (0 + 0 * 13 + 2) [m0, m1, m2, m3, m4] := Row.sub (l := [a, b]) (m := [m0, m1, m2, m3, m4]) (r := [p0, p1, p2, .slice kp kn kc, .string nm, .slice bp bn bc]) hL' rfl rfl
  refine W.loadA man_5 hM rfl fun sa ma na xa => ?_
  have ya : Ext Any Non (s.cxN cxN) sa := xa.any hb
  try simp only [W_bind, W_oS, W_on, W_pure, W_mv, W_setF, W_setT, T.get_set, seqO_cons, seqO_nil, seqP_cons, seqP_nil, onO_some', W_callV, reduceIte, isK_bool, isB_tt, isB_tf, isB_ft, isB_ff, W_chk, W_ifT, W_ifF, W_pick, W_nil, Nat.reduceEqDiff, Nat.reduceEqDiff, reduceCtorEq, ↓reduceIte]
  refine kit_BigMan_spec (us := [m0, m1, m2, m3, m4]) (vl := m4) (ya.bnd (s := s.cxN cxN) hb) rfl ((he.same (s' := s.cxN cxN) rfl rfl).ext0 ya) (by omega) fun z s1 x1 => ?_
  have y1 := ya.then0 x1 hb
  have fin : ∀ (n' : Nat) (z : Bool) (tm' : T Value) (s2 : St) (td : List Item), 100 ≤ n' → skim 64 td = law23_long_P6 → Ext Any Non (s.cxN cxN) s2 → T.get tm' 46 = some (.bool z) → T.get tm' 0 = some (.slice (some ⟨L, 0, none⟩) 1 1) → T.get tm' 3 = some (.int .i64 0) →
      W (runF envS n' ⟨4, law23_long_nt, law23_long_g, tm', td, .run, .normal, none⟩) s2 fun p s1 => Q p.1 (s1.cxN s.cx) := by
    intro n' z tm' s2 td hn' hT' y2 g46 g0 g3
    cases z with
    | true =>
      refine W.cond (v := true) hT' law23_long_C6 g46 (by omega) (fun _ => ?_) fun h => by cases h
      refine law23_long_q8.w law23_long_S6_8 (by omega) ?_
      simp only [law23_long_r8, W_bind, W_oS, W_on, W_pure, W_mv, W_setF, W_setT, T.get_set, seqO_cons, seqO_nil, seqP_cons, seqP_nil, onO_some', W_callV, reduceIte, isK_bool, isB_tt, isB_tf, isB_ft, isB_ff, W_chk, W_ifT, W_ifF, W_pick, W_nil, Nat.reduceEqDiff, Nat.reduceEqDiff, reduceCtorEq, ↓reduceIte]
      exact W.end' (rs := [2]) (vs := [.bool true]) law23_long_S8_10 (.inl law23_long_E10) (by omega) law23_long_fn law23_long_res y2.cx (by simp [T.get_set]) (q _ _ y2.cx')
    | false =>
      refine W.cond (v := false) hT' law23_long_C6 g46 (by omega) (fun h => by cases h) fun _ => ?_
      refine law23_long_q9.w law23_long_S6_9 (by omega) ?_
      simp only [law23_long_r9, W_bind, W_oS, W_on, W_pure, W_mv, W_setF, W_setT, T.get_set, seqO_cons, seqO_nil, seqP_cons, seqP_nil, onO_some', W_callV, reduceIte, isK_bool, isB_tt, isB_tf, isB_ft, isB_ff, W_chk, W_ifT, W_ifF, W_pick, W_nil, Nat.reduceEqDiff, Nat.reduceEqDiff, reduceCtorEq, ↓reduceIte, W_add64, W_sub64, W_lss64, W_gtr64, W_leq64, W_geq64, W_eql64, W_neq64, g3, ew]
      refine law23_long_q2.w law23_long_S9_2 (by omega) ?_
      simp only [law23_long_r2, W_bind, W_oS, W_on, W_pure, W_mv, W_setF, W_setT, T.get_set, seqO_cons, seqO_nil, seqP_cons, seqP_nil, onO_some', W_callV, reduceIte, isK_bool, isB_tt, isB_tf, isB_ft, isB_ff, W_chk, W_ifT, W_ifF, W_pick, W_nil, Nat.reduceEqDiff, Nat.reduceEqDiff, reduceCtorEq, ↓reduceIte, W_add64, W_sub64, W_lss64, W_gtr64, W_leq64, W_geq64, W_eql64, W_neq64, g0, W_lenSl sn_ac, e11]
      refine W.cond (v := false) law23_long_S2_3 law23_long_C3 (by simp [T.get_set]) (by omega) (fun h => by cases h) fun _ => ?_
      refine law23_long_q5.w law23_long_S3_5 (by omega) ?_
      simp only [law23_long_r5, W_bind, W_oS, W_on, W_pure, W_mv, W_setF, W_setT, T.get_set, seqO_cons, seqO_nil, seqP_cons, seqP_nil, onO_some', W_callV, reduceIte, isK_bool, isB_tt, isB_tf, isB_ft, isB_ff, W_chk, W_ifT, W_ifF, W_pick, W_nil, Nat.reduceEqDiff, Nat.reduceEqDiff, reduceCtorEq, ↓reduceIte, W_add64, W_sub64, W_lss64, W_gtr64, W_leq64, W_geq64, W_eql64, W_neq64, g0, W_lenSl sn_ac, e40]
      exact W.end' (rs := [2]) (vs := [.bool false]) law23_long_S5_7 (.inl law23_long_E7) (by omega) law23_long_fn law23_long_res y2.cx (by simp [T.get_set]) (q _ _ y2.cx')
  cases z with
  | true =>
    try simp only [W_bind, W_oS, W_on, W_pure, W_mv, W_setF, W_setT, T.get_set, seqO_cons, seqO_nil, seqP_cons, seqP_nil, onO_some', W_callV, reduceIte, isK_bool, isB_tt, isB_tf, isB_ft, isB_ff, W_chk, W_ifT, W_ifF, W_pick, W_nil, Nat.reduceEqDiff, Nat.reduceEqDiff, reduceCtorEq, ↓reduceIte]
    exact fin _ true _ _ _ (by omega) law23_long_S4_6 y1 (by simp [T.get_set]) (by simp [T.get_set, h0]) (by simp [T.get_set])
  | false =>
    simp only [W_bind, W_oS, W_on, W_pure, W_mv, W_setF, W_setT, T.get_set, seqO_cons, seqO_nil, seqP_cons, seqP_nil, onO_some', W_callV, reduceIte, isK_bool, isB_tt, isB_tf, isB_ft, isB_ff, W_chk, W_ifT, W_ifF, W_pick, W_nil, Nat.reduceEqDiff, Nat.reduceEqDiff, reduceCtorEq, ↓reduceIte, h0, idx_ac0 Nat.one_pos, W_fld fl_ac4 (by decide)]
    refine W.load1 sn_is_1 ((hL' 10 _ rfl).ext y1 fun h => h) ?_
    have y2 := y1.thenRd hb (L + (0 + 0 * 13 + 10))
    simp only [W_bind, W_oS, W_on, W_pure, W_mv, W_setF, W_setT, T.get_set, seqO_cons, seqO_nil, seqP_cons, seqP_nil, onO_some', W_callV, reduceIte, isK_bool, isB_tt, isB_tf, isB_ft, isB_ff, W_chk, W_ifT, W_ifF, W_pick, W_nil, Nat.reduceEqDiff, Nat.reduceEqDiff, reduceCtorEq, ↓reduceIte, W_add64, W_sub64, W_lss64, W_gtr64, W_leq64, W_geq64, W_eql64, W_neq64, W_lenSl sn_is]
    cases e1 : decide ((100 : Int) < ((kn : Nat) : Int)) with
    | true =>
      simp only [W_bind, W_oS, W_on, W_pure, W_mv, W_setF, W_setT, T.get_set, seqO_cons, seqO_nil, seqP_cons, seqP_nil, onO_some', W_callV, reduceIte, isK_bool, isB_tt, isB_tf, isB_ft, isB_ff, W_chk, W_ifT, W_ifF, W_pick, W_nil, Nat.reduceEqDiff, Nat.reduceEqDiff, reduceCtorEq, ↓reduceIte]
      exact fin _ true _ _ _ (by omega) law23_long_S4_6 y2 (by simp [T.get_set]) (by simp [T.get_set, h0]) (by simp [T.get_set])
    | false =>
      simp only [W_bind, W_oS, W_on, W_pure, W_mv, W_setF, W_setT, T.get_set, seqO_cons, seqO_nil, seqP_cons, seqP_nil, onO_some', W_callV, reduceIte, isK_bool, isB_tt, isB_tf, isB_ft, isB_ff, W_chk, W_ifT, W_ifF, W_pick, W_nil, Nat.reduceEqDiff, Nat.reduceEqDiff, reduceCtorEq, ↓reduceIte, h0, idx_ac0 Nat.one_pos, W_fld fl_ac5 (by decide)]
      refine W.load1 sn_str_1 ((hL' 11 _ rfl).ext y2 fun h => h) ?_
      have y3 := y2.thenRd hb (L + (0 + 0 * 13 + 11))
      simp only [W_bind, W_oS, W_on, W_pure, W_mv, W_setF, W_setT, T.get_set, seqO_cons, seqO_nil, seqP_cons, seqP_nil, onO_some', W_callV, reduceIte, isK_bool, isB_tt, isB_tf, isB_ft, isB_ff, W_chk, W_ifT, W_ifF, W_pick, W_nil, Nat.reduceEqDiff, Nat.reduceEqDiff, reduceCtorEq, ↓reduceIte, W_add64, W_sub64, W_lss64, W_gtr64, W_leq64, W_geq64, W_eql64, W_neq64, W_lenS sn_str]
      cases e2 : decide ((100 : Int) < ((nm.size : Nat) : Int)) with
      | true =>
        simp only [W_bind, W_oS, W_on, W_pure, W_mv, W_setF, W_setT, T.get_set, seqO_cons, seqO_nil, seqP_cons, seqP_nil, onO_some', W_callV, reduceIte, isK_bool, isB_tt, isB_tf, isB_ft, isB_ff, W_chk, W_ifT, W_ifF, W_pick, W_nil, Nat.reduceEqDiff, Nat.reduceEqDiff, reduceCtorEq, ↓reduceIte]
        exact fin _ true _ _ _ (by omega) law23_long_S4_6 y3 (by simp [T.get_set]) (by simp [T.get_set, h0]) (by simp [T.get_set])
      | false =>
        simp only [W_bind, W_oS, W_on, W_pure, W_mv, W_setF, W_setT, T.get_set, seqO_cons, seqO_nil, seqP_cons, seqP_nil, onO_some', W_callV, reduceIte, isK_bool, isB_tt, isB_tf, isB_ft, isB_ff, W_chk, W_ifT, W_ifF, W_pick, W_nil, Nat.reduceEqDiff, Nat.reduceEqDiff, reduceCtorEq, ↓reduceIte, h0, idx_ac0 Nat.one_pos, W_fld fl_ac6 (by decide)]
        refine W.load1 sn_by_1 ((hL' 12 _ rfl).ext y3 fun h => h) ?_
        have y4 := y3.thenRd hb (L + (0 + 0 * 13 + 12))
        simp only [W_bind, W_oS, W_on, W_pure, W_mv, W_setF, W_setT, T.get_set, seqO_cons, seqO_nil, seqP_cons, seqP_nil, onO_some', W_callV, reduceIte, isK_bool, isB_tt, isB_tf, isB_ft, isB_ff, W_chk, W_ifT, W_ifF, W_pick, W_nil, Nat.reduceEqDiff, Nat.reduceEqDiff, reduceCtorEq, ↓reduceIte, W_add64, W_sub64, W_lss64, W_gtr64, W_leq64, W_geq64, W_eql64, W_neq64, W_lenSl sn_by]
        exact fin _ (decide ((500 : Int) < ((bn : Nat) : Int))) _ _ _ (by omega) law23_long_S4_6 y4 (by simp [T.get_set]) (by simp [T.get_set, h0]) (by simp [T.get_set])
end
end Go.Proofs.YtbmkpcjkadifhaaGreatDoor.Am
/- satchellaw23.SnapsNone: a round. -/
namespace Go.Proofs.YtbmkpcjkadifhaaGreatDoor.Am
open Go.RowKit

theorem fl_ac1 : fldN envS 30 1 = some (1, 1, false) := by kernel_rfl
theorem fl_ac3 : fldN envS 30 3 = some (7, 3, true) := by kernel_rfl
theorem pol_3 : tyS envS 26 = some (3, true) := by kernel_rfl
theorem sn_int_1 : tyS envS 3 = some (1, false) := by kernel_rfl
theorem sn_sns : slN envS 38 = some 1 := by kernel_rfl
section
variable {O B : Nat} {b : Value} {a m0 m1 m2 m3 m4 p0 p1 p2 ks nm bs : Value} {Q : Value × FrameMode → St → Prop} {s0 : St}
theorem snap_round {n i : Nat} {va : Value} {tm : T Value} {s : St} {td : List Item} (hb0 : s0.lim ≤ s0.next) (hx : Ext Any Non s0 s) (ha : SnN s0 va) (hO : Row s0 O 0 (actC a b m0 m1 m2 m3 m4 p0 p1 p2 ks nm bs)) (hB : At s0 B (0 + i * 1) va) (hi : i < 2) (hn : 600 ≤ n) (hT : skim 64 td = law23_None_P7)
    (h1 : T.get tm 1 = some (.pointer (some ⟨O, 0, none⟩))) (h3 : T.get tm 3 = some (.slice (some ⟨B, 0, none⟩) 2 2)) (h4 : T.get tm 4 = some (.int .i64 (i : Nat)))
    (q : ∀ (n1 : Nat) (s1 : St) (tm1 : T Value) (td1 : List Item), n - 20 ≤ n1 → skim 64 td1 = law23_None_P7 → Ext Any Non s0 s1 → T.get tm1 1 = some (.pointer (some ⟨O, 0, none⟩)) → T.get tm1 3 = some (.slice (some ⟨B, 0, none⟩) 2 2) → T.get tm1 4 = some (.int .i64 ((i + 1 : Nat) : Int)) → W (runF envS n1 ⟨3, law23_None_nt, law23_None_g, tm1, td1, .run, .normal, none⟩) s1 Q) :
    W (runF envS n ⟨3, law23_None_nt, law23_None_g, tm, td, .run, .normal, none⟩) s Q := by
  have ei : decide (((i : Nat) : Int) < ((2 : Nat) : Int)) = true := decide_eq_true (by omega)
  have e1 : (!decide ((1 : Int) = 1)) = false := rfl
  have e0 : (!decide ((0 : Int) = 0)) = false := rfl
  have e00 : decide ((0 : Int) < ((0 : Nat) : Int)) = false := rfl
  refine law23_None_q7.w hT (by omega) ?_
  simp only [law23_None_r7, W_bind, W_oS, W_on, W_pure, W_mv, W_setF, W_setT, T.get_set, seqO_cons, seqO_nil, seqP_cons, seqP_nil, onO_some', W_callV, reduceIte, isK_bool, isB_tt, isB_tf, isB_ft, isB_ff, W_chk, W_ifT, W_ifF, W_pick, W_nil, Nat.reduceEqDiff, Nat.reduceEqDiff, reduceCtorEq, ↓reduceIte, W_add64, W_sub64, W_lss64, W_gtr64, W_leq64, W_geq64, W_eql64, W_neq64, h3, h4, W_lenSl sn_sns, ei]
  refine W.cond (v := true) law23_None_S7_8 law23_None_C8 (by simp [T.get_set]) (by omega) (fun _ => ?_) fun h => by cases h
  refine law23_None_q9.w law23_None_S8_9 (by omega) ?_
  simp only [law23_None_r9, W_bind, W_oS, W_on, W_pure, W_mv, W_setF, W_setT, T.get_set, seqO_cons, seqO_nil, seqP_cons, seqP_nil, onO_some', W_callV, reduceIte, isK_bool, isB_tt, isB_tf, isB_ft, isB_ff, W_chk, W_ifT, W_ifF, W_pick, W_nil, Nat.reduceEqDiff, Nat.reduceEqDiff, reduceCtorEq, ↓reduceIte, h3, h4, W_idxSl sn_sns hi]
  refine W.load1 ty_sn_1 (hB.ext hx fun h => h) ?_
  have y1 := hx.thenRd hb0 (B + (0 + i * 1))
  try simp only [W_bind, W_oS, W_on, W_pure, W_mv, W_setF, W_setT, T.get_set, seqO_cons, seqO_nil, seqP_cons, seqP_nil, onO_some', W_callV, reduceIte, isK_bool, isB_tt, isB_tf, isB_ft, isB_ff, W_chk, W_ifT, W_ifF, W_pick, W_nil, Nat.reduceEqDiff, Nat.reduceEqDiff, reduceCtorEq, ↓reduceIte]
  refine law23_None_q11.w law23_None_S9_11 (by omega) ?_
  simp only [law23_None_r11, W_bind, W_oS, W_on, W_pure, W_mv, W_setF, W_setT, T.get_set, seqO_cons, seqO_nil, seqP_cons, seqP_nil, onO_some', W_callV, reduceIte, isK_bool, isB_tt, isB_tf, isB_ft, isB_ff, W_chk, W_ifT, W_ifF, W_pick, W_nil, Nat.reduceEqDiff, Nat.reduceEqDiff, reduceCtorEq, ↓reduceIte, h1, W_fld fl_ac2 (by decide)]
  have hM : Row s0 O (0 + 2) [m0, m1, m2, m3, m4] := Row.sub (l := [a, b]) (m := [m0, m1, m2, m3, m4]) (r := [p0, p1, p2, ks, nm, bs]) hO rfl rfl
  have hP : Row s0 O (0 + 7) [p0, p1, p2] := Row.sub (l := [a, b, m0, m1, m2, m3, m4]) (m := [p0, p1, p2]) (r := [ks, nm, bs]) hO rfl rfl
  refine W.loadA man_5 (hM.ext0 y1) rfl fun s2 _ _ x2 => ?_
  have y2 := y1.then0 x2 hb0
  try simp only [W_bind, W_oS, W_on, W_pure, W_mv, W_setF, W_setT, T.get_set, seqO_cons, seqO_nil, seqP_cons, seqP_nil, onO_some', W_callV, reduceIte, isK_bool, isB_tt, isB_tf, isB_ft, isB_ff, W_chk, W_ifT, W_ifF, W_pick, W_nil, Nat.reduceEqDiff, Nat.reduceEqDiff, reduceCtorEq, ↓reduceIte]
  refine sn_Commit_spec (y2.bnd hb0) (ha.ext0 y2) (by omega) fun s3 x3 => ?_
  have y3 := y2.then0 x3 hb0
  rw [W_ext (k := 0) rfl, W_ext (k := 1) rfl]
  try simp only [W_bind, W_oS, W_on, W_pure, W_mv, W_setF, W_setT, T.get_set, seqO_cons, seqO_nil, seqP_cons, seqP_nil, onO_some', W_callV, reduceIte, isK_bool, isB_tt, isB_tf, isB_ft, isB_ff, W_chk, W_ifT, W_ifF, W_pick, W_nil, Nat.reduceEqDiff, Nat.reduceEqDiff, reduceCtorEq, ↓reduceIte]
  refine law23_None_q13.w law23_None_S11_13 (by omega) ?_
  simp only [law23_None_r13, W_bind, W_oS, W_on, W_pure, W_mv, W_setF, W_setT, T.get_set, seqO_cons, seqO_nil, seqP_cons, seqP_nil, onO_some', W_callV, reduceIte, isK_bool, isB_tt, isB_tf, isB_ft, isB_ff, W_chk, W_ifT, W_ifF, W_pick, W_nil, Nat.reduceEqDiff, Nat.reduceEqDiff, reduceCtorEq, ↓reduceIte, h1, W_fld fl_ac3 (by decide)]
  refine W.loadA pol_3 (hP.ext0 y3) rfl fun s4 _ _ x4 => ?_
  have y4 := y3.then0 x4 hb0
  try simp only [W_bind, W_oS, W_on, W_pure, W_mv, W_setF, W_setT, T.get_set, seqO_cons, seqO_nil, seqP_cons, seqP_nil, onO_some', W_callV, reduceIte, isK_bool, isB_tt, isB_tf, isB_ft, isB_ff, W_chk, W_ifT, W_ifF, W_pick, W_nil, Nat.reduceEqDiff, Nat.reduceEqDiff, reduceCtorEq, ↓reduceIte]
  refine sn_Expire_spec (y4.bnd hb0) (ha.ext0 y4) (by omega) fun s5 x5 => ?_
  have y5 := y4.then0 x5 hb0
  rw [W_ext (k := 0) rfl, W_ext (k := 1) rfl]
  try simp only [W_bind, W_oS, W_on, W_pure, W_mv, W_setF, W_setT, T.get_set, seqO_cons, seqO_nil, seqP_cons, seqP_nil, onO_some', W_callV, reduceIte, isK_bool, isB_tt, isB_tf, isB_ft, isB_ff, W_chk, W_ifT, W_ifF, W_pick, W_nil, Nat.reduceEqDiff, Nat.reduceEqDiff, reduceCtorEq, ↓reduceIte]
  refine law23_None_q15.w law23_None_S13_15 (by omega) ?_
  simp only [law23_None_r15, W_bind, W_oS, W_on, W_pure, W_mv, W_setF, W_setT, T.get_set, seqO_cons, seqO_nil, seqP_cons, seqP_nil, onO_some', W_callV, reduceIte, isK_bool, isB_tt, isB_tf, isB_ft, isB_ff, W_chk, W_ifT, W_ifF, W_pick, W_nil, Nat.reduceEqDiff, Nat.reduceEqDiff, reduceCtorEq, ↓reduceIte, h1, W_fld fl_ac1 (by decide)]
  refine W.load1 sn_int_1 ((hO 1 _ rfl).ext y5 fun h => h) ?_
  have y6 := y5.thenRd hb0 (O + (0 + 1))
  try simp only [W_bind, W_oS, W_on, W_pure, W_mv, W_setF, W_setT, T.get_set, seqO_cons, seqO_nil, seqP_cons, seqP_nil, onO_some', W_callV, reduceIte, isK_bool, isB_tt, isB_tf, isB_ft, isB_ff, W_chk, W_ifT, W_ifF, W_pick, W_nil, Nat.reduceEqDiff, Nat.reduceEqDiff, reduceCtorEq, ↓reduceIte]
  refine sn_Get_spec (y6.bnd hb0) (ha.ext0 y6) (by omega) fun s7 x7 => ?_
  have y7 := y6.then0 x7 hb0
  rw [W_ext (k := 0) rfl, W_ext (k := 1) rfl]
  try simp only [W_bind, W_oS, W_on, W_pure, W_mv, W_setF, W_setT, T.get_set, seqO_cons, seqO_nil, seqP_cons, seqP_nil, onO_some', W_callV, reduceIte, isK_bool, isB_tt, isB_tf, isB_ft, isB_ff, W_chk, W_ifT, W_ifF, W_pick, W_nil, Nat.reduceEqDiff, Nat.reduceEqDiff, reduceCtorEq, ↓reduceIte]
  refine W.alloc man_z fun s8 n8 x8 o8 => ?_
  have o8' : OwnRow s8 s7.next 0 zMan := o8
  have y8 := y7.then0 x8 hb0
  try simp only [W_bind, W_oS, W_on, W_pure, W_mv, W_setF, W_setT, T.get_set, seqO_cons, seqO_nil, seqP_cons, seqP_nil, onO_some', W_callV, reduceIte, isK_bool, isB_tt, isB_tf, isB_ft, isB_ff, W_chk, W_ifT, W_ifF, W_pick, W_nil, Nat.reduceEqDiff, Nat.reduceEqDiff, reduceCtorEq, ↓reduceIte]
  refine W.store man_5 rfl rfl (fun j hj => ⟨_, o8' j (zMan[j]'hj) (List.getElem?_eq_getElem hj)⟩) fun s9 n9 x9 o9 => ?_
  have y9 : Ext Any Non s0 s9 := y8.thenW x9 hb0 y7.nxt
  try simp only [W_bind, W_oS, W_on, W_pure, W_mv, W_setF, W_setT, T.get_set, seqO_cons, seqO_nil, seqP_cons, seqP_nil, onO_some', W_callV, reduceIte, isK_bool, isB_tt, isB_tf, isB_ft, isB_ff, W_chk, W_ifT, W_ifF, W_pick, W_nil, Nat.reduceEqDiff, Nat.reduceEqDiff, reduceCtorEq, ↓reduceIte]
  refine law23_None_q16.w law23_None_S15_16 (by omega) ?_
  simp only [law23_None_r16, W_bind, W_oS, W_on, W_pure, W_mv, W_setF, W_setT, T.get_set, seqO_cons, seqO_nil, seqP_cons, seqP_nil, onO_some', W_callV, reduceIte, isK_bool, isB_tt, isB_tf, isB_ft, isB_ff, W_chk, W_ifT, W_ifF, W_pick, W_nil, Nat.reduceEqDiff, Nat.reduceEqDiff, reduceCtorEq, ↓reduceIte, h1, W_fld fl_ac1 (by decide)]
  refine W.load1 sn_int_1 ((hO 1 _ rfl).ext y9 fun h => h) ?_
  have ya := y9.thenRd hb0 (O + (0 + 1))
  try simp only [W_bind, W_oS, W_on, W_pure, W_mv, W_setF, W_setT, T.get_set, seqO_cons, seqO_nil, seqP_cons, seqP_nil, onO_some', W_callV, reduceIte, isK_bool, isB_tt, isB_tf, isB_ft, isB_ff, W_chk, W_ifT, W_ifF, W_pick, W_nil, Nat.reduceEqDiff, Nat.reduceEqDiff, reduceCtorEq, ↓reduceIte]
  refine sn_Of_spec (ya.bnd hb0) (ha.ext0 ya) (by omega) fun sb xb => ?_
  have yb := ya.then0 xb hb0
  rw [W_ext (k := 0) rfl, W_ext (k := 1) rfl]
  try simp only [W_bind, W_oS, W_on, W_pure, W_mv, W_setF, W_setT, T.get_set, seqO_cons, seqO_nil, seqP_cons, seqP_nil, onO_some', W_callV, reduceIte, isK_bool, isB_tt, isB_tf, isB_ft, isB_ff, W_chk, W_ifT, W_ifF, W_pick, W_nil, Nat.reduceEqDiff, Nat.reduceEqDiff, reduceCtorEq, ↓reduceIte]
  refine law23_None_q17.w law23_None_S16_17 (by omega) ?_
  simp only [law23_None_r17, W_bind, W_oS, W_on, W_pure, W_mv, W_setF, W_setT, T.get_set, seqO_cons, seqO_nil, seqP_cons, seqP_nil, onO_some', W_callV, reduceIte, isK_bool, isB_tt, isB_tf, isB_ft, isB_ff, W_chk, W_ifT, W_ifF, W_pick, W_nil, Nat.reduceEqDiff, Nat.reduceEqDiff, reduceCtorEq, ↓reduceIte, W_add64, W_sub64, W_lss64, W_gtr64, W_leq64, W_geq64, W_eql64, W_neq64, h1, e0, e1, e00, neTT, W_lenSl sn_is, W_fld fl_ac1 (by decide)]
  refine W.load1 sn_int_1 ((hO 1 _ rfl).ext yb fun h => h) ?_
  have yc := yb.thenRd hb0 (O + (0 + 1))
  try simp only [W_bind, W_oS, W_on, W_pure, W_mv, W_setF, W_setT, T.get_set, seqO_cons, seqO_nil, seqP_cons, seqP_nil, onO_some', W_callV, reduceIte, isK_bool, isB_tt, isB_tf, isB_ft, isB_ff, W_chk, W_ifT, W_ifF, W_pick, W_nil, Nat.reduceEqDiff, Nat.reduceEqDiff, reduceCtorEq, ↓reduceIte]
  refine sn_Forget_spec (yc.bnd hb0) (ha.ext0 yc) (by omega) fun sd xd => ?_
  have yd := yc.then0 xd hb0
  simp only [W_bind, W_oS, W_on, W_pure, W_mv, W_setF, W_setT, T.get_set, seqO_cons, seqO_nil, seqP_cons, seqP_nil, onO_some', W_callV, reduceIte, isK_bool, isB_tt, isB_tf, isB_ft, isB_ff, W_chk, W_ifT, W_ifF, W_pick, W_nil, Nat.reduceEqDiff, Nat.reduceEqDiff, reduceCtorEq, ↓reduceIte, W_add64, W_sub64, W_lss64, W_gtr64, W_leq64, W_geq64, W_eql64, W_neq64, e1, neTT]
  refine sn_List_spec (yd.bnd hb0) (ha.ext0 yd) (by omega) fun se xe => ?_
  have ye := yd.then0 xe hb0
  simp only [W_bind, W_oS, W_on, W_pure, W_mv, W_setF, W_setT, T.get_set, seqO_cons, seqO_nil, seqP_cons, seqP_nil, onO_some', W_callV, reduceIte, isK_bool, isB_tt, isB_tf, isB_ft, isB_ff, W_chk, W_ifT, W_ifF, W_pick, W_nil, Nat.reduceEqDiff, Nat.reduceEqDiff, reduceCtorEq, ↓reduceIte, W_add64, W_sub64, W_lss64, W_gtr64, W_leq64, W_geq64, W_eql64, W_neq64, W_lenSl sn_li, e00]
  refine sn_Greatest_spec (ye.bnd hb0) (ha.ext0 ye) (by omega) fun sf xf => ?_
  have yf := ye.then0 xf hb0
  simp only [W_bind, W_oS, W_on, W_pure, W_mv, W_setF, W_setT, T.get_set, seqO_cons, seqO_nil, seqP_cons, seqP_nil, onO_some', W_callV, reduceIte, isK_bool, isB_tt, isB_tf, isB_ft, isB_ff, W_chk, W_ifT, W_ifF, W_pick, W_nil, Nat.reduceEqDiff, Nat.reduceEqDiff, reduceCtorEq, ↓reduceIte, W_add64, W_sub64, W_lss64, W_gtr64, W_leq64, W_geq64, W_eql64, W_neq64, e0, neTT]
  refine sn_Out_spec (yf.bnd hb0) (ha.ext0 yf) (by omega) fun sg xg => ?_
  have yg := yf.then0 xg hb0
  try simp only [W_bind, W_oS, W_on, W_pure, W_mv, W_setF, W_setT, T.get_set, seqO_cons, seqO_nil, seqP_cons, seqP_nil, onO_some', W_callV, reduceIte, isK_bool, isB_tt, isB_tf, isB_ft, isB_ff, W_chk, W_ifT, W_ifF, W_pick, W_nil, Nat.reduceEqDiff, Nat.reduceEqDiff, reduceCtorEq, ↓reduceIte]
  refine W.cond (v := false) law23_None_S17_18 law23_None_C18 (by simp [T.get_set]) (by omega) (fun h => by cases h) fun _ => ?_
  refine law23_None_q20.w law23_None_S18_20 (by omega) ?_
  have ew : wrap64 ((i : Nat) + 1 : Int) = ((i + 1 : Nat) : Int) := by
    rw [wrap64_id (by omega) (by omega)]; simp
  simp only [law23_None_r20, W_bind, W_oS, W_on, W_pure, W_mv, W_setF, W_setT, T.get_set, seqO_cons, seqO_nil, seqP_cons, seqP_nil, onO_some', W_callV, reduceIte, isK_bool, isB_tt, isB_tf, isB_ft, isB_ff, W_chk, W_ifT, W_ifF, W_pick, W_nil, Nat.reduceEqDiff, Nat.reduceEqDiff, reduceCtorEq, ↓reduceIte, W_add64, W_sub64, W_lss64, W_gtr64, W_leq64, W_geq64, W_eql64, W_neq64, h4, ew]
  exact q _ _ _ _ (by omega) law23_None_S20_7 yg (by simp [T.get_set, h1]) (by simp [T.get_set, h3]) (by simp [T.get_set])
end
def zSn : List Value := [.pointer none, .int .i64 0, .bool false]
theorem sn_b : buildN envS 37 [] = some zSn := by kernel_rfl
theorem sn_sns_el : elT envS 38 = some (1, 8, [.pointer none]) := by kernel_rfl
theorem fill_sns (A : Addr) : fillAll (fun k => some (k * 1, 1)) [(0, .pointer none), (1, .pointer (some A))] (rep 2 [.pointer none]) = some [.pointer none, .pointer (some A)] := rfl
theorem act_13 : tyS envS 30 = some (13, true) := by kernel_rfl
noncomputable def actBy : Nat := match elT envS 32 with | some (_, k, _) => k | none => 0
def zAct : List Value := [.int .i64 0, .int .i64 0, .int .i64 0, .int .i64 0, .int .i64 0, .int .i64 0, .slice none 0 0, .int .i64 0, .int .i64 0, .int .i64 0, .slice none 0 0, .string ⟨#[]⟩, .slice none 0 0]
theorem act_el : elT envS 32 = some (13, actBy, zAct) := by kernel_rfl
theorem fill_act (a b m0 m1 m2 m3 m4 p0 p1 p2 ks nm bs : Value) : fillAll (fun k => some (k * 13, 13)) [(0, .agg (actC a b m0 m1 m2 m3 m4 p0 p1 p2 ks nm bs).toArray)] (rep 1 zAct) = some (actC a b m0 m1 m2 m3 m4 p0 p1 p2 ks nm bs) := rfl
theorem orc_awakeS : envS.orc.get 5 = some (closedM (.bool true)) := by kernel_rfl
section
variable {a b m0 m1 m2 m3 m4 p0 p1 p2 : Value} {kp bp : Option Addr} {kn kc bn bc : Nat} {nm : ByteArray}
theorem snaps_W {n len : Nat} {s : St} (hb : s.lim ≤ s.next) (he : ItR s m4 len) (hn : 4000 ≤ n) :
    W (callW envS (runF envS n) 3 [.agg (actC a b m0 m1 m2 m3 m4 p0 p1 p2 (.slice kp kn kc) (.string nm) (.slice bp bn bc)).toArray]) s fun u _ => u = .bool true := by
  refine law23_None_W fun tm h0 => ?_
  refine law23_None_q0.w rfl (by omega) ?_
  simp only [law23_None_r0, W_bind, W_oS, W_on, W_pure, W_mv, W_setF, W_setT, T.get_set, seqO_cons, seqO_nil, seqP_cons, seqP_nil, onO_some', W_callV, reduceIte, isK_bool, isB_tt, isB_tf, isB_ft, isB_ff, W_chk, W_ifT, W_ifF, W_pick, W_nil, Nat.reduceEqDiff, Nat.reduceEqDiff, reduceCtorEq, ↓reduceIte, h0]
  refine W.box fun sa na xa oa => ?_
  rw [cellsOf_agg] at oa
  have oa' : OwnRow sa s.next 0 (actC a b m0 m1 m2 m3 m4 p0 p1 p2 (.slice kp kn kc) (.string nm) (.slice bp bn bc)) := oa
  have ya : Ext Any Non (s.cxN cxN) sa := xa.any hb
  try simp only [W_bind, W_oS, W_on, W_pure, W_mv, W_setF, W_setT, T.get_set, seqO_cons, seqO_nil, seqP_cons, seqP_nil, onO_some', W_callV, reduceIte, isK_bool, isB_tt, isB_tf, isB_ft, isB_ff, W_chk, W_ifT, W_ifF, W_pick, W_nil, Nat.reduceEqDiff, Nat.reduceEqDiff, reduceCtorEq, ↓reduceIte]
  refine law23_None_q1.w law23_None_S0_1 (by omega) ?_
  simp only [law23_None_r1, W_bind, W_oS, W_on, W_pure, W_mv, W_setF, W_setT, T.get_set, seqO_cons, seqO_nil, seqP_cons, seqP_nil, onO_some', W_callV, reduceIte, isK_bool, isB_tt, isB_tf, isB_ft, isB_ff, W_chk, W_ifT, W_ifF, W_pick, W_nil, Nat.reduceEqDiff, Nat.reduceEqDiff, reduceCtorEq, ↓reduceIte]
  refine W.loadA act_13 (OwnRow.row oa') rfl fun sb _ _ xb => ?_
  have yb := ya.then0 xb hb
  try simp only [W_bind, W_oS, W_on, W_pure, W_mv, W_setF, W_setT, T.get_set, seqO_cons, seqO_nil, seqP_cons, seqP_nil, onO_some', W_callV, reduceIte, isK_bool, isB_tt, isB_tf, isB_ft, isB_ff, W_chk, W_ifT, W_ifF, W_pick, W_nil, Nat.reduceEqDiff, Nat.reduceEqDiff, reduceCtorEq, ↓reduceIte]
  refine W.buildS (yb.bnd (s := s.cxN cxN) hb) act_el (by decide) (fill_act _ _ _ _ _ _ _ _ _ _ _ _ _) (capU_gt (by decide)) fun sc nc xc oc => ?_
  have yc := yb.then0 xc hb
  try simp only [W_bind, W_oS, W_on, W_pure, W_mv, W_setF, W_setT, T.get_set, seqO_cons, seqO_nil, seqP_cons, seqP_nil, onO_some', W_callV, reduceIte, isK_bool, isB_tt, isB_tf, isB_ft, isB_ff, W_chk, W_ifT, W_ifF, W_pick, W_nil, Nat.reduceEqDiff, Nat.reduceEqDiff, reduceCtorEq, ↓reduceIte]
  refine long_spec (len := len) (yc.bnd (s := s.cxN cxN) hb) (OwnRow.row oc) ((he.same (s' := s.cxN cxN) rfl rfl).ext0 yc) (by omega) fun z s1 x1 => ?_
  have y1 := yc.then0 x1 hb
  have o1 : Row s1 s.next 0 (actC a b m0 m1 m2 m3 m4 p0 p1 p2 (.slice kp kn kc) (.string nm) (.slice bp bn bc)) := (((OwnRow.row oa').ext0 xb).ext0 xc).ext0 x1
  try simp only [W_bind, W_oS, W_on, W_pure, W_mv, W_setF, W_setT, T.get_set, seqO_cons, seqO_nil, seqP_cons, seqP_nil, onO_some', W_callV, reduceIte, isK_bool, isB_tt, isB_tf, isB_ft, isB_ff, W_chk, W_ifT, W_ifF, W_pick, W_nil, Nat.reduceEqDiff, Nat.reduceEqDiff, reduceCtorEq, ↓reduceIte]
  cases z with
  | true =>
    refine W.cond (v := true) law23_None_S1_2 law23_None_C2 (by simp [T.get_set]) (by omega) (fun _ => ?_) fun h => by cases h
    refine law23_None_q3.w law23_None_S2_3 (by omega) ?_
    simp only [law23_None_r3, W_bind, W_oS, W_on, W_pure, W_mv, W_setF, W_setT, T.get_set, seqO_cons, seqO_nil, seqP_cons, seqP_nil, onO_some', W_callV, reduceIte, isK_bool, isB_tt, isB_tf, isB_ft, isB_ff, W_chk, W_ifT, W_ifF, W_pick, W_nil, Nat.reduceEqDiff, Nat.reduceEqDiff, reduceCtorEq, ↓reduceIte]
    refine W.orc orc_awakeS (W.pure ?_)
    exact W.end' (rs := [2]) (vs := [.bool true]) law23_None_S3_5 (.inl law23_None_E5) (by omega) law23_None_fn law23_None_res y1.cx (by simp [T.get_set]) rfl
  | false =>
    refine W.cond (v := false) law23_None_S1_2 law23_None_C2 (by simp [T.get_set]) (by omega) (fun h => by cases h) fun _ => ?_
    refine law23_None_q4.w law23_None_S2_4 (by omega) ?_
    simp only [law23_None_r4, W_bind, W_oS, W_on, W_pure, W_mv, W_setF, W_setT, T.get_set, seqO_cons, seqO_nil, seqP_cons, seqP_nil, onO_some', W_callV, reduceIte, isK_bool, isB_tt, isB_tf, isB_ft, isB_ff, W_chk, W_ifT, W_ifF, W_pick, W_nil, Nat.reduceEqDiff, Nat.reduceEqDiff, reduceCtorEq, ↓reduceIte, W_build sn_b]
    refine W.box fun s2 n2 x2 o2 => ?_
    rw [cellsOf_agg] at o2
    have o2' : OwnRow s2 s1.next 0 zSn := o2
    have y2 := y1.then0 x2 hb
    try simp only [W_bind, W_oS, W_on, W_pure, W_mv, W_setF, W_setT, T.get_set, seqO_cons, seqO_nil, seqP_cons, seqP_nil, onO_some', W_callV, reduceIte, isK_bool, isB_tt, isB_tf, isB_ft, isB_ff, W_chk, W_ifT, W_ifF, W_pick, W_nil, Nat.reduceEqDiff, Nat.reduceEqDiff, reduceCtorEq, ↓reduceIte]
    refine W.buildS (y2.bnd (s := s.cxN cxN) hb) sn_sns_el (by decide) (fill_sns _) (capU_gt (by decide)) fun s3 n3 x3 o3 => ?_
    have y3 := y2.then0 x3 hb
    have hb3 := y3.bnd (s := s.cxN cxN) hb
    have hag : SnN s3 (.pointer (some ⟨s1.next, 0, none⟩)) := SnN.ext0 (.inr ⟨_, rfl, (o2' 0 _ rfl).at'⟩) x3
    have oO : Row s3 s.next 0 (actC a b m0 m1 m2 m3 m4 p0 p1 p2 (.slice kp kn kc) (.string nm) (.slice bp bn bc)) := (o1.ext0 x2).ext0 x3
    try simp only [W_bind, W_oS, W_on, W_pure, W_mv, W_setF, W_setT, T.get_set, seqO_cons, seqO_nil, seqP_cons, seqP_nil, onO_some', W_callV, reduceIte, isK_bool, isB_tt, isB_tf, isB_ft, isB_ff, W_chk, W_ifT, W_ifF, W_pick, W_nil, Nat.reduceEqDiff, Nat.reduceEqDiff, reduceCtorEq, ↓reduceIte]
    refine law23_None_q6.w law23_None_S4_6 (by omega) ?_
    simp only [law23_None_r6, W_bind, W_oS, W_on, W_pure, W_mv, W_setF, W_setT, T.get_set, seqO_cons, seqO_nil, seqP_cons, seqP_nil, onO_some', W_callV, reduceIte, isK_bool, isB_tt, isB_tf, isB_ft, isB_ff, W_chk, W_ifT, W_ifF, W_pick, W_nil, Nat.reduceEqDiff, Nat.reduceEqDiff, reduceCtorEq, ↓reduceIte]
    refine snap_round (s0 := s3) (O := s.next) (B := s2.next) (i := 0) (va := .pointer none) hb3 (Ext.refl _) (.inl rfl) oO (o3 0 _ rfl).at' (by decide) (by omega) law23_None_S6_7 (by simp [T.get_set]; rfl) (by simp [T.get_set]) (by simp [T.get_set]) fun n4 s4 tm4 td4 hn4 hT4 x4 k1 k3 k4 => ?_
    refine snap_round (s0 := s3) (O := s.next) (B := s2.next) (i := 1) hb3 x4 hag oO (o3 1 _ rfl).at' (by decide) (by omega) hT4 k1 k3 k4 fun n5 s5 tm5 td5 hn5 hT5 x5 _ j3 j4 => ?_
    have y5 := y3.then0 x5 hb
    refine law23_None_q7.w hT5 (by omega) ?_
    have e2 : decide (((1 + 1 : Nat) : Int) < ((2 : Nat) : Int)) = false := rfl
    simp only [law23_None_r7, W_bind, W_oS, W_on, W_pure, W_mv, W_setF, W_setT, T.get_set, seqO_cons, seqO_nil, seqP_cons, seqP_nil, onO_some', W_callV, reduceIte, isK_bool, isB_tt, isB_tf, isB_ft, isB_ff, W_chk, W_ifT, W_ifF, W_pick, W_nil, Nat.reduceEqDiff, Nat.reduceEqDiff, reduceCtorEq, ↓reduceIte, W_add64, W_sub64, W_lss64, W_gtr64, W_leq64, W_geq64, W_eql64, W_neq64, j3, j4, W_lenSl sn_sns, e2]
    refine W.cond (v := false) law23_None_S7_8 law23_None_C8 (by simp [T.get_set]) (by omega) (fun h => by cases h) fun _ => ?_
    refine law23_None_q10.w law23_None_S8_10 (by omega) ?_
    simp only [law23_None_r10, W_bind, W_oS, W_on, W_pure, W_mv, W_setF, W_setT, T.get_set, seqO_cons, seqO_nil, seqP_cons, seqP_nil, onO_some', W_callV, reduceIte, isK_bool, isB_tt, isB_tf, isB_ft, isB_ff, W_chk, W_ifT, W_ifF, W_pick, W_nil, Nat.reduceEqDiff, Nat.reduceEqDiff, reduceCtorEq, ↓reduceIte]
    refine sn_Open_spec (by omega) fun s6 x6 => ?_
    have y6 := y5.then0 x6 hb
    rw [W_ext (k := 0) rfl, W_ext (k := 1) rfl]
    try simp only [W_bind, W_oS, W_on, W_pure, W_mv, W_setF, W_setT, T.get_set, seqO_cons, seqO_nil, seqP_cons, seqP_nil, onO_some', W_callV, reduceIte, isK_bool, isB_tt, isB_tf, isB_ft, isB_ff, W_chk, W_ifT, W_ifF, W_pick, W_nil, Nat.reduceEqDiff, Nat.reduceEqDiff, reduceCtorEq, ↓reduceIte]
    refine law23_None_q12.w law23_None_S10_12 (by omega) ?_
    have e1 : decide ((1 : Int) = 1) = true := rfl
    simp only [law23_None_r12, W_bind, W_oS, W_on, W_pure, W_mv, W_setF, W_setT, T.get_set, seqO_cons, seqO_nil, seqP_cons, seqP_nil, onO_some', W_callV, reduceIte, isK_bool, isB_tt, isB_tf, isB_ft, isB_ff, W_chk, W_ifT, W_ifF, W_pick, W_nil, Nat.reduceEqDiff, Nat.reduceEqDiff, reduceCtorEq, ↓reduceIte, W_add64, W_sub64, W_lss64, W_gtr64, W_leq64, W_geq64, W_eql64, W_neq64, ep_sn, e1, decide_true]
    refine W.orc orc_awakeS (W.pure ?_)
    try simp only [W_bind, W_oS, W_on, W_pure, W_mv, W_setF, W_setT, T.get_set, seqO_cons, seqO_nil, seqP_cons, seqP_nil, onO_some', W_callV, reduceIte, isK_bool, isB_tt, isB_tf, isB_ft, isB_ff, W_chk, W_ifT, W_ifF, W_pick, W_nil, Nat.reduceEqDiff, Nat.reduceEqDiff, reduceCtorEq, ↓reduceIte]
    exact W.end' (rs := [2]) (vs := [.bool true]) law23_None_S12_14 (.inl law23_None_E14) (by omega) law23_None_fn law23_None_res y6.cx (by simp [T.get_set]) rfl
end
end Go.Proofs.YtbmkpcjkadifhaaGreatDoor.Am
/- satchellaw23.SnapsNone: its contract. -/
namespace Go.Proofs.YtbmkpcjkadifhaaGreatDoor.Am
open Go.RowKit Go.ChangeShapes Go.WideShapes

theorem envS_P : envS.P = Tryz.prog := by kernel_rfl
theorem und_str : Tryz.prog.underlying 9 = some .string := by kernel_rfl
theorem und_by : Tryz.prog.underlying 28 = some (.slice 5) := by kernel_rfl
theorem und_is : Tryz.prog.underlying 27 = some (.slice 3) := by kernel_rfl
theorem und_id : Tryz.prog.underlying 84 = some (.slice 68) := by kernel_rfl
theorem und_it : Tryz.prog.underlying 22 = some (.slice 86) := by kernel_rfl
theorem cel_it : Tryz.prog.cellsOf 86 = 6 := by kernel_rfl
theorem cel_it_k : Tryz.prog.cellsOf 86 < 1024 := by rw [cel_it]; decide
theorem cel_act : Tryz.prog.cellsOf 30 = 13 := by kernel_rfl
theorem cel_man : Tryz.prog.cellsOf 24 = 5 := by kernel_rfl
theorem cel_str : Tryz.prog.cellsOf 9 = 1 := by kernel_rfl
theorem cel_by : Tryz.prog.cellsOf 28 = 1 := by kernel_rfl
theorem cel_is : Tryz.prog.cellsOf 27 = 1 := by kernel_rfl
theorem cel_id : Tryz.prog.cellsOf 84 = 1 := by kernel_rfl
theorem cel_its : Tryz.prog.cellsOf 22 = 1 := by kernel_rfl
theorem fie_it : fieldsB Tryz.prog 86 [(9, 0), (3, 1), (3, 2), (3, 3), (9, 4), (84, 5)] = true := by kernel_rfl
theorem fie_man : fieldsB Tryz.prog 24 [(3, 0), (3, 1), (3, 2), (3, 3), (22, 4)] = true := by kernel_rfl
theorem fie_act : fieldsB Tryz.prog 30 [(3, 0), (3, 1), (24, 2), (26, 7), (27, 10), (9, 11), (28, 12)] = true := by kernel_rfl
theorem agg_act : aggT Tryz.prog 30 = true := by kernel_rfl
attribute [local irreducible] HoldsT
theorem held_items {N F : Nat} {s : St} {us : List Value} (h : HoldsT Tryz.prog N s (F + 4) 22 us) : ∃ v k, us = [v] ∧ ItR s v k := by
  obtain ⟨v, es, rfl, hE, _, _, ha⟩ := HoldsT.slice (P := Tryz.prog) (F := F + 3) (t := 22) (e := 86) und_it cel_it_k h
  rw [cel_it] at hE
  refine ⟨v, es.length, rfl, ?_⟩
  rcases hE with ⟨rfl, rfl⟩ | ⟨b, c, rfl, _, _, hr⟩
  · exact .inl ⟨rfl, rfl⟩
  · refine .inr ⟨b, 0, c, rfl, fun i hi => ?_⟩
    obtain ⟨hx6, hx⟩ := ha _ (List.getElem_mem hi)
    rw [cel_it] at hx6
    have hr' := hr i _ (List.getElem?_eq_getElem hi)
    obtain ⟨_, hx⟩ := hx.struct fie_it
    have k0 := hx (9, 0) (by simp)
    have k4 := hx (9, 4) (by simp)
    have k5 := hx (84, 5) (by simp)
    simp only [cel_str, cel_id] at k0 k4 k5
    obtain ⟨x, e0⟩ := k0.string' und_str
    obtain ⟨y, e4⟩ := k4.string' und_str
    obtain ⟨p, n, c1, e5⟩ := k5.slice' und_id
    clear k0 k4 k5 hx ha
    generalize es[i] = l at e0 e4 e5 hx6 hr'
    match l, hx6, e0, e4, e5, hr' with
    | [a0, a1, a2, a3, a4, a5], _, e0, e4, e5, hr' =>
      cases e0
      cases e4
      cases e5
      rw [Nat.zero_add]
      exact ⟨x, y, p, n, c1, hr' 0 _ rfl, hr' 4 _ rfl, hr' 5 _ rfl⟩
theorem act_of {us : List Value} {v4 : Value} {kp bp : Option Addr} {kn kc bn bc : Nat} {nm : ByteArray} (hl : us.length = 13) (e4 : (((us.drop 2).take 5).drop 4).take 1 = [v4]) (ek : (us.drop 10).take 1 = [.slice kp kn kc]) (en : (us.drop 11).take 1 = [.string nm]) (eb : (us.drop 12).take 1 = [.slice bp bn bc]) :
    ∃ a b m0 m1 m2 m3 p0 p1 p2, us = actC a b m0 m1 m2 m3 v4 p0 p1 p2 (.slice kp kn kc) (.string nm) (.slice bp bn bc) := by
  match us, hl, e4, ek, en, eb with
  | [a, b, m0, m1, m2, m3, m4, p0, p1, p2, k, n, c], _, e4, ek, en, eb =>
    cases e4
    cases ek
    cases en
    cases eb
    exact ⟨a, b, m0, m1, m2, m3, p0, p1, p2, rfl⟩
theorem snaps_params : Tryz.f3.params.toList = [30] := by kernel_rfl
theorem snaps_orc : envS.orc.get 3 = none := by kernel_rfl
theorem snaps_ext : envS.ext.get 3 = none := by kernel_rfl
theorem snaps_flat : [30].all (flatT Tryz.prog 9) = true := by kernel_rfl
set_option maxRecDepth 1000000 in
theorem walkSnaps {H : Type} {enc : TypeId × Value → H} {w : World} {base : Nat} {args : Array Value} {ds : List (DataW H)} {ps : List MemPlace} (hA : DataW.TrodAll enc Tryz.prog w 0 (fun _ => true) true Tryz.f3.params.toList args.toList ds ps)
    (hv : ∀ (j : Nat) t v, Tryz.f3.params[j]? = some t → args[j]? = some v → Value.okWide Tryz.prog w .any base t v) : Calls Tryz.prog 3 args w fun e w' => e = .returned (.bool true) ∧ Below w.heap.size w w' := by
  have hv' : ∀ (j : Nat) t v, [30][j]? = some t → args.toList[j]? = some v → Value.okWide Tryz.prog w .any base t v := fun j t v e1 e2 => by
    rw [← snaps_params] at e1
    rw [Array.getElem?_toList] at e1 e2
    exact hv j t v e1 e2
  rw [snaps_params] at hA
  have h := calls_args (E := envS) (fuel := 5000) (f := 3) (F := 9) (N := maxLen) (v := .bool true) (ts := [30]) envS_ok snaps_orc snaps_ext rfl (by rw [envS_P]; exact hA) (by rw [envS_P]; exact hv') (by rw [envS_P]; exact snaps_flat) (.inl (Nat.le_refl _)) (fun m nx us hus hu => by
    rw [envS_P] at hu
    match us, hus, hu with
    | [u0], _, hu =>
      obtain ⟨l, rfl, k0⟩ := (hu 0 _ u0 rfl rfl).agg agg_act
      obtain ⟨hl, k0⟩ := k0.struct fie_act
      rw [cel_act] at hl
      have km := k0 (24, 2) (by simp)
      have kk := k0 (27, 10) (by simp)
      have kn := k0 (9, 11) (by simp)
      have kb := k0 (28, 12) (by simp)
      simp only [cel_man, cel_is, cel_str, cel_by] at km kk kn kb
      obtain ⟨_, km⟩ := km.struct fie_man
      have k4 := km (22, 4) (by simp)
      simp only [cel_its] at k4
      obtain ⟨v4, k, e4, he⟩ := held_items (F := 3) k4
      obtain ⟨kp, kn', kc, ek⟩ := kk.slice' und_is
      obtain ⟨nm, en⟩ := kn.string' und_str
      obtain ⟨bp, bn, bc, eb⟩ := kb.slice' und_by
      obtain ⟨a, b, m0, m1, m2, m3, p0, p1, p2, e⟩ := act_of hl e4 ek en eb
      rw [e]
      exact snaps_W (Nat.zero_le _) he (by omega))
  rw [envS_P] at h
  exact h
end Go.Proofs.YtbmkpcjkadifhaaGreatDoor.Am
