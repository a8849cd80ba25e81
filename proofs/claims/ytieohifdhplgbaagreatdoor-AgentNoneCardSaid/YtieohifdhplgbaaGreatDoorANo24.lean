/- The agent that is none, or that New did not make: what its methods answer, in every state. -/
import Derived.Test.YtieohifdhplgbaaGreatDoorANo23
import Derived.Test.YtieohifdhplgbaaGreatDoorANo07
import Derived.Test.YtieohifdhplgbaaGreatDoorANo08
namespace Go.Proofs.YtieohifdhplgbaaGreatDoor.Am
open Go.RowKit

theorem cellsOf_agg (l : List Value) : cellsOf (.agg l.toArray) = l := rfl
/-- Reads of whatever. -/
abbrev Any : Nat → Prop := fun _ => True
theorem Ext.any {F G : Nat → Prop} {s s1 : St} (h : Ext F G s s1) (hb : s.lim ≤ s.next) : Ext Any G s s1 := h.weak hb (fun _ _ _ => trivial) fun _ _ h => h
theorem Ext.then0 {F : Nat → Prop} {s s1 s2 : St} (h : Ext Any Non s s1) (k : Ext F Non s1 s2) (hb : s.lim ≤ s.next) : Ext Any Non s s2 := h.trans k hb (fun _ _ _ => trivial) fun _ _ h => h
theorem Ext.thenRd {s s1 : St} (h : Ext Any Non s s1) (hb : s.lim ≤ s.next) (l : Nat) : Ext Any Non s (s1.rdN l) := h.then0 (Ext.rdN (F := Any) s1 l fun _ => trivial) hb
theorem Ext.cx' {F G : Nat → Prop} {s s1 : St} {c : Ctx} (x : Ext F G (s.cxN c) s1) : Ext F G s (s1.cxN s.cx) := ⟨x.nxt, x.lim, rfl, x.mem, x.rd, x.wr⟩
section
variable {E : Env} {t : Nat} {s : St} {xo yo : Operand}
theorem neSN {a : Addr} (h : ptrT E t = true) : Cl.get (aBin E .neq t xo yo) (.pointer (some a)) (.pointer none) s = .some (.bool true) s := by
  unfold ptrT at h
  split at h
  · rename_i i hi
    split at h
    · rename_i e hu
      show refEq E .neq t (.pointer (some a)) (.pointer none) s = _
      unfold refEq
      rw [bind_run (show ti E t s = .some i s by unfold ti; rw [hi]; rfl), hu]
      rfl
    · cases h
  · cases h
theorem W_neSN {a : Addr} (h : ptrT E t = true) (Q : Value → St → Prop) : W (Cl.get (aBin E .neq t xo yo) (.pointer (some a)) (.pointer none)) s Q = Q (.bool true) s := W_run (neSN h)
end
theorem p_ag : ptrT envS 28 = true := by kernel_rfl
theorem p_dk : ptrT envS 29 = true := by kernel_rfl
theorem p_jn : ptrT envS 30 = true := by kernel_rfl
theorem p_lk : ptrT envS 31 = true := by kernel_rfl
theorem p_cm : ptrT envS 32 = true := by kernel_rfl
theorem p_td : ptrT envS 33 = true := by kernel_rfl
theorem qp_ag (k : Nat) (s : St) : Cl.get (aBin envS .eql 28 (.tmp k) (.const (.pointer none))) (.pointer none) (.pointer none) s = .some (.bool true) s := by kernel_rfl
theorem ep_ag (k : Nat) (s : St) (Q : Value → St → Prop) : W (Cl.get (aBin envS .eql 28 (.tmp k) (.const (.pointer none))) (.pointer none) (.pointer none)) s Q = Q (.bool true) s := W_run (qp_ag k s)
theorem mp_ag (k : Nat) (s : St) : Cl.get (aBin envS .neq 28 (.tmp k) (.const (.pointer none))) (.pointer none) (.pointer none) s = .some (.bool false) s := by kernel_rfl
theorem np_ag (k : Nat) (s : St) (Q : Value → St → Prop) : W (Cl.get (aBin envS .neq 28 (.tmp k) (.const (.pointer none))) (.pointer none) (.pointer none)) s Q = Q (.bool false) s := W_run (mp_ag k s)
theorem qp_dk (k : Nat) (s : St) : Cl.get (aBin envS .eql 29 (.tmp k) (.const (.pointer none))) (.pointer none) (.pointer none) s = .some (.bool true) s := by kernel_rfl
theorem ep_dk (k : Nat) (s : St) (Q : Value → St → Prop) : W (Cl.get (aBin envS .eql 29 (.tmp k) (.const (.pointer none))) (.pointer none) (.pointer none)) s Q = Q (.bool true) s := W_run (qp_dk k s)
theorem mp_dk (k : Nat) (s : St) : Cl.get (aBin envS .neq 29 (.tmp k) (.const (.pointer none))) (.pointer none) (.pointer none) s = .some (.bool false) s := by kernel_rfl
theorem np_dk (k : Nat) (s : St) (Q : Value → St → Prop) : W (Cl.get (aBin envS .neq 29 (.tmp k) (.const (.pointer none))) (.pointer none) (.pointer none)) s Q = Q (.bool false) s := W_run (mp_dk k s)
theorem qp_jn (k : Nat) (s : St) : Cl.get (aBin envS .eql 30 (.tmp k) (.const (.pointer none))) (.pointer none) (.pointer none) s = .some (.bool true) s := by kernel_rfl
theorem ep_jn (k : Nat) (s : St) (Q : Value → St → Prop) : W (Cl.get (aBin envS .eql 30 (.tmp k) (.const (.pointer none))) (.pointer none) (.pointer none)) s Q = Q (.bool true) s := W_run (qp_jn k s)
theorem mp_jn (k : Nat) (s : St) : Cl.get (aBin envS .neq 30 (.tmp k) (.const (.pointer none))) (.pointer none) (.pointer none) s = .some (.bool false) s := by kernel_rfl
theorem np_jn (k : Nat) (s : St) (Q : Value → St → Prop) : W (Cl.get (aBin envS .neq 30 (.tmp k) (.const (.pointer none))) (.pointer none) (.pointer none)) s Q = Q (.bool false) s := W_run (mp_jn k s)
theorem qp_lk (k : Nat) (s : St) : Cl.get (aBin envS .eql 31 (.tmp k) (.const (.pointer none))) (.pointer none) (.pointer none) s = .some (.bool true) s := by kernel_rfl
theorem ep_lk (k : Nat) (s : St) (Q : Value → St → Prop) : W (Cl.get (aBin envS .eql 31 (.tmp k) (.const (.pointer none))) (.pointer none) (.pointer none)) s Q = Q (.bool true) s := W_run (qp_lk k s)
theorem mp_lk (k : Nat) (s : St) : Cl.get (aBin envS .neq 31 (.tmp k) (.const (.pointer none))) (.pointer none) (.pointer none) s = .some (.bool false) s := by kernel_rfl
theorem np_lk (k : Nat) (s : St) (Q : Value → St → Prop) : W (Cl.get (aBin envS .neq 31 (.tmp k) (.const (.pointer none))) (.pointer none) (.pointer none)) s Q = Q (.bool false) s := W_run (mp_lk k s)
theorem qp_cm (k : Nat) (s : St) : Cl.get (aBin envS .eql 32 (.tmp k) (.const (.pointer none))) (.pointer none) (.pointer none) s = .some (.bool true) s := by kernel_rfl
theorem ep_cm (k : Nat) (s : St) (Q : Value → St → Prop) : W (Cl.get (aBin envS .eql 32 (.tmp k) (.const (.pointer none))) (.pointer none) (.pointer none)) s Q = Q (.bool true) s := W_run (qp_cm k s)
theorem mp_cm (k : Nat) (s : St) : Cl.get (aBin envS .neq 32 (.tmp k) (.const (.pointer none))) (.pointer none) (.pointer none) s = .some (.bool false) s := by kernel_rfl
theorem np_cm (k : Nat) (s : St) (Q : Value → St → Prop) : W (Cl.get (aBin envS .neq 32 (.tmp k) (.const (.pointer none))) (.pointer none) (.pointer none)) s Q = Q (.bool false) s := W_run (mp_cm k s)
theorem qp_td (k : Nat) (s : St) : Cl.get (aBin envS .eql 33 (.tmp k) (.const (.pointer none))) (.pointer none) (.pointer none) s = .some (.bool true) s := by kernel_rfl
theorem ep_td (k : Nat) (s : St) (Q : Value → St → Prop) : W (Cl.get (aBin envS .eql 33 (.tmp k) (.const (.pointer none))) (.pointer none) (.pointer none)) s Q = Q (.bool true) s := W_run (qp_td k s)
theorem mp_td (k : Nat) (s : St) : Cl.get (aBin envS .neq 33 (.tmp k) (.const (.pointer none))) (.pointer none) (.pointer none) s = .some (.bool false) s := by kernel_rfl
theorem np_td (k : Nat) (s : St) (Q : Value → St → Prop) : W (Cl.get (aBin envS .neq 33 (.tmp k) (.const (.pointer none))) (.pointer none) (.pointer none)) s Q = Q (.bool false) s := W_run (mp_td k s)
theorem ty_ag_1 : tyS envS 28 = some (1, false) := by kernel_rfl
theorem ty_jn_1 : tyS envS 30 = some (1, false) := by kernel_rfl
theorem ty_lk_1 : tyS envS 31 = some (1, false) := by kernel_rfl
theorem ty_cm_1 : tyS envS 32 = some (1, false) := by kernel_rfl
theorem ty_td_1 : tyS envS 33 = some (1, false) := by kernel_rfl
theorem fl_ag2 : fldN envS 35 2 = some (2, 1, false) := by kernel_rfl
theorem fl_ag4 : fldN envS 35 4 = some (4, 1, false) := by kernel_rfl
theorem fl_ag5 : fldN envS 35 5 = some (5, 1, false) := by kernel_rfl
theorem fl_ag6 : fldN envS 35 6 = some (6, 1, false) := by kernel_rfl
/-- No agent, or one that New did not make. -/
def AgN (s : St) (v : Value) : Prop := v = .pointer none ∨ ∃ A, v = .pointer (some ⟨A, 0, none⟩) ∧ At s A (0 + 2) (.pointer none) ∧ At s A (0 + 4) (.pointer none) ∧ At s A (0 + 5) (.pointer none) ∧ At s A (0 + 6) (.pointer none)
theorem AgN.same {s s' : St} {v : Value} (h : AgN s v) (hm : s'.mem = s.mem) (hn : s'.next = s.next) : AgN s' v := by
  rcases h with h | ⟨A, e, h2, h4, h5, h6⟩
  · exact .inl h
  · exact .inr ⟨A, e, h2.same hm hn, h4.same hm hn, h5.same hm hn, h6.same hm hn⟩
theorem AgN.ext0 {F : Nat → Prop} {s s' : St} {v : Value} (h : AgN s v) (x : Ext F Non s s') : AgN s' v := by
  rcases h with h | ⟨A, e, h2, h4, h5, h6⟩
  · exact .inl h
  · exact .inr ⟨A, e, h2.ext x fun h => h, h4.ext x fun h => h, h5.ext x fun h => h, h6.ext x fun h => h⟩
theorem AgN.one {s : St} {v : Value} (h : AgN s v) : oneCell v = true := by
  rcases h with rfl | ⟨A, rfl, _⟩ <;> rfl
section
variable {va : Value} {n : Nat} {s : St} {Q : Value → St → Prop}
theorem ag_none_spec (hb : s.lim ≤ s.next) (h : AgN s va) (hn : 40 ≤ n) (q : ∀ s1, Ext Any Non s s1 → Q (.bool true) s1) : W (callW envS (runF envS n) 20 [va]) s Q := by
  refine ag_none_W fun tm h0 => ?_
  refine ag_none_q0.w rfl (by omega) ?_
  simp only [ag_none_r0, W_pure, W_mv, W_setF]
  refine ag_none_q1.w ag_none_S0_1 (by omega) ?_
  rcases h with rfl | ⟨A, rfl, k2, _⟩
  · simp only [ag_none_r1, W_bind, W_oS, W_on, W_pure, W_mv, W_setF, T.get_set, reduceIte, isK_bool, isB_tf, W_chk, W_ifF, W_pick, reduceCtorEq, ↓reduceIte, h0, ep_ag]
    exact W.end' (rs := [2]) (vs := [.bool true]) ag_none_S1_2 (.inl ag_none_E2) (by omega) ag_none_fn ag_none_res rfl (by simp [T.get_set]) (q _ (Ext.refl (s.cxN cxN)).cx')
  · simp only [ag_none_r1, W_bind, W_oS, W_on, W_pure, W_mv, W_setF, T.get_set, reduceIte, isK_bool, isB_ff, W_chk, W_ifT, W_pick, W_nil, reduceCtorEq, ↓reduceIte, h0, W_eqNilP p_ag, W_fld fl_ag2 (by decide)]
    refine W.load1 ty_jn_1 (k2.same rfl rfl) ?_
    simp only [ep_jn]
    exact W.end' (rs := [2]) (vs := [.bool true]) ag_none_S1_2 (.inl ag_none_E2) (by omega) ag_none_fn ag_none_res rfl (by simp [T.get_set]) (q _ ((Ext.refl (s.cxN cxN)).thenRd hb _).cx')
theorem ag_Busy_spec (hb : s.lim ≤ s.next) (h : AgN s va) (hn : 40 ≤ n) (q : ∀ s1, Ext Any Non s s1 → Q (.bool false) s1) : W (callW envS (runF envS n) 12 [va]) s Q := by
  refine ag_Busy_W fun tm h0 => ?_
  refine ag_Busy_q0.w rfl (by omega) ?_
  simp only [ag_Busy_r0, W_pure, W_mv, W_setF]
  refine ag_Busy_q1.w ag_Busy_S0_1 (by omega) ?_
  rcases h with rfl | ⟨A, rfl, _, _, k5, _⟩
  · simp only [ag_Busy_r1, W_bind, W_oS, W_on, W_pure, W_mv, W_setF, T.get_set, reduceIte, isK_bool, isB_ft, W_chk, W_ifF, W_pick, reduceCtorEq, ↓reduceIte, h0, np_ag]
    exact W.end' (rs := [2]) (vs := [.bool false]) ag_Busy_S1_2 (.inl ag_Busy_E2) (by omega) ag_Busy_fn ag_Busy_res rfl (by simp [T.get_set]) (q _ (Ext.refl (s.cxN cxN)).cx')
  · simp only [ag_Busy_r1, W_bind, W_oS, W_on, W_pure, W_mv, W_setF, T.get_set, reduceIte, isK_bool, isB_tt, W_chk, W_ifT, W_pick, W_nil, reduceCtorEq, ↓reduceIte, h0, W_neSN p_ag, W_fld fl_ag5 (by decide)]
    refine W.load1 ty_cm_1 (k5.same rfl rfl) ?_
    simp only [np_cm]
    exact W.end' (rs := [2]) (vs := [.bool false]) ag_Busy_S1_2 (.inl ag_Busy_E2) (by omega) ag_Busy_fn ag_Busy_res rfl (by simp [T.get_set]) (q _ ((Ext.refl (s.cxN cxN)).thenRd hb _).cx')
theorem ag_State_spec (hb : s.lim ≤ s.next) (h : AgN s va) (hn : 40 ≤ n) (q : ∀ s1, Ext Any Non s s1 → Q (.int .i64 0) s1) : W (callW envS (runF envS n) 13 [va]) s Q := by
  refine ag_State_W fun tm h0 => ?_
  refine ag_State_q0.w rfl (by omega) ?_
  simp only [ag_State_r0, W_pure, W_mv, W_setF]
  refine ag_State_q1.w ag_State_S0_1 (by omega) ?_
  rcases h with rfl | ⟨A, rfl, _, k4, _, _⟩
  · simp only [ag_State_r1, W_bind, W_oS, W_on, W_pure, W_mv, W_setF, T.get_set, reduceIte, isK_bool, isB_tf, W_chk, W_ifF, W_pick, reduceCtorEq, ↓reduceIte, h0, ep_ag]
    refine W.cond (v := true) ag_State_S1_2 ag_State_C2 (by simp [T.get_set]) (by omega) (fun _ => ?_) fun h => by cases h
    refine ag_State_q3.w ag_State_S2_3 (by omega) ?_
    simp only [ag_State_r3, W_pure, W_mv, W_setF]
    exact W.end' (rs := [2]) (vs := [.int .i64 0]) ag_State_S3_5 (.inl ag_State_E5) (by omega) ag_State_fn ag_State_res rfl (by simp [T.get_set]) (q _ (Ext.refl (s.cxN cxN)).cx')
  · simp only [ag_State_r1, W_bind, W_oS, W_on, W_pure, W_mv, W_setF, T.get_set, reduceIte, isK_bool, isB_ff, W_chk, W_ifT, W_pick, W_nil, reduceCtorEq, ↓reduceIte, h0, W_eqNilP p_ag, W_fld fl_ag4 (by decide)]
    refine W.load1 ty_lk_1 (k4.same rfl rfl) ?_
    simp only [ep_lk]
    refine W.cond (v := true) ag_State_S1_2 ag_State_C2 (by simp [T.get_set]) (by omega) (fun _ => ?_) fun h => by cases h
    refine ag_State_q3.w ag_State_S2_3 (by omega) ?_
    simp only [ag_State_r3, W_pure, W_mv, W_setF]
    exact W.end' (rs := [2]) (vs := [.int .i64 0]) ag_State_S3_5 (.inl ag_State_E5) (by omega) ag_State_fn ag_State_res rfl (by simp [T.get_set]) (q _ ((Ext.refl (s.cxN cxN)).thenRd hb _).cx')
theorem ag_Session_spec (hb : s.lim ≤ s.next) (h : AgN s va) (hn : 40 ≤ n) (q : ∀ s1, Ext Any Non s s1 → Q (.int .i64 0) s1) : W (callW envS (runF envS n) 14 [va]) s Q := by
  refine ag_Session_W fun tm h0 => ?_
  refine ag_Session_q0.w rfl (by omega) ?_
  simp only [ag_Session_r0, W_pure, W_mv, W_setF]
  refine ag_Session_q1.w ag_Session_S0_1 (by omega) ?_
  rcases h with rfl | ⟨A, rfl, _, k4, _, _⟩
  · simp only [ag_Session_r1, W_bind, W_oS, W_on, W_pure, W_mv, W_setF, T.get_set, reduceIte, isK_bool, isB_tf, W_chk, W_ifF, W_pick, reduceCtorEq, ↓reduceIte, h0, ep_ag]
    refine W.cond (v := true) ag_Session_S1_2 ag_Session_C2 (by simp [T.get_set]) (by omega) (fun _ => ?_) fun h => by cases h
    refine ag_Session_q3.w ag_Session_S2_3 (by omega) ?_
    simp only [ag_Session_r3, W_pure, W_mv, W_setF]
    exact W.end' (rs := [2]) (vs := [.int .i64 0]) ag_Session_S3_5 (.inl ag_Session_E5) (by omega) ag_Session_fn ag_Session_res rfl (by simp [T.get_set]) (q _ (Ext.refl (s.cxN cxN)).cx')
  · simp only [ag_Session_r1, W_bind, W_oS, W_on, W_pure, W_mv, W_setF, T.get_set, reduceIte, isK_bool, isB_ff, W_chk, W_ifT, W_pick, W_nil, reduceCtorEq, ↓reduceIte, h0, W_eqNilP p_ag, W_fld fl_ag4 (by decide)]
    refine W.load1 ty_lk_1 (k4.same rfl rfl) ?_
    simp only [ep_lk]
    refine W.cond (v := true) ag_Session_S1_2 ag_Session_C2 (by simp [T.get_set]) (by omega) (fun _ => ?_) fun h => by cases h
    refine ag_Session_q3.w ag_Session_S2_3 (by omega) ?_
    simp only [ag_Session_r3, W_pure, W_mv, W_setF]
    exact W.end' (rs := [2]) (vs := [.int .i64 0]) ag_Session_S3_5 (.inl ag_Session_E5) (by omega) ag_Session_fn ag_Session_res rfl (by simp [T.get_set]) (q _ ((Ext.refl (s.cxN cxN)).thenRd hb _).cx')
theorem ag_Last_spec (hb : s.lim ≤ s.next) (h : AgN s va) (hn : 90 ≤ n) (q : ∀ s1, Ext Any Non s s1 → Q (.tuple #[.int .i64 0, .int .i64 0]) s1) : W (callW envS (runF envS n) 8 [va]) s Q := by
  refine ag_Last_W fun tm h0 => ?_
  refine ag_Last_q0.w rfl (by omega) ?_
  simp only [ag_Last_r0, W_pure, W_mv, W_setF]
  refine ag_Last_q1.w ag_Last_S0_1 (by omega) ?_
  simp only [ag_Last_r1, W_bind, W_on, W_pure, W_mv, W_setF, T.get_set, seqO_cons, seqO_nil, onO_some', W_callV, reduceIte, reduceCtorEq, ↓reduceIte, h0]
  refine ag_none_spec (s := s.cxN cxN) hb (h.same rfl rfl) (by omega) fun s1 x1 => ?_
  try simp only [W_bind, W_oS, W_on, W_pure, W_mv, W_setF, W_setT, T.get_set, seqO_cons, seqO_nil, seqP_cons, seqP_nil, onO_some', W_callV, reduceIte, isK_bool, isB_tt, isB_tf, isB_ft, isB_ff, W_chk, W_ifT, W_ifF, W_pick, W_nil, Nat.reduceEqDiff, Nat.reduceEqDiff, reduceCtorEq, ↓reduceIte]
  refine W.cond (v := true) ag_Last_S1_2 ag_Last_C2 (by simp [T.get_set]) (by omega) (fun _ => ?_) fun h => by cases h
  refine ag_Last_q3.w ag_Last_S2_3 (by omega) ?_
  simp only [ag_Last_r3, W_pure, W_mv, W_setF]
  exact W.end' (rs := [2, 3]) (vs := [.int .i64 0, .int .i64 0]) ag_Last_S3_5 (.inl ag_Last_E5) (by omega) ag_Last_fn ag_Last_res x1.cx (by simp [T.get_set]) (q _ x1.cx')
theorem ag_Receive_spec {vb vn : Value} (hb : s.lim ≤ s.next) (h : AgN s va) (hn : 90 ≤ n) (q : ∀ s1, Ext Any Non s s1 → Q (.int .i64 1) s1) : W (callW envS (runF envS n) 10 [va, vb, vn]) s Q := by
  refine ag_Receive_W fun tm h0 _ _ => ?_
  refine ag_Receive_q0.w rfl (by omega) ?_
  simp only [ag_Receive_r0, W_pure, W_mv, W_setF]
  refine ag_Receive_q1.w ag_Receive_S0_1 (by omega) ?_
  simp only [ag_Receive_r1, W_bind, W_on, W_pure, W_mv, W_setF, T.get_set, seqO_cons, seqO_nil, onO_some', W_callV, reduceIte, reduceCtorEq, ↓reduceIte, h0]
  refine ag_none_spec (s := s.cxN cxN) hb (h.same rfl rfl) (by omega) fun s1 x1 => ?_
  try simp only [W_bind, W_oS, W_on, W_pure, W_mv, W_setF, W_setT, T.get_set, seqO_cons, seqO_nil, seqP_cons, seqP_nil, onO_some', W_callV, reduceIte, isK_bool, isB_tt, isB_tf, isB_ft, isB_ff, W_chk, W_ifT, W_ifF, W_pick, W_nil, Nat.reduceEqDiff, Nat.reduceEqDiff, reduceCtorEq, ↓reduceIte]
  refine W.cond (v := true) ag_Receive_S1_2 ag_Receive_C2 (by simp [T.get_set]) (by omega) (fun _ => ?_) fun h => by cases h
  refine ag_Receive_q3.w ag_Receive_S2_3 (by omega) ?_
  simp only [ag_Receive_r3, W_pure, W_mv, W_setF]
  exact W.end' (rs := [6]) (vs := [.int .i64 1]) ag_Receive_S3_5 (.inl ag_Receive_E5) (by omega) ag_Receive_fn ag_Receive_res x1.cx (by simp [T.get_set]) (q _ x1.cx')
theorem ag_Tick_spec {vn : Value} (hb : s.lim ≤ s.next) (h : AgN s va) (hn : 90 ≤ n) (q : ∀ s1, Ext Any Non s s1 → Q (.slice none 0 0) s1) : W (callW envS (runF envS n) 11 [va, vn]) s Q := by
  refine ag_Tick_W fun tm h0 _ => ?_
  refine ag_Tick_q0.w rfl (by omega) ?_
  simp only [ag_Tick_r0, W_pure, W_mv, W_setF]
  refine ag_Tick_q1.w ag_Tick_S0_1 (by omega) ?_
  simp only [ag_Tick_r1, W_bind, W_on, W_pure, W_mv, W_setF, T.get_set, seqO_cons, seqO_nil, onO_some', W_callV, reduceIte, Nat.reduceEqDiff, Nat.reduceEqDiff, reduceCtorEq, ↓reduceIte, h0]
  refine ag_none_spec (s := s.cxN cxN) hb (h.same rfl rfl) (by omega) fun s1 x1 => ?_
  try simp only [W_pure, reduceIte, isK_bool, isB_tf, W_chk, W_ifF, W_pick, ↓reduceIte]
  refine W.cond (v := true) ag_Tick_S1_2 ag_Tick_C2 (by simp [T.get_set]) (by omega) (fun _ => ?_) fun h => by cases h
  refine ag_Tick_q3.w ag_Tick_S2_3 (by omega) ?_
  simp only [ag_Tick_r3, W_pure, W_mv, W_setF]
  exact W.end' (rs := [4]) (vs := [.slice none 0 0]) ag_Tick_S3_5 (.inl ag_Tick_E5) (by omega) ag_Tick_fn ag_Tick_res x1.cx (by simp [T.get_set]) (q _ x1.cx')
theorem ag_New_spec {a b : Value} (hn : 90 ≤ n) (q : ∀ s1, Ext Any Non s s1 → Q (.tuple #[.pointer none, .int .i64 1]) s1) : W (callW envS (runF envS n) 15 [.pointer none, a, b]) s Q := by
  refine ag_New_W fun tm h0 _ _ => ?_
  refine ag_New_q0.w rfl (by omega) ?_
  simp only [ag_New_r0, W_pure, W_mv, W_setF]
  refine ag_New_q1.w ag_New_S0_1 (by omega) ?_
  simp only [ag_New_r1, W_bind, W_oS, W_pure, W_mv, W_setF, T.get_set, reduceIte, reduceCtorEq, ↓reduceIte, h0, ep_dk]
  refine W.cond (v := true) ag_New_S1_2 ag_New_C2 (by simp [T.get_set]) (by omega) (fun _ => ?_) fun h => by cases h
  refine ag_New_q3.w ag_New_S2_3 (by omega) ?_
  simp only [ag_New_r3, W_pure, W_mv, W_setF]
  exact W.end' (rs := [6, 7]) (vs := [.pointer none, .int .i64 1]) ag_New_S3_5 (.inl ag_New_E5) (by omega) ag_New_fn ag_New_res rfl (by simp [T.get_set]) (q _ (Ext.refl (s.cxN cxN)).cx')
theorem ag_Start_spec {vx : Value} (hb : s.lim ≤ s.next) (h : AgN s va) (hn : 90 ≤ n) (q : ∀ s1, Ext Any Non s s1 → Q (.int .i64 1) s1) : W (callW envS (runF envS n) 9 [va, vx]) s Q := by
  refine ag_Start_W fun tm h0 h1 => ?_
  refine ag_Start_q0.w rfl (by omega) ?_
  simp only [ag_Start_r0, W_bind, W_oS, W_pure, W_mv, W_setF, T.get_set, reduceIte, Nat.reduceEqDiff, Nat.reduceEqDiff, ↓reduceIte, h0]
  refine W.box fun sa na xa oa => ?_
  have oa0 : OwnRow sa s.next 0 [va] := by
    have := oa
    rw [cells_one h.one] at this
    exact this
  simp only [W_oS, h1]
  refine W.box fun sb nb xb ob => ?_
  have xab : Ext Any Non (s.cxN cxN) sb := (xa.any hb).then0 xb hb
  have ga : At sb s.next (0 + 0) va := (oa0 0 _ rfl).at'.ext xb fun h => h
  try simp only [W_bind, W_oS, W_on, W_pure, W_mv, W_setF, W_setT, T.get_set, seqO_cons, seqO_nil, seqP_cons, seqP_nil, onO_some', W_callV, reduceIte, isK_bool, isB_tt, isB_tf, isB_ft, isB_ff, W_chk, W_ifT, W_ifF, W_pick, W_nil, Nat.reduceEqDiff, Nat.reduceEqDiff, reduceCtorEq, ↓reduceIte]
  refine ag_Start_q1.w ag_Start_S0_1 (by omega) ?_
  simp only [ag_Start_r1, W_bind, W_oS, W_on, W_pure, W_mv, W_setF, T.get_set, seqO_cons, seqO_nil, onO_some', W_callV, reduceIte, Nat.reduceEqDiff, Nat.reduceEqDiff, ↓reduceIte]
  refine W.load1 ty_ag_1 ga ?_
  have xc := xab.thenRd hb (s.next + (0 + 0))
  try simp only [W_bind, W_oS, W_on, W_pure, W_mv, W_setF, W_setT, T.get_set, seqO_cons, seqO_nil, seqP_cons, seqP_nil, onO_some', W_callV, reduceIte, isK_bool, isB_tt, isB_tf, isB_ft, isB_ff, W_chk, W_ifT, W_ifF, W_pick, W_nil, Nat.reduceEqDiff, Nat.reduceEqDiff, reduceCtorEq, ↓reduceIte]
  refine ag_none_spec (xc.bnd hb) ((h.same (s' := s.cxN cxN) rfl rfl).ext0 xc) (by omega) fun s1 x1 => ?_
  have x2 := xc.then0 x1 hb
  try simp only [W_bind, W_oS, W_on, W_pure, W_mv, W_setF, W_setT, T.get_set, seqO_cons, seqO_nil, seqP_cons, seqP_nil, onO_some', W_callV, reduceIte, isK_bool, isB_tt, isB_tf, isB_ft, isB_ff, W_chk, W_ifT, W_ifF, W_pick, W_nil, Nat.reduceEqDiff, Nat.reduceEqDiff, reduceCtorEq, ↓reduceIte]
  refine W.cond (v := true) ag_Start_S1_2 ag_Start_C2 (by simp [T.get_set]) (by omega) (fun _ => ?_) fun h => by cases h
  refine ag_Start_q3.w ag_Start_S2_3 (by omega) ?_
  simp only [ag_Start_r3, W_pure, W_mv, W_setF]
  exact W.end' (rs := [4]) (vs := [.int .i64 1]) ag_Start_S3_5 (.inl ag_Start_E5) (by omega) ag_Start_fn ag_Start_res x2.cx (by simp [T.get_set]) (q _ x2.cx')
end
end Go.Proofs.YtieohifdhplgbaaGreatDoor.Am
/- satchelkit.BigTree answers something; (*agent.Agent).Told of no agent. -/
namespace Go.Proofs.YtieohifdhplgbaaGreatDoor.Am
open Go.RowKit

theorem an_str : isStrT envS 9 = true := by kernel_rfl
theorem an_str_1 : tyS envS 9 = some (1, false) := by kernel_rfl
theorem an_by : slN envS 25 = some 1 := by kernel_rfl
theorem an_by_1 : tyS envS 25 = some (1, false) := by kernel_rfl
theorem an_en : slN envS 22 = some 5 := by kernel_rfl
theorem an_en_1 : tyS envS 22 = some (1, false) := by kernel_rfl
theorem fl_en0 : fldN envS 62 0 = some (0, 1, false) := by kernel_rfl
theorem fl_en3 : fldN envS 62 3 = some (3, 1, false) := by kernel_rfl
theorem fl_en4 : fldN envS 62 4 = some (4, 1, false) := by kernel_rfl
/-- An entry lies there. -/
def EnAt (s : St) (b o : Nat) : Prop := ∃ (x y : ByteArray) (p : Option Addr) (n c : Nat), At s b (o + 0) (.string x) ∧ At s b (o + 3) (.slice p n c) ∧ At s b (o + 4) (.string y)
/-- A slice of so many entries. -/
def EnR (s : St) (v : Value) (k : Nat) : Prop := (v = .slice none 0 0 ∧ k = 0) ∨ ∃ b o c, v = .slice (some ⟨b, o, none⟩) k c ∧ ∀ i, i < k → EnAt s b (o + i * 5)
theorem EnR.same {s s' : St} {v : Value} {k : Nat} (h : EnR s v k) (hm : s'.mem = s.mem) (hn : s'.next = s.next) : EnR s' v k := by
  rcases h with h | ⟨b, o, c, e, h⟩
  · exact .inl h
  · refine .inr ⟨b, o, c, e, fun i hi => ?_⟩
    obtain ⟨x, y, p, n, c, h1, h2, h3⟩ := h i hi
    exact ⟨x, y, p, n, c, h1.same hm hn, h2.same hm hn, h3.same hm hn⟩
theorem EnR.ext0 {F : Nat → Prop} {s s' : St} {v : Value} {k : Nat} (h : EnR s v k) (x : Ext F Non s s') : EnR s' v k := by
  rcases h with h | ⟨b, o, c, e, h⟩
  · exact .inl h
  · refine .inr ⟨b, o, c, e, fun i hi => ?_⟩
    obtain ⟨x1, y, p, n, c, h1, h2, h3⟩ := h i hi
    exact ⟨x1, y, p, n, c, h1.ext x fun h => h, h2.ext x fun h => h, h3.ext x fun h => h⟩
theorem EnR.len {s s' : St} {v : Value} {k : Nat} (h : EnR s v k) (Q : Value → St → Prop) : W (aBuiltin envS .len [22] [v]) s' Q = Q (.int .i64 (k : Nat)) s' := by
  rcases h with ⟨rfl, rfl⟩ | ⟨b, o, c, rfl, _⟩
  · exact W_lenSl an_en Q
  · exact W_lenSl an_en Q
section
variable {vl : Value} {len : Nat} {Q : Value × FrameMode → St → Prop} {s0 : St}
theorem tree_loop (hb0 : s0.lim ≤ s0.next) (he : EnR s0 vl len) (hcx : s0.cx = cxN) (q : ∀ b s1, Ext Any Non s0 s1 → Q (.bool b, .run) s1) :
    ∀ (k i n : Nat) (x : Int) (tm : T Value) (s : St) (td : List Item), i + k = 13 → 12 * k + 20 ≤ n → skim 64 td = kit_BigTree_P3 → Ext Any Non s0 s →
    T.get tm 0 = some vl → T.get tm 1 = some (.int .i64 12) → T.get tm 2 = some (.int .i64 4000) → T.get tm 7 = some (.int .i64 x) → T.get tm 8 = some (.int .i64 (i : Nat)) →
    W (runF envS n ⟨5, kit_BigTree_nt, kit_BigTree_g, tm, td, .run, .normal, none⟩) s Q := by
  have tail : ∀ (n' : Nat) (x : Int) (tm : T Value) (s : St) (td : List Item), 10 ≤ n' → skim 64 td = kit_BigTree_P6 → Ext Any Non s0 s → T.get tm 0 = some vl → T.get tm 1 = some (.int .i64 12) → T.get tm 2 = some (.int .i64 4000) → T.get tm 7 = some (.int .i64 x) → W (runF envS n' ⟨5, kit_BigTree_nt, kit_BigTree_g, tm, td, .run, .normal, none⟩) s Q := by
    intro n' x tm s td hn hT hx h0 h1 h2 h7
    refine kit_BigTree_q6.w hT (by omega) ?_
    simp only [kit_BigTree_r6, W_bind, W_oS, W_on, W_pure, W_mv, W_setF, seqO_cons, seqO_nil, onO_some', h0, h1]
    rw [he.len]
    try simp only [isK_bool, W_chk, W_pick, W_gtr64]
    cases e1 : decide ((12 : Int) < ((len : Nat) : Int)) with
    | true =>
      simp only [W_pure, reduceIte, isB_tf, W_ifF, ↓reduceIte]
      exact W.end' (rs := [6]) (vs := [.bool true]) kit_BigTree_S6_8 (.inl kit_BigTree_E8) (by omega) kit_BigTree_fn kit_BigTree_res (hx.cx.trans hcx) (by simp [T.get_set]) (q _ s hx)
    | false =>
      simp only [W_oS, W_pure, reduceIte, isB_ff, W_ifT, reduceCtorEq, ↓reduceIte, W_gtr64, h2, h7]
      exact W.end' (rs := [6]) (vs := [.bool (decide (4000 < x))]) kit_BigTree_S6_8 (.inl kit_BigTree_E8) (by omega) kit_BigTree_fn kit_BigTree_res (hx.cx.trans hcx) (by simp [T.get_set]) (q _ s hx)
  intro k
  induction k with
  | zero =>
    intro i n x tm s td hi hn hT hx h0 h1 h2 h7 h8
    refine kit_BigTree_q3.w hT (by omega) ?_
    simp only [kit_BigTree_r3, W_bind, W_oS, W_on, W_pure, W_mv, W_setF, seqO_cons, seqO_nil, onO_some', h0, h8]
    rw [he.len]
    try simp only [isK_bool, W_chk, W_pick, W_lss64]
    cases e1 : decide (((i : Nat) : Int) < ((len : Nat) : Int)) with
    | true =>
      have e2 : decide (((i : Nat) : Int) ≤ 12) = false := decide_eq_false (by omega)
      simp only [W_oS, W_pure, reduceIte, isB_tt, W_ifT, ↓reduceIte, W_leq64, h1, e2]
      refine W.cond (v := false) kit_BigTree_S3_4 kit_BigTree_C4 (by simp [T.get_set]) (by omega) (fun h => by cases h) fun _ => ?_
      exact tail _ x _ s _ (by omega) kit_BigTree_S4_6 hx (by simp [T.get_set, h0]) (by simp [T.get_set, h1]) (by simp [T.get_set, h2]) (by simp [T.get_set, h7])
    | false =>
      simp only [W_pure, reduceIte, isB_ft, W_ifF, reduceCtorEq, ↓reduceIte]
      refine W.cond (v := false) kit_BigTree_S3_4 kit_BigTree_C4 (by simp [T.get_set]) (by omega) (fun h => by cases h) fun _ => ?_
      exact tail _ x _ s _ (by omega) kit_BigTree_S4_6 hx (by simp [T.get_set, h0]) (by simp [T.get_set, h1]) (by simp [T.get_set, h2]) (by simp [T.get_set, h7])
  | succ k ih =>
    intro i n x tm s td hi hn hT hx h0 h1 h2 h7 h8
    refine kit_BigTree_q3.w hT (by omega) ?_
    simp only [kit_BigTree_r3, W_bind, W_oS, W_on, W_pure, W_mv, W_setF, seqO_cons, seqO_nil, onO_some', h0, h8]
    rw [he.len]
    try simp only [isK_bool, W_chk, W_pick, W_lss64]
    cases e1 : decide (((i : Nat) : Int) < ((len : Nat) : Int)) with
    | false =>
      simp only [W_pure, reduceIte, isB_ft, W_ifF, reduceCtorEq, ↓reduceIte]
      refine W.cond (v := false) kit_BigTree_S3_4 kit_BigTree_C4 (by simp [T.get_set]) (by omega) (fun h => by cases h) fun _ => ?_
      exact tail _ x _ s _ (by omega) kit_BigTree_S4_6 hx (by simp [T.get_set, h0]) (by simp [T.get_set, h1]) (by simp [T.get_set, h2]) (by simp [T.get_set, h7])
    | true =>
      have hil : i < len := by
        have := of_decide_eq_true e1
        omega
      have e2 : decide (((i : Nat) : Int) ≤ 12) = true := decide_eq_true (by omega)
      simp only [W_oS, W_pure, reduceIte, isB_tt, W_ifT, ↓reduceIte, W_leq64, h1, e2]
      refine W.cond (v := true) kit_BigTree_S3_4 kit_BigTree_C4 (by simp [T.get_set]) (by omega) (fun _ => ?_) fun h => by cases h
      obtain ⟨b, o, c, ev, ge⟩ : ∃ b o c, vl = .slice (some ⟨b, o, none⟩) len c ∧ EnAt s b (o + i * 5) := by
        rcases he.ext0 hx with ⟨_, rfl⟩ | ⟨b, o, c, e, h⟩
        · omega
        · exact ⟨b, o, c, e, h i hil⟩
      obtain ⟨x1, x2, p, m, c', g0, g3, g4⟩ := ge
      refine kit_BigTree_q5.w kit_BigTree_S4_5 (by omega) ?_
      simp only [kit_BigTree_d5, T.get_set, reduceIte, Nat.reduceEqDiff, h0, ev, h7, h8, oS_some, seqO_cons, seqO_nil, onO_some', W_dpure]
      rw [W_dq fun s Q => W_idxSl (s := s) an_en hil Q]
      rw [W_dq fun s Q => W_fld (s := s) fl_en0 (by decide) Q]
      refine W.dload an_str_1 (g0.same rfl rfl) fun rd1 hr1 => ?_
      rw [W_dq fun s Q => W_lenS (s := s) an_str _ Q]
      dsimp only
      rw [W_dq fun s Q => W_add64 (s := s) _ _]
      simp only [W_dpure]
      rw [W_dq fun s Q => W_idxSl (s := s) an_en hil Q]
      rw [W_dq fun s Q => W_fld (s := s) fl_en3 (by decide) Q]
      refine W.dload an_by_1 (g3.same rfl rfl) fun rd2 hr2 => ?_
      rw [W_dq fun s Q => W_lenSl (s := s) an_by Q]
      dsimp only
      rw [W_dq fun s Q => W_add64 (s := s) _ _]
      simp only [W_dpure]
      rw [W_dq fun s Q => W_idxSl (s := s) an_en hil Q]
      rw [W_dq fun s Q => W_fld (s := s) fl_en4 (by decide) Q]
      refine W.dload an_str_1 (g4.same rfl rfl) fun rd3 hr3 => ?_
      rw [W_dq fun s Q => W_lenS (s := s) an_str _ Q]
      dsimp only
      rw [W_dq fun s Q => W_add64 (s := s) _ _, W_pure]
      refine ⟨apartM_q (by simp) (by simp), ?_⟩
      refine W.cast (kit_BigTree_L5 _ _ _ _ _ _ _ _ _ _ _ _ _ _ _ _ _ _ _ _ _ _ _ _ _ _ _) ?_
      simp only [W_bind, W_oS, W_pure, W_setT]
      refine kit_BigTree_q7.w kit_BigTree_S5_7 (by omega) ?_
      have ei : wrap64 ((i : Nat) + 1 : Int) = ((i + 1 : Nat) : Int) := by
        rw [wrap64_id (by omega) (by omega)]; simp
      simp only [kit_BigTree_r7, W_bind, W_oS, W_pure, W_mv, W_setF, T.get_set, reduceIte, Nat.reduceEqDiff, Nat.reduceEqDiff, ↓reduceIte, W_add64, h8, ei]
      exact ih (i + 1) _ _ _ _ _ (by omega) (by omega) kit_BigTree_S7_3 (hx.then0 (Ext.draw (F := Any) (Nat.le_refl _) (fun _ _ => rfl) (by simp) fun _ _ _ _ _ => trivial) hb0) (by simp [T.get_set, h0, ev]) (by simp [T.get_set, h1]) (by simp [T.get_set, h2]) (by simp [T.get_set]; rfl) (by simp [T.get_set])
end
theorem kit_BigTree_spec {n len : Nat} {vl : Value} {s : St} {Q : Value → St → Prop} (hb : s.lim ≤ s.next) (he : EnR s vl len) (hn : 300 ≤ n) (q : ∀ b s1, Ext Any Non s s1 → Q (.bool b) s1) : W (callW envS (runF envS n) 5 [vl, .int .i64 12, .int .i64 4000]) s Q := by
  refine kit_BigTree_W fun tm h0 h1 h2 => ?_
  refine kit_BigTree_q0.w rfl (by omega) ?_
  simp only [kit_BigTree_r0, W_pure, W_mv, W_setF]
  refine kit_BigTree_q1.w kit_BigTree_S0_1 (by omega) ?_
  simp only [kit_BigTree_r1, W_pure, W_mv, W_setF]
  refine kit_BigTree_q2.w kit_BigTree_S1_2 (by omega) ?_
  simp only [kit_BigTree_r2, W_pure, W_mv, W_setF]
  exact tree_loop (s0 := s.cxN cxN) hb (he.same rfl rfl) rfl (fun b s1 x1 => q b _ x1.cx') 13 0 _ 0 _ _ _ (by omega) (by omega) kit_BigTree_S2_3 (Ext.refl _) (by simp [T.get_set, h0]) (by simp [T.get_set, h1]) (by simp [T.get_set, h2]) (by simp [T.get_set]) (by simp [T.get_set])
/-! ### Told -/
def zTold : List Value := [.int .i64 0, .int .i64 0, .slice none 0 0, .slice none 0 0]
theorem told_z : zeroL envS 40 = some zTold := by kernel_rfl
theorem told_b : buildN envS 40 [] = some zTold := by kernel_rfl
theorem told_4 : tyS envS 40 = some (4, true) := by kernel_rfl
theorem ag_Told_spec {n : Nat} {va : Value} {s : St} {Q : Value → St → Prop} (hb : s.lim ≤ s.next) (h : AgN s va) (hn : 90 ≤ n) (q : ∀ s1, Ext Any Non s s1 → Q (.tuple #[.agg zTold.toArray, .bool false]) s1) : W (callW envS (runF envS n) 7 [va]) s Q := by
  refine ag_Told_W fun tm h0 => ?_
  refine ag_Told_q0.w rfl (by omega) ?_
  simp only [ag_Told_r0, W_bind, W_pure, W_mv, W_setF]
  refine W.alloc told_z fun sa na xa oa => ?_
  have na' : sa.next = s.next + 5 := na
  have xa' : Ext Any Non (s.cxN cxN) sa := xa.any hb
  have hba := xa'.bnd (s := s.cxN cxN) hb
  have oa' : OwnRow sa s.next 0 zTold := oa
  have ha := (h.same (s' := s.cxN cxN) rfl rfl).ext0 xa'
  have rest : ∀ (n' : Nat) (tm' : T Value) (sb : St) (td : List Item), 40 ≤ n' → skim 64 td = ag_Told_P3 → Ext Any Non (s.cxN cxN) sb → OwnRow sb s.next 0 zTold → T.get tm' 2 = some (.pointer (some ⟨s.next, 0, none⟩)) →
      W (runF envS n' ⟨7, ag_Told_nt, ag_Told_g, tm', td, .run, .normal, none⟩) sb fun p s1 => Q p.1 (s1.cxN s.cx) := by
    intro n' tm' sb td hn' hT' xb ob h2
    refine ag_Told_q3.w hT' (by omega) ?_
    simp only [ag_Told_r3, W_bind, W_oS, W_pure, W_mv, W_setF, seqP_nil, W_build told_b, h2]
    refine W.store told_4 rfl rfl (fun i hi => ⟨_, ob i (zTold[i]'hi) (List.getElem?_eq_getElem hi)⟩) fun sc nc xc oc => ?_
    have xc' : Ext Any Non (s.cxN cxN) sc := xb.trans xc hb (fun _ _ _ => trivial) fun y hy hq => by
      have h1 := hq.1
      have h2 : y < s.next := hy
      omega
    try simp only [W_bind, W_oS, W_on, W_pure, W_mv, W_setF, W_setT, T.get_set, seqO_cons, seqO_nil, seqP_cons, seqP_nil, onO_some', W_callV, reduceIte, isK_bool, isB_tt, isB_tf, isB_ft, isB_ff, W_chk, W_ifT, W_ifF, W_pick, W_nil, Nat.reduceEqDiff, Nat.reduceEqDiff, reduceCtorEq, ↓reduceIte]
    refine W.endG ag_Told_S3_5 (.inl ag_Told_E5) (by omega) ag_Told_fn ag_Told_res xc'.cx (W.resCell (a := ⟨s.next, 0, none⟩) (by simp [T.get_set, h2]) ?_)
    refine W.loadA told_4 (l := zTold) oc.row rfl fun sd md nd xd => ?_
    have xd' := xc'.then0 xd hb
    exact W.resTmp (v := .bool false) (by simp [T.get_set]) (W.resNil (q _ xd'.cx'))
  refine ag_Told_q1.w ag_Told_S0_1 (by omega) ?_
  rcases ha with rfl | ⟨A, rfl, _, _, _, k6⟩
  · simp only [ag_Told_r1, W_bind, W_oS, W_on, W_pure, W_mv, W_setF, T.get_set, reduceIte, isK_bool, isB_tf, W_chk, W_ifF, W_pick, reduceCtorEq, ↓reduceIte, h0, ep_ag]
    refine W.cond (v := true) ag_Told_S1_2 ag_Told_C2 (by simp [T.get_set]) (by omega) (fun _ => ?_) fun h => by cases h
    exact rest _ _ sa _ (by omega) ag_Told_S2_3 xa' oa' (by simp [T.get_set]; rfl)
  · simp only [ag_Told_r1, W_bind, W_oS, W_on, W_pure, W_mv, W_setF, T.get_set, reduceIte, isK_bool, isB_ff, W_chk, W_ifT, W_pick, W_nil, reduceCtorEq, ↓reduceIte, h0, W_eqNilP p_ag, W_fld fl_ag6 (by decide)]
    refine W.load1 ty_td_1 k6 ?_
    simp only [ep_td]
    refine W.cond (v := true) ag_Told_S1_2 ag_Told_C2 (by simp [T.get_set]) (by omega) (fun _ => ?_) fun h => by cases h
    exact rest _ _ _ _ (by omega) ag_Told_S2_3 (xa'.thenRd hb _) (fun i v e => (oa' i v e).same rfl rfl) (by simp [T.get_set]; rfl)
end Go.Proofs.YtieohifdhplgbaaGreatDoor.Am
/- satchellaw29.AgentNone: what is asked of one agent in a round. -/
namespace Go.Proofs.YtieohifdhplgbaaGreatDoor.Am
open Go.RowKit

theorem ask_4 : tyS envS 24 = some (4, true) := by kernel_rfl
theorem fl_ask3 : fldN envS 24 3 = some (3, 1, false) := by kernel_rfl
theorem fl_td0 : fldN envS 40 0 = some (0, 1, false) := by kernel_rfl
theorem fl_td1 : fldN envS 40 1 = some (1, 1, false) := by kernel_rfl
theorem fl_td2 : fldN envS 40 2 = some (2, 1, false) := by kernel_rfl
theorem fl_td3 : fldN envS 40 3 = some (3, 1, false) := by kernel_rfl
theorem an_int_1 : tyS envS 3 = some (1, false) := by kernel_rfl
theorem an_er_1 : tyS envS 37 = some (1, false) := by kernel_rfl
theorem an_is_1 : tyS envS 38 = some (1, false) := by kernel_rfl
theorem an_is : slN envS 38 = some 1 := by kernel_rfl
theorem an_bb : slN envS 47 = some 1 := by kernel_rfl
theorem none_ask {n O D : Nat} {us : List Value} {va vb vn : Value} {tm : T Value} {s : St} {td : List Item} {Q : Value × FrameMode → St → Prop} (hb : s.lim ≤ s.next) (ha : AgN s va) (hu : us.length = 4) (hO : Row s O 0 us) (hD : Row s D 0 zTold)
    (h1 : T.get tm 1 = some vb) (h2 : T.get tm 2 = some vn) (h3 : T.get tm 3 = some (.pointer (some ⟨O, 0, none⟩))) (h11 : T.get tm 11 = some va) (h12 : T.get tm 12 = some (.pointer (some ⟨D, 0, none⟩))) (h13 : T.get tm 13 = some (.bool false)) (h14 : T.get tm 14 = some (.int .i64 0)) (h15 : T.get tm 15 = some (.int .i64 0)) (hT : skim 64 td = law29_None_P17) (hn : 300 ≤ n)
    (q : ∀ (n1 : Nat) (s1 : St) (tm1 : T Value) (td1 : List Item), n - 1 ≤ n1 → skim 64 td1 = law29_None_P18 → Ext Any Non s s1 → (∀ j, j ≠ 111 → T.get tm1 j = T.get tm j) → T.get tm1 111 = some (.bool false) → W (runF envS n1 ⟨3, law29_None_nt, law29_None_g, tm1, td1, .run, .normal, none⟩) s1 Q) :
    W (runF envS n ⟨3, law29_None_nt, law29_None_g, tm, td, .run, .normal, none⟩) s Q := by
  have e1 : (!decide ((1 : Int) = 1)) = false := rfl
  have e0 : (!decide ((0 : Int) = 0)) = false := rfl
  have eT : (!decide True) = false := rfl
  have e00 : (!decide (((0 : Nat) : Int) = 0)) = false := rfl
  have ew : wrap64 (((0 : Nat) : Int) + ((0 : Nat) : Int)) = 0 := rfl
  refine law29_None_q17.w hT (by omega) ?_
  simp only [law29_None_r17, W_bind, W_oS, W_on, W_pure, W_mv, W_setF, seqO_cons, seqO_nil, onO_some', W_callV, h1, h2, h3, h11, h12, h13, h14, h15]
  refine W.loadA ask_4 hO hu fun sa ma na xa => ?_
  have ya : Ext Any Non s sa := xa.any hb
  try simp only [W_bind, W_oS, W_on, W_pure, W_mv, W_setF, W_setT, T.get_set, seqO_cons, seqO_nil, seqP_cons, seqP_nil, onO_some', W_callV, reduceIte, isK_bool, isB_tt, isB_tf, isB_ft, isB_ff, W_chk, W_ifT, W_ifF, W_pick, W_nil, Nat.reduceEqDiff, Nat.reduceEqDiff, reduceCtorEq, ↓reduceIte]
  refine ag_Start_spec (ya.bnd hb) (ha.ext0 ya) (by omega) fun sb xb => ?_
  have yb := ya.then0 xb hb
  simp only [W_oS, W_on, W_pure, W_callV, reduceIte, isK_bool, isB_ff, W_chk, W_ifT, W_pick, reduceCtorEq, ↓reduceIte, W_neq64, eT]
  refine ag_Receive_spec (yb.bnd hb) (ha.ext0 yb) (by omega) fun sc xc => ?_
  have yc := yb.then0 xc hb
  simp only [W_oS, W_on, W_pure, W_callV, reduceIte, isK_bool, isB_ff, W_chk, W_ifT, W_pick, reduceCtorEq, ↓reduceIte, W_neq64, eT]
  refine ag_Tick_spec (yc.bnd hb) (ha.ext0 yc) (by omega) fun sd xd => ?_
  have yd := yc.then0 xd hb
  simp only [W_oS, W_pure, reduceIte, isK_bool, isB_ff, W_chk, W_ifT, W_pick, reduceCtorEq, ↓reduceIte, W_neq64, e00, W_lenSl an_bb, W_fld fl_td0 (by decide)]
  refine W.load1 an_int_1 ((hD 0 _ rfl).ext yd fun h => h) ?_
  have ye := yd.thenRd hb (D + (0 + 0))
  simp only [W_oS, reduceIte, isK_bool, isB_ff, W_chk, W_ifT, W_pick, reduceCtorEq, ↓reduceIte, W_neq64, eT, W_fld fl_td1 (by decide)]
  refine W.load1 an_er_1 ((hD 1 _ rfl).ext ye fun h => h) ?_
  have yf := ye.thenRd hb (D + (0 + 1))
  simp only [W_oS, reduceIte, isK_bool, isB_ff, W_chk, W_ifT, W_pick, reduceCtorEq, ↓reduceIte, W_neq64, eT, W_fld fl_td2 (by decide)]
  refine W.load1 an_is_1 ((hD 2 _ rfl).ext yf fun h => h) ?_
  have yg := yf.thenRd hb (D + (0 + 2))
  simp only [W_lenSl an_is, W_fld fl_td3 (by decide)]
  refine W.load1 an_en_1 ((hD 3 _ rfl).ext yg fun h => h) ?_
  have yh := yg.thenRd hb (D + (0 + 3))
  simp only [W_oS, W_on, W_pure, W_callV, reduceIte, isK_bool, isB_ff, W_chk, W_ifT, W_pick, reduceCtorEq, ↓reduceIte, W_add64, W_neq64, ew, eT, W_lenSl an_en]
  refine ag_Busy_spec (yh.bnd hb) (ha.ext0 yh) (by omega) fun si xi => ?_
  have yi := yh.then0 xi hb
  simp only [W_oS, W_on, W_pure, W_callV, reduceIte, isK_bool, isB_ff, W_chk, W_ifT, W_pick, reduceCtorEq, ↓reduceIte]
  refine ag_State_spec (yi.bnd hb) (ha.ext0 yi) (by omega) fun sj xj => ?_
  have yj := yi.then0 xj hb
  simp only [W_oS, W_on, W_pure, W_callV, reduceIte, isK_bool, isB_ff, W_chk, W_ifT, W_pick, reduceCtorEq, ↓reduceIte, W_neq64, eT]
  refine ag_Session_spec (yj.bnd hb) (ha.ext0 yj) (by omega) fun sk xk => ?_
  have yk := yj.then0 xk hb
  simp only [W_oS, W_pure, reduceIte, isK_bool, isB_ff, W_chk, W_ifT, W_pick, reduceCtorEq, ↓reduceIte, W_neq64, eT]
  exact q _ _ _ _ (Nat.le_refl _) law29_None_S17_18 yk (fun j hj => by rw [T.get_set, if_neg hj]) (by rw [T.get_set, if_pos rfl])
end Go.Proofs.YtieohifdhplgbaaGreatDoor.Am
/- satchellaw29.AgentNone: a round; the whole. -/
namespace Go.Proofs.YtieohifdhplgbaaGreatDoor.Am
open Go.RowKit

def zAg : List Value := [.int .i64 0, .int .i64 0, .pointer none, .int .i64 0, .pointer none, .pointer none, .pointer none]
theorem ag_b : buildN envS 35 [] = some zAg := by kernel_rfl
theorem an_ags : slN envS 36 = some 1 := by kernel_rfl
theorem an_ags_el : elT envS 36 = some (1, 8, [.pointer none]) := by kernel_rfl
theorem fill_ags (A : Addr) : fillAll (fun k => some (k * 1, 1)) [(0, .pointer none), (1, .pointer (some A))] (rep 2 [.pointer none]) = some [.pointer none, .pointer (some A)] := rfl
theorem orc_awakeN : envS.orc.get 6 = some (closedM (.bool true)) := by kernel_rfl
section
variable {O B : Nat} {us : List Value} {vb vn : Value} {Q : Value × FrameMode → St → Prop} {s0 : St}
/-- A round. -/
theorem none_round {n i : Nat} {va : Value} {tm : T Value} {s : St} {td : List Item} (hb0 : s0.lim ≤ s0.next) (hx : Ext Any Non s0 s) (ha : AgN s0 va) (hu : us.length = 4) (hO : Row s0 O 0 us) (hB : At s0 B (0 + i * 1) va) (hi : i < 2) (hn : 400 ≤ n) (hT : skim 64 td = law29_None_P9)
    (h1 : T.get tm 1 = some vb) (h2 : T.get tm 2 = some vn) (h3 : T.get tm 3 = some (.pointer (some ⟨O, 0, none⟩))) (h8 : T.get tm 8 = some (.pointer none)) (h9 : T.get tm 9 = some (.slice (some ⟨B, 0, none⟩) 2 2)) (h10 : T.get tm 10 = some (.int .i64 (i : Nat)))
    (q : ∀ (n1 : Nat) (s1 : St) (tm1 : T Value) (td1 : List Item), n - 20 ≤ n1 → skim 64 td1 = law29_None_P9 → Ext Any Non s0 s1 → T.get tm1 1 = some vb → T.get tm1 2 = some vn → T.get tm1 3 = some (.pointer (some ⟨O, 0, none⟩)) → T.get tm1 8 = some (.pointer none) → T.get tm1 9 = some (.slice (some ⟨B, 0, none⟩) 2 2) → T.get tm1 10 = some (.int .i64 ((i + 1 : Nat) : Int)) → W (runF envS n1 ⟨3, law29_None_nt, law29_None_g, tm1, td1, .run, .normal, none⟩) s1 Q) :
    W (runF envS n ⟨3, law29_None_nt, law29_None_g, tm, td, .run, .normal, none⟩) s Q := by
  have hb := hx.bnd hb0
  have ei : decide (((i : Nat) : Int) < 2) = true := decide_eq_true (by omega)
  refine law29_None_q9.w hT (by omega) ?_
  simp only [law29_None_r9, W_bind, W_oS, W_pure, W_mv, W_setF, W_lss64, h10, ei]
  refine W.cond (v := true) law29_None_S9_10 law29_None_C10 (by simp [T.get_set]) (by omega) (fun _ => ?_) fun h => by cases h
  refine law29_None_q11.w law29_None_S10_11 (by omega) ?_
  simp only [law29_None_r11, W_bind, W_oS, W_pure, W_mv, W_setF, T.get_set, reduceIte, Nat.reduceEqDiff, Nat.reduceEqDiff, ↓reduceIte, h9, h10, W_idxSl an_ags hi]
  refine W.load1 ty_ag_1 (hB.ext hx fun h => h) ?_
  have y1 := hx.thenRd hb0 (B + (0 + i * 1))
  try simp only [W_bind, W_oS, W_on, W_pure, W_mv, W_setF, W_setT, T.get_set, seqO_cons, seqO_nil, seqP_cons, seqP_nil, onO_some', W_callV, reduceIte, isK_bool, isB_tt, isB_tf, isB_ft, isB_ff, W_chk, W_ifT, W_ifF, W_pick, W_nil, Nat.reduceEqDiff, Nat.reduceEqDiff, reduceCtorEq, ↓reduceIte]
  refine law29_None_q13.w law29_None_S11_13 (by omega) ?_
  simp only [law29_None_r13, W_bind, W_oS, W_on, W_pure, W_mv, W_setF, T.get_set, seqO_cons, seqO_nil, onO_some', W_callV, reduceIte, ↓reduceIte]
  refine ag_Told_spec (y1.bnd hb0) (ha.ext0 y1) (by omega) fun s2 x2 => ?_
  have y2 := y1.then0 x2 hb0
  rw [W_ext (k := 0) rfl, W_ext (k := 1) rfl]
  try simp only [W_bind, W_oS, W_on, W_pure, W_mv, W_setF, W_setT, T.get_set, seqO_cons, seqO_nil, seqP_cons, seqP_nil, onO_some', W_callV, reduceIte, isK_bool, isB_tt, isB_tf, isB_ft, isB_ff, W_chk, W_ifT, W_ifF, W_pick, W_nil, Nat.reduceEqDiff, Nat.reduceEqDiff, reduceCtorEq, ↓reduceIte]
  have hb2 := y2.bnd hb0
  refine W.alloc told_z fun s3 n3 x3 o3 => ?_
  have o3' : OwnRow s3 s2.next 0 zTold := o3
  have y3 := y2.then0 x3 hb0
  try simp only [W_bind, W_oS, W_on, W_pure, W_mv, W_setF, W_setT, T.get_set, seqO_cons, seqO_nil, seqP_cons, seqP_nil, onO_some', W_callV, reduceIte, isK_bool, isB_tt, isB_tf, isB_ft, isB_ff, W_chk, W_ifT, W_ifF, W_pick, W_nil, Nat.reduceEqDiff, Nat.reduceEqDiff, reduceCtorEq, ↓reduceIte]
  refine W.store told_4 rfl rfl (fun j hj => ⟨_, o3' j (zTold[j]'hj) (List.getElem?_eq_getElem hj)⟩) fun s4 n4 x4 o4 => ?_
  have y4 : Ext Any Non s0 s4 := y3.trans x4 hb0 (fun _ _ _ => trivial) fun y hy hq => by
    have h1 := hq.1
    have h2 : y < s0.next := hy
    have h3 := y2.nxt
    omega
  try simp only [W_bind, W_oS, W_on, W_pure, W_mv, W_setF, W_setT, T.get_set, seqO_cons, seqO_nil, seqP_cons, seqP_nil, onO_some', W_callV, reduceIte, isK_bool, isB_tt, isB_tf, isB_ft, isB_ff, W_chk, W_ifT, W_ifF, W_pick, W_nil, Nat.reduceEqDiff, Nat.reduceEqDiff, reduceCtorEq, ↓reduceIte]
  refine law29_None_q15.w law29_None_S13_15 (by omega) ?_
  simp only [law29_None_r15, W_bind, W_oS, W_on, W_pure, W_mv, W_setF, T.get_set, seqO_cons, seqO_nil, onO_some', W_callV, reduceIte, Nat.reduceEqDiff, Nat.reduceEqDiff, ↓reduceIte]
  refine ag_Last_spec (y4.bnd hb0) (ha.ext0 y4) (by omega) fun s5 x5 => ?_
  have y5 := y4.then0 x5 hb0
  rw [W_ext (k := 0) rfl, W_ext (k := 1) rfl]
  try simp only [W_bind, W_oS, W_on, W_pure, W_mv, W_setF, W_setT, T.get_set, seqO_cons, seqO_nil, seqP_cons, seqP_nil, onO_some', W_callV, reduceIte, isK_bool, isB_tt, isB_tf, isB_ft, isB_ff, W_chk, W_ifT, W_ifF, W_pick, W_nil, Nat.reduceEqDiff, Nat.reduceEqDiff, reduceCtorEq, ↓reduceIte]
  refine none_ask (vb := vb) (vn := vn) (y5.bnd hb0) (ha.ext0 y5) hu (hO.ext0 y5) (OwnRow.row o4 |>.ext0 x5) (by simp [T.get_set, h1]) (by simp [T.get_set, h2]) (by simp [T.get_set, h3]) (by simp [T.get_set]) (by simp [T.get_set]) (by simp [T.get_set]) (by simp [T.get_set]) (by simp [T.get_set]) law29_None_S15_17 (by omega) fun n6 s6 tm6 td6 hn6 hT6 x6 hs6 h111 => ?_
  have y6 := y5.then0 x6 hb0
  refine W.cond (v := false) hT6 law29_None_C18 h111 (by omega) (fun h => by cases h) fun _ => ?_
  refine law29_None_q20.w law29_None_S18_20 (by omega) ?_
  have ew : wrap64 ((i : Nat) + 1 : Int) = ((i + 1 : Nat) : Int) := by
    rw [wrap64_id (by omega) (by omega)]; simp
  have g10 : T.get tm6 10 = some (.int .i64 (i : Nat)) := by rw [hs6 10 (by decide)]; simp [T.get_set, h10]
  simp only [law29_None_r20, W_bind, W_oS, W_pure, W_mv, W_setF, W_add64, g10, ew]
  exact q _ _ _ _ (by omega) law29_None_S20_9 y6 (by simp [T.get_set, hs6, h1]) (by simp [T.get_set, hs6, h2]) (by simp [T.get_set, hs6, h3]) (by simp [T.get_set, hs6, h8]) (by simp [T.get_set, hs6, h9]) (by simp [T.get_set])
end
theorem none_W {n len : Nat} {us : List Value} {vl vn : Value} {pb : Option Addr} {nb cb : Nat} {s : St} (hb : s.lim ≤ s.next) (hu : us.length = 4) (h3 : us[3]? = some vl) (he : EnR s vl len) (hn : 3000 ≤ n) :
    W (callW envS (runF envS n) 3 [.agg us.toArray, .slice pb nb cb, vn]) s fun u _ => u = .bool true := by
  refine law29_None_W fun tm h0 h1 h2 => ?_
  refine law29_None_q0.w rfl (by omega) ?_
  simp only [law29_None_r0, W_bind, W_oS, W_pure, W_mv, W_setF, h0]
  refine W.box fun sa na xa oa => ?_
  rw [cellsOf_agg] at oa
  have oa' : OwnRow sa s.next 0 us := oa
  have ya : Ext Any Non (s.cxN cxN) sa := xa.any hb
  have hba := ya.bnd (s := s.cxN cxN) hb
  try simp only [W_bind, W_oS, W_on, W_pure, W_mv, W_setF, W_setT, T.get_set, seqO_cons, seqO_nil, seqP_cons, seqP_nil, onO_some', W_callV, reduceIte, isK_bool, isB_tt, isB_tf, isB_ft, isB_ff, W_chk, W_ifT, W_ifF, W_pick, W_nil, Nat.reduceEqDiff, Nat.reduceEqDiff, reduceCtorEq, ↓reduceIte]
  refine law29_None_q1.w law29_None_S0_1 (by omega) ?_
  simp only [law29_None_r1, W_bind, W_oS, W_on, W_pure, W_mv, W_setF, T.get_set, seqO_cons, seqO_nil, onO_some', W_callV, reduceIte, Nat.reduceEqDiff, Nat.reduceEqDiff, ↓reduceIte, W_fld fl_ask3 (by decide)]
  refine W.load1 an_en_1 (oa' 3 vl h3).at' ?_
  have yb := ya.thenRd hb (s.next + (0 + 3))
  try simp only [W_bind, W_oS, W_on, W_pure, W_mv, W_setF, W_setT, T.get_set, seqO_cons, seqO_nil, seqP_cons, seqP_nil, onO_some', W_callV, reduceIte, isK_bool, isB_tt, isB_tf, isB_ft, isB_ff, W_chk, W_ifT, W_ifF, W_pick, W_nil, Nat.reduceEqDiff, Nat.reduceEqDiff, reduceCtorEq, ↓reduceIte]
  refine kit_BigTree_spec (yb.bnd (s := s.cxN cxN) hb) ((he.same (s' := s.cxN cxN) rfl rfl).ext0 yb) (by omega) fun b s1 x1 => ?_
  have y1 := yb.then0 x1 hb
  have hb1 := y1.bnd (s := s.cxN cxN) hb
  have o1' : OwnRow (sa.rdN ((s.cxN cxN).next + (0 + 3))) s.next 0 us := fun i v e => (oa' i v e).same rfl rfl
  have o1 : OwnRow s1 s.next 0 us := OwnRow.ext0 o1' x1
  have big : ∀ (n' : Nat) (tm' : T Value) (td : List Item), 20 ≤ n' → skim 64 td = law29_None_P2 → T.get tm' 25 = some (.bool true) → W (runF envS n' ⟨3, law29_None_nt, law29_None_g, tm', td, .run, .normal, none⟩) s1 fun p s2 => p.1 = .bool true := by
    intro n' tm' td hn' hT' h25
    refine W.cond (v := true) hT' law29_None_C2 h25 (by omega) (fun _ => ?_) fun h => by cases h
    refine law29_None_q3.w law29_None_S2_3 (by omega) ?_
    simp only [law29_None_r3, W_bind, W_on, W_pure, W_mv, W_setF, seqO_nil, W_callV]
    refine W.orc orc_awakeN (W.pure ?_)
    exact W.end' (rs := [6]) (vs := [.bool true]) law29_None_S3_5 (.inl law29_None_E5) (by omega) law29_None_fn law29_None_res y1.cx (by simp [T.get_set]) rfl
  have small : ∀ (n' : Nat) (tm' : T Value) (td : List Item), 2000 ≤ n' → skim 64 td = law29_None_P2 → T.get tm' 25 = some (.bool false) → T.get tm' 1 = some (.slice pb nb cb) → T.get tm' 2 = some vn → T.get tm' 3 = some (.pointer (some ⟨s.next, 0, none⟩)) → W (runF envS n' ⟨3, law29_None_nt, law29_None_g, tm', td, .run, .normal, none⟩) s1 fun p s2 => p.1 = .bool true := by
    intro n' tm' td hn' hT' h25 g1 g2 g3
    refine W.cond (v := false) hT' law29_None_C2 h25 (by omega) (fun h => by cases h) fun _ => ?_
    refine law29_None_q4.w law29_None_S2_4 (by omega) ?_
    simp only [law29_None_r4, W_pure, W_mv, W_setF]
    refine law29_None_q6.w law29_None_S4_6 (by omega) ?_
    simp only [law29_None_r6, W_pure, W_mv, W_setF]
    refine law29_None_q7.w law29_None_S6_7 (by omega) ?_
    simp only [law29_None_r7, W_bind, W_oS, W_pure, W_mv, W_setF, T.get_set, seqP_cons, seqP_nil, onO_some', reduceIte, Nat.reduceEqDiff, Nat.reduceEqDiff, ↓reduceIte, W_build ag_b]
    refine W.box fun s2 n2 x2 o2 => ?_
    rw [cellsOf_agg] at o2
    have o2' : OwnRow s2 s1.next 0 zAg := o2
    have y2 := y1.then0 x2 hb
    have hb2 := y2.bnd (s := s.cxN cxN) hb
    try simp only [W_bind, W_oS, W_on, W_pure, W_mv, W_setF, W_setT, T.get_set, seqO_cons, seqO_nil, seqP_cons, seqP_nil, onO_some', W_callV, reduceIte, isK_bool, isB_tt, isB_tf, isB_ft, isB_ff, W_chk, W_ifT, W_ifF, W_pick, W_nil, Nat.reduceEqDiff, Nat.reduceEqDiff, reduceCtorEq, ↓reduceIte]
    refine W.buildS hb2 an_ags_el (by decide) (fill_ags _) (capU_gt (by decide)) fun s3 n3 x3 o3 => ?_
    have y3 := y2.then0 x3 hb
    have hb3 := y3.bnd (s := s.cxN cxN) hb
    have hag : AgN s3 (.pointer (some ⟨s1.next, 0, none⟩)) := AgN.ext0 (.inr ⟨_, rfl, (o2' 2 _ rfl).at', (o2' 4 _ rfl).at', (o2' 5 _ rfl).at', (o2' 6 _ rfl).at'⟩) x3
    have oO : Row s3 s.next 0 us := ((o1.row.ext0 x2).ext0 x3)
    try simp only [W_bind, W_oS, W_on, W_pure, W_mv, W_setF, W_setT, T.get_set, seqO_cons, seqO_nil, seqP_cons, seqP_nil, onO_some', W_callV, reduceIte, isK_bool, isB_tt, isB_tf, isB_ft, isB_ff, W_chk, W_ifT, W_ifF, W_pick, W_nil, Nat.reduceEqDiff, Nat.reduceEqDiff, reduceCtorEq, ↓reduceIte]
    refine law29_None_q8.w law29_None_S7_8 (by omega) ?_
    simp only [law29_None_r8, W_pure, W_mv, W_setF]
    refine none_round (s0 := s3) (O := s.next) (B := s2.next) (vb := .slice pb nb cb) (vn := vn) (i := 0) (va := .pointer none) hb3 (Ext.refl _) (.inl rfl) hu oO (o3 0 _ rfl).at' (by decide) (by omega) law29_None_S8_9 (by simp [T.get_set, g1]) (by simp [T.get_set, g2]) (by simp [T.get_set, g3]) (by simp [T.get_set]) (by simp [T.get_set]) (by simp [T.get_set]) fun n4 s4 tm4 td4 hn4 hT4 x4 k1 k2 k3 k8 k9 k10 => ?_
    refine none_round (s0 := s3) (O := s.next) (B := s2.next) (vb := .slice pb nb cb) (vn := vn) (i := 1) hb3 x4 hag hu oO (o3 1 _ rfl).at' (by decide) (by omega) hT4 k1 k2 k3 k8 k9 k10 fun n5 s5 tm5 td5 hn5 hT5 x5 _ _ _ j8 j9 j10 => ?_
    have y5 := y3.then0 x5 hb
    refine law29_None_q9.w hT5 (by omega) ?_
    have e2 : decide (((1 + 1 : Nat) : Int) < 2) = false := rfl
    simp only [law29_None_r9, W_bind, W_oS, W_pure, W_mv, W_setF, W_lss64, j10, e2]
    refine W.cond (v := false) law29_None_S9_10 law29_None_C10 (by simp [T.get_set]) (by omega) (fun h => by cases h) fun _ => ?_
    refine law29_None_q12.w law29_None_S10_12 (by omega) ?_
    simp only [law29_None_r12, W_bind, W_oS, W_on, W_pure, W_mv, W_setF, T.get_set, seqO_cons, seqO_nil, onO_some', W_callV, reduceIte, Nat.reduceEqDiff, Nat.reduceEqDiff, ↓reduceIte, j8]
    refine ag_New_spec (by omega) fun s6 x6 => ?_
    have y6 := y5.then0 x6 hb
    rw [W_ext (k := 0) rfl, W_ext (k := 1) rfl]
    try simp only [W_bind, W_oS, W_on, W_pure, W_mv, W_setF, W_setT, T.get_set, seqO_cons, seqO_nil, seqP_cons, seqP_nil, onO_some', W_callV, reduceIte, isK_bool, isB_tt, isB_tf, isB_ft, isB_ff, W_chk, W_ifT, W_ifF, W_pick, W_nil, Nat.reduceEqDiff, Nat.reduceEqDiff, reduceCtorEq, ↓reduceIte]
    refine law29_None_q14.w law29_None_S12_14 (by omega) ?_
    have e1 : decide ((1 : Int) = 1) = true := rfl
    simp only [law29_None_r14, W_bind, W_oS, W_on, W_pure, W_mv, W_setF, T.get_set, seqO_nil, W_callV, reduceIte, isK_bool, isB_tt, W_chk, W_ifT, W_pick, Nat.reduceEqDiff, Nat.reduceEqDiff, ↓reduceIte, W_eql64, ep_ag, decide_true]
    refine W.orc orc_awakeN (W.pure ?_)
    try simp only [W_bind, W_oS, W_on, W_pure, W_mv, W_setF, W_setT, T.get_set, seqO_cons, seqO_nil, seqP_cons, seqP_nil, onO_some', W_callV, reduceIte, isK_bool, isB_tt, isB_tf, isB_ft, isB_ff, W_chk, W_ifT, W_ifF, W_pick, W_nil, Nat.reduceEqDiff, Nat.reduceEqDiff, reduceCtorEq, ↓reduceIte]
    exact W.end' (rs := [6]) (vs := [.bool true]) law29_None_S14_16 (.inl law29_None_E16) (by omega) law29_None_fn law29_None_res y6.cx (by simp [T.get_set]) rfl
  cases b with
  | true =>
    try simp only [W_pure, reduceIte, isK_bool, isB_tf, W_chk, W_ifF, W_pick, ↓reduceIte]
    exact big _ _ _ (by omega) law29_None_S1_2 (by simp [T.get_set])
  | false =>
    simp only [W_oS, W_pure, reduceIte, isK_bool, isB_ff, W_chk, W_ifT, W_pick, reduceCtorEq, ↓reduceIte, W_gtr64, h1, W_lenSl an_by]
    cases e1 : decide ((1500 : Int) < ((nb : Nat) : Int)) with
    | true =>
      try simp only [W_bind, W_oS, W_on, W_pure, W_mv, W_setF, W_setT, T.get_set, seqO_cons, seqO_nil, seqP_cons, seqP_nil, onO_some', W_callV, reduceIte, isK_bool, isB_tt, isB_tf, isB_ft, isB_ff, W_chk, W_ifT, W_ifF, W_pick, W_nil, Nat.reduceEqDiff, Nat.reduceEqDiff, reduceCtorEq, ↓reduceIte]
      exact big _ _ _ (by omega) law29_None_S1_2 (by simp [T.get_set])
    | false =>
      try simp only [W_bind, W_oS, W_on, W_pure, W_mv, W_setF, W_setT, T.get_set, seqO_cons, seqO_nil, seqP_cons, seqP_nil, onO_some', W_callV, reduceIte, isK_bool, isB_tt, isB_tf, isB_ft, isB_ff, W_chk, W_ifT, W_ifF, W_pick, W_nil, Nat.reduceEqDiff, Nat.reduceEqDiff, reduceCtorEq, ↓reduceIte]
      exact small _ _ _ (by omega) law29_None_S1_2 (by simp [T.get_set]) (by simp [T.get_set, h1]) (by simp [T.get_set, h2]) (by simp [T.get_set]; rfl)
end Go.Proofs.YtieohifdhplgbaaGreatDoor.Am
/- satchellaw29.AgentNone: its contract. -/
namespace Go.Proofs.YtieohifdhplgbaaGreatDoor.Am
open Go.RowKit Go.ChangeShapes Go.WideShapes

def fieldsB (P : Program) (t : TypeId) (l : List (TypeId × Nat)) : Bool := match P.underlying t with
  | some (.struct fs) => decide (fs.toList.map (fun x => (x.type, x.offset)) = l)
  | _ => false
theorem HoldsT.struct {P : Program} {N F : Nat} {s : St} {t : TypeId} {us : List Value} {l : List (TypeId × Nat)} (hb : fieldsB P t l = true) (h : HoldsT P N s (F + 1) t us) : us.length = P.cellsOf t ∧ ∀ x ∈ l, HoldsT P N s F x.1 ((us.drop x.2).take (P.cellsOf x.1)) := by
  unfold fieldsB at hb
  unfold HoldsT at h
  cases hu : P.underlying t with
  | none => rw [hu] at hb; cases hb
  | some u =>
    rw [hu] at hb h
    cases u <;> try (cases hb; done)
    have e := of_decide_eq_true hb
    refine ⟨h.1, fun x hx => ?_⟩
    rw [← e] at hx
    obtain ⟨y, hy, rfl⟩ := List.mem_map.1 hx
    exact h.2 y hy
theorem HoldsT.string' {P : Program} {N F : Nat} {s : St} {t : TypeId} {us : List Value} (hu : P.underlying t = some .string) (h : HoldsT P N s (F + 1) t us) : ∃ x : ByteArray, us = [.string x] := by
  unfold HoldsT at h
  rw [hu] at h
  obtain ⟨x, e, _⟩ := h
  exact ⟨x, e⟩
theorem HoldsT.slice' {P : Program} {N F : Nat} {s : St} {t e : TypeId} {us : List Value} (hu : P.underlying t = some (.slice e)) (h : HoldsT P N s (F + 1) t us) : ∃ p n c, us = [.slice p n c] := by
  unfold HoldsT at h
  rw [hu] at h
  rcases h with h | h | ⟨b, n, c, h, _⟩
  · exact ⟨_, _, _, h⟩
  · exact ⟨_, _, _, h⟩
  · exact ⟨_, _, _, h⟩
theorem HoldsA.one {P : Program} {N F : Nat} {s : St} {t : TypeId} {u : Value} (hb : aggT P t = false) (h : HoldsA P N s F t u) : HoldsT P N s F t [u] := by
  obtain ⟨us, h1, ⟨h2, _⟩ | ⟨_, rfl⟩⟩ := h
  · rw [hb] at h2; cases h2
  · exact h1
theorem HoldsA.agg {P : Program} {N F : Nat} {s : St} {t : TypeId} {u : Value} (hb : aggT P t = true) (h : HoldsA P N s F t u) : ∃ us, u = .agg us.toArray ∧ HoldsT P N s F t us := by
  obtain ⟨us, h1, ⟨_, h2⟩ | ⟨h2, _⟩⟩ := h
  · exact ⟨us, h2, h1⟩
  · rw [hb] at h2; cases h2
theorem envS_P : envS.P = Tryz.prog := by kernel_rfl
theorem und_str : Tryz.prog.underlying 9 = some .string := by kernel_rfl
theorem und_by : Tryz.prog.underlying 25 = some (.slice 5) := by kernel_rfl
theorem und_en : Tryz.prog.underlying 22 = some (.slice 62) := by kernel_rfl
theorem cel_en : Tryz.prog.cellsOf 62 = 5 := by kernel_rfl
theorem cel_en_k : Tryz.prog.cellsOf 62 < 1024 := by rw [cel_en]; decide
theorem cel_ask : Tryz.prog.cellsOf 24 = 4 := by kernel_rfl
theorem cel_str : Tryz.prog.cellsOf 9 = 1 := by kernel_rfl
theorem cel_by : Tryz.prog.cellsOf 25 = 1 := by kernel_rfl
theorem cel_ens : Tryz.prog.cellsOf 22 = 1 := by kernel_rfl
theorem fie_en : fieldsB Tryz.prog 62 [(9, 0), (3, 1), (3, 2), (25, 3), (9, 4)] = true := by kernel_rfl
theorem fie_ask : fieldsB Tryz.prog 24 [(3, 0), (3, 1), (3, 2), (22, 3)] = true := by kernel_rfl
theorem agg_ask : aggT Tryz.prog 24 = true := by kernel_rfl
theorem agg_by : aggT Tryz.prog 25 = false := by kernel_rfl
attribute [local irreducible] HoldsT
theorem held_entries {N F : Nat} {s : St} {us : List Value} (h : HoldsT Tryz.prog N s (F + 4) 22 us) : ∃ v k, us = [v] ∧ EnR s v k := by
  obtain ⟨v, es, rfl, hE, _, _, ha⟩ := HoldsT.slice (P := Tryz.prog) (F := F + 3) (t := 22) (e := 62) und_en cel_en_k h
  rw [cel_en] at hE
  refine ⟨v, es.length, rfl, ?_⟩
  rcases hE with ⟨rfl, rfl⟩ | ⟨b, c, rfl, _, _, hr⟩
  · exact .inl ⟨rfl, rfl⟩
  · refine .inr ⟨b, 0, c, rfl, fun i hi => ?_⟩
    obtain ⟨hx5, hx⟩ := ha _ (List.getElem_mem hi)
    rw [cel_en] at hx5
    have hr' := hr i _ (List.getElem?_eq_getElem hi)
    obtain ⟨_, hx⟩ := hx.struct fie_en
    have k0 := hx (9, 0) (by simp)
    have k3 := hx (25, 3) (by simp)
    have k4 := hx (9, 4) (by simp)
    simp only [cel_str, cel_by] at k0 k3 k4
    obtain ⟨x, e0⟩ := k0.string' und_str
    obtain ⟨p, n, c1, e3⟩ := k3.slice' und_by
    obtain ⟨y, e4⟩ := k4.string' und_str
    clear k0 k3 k4 hx ha
    generalize es[i] = l at e0 e3 e4 hx5 hr'
    match l, hx5, e0, e3, e4, hr' with
    | [a0, a1, a2, a3, a4], _, e0, e3, e4, hr' =>
      cases e0
      cases e3
      cases e4
      rw [Nat.zero_add]
      exact ⟨x, y, p, n, c1, hr' 0 _ rfl, hr' 3 _ rfl, hr' 4 _ rfl⟩
theorem none_params : Tryz.f3.params.toList = [24, 25, 3] := by kernel_rfl
theorem none_orc : envS.orc.get 3 = none := by kernel_rfl
theorem none_ext : envS.ext.get 3 = none := by kernel_rfl
theorem none_flat : [24, 25, 3].all (flatT Tryz.prog 7) = true := by kernel_rfl
set_option maxRecDepth 1000000 in
theorem walkNone {H : Type} {enc : TypeId × Value → H} {w : World} {base : Nat} {args : Array Value} {ds : List (DataW H)} {ps : List MemPlace} (hA : DataW.TrodAll enc Tryz.prog w 0 (fun _ => true) true Tryz.f3.params.toList args.toList ds ps)
    (hv : ∀ (j : Nat) t v, Tryz.f3.params[j]? = some t → args[j]? = some v → Value.okWide Tryz.prog w .any base t v) : Calls Tryz.prog 3 args w fun e w' => e = .returned (.bool true) ∧ Below w.heap.size w w' := by
  have hv' : ∀ (j : Nat) t v, [24, 25, 3][j]? = some t → args.toList[j]? = some v → Value.okWide Tryz.prog w .any base t v := fun j t v e1 e2 => by
    rw [← none_params] at e1
    rw [Array.getElem?_toList] at e1 e2
    exact hv j t v e1 e2
  rw [none_params] at hA
  have h := calls_args (E := envS) (fuel := 4000) (f := 3) (F := 7) (N := maxLen) (v := .bool true) (ts := [24, 25, 3]) envS_ok none_orc none_ext rfl (by rw [envS_P]; exact hA) (by rw [envS_P]; exact hv') (by rw [envS_P]; exact none_flat) (.inl (Nat.le_refl _)) (fun m nx us hus hu => by
    rw [envS_P] at hu
    match us, hus, hu with
    | [u0, u1, u2], _, hu =>
      obtain ⟨l, rfl, k0⟩ := (hu 0 _ u0 rfl rfl).agg agg_ask
      obtain ⟨p, n, c, e1⟩ := ((hu 1 _ u1 rfl rfl).one agg_by).slice' und_by
      cases e1
      obtain ⟨hl, k0⟩ := k0.struct fie_ask
      rw [cel_ask] at hl
      have k3 := k0 (22, 3) (by simp)
      simp only [cel_ens] at k3
      obtain ⟨v, k, e3, he⟩ := held_entries (F := 2) k3
      have g3 : l[3]? = some v := by
        match l, hl, e3 with
        | [_, _, _, a], _, e3 =>
          cases e3
          rfl
      exact none_W (Nat.zero_le _) hl g3 he (by omega))
  rw [envS_P] at h
  exact h
end Go.Proofs.YtieohifdhplgbaaGreatDoor.Am
