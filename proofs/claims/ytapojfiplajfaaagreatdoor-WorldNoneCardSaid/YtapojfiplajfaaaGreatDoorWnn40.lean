/- The world that is none,or that New did not make:what its methods answer,in every state. -/
import Derived.Test.YtapojfiplajfaaaGreatDoorWnn39
import Derived.Test.YtapojfiplajfaaaGreatDoorWnn22
namespace Go.Proofs.YtapojfiplajfaaaGreatDoor.Am
open Go.RowKit
theorem p_wo:ptrT envS 22=true:=by kernel_rfl
theorem qp_wo (k:Nat)(s:St):Cl.get (aBin envS .eql 22 (.tmp k) (.const (.pointer none))) (.pointer none) (.pointer none) s= .some (.bool true) s:=by kernel_rfl
theorem ep_wo (k:Nat)(s:St)(Q:Value→St→Prop):W (Cl.get (aBin envS .eql 22 (.tmp k) (.const (.pointer none))) (.pointer none) (.pointer none)) s Q=Q (.bool true) s:=W_run (qp_wo k s)
theorem qp_nt (k:Nat)(s:St):Cl.get (aBin envS .eql 53 (.tmp k) (.const (.pointer none))) (.pointer none) (.pointer none) s= .some (.bool true) s:=by kernel_rfl
theorem ep_nt (k:Nat)(s:St)(Q:Value→St→Prop):W (Cl.get (aBin envS .eql 53 (.tmp k) (.const (.pointer none))) (.pointer none) (.pointer none)) s Q=Q (.bool true) s:=W_run (qp_nt k s)
theorem qp_cl (k:Nat)(s:St):Cl.get (aBin envS .eql 78 (.tmp k) (.const (.pointer none))) (.pointer none) (.pointer none) s= .some (.bool true) s:=by kernel_rfl
theorem ep_cl (k:Nat)(s:St)(Q:Value→St→Prop):W (Cl.get (aBin envS .eql 78 (.tmp k) (.const (.pointer none))) (.pointer none) (.pointer none)) s Q=Q (.bool true) s:=W_run (qp_cl k s)
theorem mp_cl (k:Nat)(s:St):Cl.get (aBin envS .neq 78 (.tmp k) (.const (.pointer none))) (.pointer none) (.pointer none) s= .some (.bool false) s:=by kernel_rfl
theorem np_cl (k:Nat)(s:St)(Q:Value→St→Prop):W (Cl.get (aBin envS .neq 78 (.tmp k) (.const (.pointer none))) (.pointer none) (.pointer none)) s Q=Q (.bool false) s:=W_run (mp_cl k s)
theorem ty_wo_1:tyS envS 22=some (1,false):=by kernel_rfl
theorem ty_nt_1:tyS envS 53=some (1,false):=by kernel_rfl
theorem fl_wo2:fldN envS 58 2=some (10,1,false):=by kernel_rfl
/-- No world,or one that New did not make. -/
def WoN (s:St)(v:Value):Prop:=v= .pointer none∨ ∃A,v= .pointer (some ⟨A,0,none⟩)∧At s A (0+10) (.pointer none)
theorem WoN.same {s s':St}{v:Value}(h:WoN s v)(hm:s'.mem=s.mem)(hn:s'.next=s.next):WoN s' v:=by
 rcases h with h|⟨A,e,h2⟩
 ·exact .inl h
 ·exact .inr ⟨A,e,h2.same hm hn⟩
theorem WoN.ext0 {F:Nat→Prop}{s s':St}{v:Value}(h:WoN s v)(x:Ext F Non s s'):WoN s' v:=by
 rcases h with h|⟨A,e,h2⟩
 ·exact .inl h
 ·exact .inr ⟨A,e,h2.ext x fun h=>h⟩
section
variable {va vn:Value}{n:Nat}{s:St}{Q:Value→St→Prop}
theorem wo_none_spec (hb:s.lim≤s.next)(h:WoN s va)(hn:40≤n)(q: ∀s1,Ext Any Non s s1→Q (.bool true) s1):W (callW envS (runF envS n) 24 [va]) s Q:=by
 refine wo_none_W fun tm h0=> ?_
 refine wo_none_q0.w rfl (by omega) ?_
 simp only[wo_none_r0,W_pure,W_mv,W_setF]
 refine wo_none_q1.w wo_none_S0_1 (by omega) ?_
 rcases h with rfl|⟨A,rfl,k2⟩
 ·simp only[wo_none_r1,W_bind,W_oS,W_on,W_pure,W_mv,W_setF,T.get_set,reduceIte,isK_bool,isB_tf,W_chk,W_ifF,W_pick,reduceCtorEq, ↓reduceIte,h0,ep_wo]
  exact W.end' (rs:=[2]) (vs:=[.bool true]) wo_none_S1_2 (.inl wo_none_E2) (by omega) wo_none_fn wo_none_res rfl (by simp[T.get_set]) (q _ (Ext.refl (s.cxN cxN)).cx')
 ·simp only[wo_none_r1,W_bind,W_oS,W_on,W_pure,W_mv,W_setF,T.get_set,reduceIte,isK_bool,isB_ff,W_chk,W_ifT,W_pick,W_nil,reduceCtorEq, ↓reduceIte,h0,W_eqNilP p_wo,W_fld fl_wo2 (by decide)]
  refine W.load1 ty_nt_1 (k2.same rfl rfl) ?_
  simp only[ep_nt]
  exact W.end' (rs:=[2]) (vs:=[.bool true]) wo_none_S1_2 (.inl wo_none_E2) (by omega) wo_none_fn wo_none_res rfl (by simp[T.get_set]) (q _ ((Ext.refl (s.cxN cxN)).thenRd hb _).cx')
theorem wo_client_spec (hb:s.lim≤s.next)(h:WoN s va)(hn:90≤n)(q: ∀s1,Ext Any Non s s1→Q (.pointer none) s1):W (callW envS (runF envS n) 47 [va,vn]) s Q:=by
 refine wo_client_W fun tm h0 _=> ?_
 refine wo_client_q0.w rfl (by omega) ?_
 simp only[wo_client_r0,W_pure,W_mv,W_setF]
 refine wo_client_q1.w wo_client_S0_1 (by omega) ?_
 simp only[wo_client_r1,W_bind,W_on,W_pure,W_mv,W_setF,T.get_set,seqO_cons,seqO_nil,onO_some',W_callV,reduceIte,Nat.reduceEqDiff,Nat.reduceEqDiff,reduceCtorEq, ↓reduceIte,h0]
 refine wo_none_spec (s:=s.cxN cxN) hb (h.same rfl rfl) (by omega) fun s1 x1=> ?_
 try simp only[W_pure,reduceIte,isK_bool,isB_tf,W_chk,W_ifF,W_pick, ↓reduceIte]
 refine W.cond (v:=true) wo_client_S1_2 wo_client_C2 (by simp[T.get_set]) (by omega) (fun _=> ?_) fun h=>by cases h
 refine wo_client_q3.w wo_client_S2_3 (by omega) ?_
 simp only[wo_client_r3,W_pure,W_mv,W_setF]
 exact W.end' (rs:=[4]) (vs:=[.pointer none]) wo_client_S3_5 (.inl wo_client_E5) (by omega) wo_client_fn wo_client_res x1.cx (by simp[T.get_set]) (q _ x1.cx')
theorem wo_machine_spec (hb:s.lim≤s.next)(h:WoN s va)(hn:90≤n)(q: ∀s1,Ext Any Non s s1→Q (.tuple #[.nilIface, .bool false]) s1):W (callW envS (runF envS n) 40 [va,vn]) s Q:=by
 refine wo_machine_W fun tm h0 _=> ?_
 refine wo_machine_q0.w rfl (by omega) ?_
 simp only[wo_machine_r0,W_pure,W_mv,W_setF]
 refine wo_machine_q1.w wo_machine_S0_1 (by omega) ?_
 simp only[wo_machine_r1,W_bind,W_on,W_pure,W_mv,W_setF,T.get_set,seqO_cons,seqO_nil,onO_some',W_callV,reduceIte,Nat.reduceEqDiff,Nat.reduceEqDiff,reduceCtorEq, ↓reduceIte,h0]
 refine wo_none_spec (s:=s.cxN cxN) hb (h.same rfl rfl) (by omega) fun s1 x1=> ?_
 try simp only[W_pure,reduceIte,isK_bool,isB_tf,W_chk,W_ifF,W_pick, ↓reduceIte]
 refine W.cond (v:=true) wo_machine_S1_2 wo_machine_C2 (by simp[T.get_set]) (by omega) (fun _=> ?_) fun h=>by cases h
 refine wo_machine_q3.w wo_machine_S2_3 (by omega) ?_
 simp only[wo_machine_r3,W_pure,W_mv,W_setF]
 exact W.end' (rs:=[4,5]) (vs:=[.nilIface, .bool false]) wo_machine_S3_5 (.inl wo_machine_E5) (by omega) wo_machine_fn wo_machine_res x1.cx (by simp[T.get_set]) (q _ x1.cx')
theorem wo_Told_spec (hb:s.lim≤s.next)(h:WoN s va)(hn:150≤n)(q: ∀s1,Ext Any Non s s1→Q (.slice none 0 0) s1):W (callW envS (runF envS n) 15 [va,vn]) s Q:=by
 refine wo_Told_W fun tm h0 h1=> ?_
 refine wo_Told_q0.w rfl (by omega) ?_
 simp only[wo_Told_r0,W_pure,W_mv,W_setF]
 refine wo_Told_q1.w wo_Told_S0_1 (by omega) ?_
 simp only[wo_Told_r1,W_bind,W_on,W_pure,W_mv,W_setF,T.get_set,seqO_cons,seqO_nil,onO_some',W_callV,reduceIte,Nat.reduceEqDiff,Nat.reduceEqDiff,reduceCtorEq, ↓reduceIte,h0,h1]
 refine wo_client_spec (s:=s.cxN cxN) hb (h.same rfl rfl) (by omega) fun s1 x1=> ?_
 try simp only[W_bind,W_oS,W_on,W_pure,W_mv,W_setF,W_setT,T.get_set,seqO_cons,seqO_nil,seqP_cons,seqP_nil,onO_some',W_callV,reduceIte,isK_bool,isB_tt,isB_tf,isB_ft,isB_ff,W_chk,W_ifT,W_ifF,W_pick,W_nil,Nat.reduceEqDiff,Nat.reduceEqDiff,reduceCtorEq, ↓reduceIte]
 refine wo_Told_q2.w wo_Told_S1_2 (by omega) ?_
 simp only[wo_Told_r2,W_bind,W_oS,W_pure,W_mv,W_setF,T.get_set,reduceIte, ↓reduceIte,ep_cl]
 refine W.cond (v:=true) wo_Told_S2_3 wo_Told_C3 (by simp[T.get_set]) (by omega) (fun _=> ?_) fun h=>by cases h
 refine wo_Told_q4.w wo_Told_S3_4 (by omega) ?_
 simp only[wo_Told_r4,W_pure,W_mv,W_setF]
 exact W.end' (rs:=[4]) (vs:=[.slice none 0 0]) wo_Told_S4_6 (.inl wo_Told_E6) (by omega) wo_Told_fn wo_Told_res x1.cx (by simp[T.get_set]) (q _ x1.cx')
theorem wo_Busy_spec (hb:s.lim≤s.next)(h:WoN s va)(hn:150≤n)(q: ∀s1,Ext Any Non s s1→Q (.bool false) s1):W (callW envS (runF envS n) 16 [va,vn]) s Q:=by
 refine wo_Busy_W fun tm h0 h1=> ?_
 refine wo_Busy_q0.w rfl (by omega) ?_
 simp only[wo_Busy_r0,W_pure,W_mv,W_setF]
 refine wo_Busy_q1.w wo_Busy_S0_1 (by omega) ?_
 simp only[wo_Busy_r1,W_bind,W_on,W_pure,W_mv,W_setF,T.get_set,seqO_cons,seqO_nil,onO_some',W_callV,reduceIte,Nat.reduceEqDiff,Nat.reduceEqDiff,reduceCtorEq, ↓reduceIte,h0,h1]
 refine wo_client_spec (s:=s.cxN cxN) hb (h.same rfl rfl) (by omega) fun s1 x1=> ?_
 try simp only[W_bind,W_oS,W_on,W_pure,W_mv,W_setF,W_setT,T.get_set,seqO_cons,seqO_nil,seqP_cons,seqP_nil,onO_some',W_callV,reduceIte,isK_bool,isB_tt,isB_tf,isB_ft,isB_ff,W_chk,W_ifT,W_ifF,W_pick,W_nil,Nat.reduceEqDiff,Nat.reduceEqDiff,reduceCtorEq, ↓reduceIte]
 refine wo_Busy_q2.w wo_Busy_S1_2 (by omega) ?_
 simp only[wo_Busy_r2,W_bind,W_oS,W_on,W_pure,W_mv,W_setF,T.get_set,seqO_cons,seqO_nil,onO_some',reduceIte,isK_bool,isB_ft,W_chk,W_ifF,W_pick,reduceCtorEq, ↓reduceIte,np_cl]
 exact W.end' (rs:=[4]) (vs:=[.bool false]) wo_Busy_S2_3 (.inl wo_Busy_E3) (by omega) wo_Busy_fn wo_Busy_res x1.cx (by simp[T.get_set]) (q _ x1.cx')
theorem wo_List_spec (hb:s.lim≤s.next)(h:WoN s va)(hn:90≤n)(q: ∀s1,Ext Any Non s s1→Q (.slice none 0 0) s1):W (callW envS (runF envS n) 17 [va,vn]) s Q:=by
 refine wo_List_W fun tm h0 _=> ?_
 refine wo_List_q0.w rfl (by omega) ?_
 simp only[wo_List_r0,W_pure,W_mv,W_setF]
 refine wo_List_q1.w wo_List_S0_1 (by omega) ?_
 simp only[wo_List_r1,W_bind,W_on,W_pure,W_mv,W_setF,T.get_set,seqO_cons,seqO_nil,onO_some',W_callV,reduceIte,reduceCtorEq, ↓reduceIte,h0]
 refine wo_none_spec (s:=s.cxN cxN) hb (h.same rfl rfl) (by omega) fun s1 x1=> ?_
 try simp only[W_bind,W_oS,W_on,W_pure,W_mv,W_setF,W_setT,T.get_set,seqO_cons,seqO_nil,seqP_cons,seqP_nil,onO_some',W_callV,reduceIte,isK_bool,isB_tt,isB_tf,isB_ft,isB_ff,W_chk,W_ifT,W_ifF,W_pick,W_nil,Nat.reduceEqDiff,Nat.reduceEqDiff,reduceCtorEq, ↓reduceIte]
 refine W.cond (v:=true) wo_List_S1_2 wo_List_C2 (by simp[T.get_set]) (by omega) (fun _=> ?_) fun h=>by cases h
 refine wo_List_q3.w wo_List_S2_3 (by omega) ?_
 simp only[wo_List_r3,W_pure,W_mv,W_setF]
 exact W.end' (rs:=[4]) (vs:=[.slice none 0 0]) wo_List_S3_5 (.inl wo_List_E5) (by omega) wo_List_fn wo_List_res x1.cx (by simp[T.get_set]) (q _ x1.cx')
theorem wo_Tree_spec {vm:Value}(hb:s.lim≤s.next)(h:WoN s va)(hn:90≤n)(q: ∀s1,Ext Any Non s s1→Q (.tuple #[.slice none 0 0, .int .i64 1]) s1):W (callW envS (runF envS n) 14 [va,vn,vm]) s Q:=by
 refine wo_Tree_W fun tm h0 _ _=> ?_
 refine wo_Tree_q0.w rfl (by omega) ?_
 simp only[wo_Tree_r0,W_pure,W_mv,W_setF]
 refine wo_Tree_q1.w wo_Tree_S0_1 (by omega) ?_
 simp only[wo_Tree_r1,W_bind,W_on,W_pure,W_mv,W_setF,T.get_set,seqO_cons,seqO_nil,onO_some',W_callV,reduceIte,reduceCtorEq, ↓reduceIte,h0]
 refine wo_none_spec (s:=s.cxN cxN) hb (h.same rfl rfl) (by omega) fun s1 x1=> ?_
 try simp only[W_bind,W_oS,W_on,W_pure,W_mv,W_setF,W_setT,T.get_set,seqO_cons,seqO_nil,seqP_cons,seqP_nil,onO_some',W_callV,reduceIte,isK_bool,isB_tt,isB_tf,isB_ft,isB_ff,W_chk,W_ifT,W_ifF,W_pick,W_nil,Nat.reduceEqDiff,Nat.reduceEqDiff,reduceCtorEq, ↓reduceIte]
 refine W.cond (v:=true) wo_Tree_S1_2 wo_Tree_C2 (by simp[T.get_set]) (by omega) (fun _=> ?_) fun h=>by cases h
 refine wo_Tree_q3.w wo_Tree_S2_3 (by omega) ?_
 simp only[wo_Tree_r3,W_pure,W_mv,W_setF]
 exact W.end' (rs:=[6,7]) (vs:=[.slice none 0 0, .int .i64 1]) wo_Tree_S3_5 (.inl wo_Tree_E5) (by omega) wo_Tree_fn wo_Tree_res x1.cx (by simp[T.get_set]) (q _ x1.cx')
theorem wo_Up_spec (hb:s.lim≤s.next)(h:WoN s va)(hn:150≤n)(q: ∀s1,Ext Any Non s s1→Q (.bool false) s1):W (callW envS (runF envS n) 9 [va,vn]) s Q:=by
 refine wo_Up_W fun tm h0 h1=> ?_
 refine wo_Up_q0.w rfl (by omega) ?_
 simp only[wo_Up_r0,W_pure,W_mv,W_setF]
 refine wo_Up_q1.w wo_Up_S0_1 (by omega) ?_
 simp only[wo_Up_r1,W_bind,W_oS,W_on,W_pure,W_mv,W_setF,T.get_set,seqO_cons,seqO_nil,onO_some',W_callV,reduceIte,Nat.reduceEqDiff,Nat.reduceEqDiff,reduceCtorEq, ↓reduceIte,h0,h1]
 refine wo_machine_spec (s:=s.cxN cxN) hb (h.same rfl rfl) (by omega) fun s1 x1=> ?_
 rw[W_ext (k:=0) rfl,W_ext (k:=1) rfl]
 try simp only[W_bind,W_oS,W_on,W_pure,W_mv,W_setF,W_setT,T.get_set,seqO_cons,seqO_nil,seqP_cons,seqP_nil,onO_some',W_callV,reduceIte,isK_bool,isB_tt,isB_tf,isB_ft,isB_ff,W_chk,W_ifT,W_ifF,W_pick,W_nil,Nat.reduceEqDiff,Nat.reduceEqDiff,reduceCtorEq, ↓reduceIte]
 refine wo_Up_q2.w wo_Up_S1_2 (by omega) ?_
 simp only[wo_Up_r2,W_bind,W_on,W_pure,W_mv,W_setF,T.get_set,seqO_cons,seqO_nil,onO_some',reduceIte,isK_bool,isB_ft,W_chk,W_ifF,W_pick,Nat.reduceEqDiff,Nat.reduceEqDiff,reduceCtorEq, ↓reduceIte]
 exact W.end' (rs:=[4]) (vs:=[.bool false]) wo_Up_S2_3 (.inl wo_Up_E3) (by omega) wo_Up_fn wo_Up_res x1.cx (by simp[T.get_set]) (q _ x1.cx')
theorem wo_Now_spec (hb:s.lim≤s.next)(h:WoN s va)(hn:90≤n)(q: ∀s1,Ext Any Non s s1→Q (.int .i64 0) s1):W (callW envS (runF envS n) 18 [va]) s Q:=by
 refine wo_Now_W fun tm h0=> ?_
 refine wo_Now_q0.w rfl (by omega) ?_
 simp only[wo_Now_r0,W_pure,W_mv,W_setF]
 refine wo_Now_q1.w wo_Now_S0_1 (by omega) ?_
 simp only[wo_Now_r1,W_bind,W_on,W_pure,W_mv,W_setF,T.get_set,seqO_cons,seqO_nil,onO_some',W_callV,reduceIte,reduceCtorEq, ↓reduceIte,h0]
 refine wo_none_spec (s:=s.cxN cxN) hb (h.same rfl rfl) (by omega) fun s1 x1=> ?_
 try simp only[W_bind,W_oS,W_on,W_pure,W_mv,W_setF,W_setT,T.get_set,seqO_cons,seqO_nil,seqP_cons,seqP_nil,onO_some',W_callV,reduceIte,isK_bool,isB_tt,isB_tf,isB_ft,isB_ff,W_chk,W_ifT,W_ifF,W_pick,W_nil,Nat.reduceEqDiff,Nat.reduceEqDiff,reduceCtorEq, ↓reduceIte]
 refine W.cond (v:=true) wo_Now_S1_2 wo_Now_C2 (by simp[T.get_set]) (by omega) (fun _=> ?_) fun h=>by cases h
 refine wo_Now_q3.w wo_Now_S2_3 (by omega) ?_
 simp only[wo_Now_r3,W_pure,W_mv,W_setF]
 exact W.end' (rs:=[2]) (vs:=[.int .i64 0]) wo_Now_S3_5 (.inl wo_Now_E5) (by omega) wo_Now_fn wo_Now_res x1.cx (by simp[T.get_set]) (q _ x1.cx')
theorem wo_Mail_spec (hb:s.lim≤s.next)(h:WoN s va)(hn:90≤n)(q: ∀s1,Ext Any Non s s1→Q (.slice none 0 0) s1):W (callW envS (runF envS n) 19 [va]) s Q:=by
 refine wo_Mail_W fun tm h0=> ?_
 refine wo_Mail_q0.w rfl (by omega) ?_
 simp only[wo_Mail_r0,W_pure,W_mv,W_setF]
 refine wo_Mail_q1.w wo_Mail_S0_1 (by omega) ?_
 simp only[wo_Mail_r1,W_bind,W_on,W_pure,W_mv,W_setF,T.get_set,seqO_cons,seqO_nil,onO_some',W_callV,reduceIte,reduceCtorEq, ↓reduceIte,h0]
 refine wo_none_spec (s:=s.cxN cxN) hb (h.same rfl rfl) (by omega) fun s1 x1=> ?_
 try simp only[W_bind,W_oS,W_on,W_pure,W_mv,W_setF,W_setT,T.get_set,seqO_cons,seqO_nil,seqP_cons,seqP_nil,onO_some',W_callV,reduceIte,isK_bool,isB_tt,isB_tf,isB_ft,isB_ff,W_chk,W_ifT,W_ifF,W_pick,W_nil,Nat.reduceEqDiff,Nat.reduceEqDiff,reduceCtorEq, ↓reduceIte]
 refine W.cond (v:=true) wo_Mail_S1_2 wo_Mail_C2 (by simp[T.get_set]) (by omega) (fun _=> ?_) fun h=>by cases h
 refine wo_Mail_q3.w wo_Mail_S2_3 (by omega) ?_
 simp only[wo_Mail_r3,W_pure,W_mv,W_setF]
 exact W.end' (rs:=[2]) (vs:=[.slice none 0 0]) wo_Mail_S3_5 (.inl wo_Mail_E5) (by omega) wo_Mail_fn wo_Mail_res x1.cx (by simp[T.get_set]) (q _ x1.cx')
theorem wo_Do_spec {vx:Value}(hb:s.lim≤s.next)(h:WoN s va)(hn:90≤n)(q: ∀s1,Ext Any Non s s1→Q (.int .i64 1) s1):W (callW envS (runF envS n) 8 [va,vx]) s Q:=by
 refine wo_Do_W fun tm h0 h1=> ?_
 refine wo_Do_q0.w rfl (by omega) ?_
 simp only[wo_Do_r0,W_bind,W_oS,W_pure,W_mv,W_setF,h1]
 refine W.box fun sa na xa oa=> ?_
 have ya:Ext Any Non (s.cxN cxN) sa:=xa.any hb
 try simp only[W_bind,W_oS,W_on,W_pure,W_mv,W_setF,W_setT,T.get_set,seqO_cons,seqO_nil,seqP_cons,seqP_nil,onO_some',W_callV,reduceIte,isK_bool,isB_tt,isB_tf,isB_ft,isB_ff,W_chk,W_ifT,W_ifF,W_pick,W_nil,Nat.reduceEqDiff,Nat.reduceEqDiff,reduceCtorEq, ↓reduceIte]
 refine wo_Do_q1.w wo_Do_S0_1 (by omega) ?_
 simp only[wo_Do_r1,W_bind,W_on,W_pure,W_mv,W_setF,T.get_set,seqO_cons,seqO_nil,onO_some',W_callV,reduceIte,reduceCtorEq, ↓reduceIte,h0]
 refine wo_none_spec (ya.bnd hb) ((h.same (s':=s.cxN cxN) rfl rfl).ext0 ya) (by omega) fun s1 x1=> ?_
 have x2:=ya.then0 x1 hb
 try simp only[W_bind,W_oS,W_on,W_pure,W_mv,W_setF,W_setT,T.get_set,seqO_cons,seqO_nil,seqP_cons,seqP_nil,onO_some',W_callV,reduceIte,isK_bool,isB_tt,isB_tf,isB_ft,isB_ff,W_chk,W_ifT,W_ifF,W_pick,W_nil,Nat.reduceEqDiff,Nat.reduceEqDiff,reduceCtorEq, ↓reduceIte]
 refine W.cond (v:=true) wo_Do_S1_2 wo_Do_C2 (by simp[T.get_set]) (by omega) (fun _=> ?_) fun h=>by cases h
 refine wo_Do_q3.w wo_Do_S2_3 (by omega) ?_
 simp only[wo_Do_r3,W_pure,W_mv,W_setF]
 exact W.end' (rs:=[4]) (vs:=[.int .i64 1]) wo_Do_S3_5 (.inl wo_Do_E5) (by omega) wo_Do_fn wo_Do_res x2.cx (by simp[T.get_set]) (q _ x2.cx')
end
end Go.Proofs.YtapojfiplajfaaaGreatDoor.Am
/- satchellaw31.long of one event answers something. -/
namespace Go.Proofs.YtapojfiplajfaaaGreatDoor.Am
open Go.RowKit
theorem max_sem {P:Program}(a b:Int):semP P (Builtin.max_ #[] 3 #[.int .i64 a, .int .i64 b])=some (.int .i64 (if b>a then b else a)):=rfl
theorem q_maxI (a b:Int)(s:St):aBuiltin envS .max [3,3] [.int .i64 a, .int .i64 b] s= .some (.int .i64 (if b>a then b else a)) s:=by
 show M.on (semP envS.P (Builtin.max_ #[] 3 #[.int .i64 a, .int .i64 b])) pV s=_
 rw[max_sem]
 show fI _ (fun n=>M.pure (Value.int .i64 n)) s=_
 rw[fI_eq]
 rfl
theorem W_maxI (a b:Int){s:St}(Q:Value→St→Prop):W (aBuiltin envS .max [3,3] [.int .i64 a, .int .i64 b]) s Q=Q (.int .i64 (if b>a then b else a)) s:=W_run (q_maxI a b s)
theorem ev_sl:slN envS 52=some 9:=by kernel_rfl
theorem ev_is:slN envS 41=some 1:=by kernel_rfl
theorem fl_ev0:fldN envS 43 0=some (0,1,false):=by kernel_rfl
theorem fl_ev2:fldN envS 43 2=some (2,1,false):=by kernel_rfl
theorem fl_ev4:fldN envS 43 4=some (4,4,true):=by kernel_rfl
theorem fl_ev5:fldN envS 43 5=some (8,1,false):=by kernel_rfl
theorem fl_ask3:fldN envS 40 3=some (3,1,false):=by kernel_rfl
theorem ev_int_1:tyS envS 3=some (1,false):=by kernel_rfl
theorem ev_is_1:tyS envS 41=some (1,false):=by kernel_rfl
section
variable {B:Nat}{Q:Value×FrameMode→St→Prop}{s0:St}
theorem long_end {n:Nat}{x:Int}{tm:T Value}{s:St}{td:List Item}(hcx:s0.cx=cxN)(q: ∀b s1,Ext Any Non s0 s1→Q (.bool b, .run) s1)(hn:20≤n)(hT:skim 64 td=law31_long_P3)(hx:Ext Any Non s0 s)
  (h0:T.get tm 0=some (.slice (some ⟨B,0,none⟩) 1 1)) (h3:T.get tm 3=some (.int .i64 x)) (h4:T.get tm 4=some (.int .i64 ((1:Nat):Int))):
  W (runF envS n ⟨13,law31_long_nt,law31_long_g,tm,td, .run, .normal,none⟩) s Q:=by
 refine law31_long_q3.w hT (by omega) ?_
 have e1:decide (((1:Nat):Int)<((1:Nat):Int))=false:=rfl
 simp only[law31_long_r3,W_bind,W_oS,W_on,W_pure,W_mv,W_setF,seqO_cons,seqO_nil,onO_some',reduceIte,isK_bool,isB_ft,W_chk,W_ifF,W_pick,reduceCtorEq, ↓reduceIte,W_lss64,h0,h4,W_lenSl ev_sl,e1]
 refine W.cond (v:=false) law31_long_S3_4 law31_long_C4 (by simp[T.get_set]) (by omega) (fun h=>by cases h) fun _=> ?_
 refine law31_long_q6.w law31_long_S4_6 (by omega) ?_
 have e2:decide ((120:Int)<((1:Nat):Int))=false:=rfl
 simp only[law31_long_r6,W_bind,W_oS,W_on,W_pure,W_mv,W_setF,T.get_set,seqO_cons,seqO_nil,onO_some',reduceIte,isK_bool,isB_ff,W_chk,W_ifT,W_pick,Nat.reduceEqDiff,Nat.reduceEqDiff,reduceCtorEq, ↓reduceIte,W_gtr64,h0,h3,W_lenSl ev_sl,e2]
 exact W.end' (rs:=[2]) (vs:=[.bool (decide (1500<x))]) law31_long_S6_8 (.inl law31_long_E8) (by omega) law31_long_fn law31_long_res (hx.cx.trans hcx) (by simp[T.get_set]) (q _ s hx)
theorem long_next {n:Nat}{x:Int}{tm:T Value}{s:St}{td:List Item}(hcx:s0.cx=cxN)(q: ∀b s1,Ext Any Non s0 s1→Q (.bool b, .run) s1)(hn:30≤n)(hT:skim 64 td=law31_long_P18)(hx:Ext Any Non s0 s)
  (h0:T.get tm 0=some (.slice (some ⟨B,0,none⟩) 1 1)) (h3:T.get tm 3=some (.int .i64 x)) (h4:T.get tm 4=some (.int .i64 ((0:Nat):Int))):
  W (runF envS n ⟨13,law31_long_nt,law31_long_g,tm,td, .run, .normal,none⟩) s Q:=by
 refine law31_long_q18.w hT (by omega) ?_
 have e1:wrap64 (((0:Nat):Int)+1)=((1:Nat):Int):=rfl
 simp only[law31_long_r18,W_bind,W_oS,W_pure,W_mv,W_setF,W_add64,h4,e1]
 exact long_end (B:=B) (x:=x) hcx q (by omega) law31_long_S18_3 hx (by simp[T.get_set,h0]) (by simp[T.get_set,h3]) (by simp[T.get_set])
theorem long_round {n len nk ck:Nat}{x0 x2:Int}{us:List Value}{vl:Value}{pk:Option Addr}{tm:T Value}{s:St}{td:List Item}(hb0:s0.lim≤s0.next)(hcx:s0.cx=cxN)(q: ∀b s1,Ext Any Non s0 s1→Q (.bool b, .run) s1)
  (hO:Row s0 B 0 us) (g0:us[0]?=some (.int .i64 x0)) (g2:us[2]?=some (.int .i64 x2)) (g7:us[7]?=some vl) (g8:us[8]?=some (.slice pk nk ck)) (he:EnR s0 vl len) (hn:400≤n) (hT:skim 64 td=law31_long_P3) (hx:Ext Any Non s0 s)
  (h0:T.get tm 0=some (.slice (some ⟨B,0,none⟩) 1 1)) (h3:T.get tm 3=some (.int .i64 0)) (h4:T.get tm 4=some (.int .i64 ((0:Nat):Int))):
  W (runF envS n ⟨13,law31_long_nt,law31_long_g,tm,td, .run, .normal,none⟩) s Q:=by
 refine law31_long_q3.w hT (by omega) ?_
 have e1:decide (((0:Nat):Int)<((1:Nat):Int))=true:=rfl
 have e2:decide (((0:Nat):Int)<121)=true:=rfl
 simp only[law31_long_r3,W_bind,W_oS,W_on,W_pure,W_mv,W_setF,seqO_cons,seqO_nil,onO_some',reduceIte,isK_bool,isB_tt,W_chk,W_ifT,W_pick, ↓reduceIte,W_lss64,h0,h4,W_lenSl ev_sl,e1,e2]
 refine W.cond (v:=true) law31_long_S3_4 law31_long_C4 (by simp[T.get_set]) (by omega) (fun _=> ?_) fun h=>by cases h
 refine law31_long_q5.w law31_long_S4_5 (by omega) ?_
 have hi:(0:Nat)<1:=by decide
 simp only[law31_long_r5,W_bind,W_oS,W_on,W_pure,W_mv,W_setF,T.get_set,seqO_cons,seqO_nil,onO_some',W_callV,reduceIte,Nat.reduceEqDiff,Nat.reduceEqDiff,reduceCtorEq, ↓reduceIte,h0,h4,W_idxSl ev_sl hi,W_fld fl_ev4 (by decide),W_fld fl_ask3 (by decide)]
 refine W.load1 an_en_1 (v:=vl) ((hO 7 _ g7).ext hx fun h=>h) ?_
 have y1:=hx.thenRd hb0 (B+(0+0*9+4+3))
 try simp only[W_bind,W_oS,W_on,W_pure,W_mv,W_setF,W_setT,T.get_set,seqO_cons,seqO_nil,seqP_cons,seqP_nil,onO_some',W_callV,reduceIte,isK_bool,isB_tt,isB_tf,isB_ft,isB_ff,W_chk,W_ifT,W_ifF,W_pick,W_nil,Nat.reduceEqDiff,Nat.reduceEqDiff,reduceCtorEq, ↓reduceIte]
 refine kit_BigTree_spec (y1.bnd hb0) (he.ext0 y1) (by omega) fun b s2 x2'=> ?_
 have y2:=y1.then0 x2' hb0
 have fin: ∀(n':Nat) (tm':T Value) (s':St) (td':List Item),20≤n'→skim 64 td'=law31_long_P7→Ext Any Non s0 s'→T.get tm' 30=some (.bool true)→W (runF envS n' ⟨13,law31_long_nt,law31_long_g,tm',td', .run, .normal,none⟩) s' Q:=by
  intro n' tm' s' td' hn' hT' hx' h30
  refine W.cond (v:=true) hT' law31_long_C7 h30 (by omega) (fun _=> ?_) fun h=>by cases h
  refine law31_long_q9.w law31_long_S7_9 (by omega) ?_
  simp only[law31_long_r9,W_pure,W_mv,W_setF]
  exact W.end' (rs:=[2]) (vs:=[.bool true]) law31_long_S9_11 (.inl law31_long_E11) (by omega) law31_long_fn law31_long_res (hx'.cx.trans hcx) (by simp[T.get_set]) (q _ s' hx')
 have fin2: ∀(n':Nat) (tm':T Value) (s':St) (td':List Item),20≤n'→skim 64 td'=law31_long_P12→Ext Any Non s0 s'→T.get tm' 44=some (.bool true)→W (runF envS n' ⟨13,law31_long_nt,law31_long_g,tm',td', .run, .normal,none⟩) s' Q:=by
  intro n' tm' s' td' hn' hT' hx' h44
  refine W.cond (v:=true) hT' law31_long_C12 h44 (by omega) (fun _=> ?_) fun h=>by cases h
  refine law31_long_q13.w law31_long_S12_13 (by omega) ?_
  simp only[law31_long_r13,W_pure,W_mv,W_setF]
  exact W.end' (rs:=[2]) (vs:=[.bool true]) law31_long_S13_15 (.inl law31_long_E15) (by omega) law31_long_fn law31_long_res (hx'.cx.trans hcx) (by simp[T.get_set]) (q _ s' hx')
 have fin3: ∀(n':Nat) (tm':T Value) (s':St) (td':List Item),100≤n'→skim 64 td'=law31_long_P12→Ext Any Non s0 s'→T.get tm' 44=some (.bool false)→T.get tm' 0=some (.slice (some ⟨B,0,none⟩) 1 1)→T.get tm' 3=some (.int .i64 0)→T.get tm' 4=some (.int .i64 ((0:Nat):Int))→W (runF envS n' ⟨13,law31_long_nt,law31_long_g,tm',td', .run, .normal,none⟩) s' Q:=by
  intro n' tm' s' td' hn' hT' hx' h44 k0 k3 k4
  refine W.cond (v:=false) hT' law31_long_C12 h44 (by omega) (fun h=>by cases h) fun _=> ?_
  refine law31_long_q14.w law31_long_S12_14 (by omega) ?_
  simp only[law31_long_r14,W_bind,W_oS,W_pure,W_mv,W_setF,k0,k4,W_idxSl ev_sl hi,W_fld fl_ev0 (by decide)]
  refine W.load1 ev_int_1 (v:= .int .i64 x0) ((hO 0 _ g0).ext hx' fun h=>h) ?_
  have z1:=hx'.thenRd hb0 (B+(0+0*9+0))
  simp only[W_eql64]
  cases hk:decide (x0=14)with
  |false=>
   refine W.cond (v:=false) law31_long_S14_16 law31_long_C16 (by simp[T.get_set]) (by omega) (fun h=>by cases h) fun _=> ?_
   exact long_next (B:=B) (x:=0) hcx q (by omega) law31_long_S16_18 z1 (by simp[T.get_set,k0]) (by simp[T.get_set,k3]) (by simp[T.get_set,k4])
  |true=>
   refine W.cond (v:=true) law31_long_S14_16 law31_long_C16 (by simp[T.get_set]) (by omega) (fun _=> ?_) fun h=>by cases h
   refine law31_long_q17.w law31_long_S16_17 (by omega) ?_
   simp only[law31_long_r17,W_bind,W_oS,W_pure,W_mv,W_setF,T.get_set,seqO_cons,seqO_nil,onO_some',reduceIte,Nat.reduceEqDiff,Nat.reduceEqDiff,reduceCtorEq, ↓reduceIte,k0,k3,k4,W_idxSl ev_sl hi,W_fld fl_ev2 (by decide)]
   refine W.load1 ev_int_1 (v:= .int .i64 x2) ((hO 2 _ g2).ext z1 fun h=>h) ?_
   have z2:=z1.thenRd hb0 (B+(0+0*9+2))
   simp only[W_add64,W_maxI]
   exact long_next (B:=B) hcx q (by omega) law31_long_S17_18 z2 (by simp[T.get_set,k0]) (by simp[T.get_set];rfl) (by simp[T.get_set,k4])
 have mid: ∀(n':Nat) (tm':T Value) (s':St) (td':List Item),200≤n'→skim 64 td'=law31_long_P7→Ext Any Non s0 s'→T.get tm' 30=some (.bool false)→T.get tm' 0=some (.slice (some ⟨B,0,none⟩) 1 1)→T.get tm' 3=some (.int .i64 0)→T.get tm' 4=some (.int .i64 ((0:Nat):Int))→W (runF envS n' ⟨13,law31_long_nt,law31_long_g,tm',td', .run, .normal,none⟩) s' Q:=by
  intro n' tm' s' td' hn' hT' hx' h30 k0 k3 k4
  refine W.cond (v:=false) hT' law31_long_C7 h30 (by omega) (fun h=>by cases h) fun _=> ?_
  refine law31_long_q10.w law31_long_S7_10 (by omega) ?_
  simp only[law31_long_r10,W_bind,W_oS,W_on,W_pure,W_mv,W_setF,k0,k4,W_idxSl ev_sl hi,W_fld fl_ev0 (by decide)]
  refine W.load1 ev_int_1 (v:= .int .i64 x0) ((hO 0 _ g0).ext hx' fun h=>h) ?_
  have z1:=hx'.thenRd hb0 (B+(0+0*9+0))
  simp only[isK_bool,W_chk,W_pick,W_eql64]
  cases hk:decide (x0=14)with
  |false=>
   simp only[W_pure,reduceIte,isB_ft,W_ifF,reduceCtorEq, ↓reduceIte]
   exact fin3 _ _ _ _ (by omega) law31_long_S10_12 z1 (by simp[T.get_set]) (by simp[T.get_set,k0]) (by simp[T.get_set,k3]) (by simp[T.get_set,k4])
  |true=>
   simp only[W_oS,W_pure,reduceIte,isB_tt,W_ifT, ↓reduceIte,W_idxSl ev_sl hi,W_fld fl_ev2 (by decide)]
   refine W.load1 ev_int_1 (v:= .int .i64 x2) ((hO 2 _ g2).ext z1 fun h=>h) ?_
   have z2:=z1.thenRd hb0 (B+(0+0*9+2))
   simp only[W_gtr64]
   cases hm:decide ((300:Int)<x2)with
   |true=>exact fin2 _ _ _ _ (by omega) law31_long_S10_12 z2 (by simp[T.get_set])
   |false=>exact fin3 _ _ _ _ (by omega) law31_long_S10_12 z2 (by simp[T.get_set]) (by simp[T.get_set,k0]) (by simp[T.get_set,k3]) (by simp[T.get_set,k4])
 cases b with
 |true=>
  try simp only[W_pure,reduceIte,isK_bool,isB_tf,W_chk,W_ifF,W_pick, ↓reduceIte]
  exact fin _ _ _ _ (by omega) law31_long_S5_7 y2 (by simp[T.get_set])
 |false=>
  simp only[W_oS,W_pure,reduceIte,isK_bool,isB_ff,W_chk,W_ifT,W_pick,reduceCtorEq, ↓reduceIte,W_idxSl ev_sl hi,W_fld fl_ev5 (by decide)]
  refine W.load1 ev_is_1 (v:= .slice pk nk ck) ((hO 8 _ g8).ext y2 fun h=>h) ?_
  have y3:=y2.thenRd hb0 (B+(0+0*9+8))
  simp only[W_gtr64,W_lenSl ev_is]
  cases hk:decide ((60:Int)<((nk:Nat):Int))with
  |true=>
   try simp only[W_bind,W_oS,W_on,W_pure,W_mv,W_setF,W_setT,T.get_set,seqO_cons,seqO_nil,seqP_cons,seqP_nil,onO_some',W_callV,reduceIte,isK_bool,isB_tt,isB_tf,isB_ft,isB_ff,W_chk,W_ifT,W_ifF,W_pick,W_nil,Nat.reduceEqDiff,Nat.reduceEqDiff,reduceCtorEq, ↓reduceIte]
   exact fin _ _ _ _ (by omega) law31_long_S5_7 y3 (by simp[T.get_set])
  |false=>
   try simp only[W_bind,W_oS,W_on,W_pure,W_mv,W_setF,W_setT,T.get_set,seqO_cons,seqO_nil,seqP_cons,seqP_nil,onO_some',W_callV,reduceIte,isK_bool,isB_tt,isB_tf,isB_ft,isB_ff,W_chk,W_ifT,W_ifF,W_pick,W_nil,Nat.reduceEqDiff,Nat.reduceEqDiff,reduceCtorEq, ↓reduceIte]
   exact mid _ _ _ _ (by omega) law31_long_S5_7 y3 (by simp[T.get_set]) (by simp[T.get_set,h0]) (by simp[T.get_set,h3]) (by simp[T.get_set,h4])
end
theorem law31_long_spec {n len nk ck B:Nat}{x0 x2:Int}{us:List Value}{vl:Value}{pk:Option Addr}{s:St}{Q:Value→St→Prop}(hb:s.lim≤s.next)(hO:Row s B 0 us)(g0:us[0]?=some (.int .i64 x0))(g2:us[2]?=some (.int .i64 x2))(g7:us[7]?=some vl)(g8:us[8]?=some (.slice pk nk ck))(he:EnR s vl len)(hn:500≤n)
  (q: ∀b s1,Ext Any Non s s1→Q (.bool b) s1):W (callW envS (runF envS n) 13 [.slice (some ⟨B,0,none⟩) 1 1]) s Q:=by
 refine law31_long_W fun tm h0=> ?_
 refine law31_long_q0.w rfl (by omega) ?_
 simp only[law31_long_r0,W_pure,W_mv,W_setF]
 refine law31_long_q1.w law31_long_S0_1 (by omega) ?_
 simp only[law31_long_r1,W_pure,W_mv,W_setF]
 refine law31_long_q2.w law31_long_S1_2 (by omega) ?_
 simp only[law31_long_r2,W_pure,W_mv,W_setF]
 exact long_round (s0:=s.cxN cxN) hb rfl (fun b s1 x1=>q b _ x1.cx') (fun i v e=>(hO i v e).same rfl rfl) g0 g2 g7 g8 (he.same rfl rfl) (by omega) law31_long_S2_3 (Ext.refl _) (by simp[T.get_set,h0]) (by simp[T.get_set]) (by simp[T.get_set])
end Go.Proofs.YtapojfiplajfaaaGreatDoor.Am
/- satchellaw31.WorldNone:a round;the whole. -/
namespace Go.Proofs.YtapojfiplajfaaaGreatDoor.Am
open Go.RowKit
theorem ev_9:tyS envS 43=some (9,true):=by kernel_rfl
def zEv:List Value:=[.int .i64 0, .int .i64 0, .int .i64 0, .int .i64 0, .int .i64 0, .int .i64 0, .int .i64 0, .slice none 0 0, .slice none 0 0]
theorem ev_el:elT envS 52=some (9,104,zEv):=by kernel_rfl
theorem fill_ev {us:List Value}(hu:us.length=9):fillAll (fun k=>some (k*9,9)) [(0, .agg us.toArray)] (rep 1 zEv)=some us:=by
 match us,hu with
 |[a0,a1,a2,a3,a4,a5,a6,a7,a8],_=>rfl
theorem sl_td:slN envS 62=some 4:=by kernel_rfl
theorem sl_ls:slN envS 64=some 4:=by kernel_rfl
theorem sl_dg:slN envS 67=some 3:=by kernel_rfl
theorem none_ask {n O:Nat}{us:List Value}{va vn:Value}{tm:T Value}{s:St}{td:List Item}{Q:Value×FrameMode→St→Prop}(hb:s.lim≤s.next)(ha:WoN s va)(hu:us.length=9)(hO:Row s O 0 us)
  (h1:T.get tm 1=some vn) (h2:T.get tm 2=some (.pointer (some ⟨O,0,none⟩))) (h7:T.get tm 7=some va) (h8:T.get tm 8=some (.slice none 0 0)) (h9:T.get tm 9=some (.int .i64 1)) (hT:skim 64 td=law31_None_P13) (hn:300≤n)
  (q: ∀(n1:Nat) (s1:St) (tm1:T Value) (td1:List Item),n-1≤n1→skim 64 td1=law31_None_P14→Ext Any Non s s1→(∀j,j≠81→T.get tm1 j=T.get tm j)→T.get tm1 81=some (.bool false)→W (runF envS n1 ⟨4,law31_None_nt,law31_None_g,tm1,td1, .run, .normal,none⟩) s1 Q):
  W (runF envS n ⟨4,law31_None_nt,law31_None_g,tm,td, .run, .normal,none⟩) s Q:=by
 have e1:(!decide ((1:Int)=1))=false:=rfl
 have e0:(!decide ((0:Int)=0))=false:=rfl
 have eT:(!decide True)=false:=rfl
 have e00:decide ((0:Int)<((0:Nat):Int))=false:=rfl
 refine law31_None_q13.w hT (by omega) ?_
 simp only[law31_None_r13,W_bind,W_oS,W_on,W_pure,W_mv,W_setF,seqO_cons,seqO_nil,onO_some',W_callV,h1,h2,h7,h8,h9]
 refine W.loadA ev_9 hO hu fun sa ma na xa=> ?_
 have ya:Ext Any Non s sa:=xa.any hb
 try simp only[W_bind,W_oS,W_on,W_pure,W_mv,W_setF,W_setT,T.get_set,seqO_cons,seqO_nil,seqP_cons,seqP_nil,onO_some',W_callV,reduceIte,isK_bool,isB_tt,isB_tf,isB_ft,isB_ff,W_chk,W_ifT,W_ifF,W_pick,W_nil,Nat.reduceEqDiff,Nat.reduceEqDiff,reduceCtorEq, ↓reduceIte]
 refine wo_Do_spec (ya.bnd hb) (ha.ext0 ya) (by omega) fun sb xb=> ?_
 have yb:=ya.then0 xb hb
 simp only[W_oS,W_on,W_pure,W_callV,reduceIte,isK_bool,isB_ff,W_chk,W_ifT,W_pick,reduceCtorEq, ↓reduceIte,W_neq64,eT]
 refine wo_Told_spec (yb.bnd hb) (ha.ext0 yb) (by omega) fun sc xc=> ?_
 have yc:=yb.then0 xc hb
 simp only[W_oS,W_on,W_pure,W_callV,reduceIte,isK_bool,isB_ff,W_chk,W_ifT,W_pick,reduceCtorEq, ↓reduceIte,W_gtr64,e00,W_lenSl sl_td]
 refine wo_Busy_spec (yc.bnd hb) (ha.ext0 yc) (by omega) fun sd xd=> ?_
 have yd:=yc.then0 xd hb
 simp only[W_oS,W_on,W_pure,W_callV,reduceIte,isK_bool,isB_ff,W_chk,W_ifT,W_pick,reduceCtorEq, ↓reduceIte]
 refine wo_List_spec (yd.bnd hb) (ha.ext0 yd) (by omega) fun se xe=> ?_
 have ye:=yd.then0 xe hb
 simp only[W_oS,W_on,W_pure,W_callV,reduceIte,isK_bool,isB_ff,W_chk,W_ifT,W_pick,reduceCtorEq, ↓reduceIte,W_gtr64,W_neq64,e00,eT,W_lenSl sl_ls,W_lenSl an_en]
 refine wo_Up_spec (ye.bnd hb) (ha.ext0 ye) (by omega) fun sf xf=> ?_
 have yf:=ye.then0 xf hb
 simp only[W_oS,W_on,W_pure,W_callV,reduceIte,isK_bool,isB_ff,W_chk,W_ifT,W_pick,reduceCtorEq, ↓reduceIte]
 refine wo_Now_spec (yf.bnd hb) (ha.ext0 yf) (by omega) fun sg xg=> ?_
 have yg:=yf.then0 xg hb
 simp only[W_oS,W_on,W_pure,W_callV,reduceIte,isK_bool,isB_ff,W_chk,W_ifT,W_pick,reduceCtorEq, ↓reduceIte,W_neq64,eT]
 refine wo_Mail_spec (yg.bnd hb) (ha.ext0 yg) (by omega) fun sh xh=> ?_
 have yh:=yg.then0 xh hb
 simp only[W_gtr64,e00,W_lenSl sl_dg]
 exact q _ _ _ _ (Nat.le_refl _) law31_None_S13_14 yh (fun j hj=>by rw[T.get_set,if_neg hj]) (by rw[T.get_set,if_pos rfl])
def zWo:List Value:=[.int .i64 0, .int .i64 0, .int .i64 0, .int .i64 0, .int .i64 0, .int .i64 0, .int .i64 0, .float .f64 0, .int .i64 0, .int .i64 0, .pointer none, .pointer none, .slice none 0 0, .slice none 0 0]
theorem wo_b:buildN envS 58 []=some zWo:=by kernel_rfl
theorem sl_wos:slN envS 59=some 1:=by kernel_rfl
theorem el_wos:elT envS 59=some (1,8,[.pointer none]):=by kernel_rfl
theorem fill_wos (A:Addr):fillAll (fun k=>some (k*1,1)) [(0, .pointer none),(1, .pointer (some A))] (rep 2 [.pointer none])=some [.pointer none, .pointer (some A)]:=rfl
theorem orc_awakeN:envS.orc.get 11=some (closedM (.bool true)):=by kernel_rfl
section
variable {O B:Nat}{us:List Value}{vn:Value}{Q:Value×FrameMode→St→Prop}{s0:St}
/-- A round. -/
theorem none_round {n i:Nat}{va:Value}{tm:T Value}{s:St}{td:List Item}(hb0:s0.lim≤s0.next)(hx:Ext Any Non s0 s)(ha:WoN s0 va)(hu:us.length=9)(hO:Row s0 O 0 us)(hB:At s0 B (0+i*1) va)(hi:i<2)(hn:400≤n)(hT:skim 64 td=law31_None_P7)
  (h1:T.get tm 1=some vn) (h2:T.get tm 2=some (.pointer (some ⟨O,0,none⟩))) (h5:T.get tm 5=some (.slice (some ⟨B,0,none⟩) 2 2)) (h6:T.get tm 6=some (.int .i64 (i:Nat)))
  (q: ∀(n1:Nat) (s1:St) (tm1:T Value) (td1:List Item),n-20≤n1→skim 64 td1=law31_None_P7→Ext Any Non s0 s1→T.get tm1 1=some vn→T.get tm1 2=some (.pointer (some ⟨O,0,none⟩))→T.get tm1 5=some (.slice (some ⟨B,0,none⟩) 2 2)→T.get tm1 6=some (.int .i64 ((i+1:Nat):Int))→W (runF envS n1 ⟨4,law31_None_nt,law31_None_g,tm1,td1, .run, .normal,none⟩) s1 Q):
  W (runF envS n ⟨4,law31_None_nt,law31_None_g,tm,td, .run, .normal,none⟩) s Q:=by
 have ei:decide (((i:Nat):Int)<((2:Nat):Int))=true:=decide_eq_true (by omega)
 refine law31_None_q7.w hT (by omega) ?_
 simp only[law31_None_r7,W_bind,W_oS,W_pure,W_mv,W_setF,seqO_cons,seqO_nil,onO_some',W_lss64,h5,h6,W_lenSl sl_wos,ei]
 refine W.cond (v:=true) law31_None_S7_8 law31_None_C8 (by simp[T.get_set]) (by omega) (fun _=> ?_) fun h=>by cases h
 refine law31_None_q9.w law31_None_S8_9 (by omega) ?_
 simp only[law31_None_r9,W_bind,W_oS,W_pure,W_mv,W_setF,T.get_set,reduceIte,Nat.reduceEqDiff,Nat.reduceEqDiff, ↓reduceIte,h5,h6,W_idxSl sl_wos hi]
 refine W.load1 ty_wo_1 (hB.ext hx fun h=>h) ?_
 have y1:=hx.thenRd hb0 (B+(0+i*1))
 try simp only[W_bind,W_oS,W_on,W_pure,W_mv,W_setF,W_setT,T.get_set,seqO_cons,seqO_nil,seqP_cons,seqP_nil,onO_some',W_callV,reduceIte,isK_bool,isB_tt,isB_tf,isB_ft,isB_ff,W_chk,W_ifT,W_ifF,W_pick,W_nil,Nat.reduceEqDiff,Nat.reduceEqDiff,reduceCtorEq, ↓reduceIte]
 refine law31_None_q11.w law31_None_S9_11 (by omega) ?_
 simp only[law31_None_r11,W_bind,W_oS,W_on,W_pure,W_mv,W_setF,T.get_set,seqO_cons,seqO_nil,onO_some',W_callV,reduceIte,Nat.reduceEqDiff,Nat.reduceEqDiff, ↓reduceIte,h1]
 refine wo_Tree_spec (y1.bnd hb0) (ha.ext0 y1) (by omega) fun s2 x2=> ?_
 have y2:=y1.then0 x2 hb0
 rw[W_ext (k:=0) rfl,W_ext (k:=1) rfl]
 try simp only[W_bind,W_oS,W_on,W_pure,W_mv,W_setF,W_setT,T.get_set,seqO_cons,seqO_nil,seqP_cons,seqP_nil,onO_some',W_callV,reduceIte,isK_bool,isB_tt,isB_tf,isB_ft,isB_ff,W_chk,W_ifT,W_ifF,W_pick,W_nil,Nat.reduceEqDiff,Nat.reduceEqDiff,reduceCtorEq, ↓reduceIte]
 refine none_ask (vn:=vn) (y2.bnd hb0) (ha.ext0 y2) hu (hO.ext0 y2) (by simp[T.get_set,h1]) (by simp[T.get_set,h2]) (by simp[T.get_set]) (by simp[T.get_set]) (by simp[T.get_set]) law31_None_S11_13 (by omega) fun n6 s6 tm6 td6 hn6 hT6 x6 hs6 h81=> ?_
 have y6:=y2.then0 x6 hb0
 refine W.cond (v:=false) hT6 law31_None_C14 h81 (by omega) (fun h=>by cases h) fun _=> ?_
 refine law31_None_q16.w law31_None_S14_16 (by omega) ?_
 have ew:wrap64 ((i:Nat)+1:Int)=((i+1:Nat):Int):=by
  rw[wrap64_id (by omega) (by omega)];simp
 have g6:T.get tm6 6=some (.int .i64 (i:Nat)):=by rw[hs6 6 (by decide)];simp[T.get_set,h6]
 simp only[law31_None_r16,W_bind,W_oS,W_pure,W_mv,W_setF,W_add64,g6,ew]
 exact q _ _ _ _ (by omega) law31_None_S16_7 y6 (by simp[T.get_set,hs6,h1]) (by simp[T.get_set,hs6,h2]) (by simp[T.get_set,hs6,h5]) (by simp[T.get_set])
end
theorem none_W {n len nk ck:Nat}{x0 x2:Int}{us:List Value}{vl vn:Value}{pk:Option Addr}{s:St}(hb:s.lim≤s.next)(hu:us.length=9)(g0:us[0]?=some (.int .i64 x0))(g2:us[2]?=some (.int .i64 x2))(g7:us[7]?=some vl)(g8:us[8]?=some (.slice pk nk ck))(he:EnR s vl len)(hn:3000≤n):
  W (callW envS (runF envS n) 4 [.agg us.toArray,vn]) s fun u _=>u= .bool true:=by
 refine law31_None_W fun tm h0 h1=> ?_
 refine law31_None_q0.w rfl (by omega) ?_
 simp only[law31_None_r0,W_bind,W_oS,W_pure,W_mv,W_setF,h0]
 refine W.box fun sa na xa oa=> ?_
 rw[cellsOf_agg]at oa
 have oa':OwnRow sa s.next 0 us:=oa
 have ya:Ext Any Non (s.cxN cxN) sa:=xa.any hb
 try simp only[W_bind,W_oS,W_on,W_pure,W_mv,W_setF,W_setT,T.get_set,seqO_cons,seqO_nil,seqP_cons,seqP_nil,onO_some',W_callV,reduceIte,isK_bool,isB_tt,isB_tf,isB_ft,isB_ff,W_chk,W_ifT,W_ifF,W_pick,W_nil,Nat.reduceEqDiff,Nat.reduceEqDiff,reduceCtorEq, ↓reduceIte]
 refine law31_None_q1.w law31_None_S0_1 (by omega) ?_
 simp only[law31_None_r1,W_bind,W_oS,W_on,W_pure,W_setF,T.get_set,seqO_cons,seqO_nil,seqP_cons,seqP_nil,onO_some',W_callV,reduceIte,Nat.reduceEqDiff,Nat.reduceEqDiff, ↓reduceIte]
 refine W.loadA ev_9 oa'.row hu fun sb mb nb xb=> ?_
 have yb:=ya.then0 xb hb
 have hbb:=yb.bnd (s:=s.cxN cxN) hb
 try simp only[W_bind,W_oS,W_on,W_pure,W_mv,W_setF,W_setT,T.get_set,seqO_cons,seqO_nil,seqP_cons,seqP_nil,onO_some',W_callV,reduceIte,isK_bool,isB_tt,isB_tf,isB_ft,isB_ff,W_chk,W_ifT,W_ifF,W_pick,W_nil,Nat.reduceEqDiff,Nat.reduceEqDiff,reduceCtorEq, ↓reduceIte]
 refine W.buildS hbb ev_el (by decide) (fill_ev hu) (capU_gt (by decide)) fun sc nc xc oc=> ?_
 have yc:=yb.then0 xc hb
 try simp only[W_bind,W_oS,W_on,W_pure,W_mv,W_setF,W_setT,T.get_set,seqO_cons,seqO_nil,seqP_cons,seqP_nil,onO_some',W_callV,reduceIte,isK_bool,isB_tt,isB_tf,isB_ft,isB_ff,W_chk,W_ifT,W_ifF,W_pick,W_nil,Nat.reduceEqDiff,Nat.reduceEqDiff,reduceCtorEq, ↓reduceIte]
 refine law31_long_spec (yc.bnd (s:=s.cxN cxN) hb) oc.row g0 g2 g7 g8 ((he.same (s':=s.cxN cxN) rfl rfl).ext0 yc) (by omega) fun b s1 x1=> ?_
 have y1:=yc.then0 x1 hb
 have hb1:=y1.bnd (s:=s.cxN cxN) hb
 have o1:Row s1 s.next 0 us:=((oa'.row.ext0 xb).ext0 xc).ext0 x1
 try simp only[W_bind,W_oS,W_on,W_pure,W_mv,W_setF,W_setT,T.get_set,seqO_cons,seqO_nil,seqP_cons,seqP_nil,onO_some',W_callV,reduceIte,isK_bool,isB_tt,isB_tf,isB_ft,isB_ff,W_chk,W_ifT,W_ifF,W_pick,W_nil,Nat.reduceEqDiff,Nat.reduceEqDiff,reduceCtorEq, ↓reduceIte]
 cases b with
 |true=>
  refine W.cond (v:=true) law31_None_S1_2 law31_None_C2 (by simp[T.get_set]) (by omega) (fun _=> ?_) fun h=>by cases h
  refine law31_None_q3.w law31_None_S2_3 (by omega) ?_
  simp only[law31_None_r3,W_bind,W_on,W_pure,W_mv,W_setF,seqO_nil,W_callV]
  refine W.orc orc_awakeN (W.pure ?_)
  exact W.end' (rs:=[4]) (vs:=[.bool true]) law31_None_S3_5 (.inl law31_None_E5) (by omega) law31_None_fn law31_None_res y1.cx (by simp[T.get_set]) rfl
 |false=>
  refine W.cond (v:=false) law31_None_S1_2 law31_None_C2 (by simp[T.get_set]) (by omega) (fun h=>by cases h) fun _=> ?_
  refine law31_None_q4.w law31_None_S2_4 (by omega) ?_
  simp only[law31_None_r4,W_bind,W_oS,W_pure,W_mv,W_setF,seqP_cons,seqP_nil,onO_some',W_build wo_b]
  refine W.box fun s2 n2 x2 o2=> ?_
  rw[cellsOf_agg]at o2
  have o2':OwnRow s2 s1.next 0 zWo:=o2
  have y2:=y1.then0 x2 hb
  have hb2:=y2.bnd (s:=s.cxN cxN) hb
  try simp only[W_bind,W_oS,W_on,W_pure,W_mv,W_setF,W_setT,T.get_set,seqO_cons,seqO_nil,seqP_cons,seqP_nil,onO_some',W_callV,reduceIte,isK_bool,isB_tt,isB_tf,isB_ft,isB_ff,W_chk,W_ifT,W_ifF,W_pick,W_nil,Nat.reduceEqDiff,Nat.reduceEqDiff,reduceCtorEq, ↓reduceIte]
  refine W.buildS hb2 el_wos (by decide) (fill_wos _) (capU_gt (by decide)) fun s3 n3 x3 o3=> ?_
  have y3:=y2.then0 x3 hb
  have hb3:=y3.bnd (s:=s.cxN cxN) hb
  have hwo:WoN s3 (.pointer (some ⟨s1.next,0,none⟩)):=WoN.ext0 (.inr ⟨_,rfl,(o2' 10 _ rfl).at'⟩) x3
  have oO:Row s3 s.next 0 us:=(o1.ext0 x2).ext0 x3
  try simp only[W_bind,W_oS,W_on,W_pure,W_mv,W_setF,W_setT,T.get_set,seqO_cons,seqO_nil,seqP_cons,seqP_nil,onO_some',W_callV,reduceIte,isK_bool,isB_tt,isB_tf,isB_ft,isB_ff,W_chk,W_ifT,W_ifF,W_pick,W_nil,Nat.reduceEqDiff,Nat.reduceEqDiff,reduceCtorEq, ↓reduceIte]
  refine law31_None_q6.w law31_None_S4_6 (by omega) ?_
  simp only[law31_None_r6,W_pure,W_mv,W_setF]
  refine none_round (s0:=s3) (O:=s.next) (B:=s2.next) (vn:=vn) (i:=0) (va:= .pointer none) hb3 (Ext.refl _) (.inl rfl) hu oO (o3 0 _ rfl).at' (by decide) (by omega) law31_None_S6_7 (by simp[T.get_set,h1]) (by first|(simp[T.get_set];done)|(simp[T.get_set];rfl)) (by first|(simp[T.get_set];done)|(simp[T.get_set];rfl)) (by simp[T.get_set]) fun n4 s4 tm4 td4 hn4 hT4 x4 k1 k2 k5 k6=> ?_
  refine none_round (s0:=s3) (O:=s.next) (B:=s2.next) (vn:=vn) (i:=1) hb3 x4 hwo hu oO (o3 1 _ rfl).at' (by decide) (by omega) hT4 k1 k2 k5 k6 fun n5 s5 tm5 td5 hn5 hT5 x5 _ _ j5 j6=> ?_
  have y5:=y3.then0 x5 hb
  refine law31_None_q7.w hT5 (by omega) ?_
  have e2:decide (((1+1:Nat):Int)<((2:Nat):Int))=false:=rfl
  simp only[law31_None_r7,W_bind,W_oS,W_pure,W_mv,W_setF,seqO_cons,seqO_nil,onO_some',W_lss64,j5,j6,W_lenSl sl_wos,e2]
  refine W.cond (v:=false) law31_None_S7_8 law31_None_C8 (by simp[T.get_set]) (by omega) (fun h=>by cases h) fun _=> ?_
  refine law31_None_q10.w law31_None_S8_10 (by omega) ?_
  simp only[law31_None_r10,W_bind,W_on,W_pure,W_mv,W_setF,seqO_nil,W_callV]
  refine W.orc orc_awakeN (W.pure ?_)
  try simp only[W_bind,W_oS,W_on,W_pure,W_mv,W_setF,W_setT,T.get_set,seqO_cons,seqO_nil,seqP_cons,seqP_nil,onO_some',W_callV,reduceIte,isK_bool,isB_tt,isB_tf,isB_ft,isB_ff,W_chk,W_ifT,W_ifF,W_pick,W_nil,Nat.reduceEqDiff,Nat.reduceEqDiff,reduceCtorEq, ↓reduceIte]
  exact W.end' (rs:=[4]) (vs:=[.bool true]) law31_None_S10_12 (.inl law31_None_E12) (by omega) law31_None_fn law31_None_res y5.cx (by simp[T.get_set]) rfl
end Go.Proofs.YtapojfiplajfaaaGreatDoor.Am
/- satchellaw31.WorldNone:its contract. -/
namespace Go.Proofs.YtapojfiplajfaaaGreatDoor.Am
open Go.RowKit Go.ChangeShapes Go.WideShapes
def fieldsB (P:Program)(t:TypeId)(l:List (TypeId×Nat)):Bool:=match P.underlying t with
 |some (.struct fs)=>decide (fs.toList.map (fun x=>(x.type,x.offset))=l)
 |_=>false
theorem HoldsT.struct {P:Program}{N F:Nat}{s:St}{t:TypeId}{us:List Value}{l:List (TypeId×Nat)}(hb:fieldsB P t l=true)(h:HoldsT P N s (F+1) t us):us.length=P.cellsOf t∧ ∀x∈l,HoldsT P N s F x.1 ((us.drop x.2).take (P.cellsOf x.1)):=by
 unfold fieldsB at hb
 unfold HoldsT at h
 cases hu:P.underlying t with
 |none=>rw[hu]at hb;cases hb
 |some u=>
  rw[hu]at hb h
  cases u<;>try (cases hb;done)
  have e:=of_decide_eq_true hb
  refine⟨h.1,fun x hx=> ?_⟩
  rw[←e]at hx
  obtain⟨y,hy,rfl⟩:=List.mem_map.1 hx
  exact h.2 y hy
theorem HoldsT.string' {P:Program}{N F:Nat}{s:St}{t:TypeId}{us:List Value}(hu:P.underlying t=some .string)(h:HoldsT P N s (F+1) t us): ∃x:ByteArray,us=[.string x]:=by
 unfold HoldsT at h
 rw[hu]at h
 obtain⟨x,e,_⟩:=h
 exact⟨x,e⟩
theorem HoldsT.slice' {P:Program}{N F:Nat}{s:St}{t e:TypeId}{us:List Value}(hu:P.underlying t=some (.slice e))(h:HoldsT P N s (F+1) t us): ∃p n c,us=[.slice p n c]:=by
 unfold HoldsT at h
 rw[hu]at h
 rcases h with h|h|⟨b,n,c,h,_⟩
 ·exact⟨_,_,_,h⟩
 ·exact⟨_,_,_,h⟩
 ·exact⟨_,_,_,h⟩
theorem HoldsA.one {P:Program}{N F:Nat}{s:St}{t:TypeId}{u:Value}(hb:aggT P t=false)(h:HoldsA P N s F t u):HoldsT P N s F t [u]:=by
 obtain⟨us,h1,⟨h2,_⟩|⟨_,rfl⟩⟩:=h
 ·rw[hb]at h2;cases h2
 ·exact h1
theorem HoldsA.agg {P:Program}{N F:Nat}{s:St}{t:TypeId}{u:Value}(hb:aggT P t=true)(h:HoldsA P N s F t u): ∃us,u= .agg us.toArray∧HoldsT P N s F t us:=by
 obtain⟨us,h1,⟨_,h2⟩|⟨h2,_⟩⟩:=h
 ·exact⟨us,h2,h1⟩
 ·rw[hb]at h2;cases h2
theorem HoldsT.int' {P:Program}{N F:Nat}{s:St}{t:TypeId}{us:List Value}{k:IntKind}(hu:P.underlying t=some (.int k))(h:HoldsT P N s (F+1) t us): ∃x:Int,us=[.int k x]:=by
 unfold HoldsT at h
 rw[hu]at h
 obtain⟨x,e,_⟩:=h
 exact⟨x,e⟩
theorem envS_P:envS.P=Tryz.prog:=by kernel_rfl
theorem und_int:Tryz.prog.underlying 3=some (.int .i64):=by kernel_rfl
theorem und_is:Tryz.prog.underlying 41=some (.slice 3):=by kernel_rfl
theorem und_str:Tryz.prog.underlying 9=some .string:=by kernel_rfl
theorem und_by:Tryz.prog.underlying 100=some (.slice 5):=by kernel_rfl
theorem und_en:Tryz.prog.underlying 38=some (.slice 102):=by kernel_rfl
theorem cel_en:Tryz.prog.cellsOf 102=5:=by kernel_rfl
theorem cel_en_k:Tryz.prog.cellsOf 102<1024:=by rw[cel_en];decide
theorem cel_ask:Tryz.prog.cellsOf 40=4:=by kernel_rfl
theorem cel_ev:Tryz.prog.cellsOf 43=9:=by kernel_rfl
theorem cel_int:Tryz.prog.cellsOf 3=1:=by kernel_rfl
theorem cel_is:Tryz.prog.cellsOf 41=1:=by kernel_rfl
theorem cel_str:Tryz.prog.cellsOf 9=1:=by kernel_rfl
theorem cel_by:Tryz.prog.cellsOf 100=1:=by kernel_rfl
theorem cel_ens:Tryz.prog.cellsOf 38=1:=by kernel_rfl
theorem fie_en:fieldsB Tryz.prog 102 [(9,0),(3,1),(3,2),(100,3),(9,4)]=true:=by kernel_rfl
theorem fie_ask:fieldsB Tryz.prog 40 [(3,0),(3,1),(3,2),(38,3)]=true:=by kernel_rfl
theorem fie_ev:fieldsB Tryz.prog 43 [(3,0),(3,1),(3,2),(3,3),(40,4),(41,8)]=true:=by kernel_rfl
theorem agg_ev:aggT Tryz.prog 43=true:=by kernel_rfl
attribute [local irreducible] HoldsT
theorem held_entries {N F:Nat}{s:St}{us:List Value}(h:HoldsT Tryz.prog N s (F+4) 38 us): ∃v k,us=[v]∧EnR s v k:=by
 obtain⟨v,es,rfl,hE,_,_,ha⟩:=HoldsT.slice (P:=Tryz.prog) (F:=F+3) (t:=38) (e:=102) und_en cel_en_k h
 rw[cel_en]at hE
 refine⟨v,es.length,rfl, ?_⟩
 rcases hE with⟨rfl,rfl⟩|⟨b,c,rfl,_,_,hr⟩
 ·exact .inl ⟨rfl,rfl⟩
 ·refine .inr ⟨b,0,c,rfl,fun i hi=> ?_⟩
  obtain⟨hx5,hx⟩:=ha _ (List.getElem_mem hi)
  rw[cel_en]at hx5
  have hr':=hr i _ (List.getElem?_eq_getElem hi)
  obtain⟨_,hx⟩:=hx.struct fie_en
  have k0:=hx (9,0) (by simp)
  have k3:=hx (100,3) (by simp)
  have k4:=hx (9,4) (by simp)
  simp only[cel_str,cel_by]at k0 k3 k4
  obtain⟨x,e0⟩:=k0.string' und_str
  obtain⟨p,n,c1,e3⟩:=k3.slice' und_by
  obtain⟨y,e4⟩:=k4.string' und_str
  clear k0 k3 k4 hx ha
  generalize es[i]=l at e0 e3 e4 hx5 hr'
  match l,hx5,e0,e3,e4,hr' with
  |[a0,a1,a2,a3,a4],_,e0,e3,e4,hr'=>
   cases e0
   cases e3
   cases e4
   rw[Nat.zero_add]
   exact⟨x,y,p,n,c1,hr' 0 _ rfl,hr' 3 _ rfl,hr' 4 _ rfl⟩
theorem none_params:Tryz.f4.params.toList=[43,3]:=by kernel_rfl
theorem none_orc:envS.orc.get 4=none:=by kernel_rfl
theorem none_ext:envS.ext.get 4=none:=by kernel_rfl
theorem none_flat:[43,3].all (flatT Tryz.prog 8)=true:=by kernel_rfl
set_option maxRecDepth 1000000 in
theorem walkNone {H:Type}{enc:TypeId×Value→H}{w:World}{base:Nat}{args:Array Value}{ds:List (DataW H)}{ps:List MemPlace}(hA:DataW.TrodAll enc Tryz.prog w 0 (fun _=>true) true Tryz.f4.params.toList args.toList ds ps)
  (hv: ∀(j:Nat) t v,Tryz.f4.params[j]?=some t→args[j]?=some v→Value.okWide Tryz.prog w .any base t v):Calls Tryz.prog 4 args w fun e w'=>e= .returned (.bool true)∧Below w.heap.size w w':=by
 have hv': ∀(j:Nat) t v,[43,3][j]?=some t→args.toList[j]?=some v→Value.okWide Tryz.prog w .any base t v:=fun j t v e1 e2=>by
  rw[←none_params]at e1
  rw[Array.getElem?_toList]at e1 e2
  exact hv j t v e1 e2
 rw[none_params]at hA
 have h:=calls_args (E:=envS) (fuel:=4000) (f:=4) (F:=8) (N:=maxLen) (v:= .bool true) (ts:=[43,3]) envS_ok none_orc none_ext rfl (by rw[envS_P];exact hA) (by rw[envS_P];exact hv') (by rw[envS_P];exact none_flat) (.inl (Nat.le_refl _)) (fun m nx us hus hu=>by
  rw[envS_P]at hu
  match us,hus,hu with
  |[u0,u1],_,hu=>
   obtain⟨l,rfl,k0⟩:=(hu 0 _ u0 rfl rfl).agg agg_ev
   obtain⟨hl,k0⟩:=k0.struct fie_ev
   rw[cel_ev]at hl
   have f0:=k0 (3,0) (by simp)
   have f2:=k0 (3,2) (by simp)
   have f4:=k0 (40,4) (by simp)
   have f8:=k0 (41,8) (by simp)
   simp only[cel_int,cel_ask,cel_is]at f0 f2 f4 f8
   obtain⟨x0,e0⟩:=f0.int' und_int
   obtain⟨x2,e2⟩:=f2.int' und_int
   obtain⟨p,nk,c,e8⟩:=f8.slice' und_is
   obtain⟨_,k4⟩:=f4.struct fie_ask
   have k3:=k4 (38,3) (by simp)
   simp only[cel_ens]at k3
   obtain⟨v,k,e7,he⟩:=held_entries (F:=2) k3
   clear f0 f2 f4 f8 k0 k4 k3 hu
   match l,hl,e0,e2,e7,e8 with
   |[a0,a1,a2,a3,a4,a5,a6,a7,a8],_,e0,e2,e7,e8=>
    cases e0
    cases e2
    cases e7
    cases e8
    exact none_W (Nat.zero_le _) rfl rfl rfl rfl rfl he (by omega))
 rw[envS_P]at h
 exact h
end Go.Proofs.YtapojfiplajfaaaGreatDoor.Am
