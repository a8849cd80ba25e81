/- pack.Get, said of all states: the whole. -/
import Derived.Test.YtofanlcjeohcjaaMh16
import Derived.Test.YtofanlcjeohcjaaMh13
import Derived.Test.YtofanlcjeohcjaaMh07
import Derived.KernelRfl
namespace Go.Proofs.Ytofanlcjeohcjaa.Am
open Go.RowKit

/-- Is what lies there the chunk of that name? -/
def hitB (l : List Nat) (h : Hd) : Bool := bodyGood l h.2.1 h.2.2 && decide (bodyId l h.2.1 h.2.2 = h.1)
theorem get_spec {n : Nat} {v : Value} {l : List Nat} {h : Hd} {s : St} {Q : Value → St → Prop} (hbd : s.lim ≤ s.next) (hbs : Bs s v l) (hby : Byt l) (hz : l.length ≤ 200000) (hk : h.2.1 ≤ 1000000) (h16 : h.1.length = 16) (hn : 60000 ≤ n)
    (q1 : missB l h = false → hitB l h = true → ∀ s1 w, Ext (BsF v) Non s s1 → Bn s1 w (bodyC l h.2.1 h.2.2) → (∀ x, BsF w x → s.next ≤ x) → Q (.tuple #[w, .int .i64 0]) s1)
    (q2 : missB l h = false → hitB l h = false → ∀ s1, Ext (BsF v) Non s s1 → Q (.tuple #[.slice none 0 0, .int .i64 11]) s1)
    (q3 : missB l h = true → ∀ s1, Ext (BsF v) Non s s1 → Q (.tuple #[.slice none 0 0, .int .i64 6]) s1) : W (callW envS (runF envS n) 27 [v, .agg (heldC h).toArray]) s Q := by
  refine pack_Get_W fun tm h0 h1 => ?_
  have hbs0 : Bs (s.cxN cxN) v l := hbs.same rfl rfl
  have hl18 : (heldC h).length = 18 := heldC_len h16
  refine pack_Get_q0.w rfl (by omega) ?_
  simp -implicitDefEqProofs only [pack_Get_r0, W_bind, W_oS, W_pure, W_mv, W_setF, h1]
  refine W.box fun sa na xa oa => ?_
  have hcel : cellsOf (.agg (heldC h).toArray) = heldC h := rfl
  rw [hcel] at na oa
  have na' : sa.next = s.next + 19 := by rw [na, hl18]; rfl
  have oa' : OwnRow sa s.next 0 (heldC h) := oa
  try simp -implicitDefEqProofs only [W_bind, W_oS, W_on, W_pure, W_mv, W_setF, W_setT, T.get_set, seqO_cons, seqO_nil, seqP_cons, seqP_nil, onO_some', W_callV, reduceIte, isK_bool, isB_tt, isB_tf, isB_ft, isB_ff, W_chk, W_ifT, W_ifF, W_pick, W_nil, Nat.reduceEqDiff, Nat.reduceEqDiff, reduceCtorEq, ↓reduceIte]
  have hxa : Ext (BsF v) Non (s.cxN cxN) sa := (Ext.refl _).step xa hbd (fun _ _ h => h.elim) fun _ h => h.elim
  refine pack_Get_q1.w pack_Get_S0_1 (by omega) ?_
  simp -implicitDefEqProofs only [pack_Get_r1, W_bind, W_oS, W_on, W_pure, W_mv, W_setF, T.get_set, seqO_cons, seqO_nil, onO_some', W_callV, reduceIte, Nat.reduceEqDiff, Nat.reduceEqDiff, reduceCtorEq, ↓reduceIte, h0]
  rw [show (s.cxN cxN).next = s.next from rfl, W_fld ty_h_at (by decide)]
  have o16 : Own sa s.next (0 + 16) (.int .i64 (h.2.1 : Nat)) := oa' 16 _ (heldC_get h16).1
  refine W.load1 ty_int_1' o16.at' ?_
  try simp -implicitDefEqProofs only [W_bind, W_oS, W_on, W_pure, W_mv, W_setF, W_setT, T.get_set, seqO_cons, seqO_nil, seqP_cons, seqP_nil, onO_some', W_callV, reduceIte, isK_bool, isB_tt, isB_tf, isB_ft, isB_ff, W_chk, W_ifT, W_ifF, W_pick, W_nil, Nat.reduceEqDiff, Nat.reduceEqDiff, reduceCtorEq, ↓reduceIte]
  have hxb : Ext (BsF v) Non (s.cxN cxN) (sa.rdN (s.next + (0 + 16))) := hxa.step (Ext.rdN (F := fun x => s.next ≤ x) (G := Non) sa _ fun _ => by omega) hbd (fun x hx h => by
    have h2 : x < s.lim := hx
    have h3 : s.next ≤ x := h
    omega) fun _ h => h.elim
  have ob : OwnRow (sa.rdN (s.next + (0 + 16))) s.next 0 (heldC h) := fun i v e => (oa' i v e).same rfl rfl
  have nb : (sa.rdN (s.next + (0 + 16))).next = s.next + 19 := na'
  generalize sa.rdN (s.next + (0 + 16)) = sb at *
  refine says_spec (hxb.bnd hbd) (hbs0.ext0 hxb) hby (by omega) (by omega) fun sc xc => ?_
  rw [W_ext (k := 0) rfl, W_ext (k := 1) rfl]
  have hxc : Ext (BsF v) Non (s.cxN cxN) sc := hxb.step xc hbd (fun _ _ h => h) fun _ h => h.elim
  have oc : OwnRow sc s.next 0 (heldC h) := fun i v e => (ob i v e).ext0 xc
  have nc : s.next + 19 ≤ sc.next := by have := xc.nxt; omega
  refine get_miss (R := s.next) (h := h) (hbs0.ext0 hxc) (by omega) h16 oc (by simp [T.get_set, h0]) (by simp [T.get_set]) (by simp [T.get_set]) (by simp [T.get_set]) pack_Get_S1_2 (by omega) fun n' sd tm' td' hn' hT' md nd xd hkeep h35 => ?_
  have hxd : Ext (BsF v) Non (s.cxN cxN) sd := hxc.step xd hbd (fun x hx h => by
    have h2 : x < s.lim := hx
    omega) fun _ h => h.elim
  have od : OwnRow sd s.next 0 (heldC h) := fun i v e => (oc i v e).same md nd
  have k0 : T.get tm' 0 = some v := by rw [hkeep 0 (by decide)]; simp [T.get_set, h0]
  have k3 : T.get tm' 3 = some (.pointer (some ⟨s.next, 0, none⟩)) := by rw [hkeep 3 (by decide)]; simp [T.get_set]
  have k6 : T.get tm' 6 = some (.int .i64 ((saysB l h.2.1).1 : Nat)) := by rw [hkeep 6 (by decide)]; simp [T.get_set]
  cases hm : missB l h with
  | true =>
    rw [hm] at h35
    refine W.cond (v := true) hT' pack_Get_C3 h35 (by omega) (fun _ => ?_) fun h => by cases h
    refine pack_Get_q4.w pack_Get_S3_4 (by omega) ?_
    simp -implicitDefEqProofs only [pack_Get_r4, W_pure, W_mv, W_setF]
    exact W.end' (rs := [4, 5]) (vs := [.slice none 0 0, .int .i64 6]) pack_Get_S4_6 (.inl pack_Get_E6) (by omega) pack_Get_fn pack_Get_res hxd.cx (by simp [T.get_set]) (q3 hm _ hxd.cx')
  | false =>
    rw [hm] at h35
    refine W.cond (v := false) hT' pack_Get_C3 h35 (by omega) (fun h => by cases h) fun _ => ?_
    have hm2 := hm
    unfold missB at hm2
    rw [Bool.not_eq_false', Bool.and_eq_true, Bool.and_eq_true, decide_eq_true_eq, decide_eq_true_eq] at hm2
    obtain ⟨⟨p1, p2⟩, p3⟩ := hm2
    have hk6 : h.2.1 + 6 ≤ l.length := by omega
    have hsb : (saysB l h.2.1).1 = h.2.2 := by unfold saysB; rw [if_pos hk6]; exact p2
    have hok : saysOk l h.2.1 = true := by unfold saysB at p1; rw [if_pos hk6] at p1; exact p1
    obtain ⟨g1, g2⟩ := saysOk_in hok
    rw [p2] at g1 g2
    rw [hsb] at k6
    refine pack_Get_q5.w pack_Get_S3_5 (by omega) ?_
    simp -implicitDefEqProofs only [pack_Get_r5, W_bind, W_oS, W_on, W_pure, W_mv, W_setF, seqO_cons, seqO_nil, onO_some', W_callV, k0, k3, k6]
    rw [W_fld ty_h_at (by decide)]
    have o16d : Own sd s.next (0 + 16) (.int .i64 (h.2.1 : Nat)) := od 16 _ (heldC_get h16).1
    refine W.load1 ty_int_1' o16d.at' ?_
    try simp -implicitDefEqProofs only [W_bind, W_oS, W_on, W_pure, W_mv, W_setF, W_setT, T.get_set, seqO_cons, seqO_nil, seqP_cons, seqP_nil, onO_some', W_callV, reduceIte, isK_bool, isB_tt, isB_tf, isB_ft, isB_ff, W_chk, W_ifT, W_ifF, W_pick, W_nil, Nat.reduceEqDiff, Nat.reduceEqDiff, reduceCtorEq, ↓reduceIte]
    have hxe : Ext (BsF v) Non (s.cxN cxN) (sd.rdN (s.next + (0 + 16))) := hxd.step (Ext.rdN (F := fun x => s.next ≤ x) (G := Non) sd _ fun _ => by omega) hbd (fun x hx h => by
      have h2 : x < s.lim := hx
      have h3 : s.next ≤ x := h
      omega) fun _ h => h.elim
    have oe : OwnRow (sd.rdN (s.next + (0 + 16))) s.next 0 (heldC h) := fun i v e => (od i v e).same rfl rfl
    have ne : s.next + 19 ≤ (sd.rdN (s.next + (0 + 16))).next := by show s.next + 19 ≤ sd.next; omega
    generalize sd.rdN (s.next + (0 + 16)) = se at *
    have hbe : se.lim ≤ se.next := hxe.bnd hbd
    -- behind the body: the names are held against each other
    have rest : ∀ (sf : St) (w : Value) (id : List Nat) (g : Bool), Ext (BsF v) Non se sf → id.length = 16 → id = bodyId l h.2.1 h.2.2 → g = bodyGood l h.2.1 h.2.2 → oneCell w = true → (g = true → Bn sf w (bodyC l h.2.1 h.2.2) ∧ ∀ x, BsF w x → se.next ≤ x) →
        W (kExt 0 (.tuple #[.agg (u8l id).toArray, w, .bool g])) sf fun v42 s3 => W (kExt 1 (.tuple #[.agg (u8l id).toArray, w, .bool g])) s3 fun v43 s4 => W (kExt 2 (.tuple #[.agg (u8l id).toArray, w, .bool g])) s4 fun v44 s5 => W (kAlloc envS 26) s5 fun v8 s6 => W (kStore envS 26 v8 v42) s6 fun _ s7 => W (runF envS (n' - 1 - 1) ⟨27, pack_Get_nt, pack_Get_g, T.set (T.set (T.set tm' 8 v8) 9 v43) 10 v44, pack_Get_P5.tail, .run, .normal, none⟩) s7 fun p s1 => Q p.1 (s1.cxN s.cx) := fun sf w id g xf hid hide hge hw1 hw => by
      rw [W_ext (k := 0) rfl, W_ext (k := 1) rfl, W_ext (k := 2) rfl]
      have hxf : Ext (BsF v) Non (s.cxN cxN) sf := hxe.step xf hbd (fun _ _ h => h) fun _ h => h.elim
      have hIl : (u8l id).length = 16 := by rw [u8l_length]; exact hid
      have nf : se.next ≤ sf.next := xf.nxt
      refine W.alloc ty_ID_z fun sg ng xg og => ?_
      have hxg : Ext (BsF v) Non (s.cxN cxN) sg := hxf.step xg hbd (fun _ _ h => h.elim) fun _ h => h.elim
      refine W.store ty_ID_1 hIl (u8l_one _) (fun i hi => (OwnRow.owned og) i (by simpa using hi)) fun sh nh xh oh => ?_
      have oh' : OwnRow sh sf.next 0 (u8l id) := oh
      have hG : ∀ x, In sf.next 0 16 x → sf.next ≤ x := fun x h => by have := h.1; omega
      have hxh : Ext (BsF v) Non (s.cxN cxN) sh := hxg.step xh hbd (fun x hx h => by
        have h2 : x < s.lim := hx
        have := hG x h
        omega) fun x h => by have h3 := hG x h; show s.next ≤ x; omega
      have keep : ∀ b o u, Own sf b o u → Own sh b o u := fun b o u hu => (hu.ext0 xg).ext xh fun h => by have := hG _ h; have := hu.1; omega
      have oh18 : OwnRow sh s.next 0 (heldC h) := fun i v e => keep _ _ _ ((oe i v e).ext0 xf)
      refine pack_Get_q7.w pack_Get_S5_7 (by omega) ?_
      have fin : ∀ (si : St) (tm2 : T Value) (td2 : List Item) (b : Bool), Ext (BsF v) Non (s.cxN cxN) si → (∀ x, x < sf.next → T.get si.mem x = T.get sh.mem x) → sf.next ≤ si.next → skim 64 td2 = pack_Get_P8 → T.get tm2 9 = some w → T.get tm2 52 = some (.bool b) → b = !hitB l h → (b = false → g = true) →
          W (runF envS (n' - 1 - 1 - 1) ⟨27, pack_Get_nt, pack_Get_g, tm2, td2, .run, .normal, none⟩) si fun p s1 => Q p.1 (s1.cxN s.cx) := fun si tm2 td2 b xi mi ni hT2 h9 h52 hb hbg => by
        cases b with
        | true =>
          refine W.cond (v := true) hT2 pack_Get_C8 h52 (by omega) (fun _ => ?_) fun h => by cases h
          refine pack_Get_q9.w pack_Get_S8_9 (by omega) ?_
          simp -implicitDefEqProofs only [pack_Get_r9, W_pure, W_mv, W_setF]
          exact W.end' (rs := [4, 5]) (vs := [.slice none 0 0, .int .i64 11]) pack_Get_S9_11 (.inl pack_Get_E11) (by omega) pack_Get_fn pack_Get_res xi.cx (by simp [T.get_set]) (q2 hm (by simpa using hb.symm) _ xi.cx')
        | false =>
          refine W.cond (v := false) hT2 pack_Get_C8 h52 (by omega) (fun h => by cases h) fun _ => ?_
          refine pack_Get_q10.w pack_Get_S8_10 (by omega) ?_
          simp -implicitDefEqProofs only [pack_Get_r10, W_pure, W_mv, W_setF, h9]
          obtain ⟨w1, w2⟩ := hw (hbg rfl)
          refine W.end' (rs := [4, 5]) (vs := [w, .int .i64 0]) pack_Get_S10_12 (.inl pack_Get_E12) (by omega) pack_Get_fn pack_Get_res xi.cx (by simp [T.get_set]) (q1 hm (by simpa using hb.symm) _ w xi.cx' ?_ fun x hx => by have := w2 x hx; omega)
          obtain ⟨b, o, c, e1, e2, e3, e4⟩ := w1
          refine ⟨b, o, c, e1, e2, e3, fun i u e => ?_⟩
          have e5 := e4 i u e
          refine ⟨Nat.lt_of_lt_of_le e5.1 ni, ?_⟩
          show T.get si.mem _ = _ ∨ T.get si.mem _ = _
          rw [mi _ e5.1, xh.mem _ (Nat.lt_of_lt_of_le e5.1 xg.nxt) fun h => by have := hG _ h; have := e5.1; omega, xg.mem _ e5.1 fun h => h]
          exact e5.2
      cases g with
      | false =>
        simp -implicitDefEqProofs only [pack_Get_r7, W_bind, W_oS, W_on, W_pure, W_mv, W_setF, T.get_set, reduceIte, isK_bool, isB_tf, W_chk, W_ifF, W_pick, Nat.reduceEqDiff, Nat.reduceEqDiff, ↓reduceIte, W_not, Bool.not_false]
        refine fin sh _ _ true hxh (fun _ _ => rfl) (by have := xg.nxt; have := xh.nxt; omega) pack_Get_S7_8 (by simp [T.get_set]) (by simp [T.get_set]) ?_ fun h => by cases h
        unfold hitB
        rw [← hge]
        rfl
      | true =>
        simp -implicitDefEqProofs only [pack_Get_r7, W_bind, W_oS, W_on, W_pure, W_mv, W_setF, T.get_set, reduceIte, isK_bool, isB_ff, W_chk, W_ifT, W_pick, Nat.reduceEqDiff, Nat.reduceEqDiff, reduceCtorEq, ↓reduceIte, W_not, Bool.not_true, k3]
        refine W.loadA ty_ID_1 oh'.row hIl fun si mi ni xi => ?_
        have hxi : Ext (BsF v) Non (s.cxN cxN) si := hxh.step xi hbd (fun x hx h => by
          have h2 : x < s.lim := hx
          have := hG x h
          omega) fun _ h => h.elim
        rw [W_fld ty_h_id (by decide)]
        have oid : OwnRow si s.next (0 + 0) (u8l h.1) := fun i u e => by
          have hi : i < (u8l h.1).length := (List.getElem?_eq_some_iff.1 e).1
          have := oh18 i u (by unfold heldC; rw [List.getElem?_append_left hi]; exact e)
          exact this.same mi ni
        refine W.loadA ty_ID_1 oid.row (by rw [u8l_length]; exact h16) fun sj mj nj xj => ?_
        have hxj : Ext (BsF v) Non (s.cxN cxN) sj := hxi.step xj hbd (fun x hx h => by
          have h2 : x < s.lim := hx
          have h4 : s.next + (0 + 0) ≤ x := h.1
          omega) fun _ h => h.elim
        try simp -implicitDefEqProofs only [W_bind, W_oS, W_on, W_pure, W_mv, W_setF, W_setT, T.get_set, seqO_cons, seqO_nil, seqP_cons, seqP_nil, onO_some', W_callV, reduceIte, isK_bool, isB_tt, isB_tf, isB_ft, isB_ff, W_chk, W_ifT, W_ifF, W_pick, W_nil, Nat.reduceEqDiff, Nat.reduceEqDiff, reduceCtorEq, ↓reduceIte]
        rw [W_neArr ty_ID_b hid h16]
        try simp -implicitDefEqProofs only [W_bind, W_oS, W_on, W_pure, W_mv, W_setF, W_setT, T.get_set, seqO_cons, seqO_nil, seqP_cons, seqP_nil, onO_some', W_callV, reduceIte, isK_bool, isB_tt, isB_tf, isB_ft, isB_ff, W_chk, W_ifT, W_ifF, W_pick, W_nil, Nat.reduceEqDiff, Nat.reduceEqDiff, reduceCtorEq, ↓reduceIte]
        refine fin sj _ _ (!decide (id = h.1)) hxj (fun x _ => by rw [mj, mi]) (by have := xg.nxt; have := xh.nxt; omega) pack_Get_S7_8 (by simp [T.get_set]) (by simp [T.get_set]) ?_ fun _ => rfl
        unfold hitB
        rw [← hge, ← hide, Bool.true_and]
    refine body_spec hbe (hbs0.ext0 hxe) hby (by omega) g1 g2 p3 (by omega) (fun hg sf w xf hw1 hw2 => ?_) fun hg sf xf => ?_
    · have e1 : bodyId l h.2.1 h.2.2 = bodyI l h.2.1 h.2.2 := if_pos hg
      have e2 : bodyGood l h.2.1 h.2.2 = decide (idB (bodyC l h.2.1 h.2.2) = bodyI l h.2.1 h.2.2) := by unfold bodyGood; rw [decide_eq_true hg, Bool.true_and]
      exact rest sf w _ _ xf (bodyI_len p3) e1.symm e2.symm (by obtain ⟨b, o, c, rfl, _⟩ := hw1; rfl) fun _ => ⟨hw1, hw2⟩
    · have e1 : bodyId l h.2.1 h.2.2 = zero16 := if_neg hg
      have e2 : bodyGood l h.2.1 h.2.2 = false := by unfold bodyGood; rw [decide_eq_false hg, Bool.false_and]
      exact rest sf _ _ _ xf rfl e1.symm e2.symm rfl fun h => by cases h
end Go.Proofs.Ytofanlcjeohcjaa.Am
/- What is scanned lies in order and is got: plain. -/
namespace Go.Proofs.Ytofanlcjeohcjaa.Am

/-- A good record's chunk. -/
structure Good (l : List Nat) (h : Hd) : Prop where
  ok : recOk l h.2.1 = true
  sz : saysN l h.2.1 = h.2.2
  good : bodyGood l h.2.1 h.2.2 = true
  id : bodyId l h.2.1 h.2.2 = h.1
/-- One behind the other, from a place on. -/
def chainB (e : Nat) : List Hd → Prop
  | [] => True
  | h :: t => e ≤ h.2.1 ∧ chainB (h.2.1 + 26 + h.2.2) t
def endB (e : Nat) : List Hd → Nat
  | [] => e
  | h :: t => endB (h.2.1 + 26 + h.2.2) t
theorem chainB_le {e e' : Nat} (h : e' ≤ e) : ∀ {t : List Hd}, chainB e t → chainB e' t
  | [], _ => trivial
  | _ :: _, ⟨h1, h2⟩ => ⟨by omega, h2⟩
theorem endB_le {e e' : Nat} (h : e' ≤ e) : ∀ (t : List Hd), endB e' t ≤ endB e t
  | [] => h
  | _ :: _ => Nat.le_refl _
theorem restB_zero {l : List Nat} {k : Nat} : restB l k = 0 ↔ k = l.length := by
  unfold restB
  constructor
  · intro h
    split at h
    · assumption
    · split at h
      · omega
      · split at h <;> omega
  · intro h
    rw [if_pos h]
theorem scanB_all {l : List Nat} : ∀ (f k : Nat) (hs : List Hd) (bad : Nat), k ≤ l.length → ∃ new, (scanB l f k hs bad).1 = hs ++ new ∧ chainB k new ∧ endB k new ≤ (scanB l f k hs bad).2.2.1 ∧ (∀ h ∈ new, Good l h) ∧ (scanB l f k hs bad).2.2.1 ≤ l.length ∧ ((scanB l f k hs bad).2.2.2 = 0 ↔ (scanB l f k hs bad).2.2.1 = l.length) ∧ (scanB l f k hs bad).2.2.2 ≤ 2
  | 0, k, hs, bad, hk => ⟨[], by simp [scanB], trivial, Nat.le_refl _, fun _ h => by simp at h, hk, restB_zero, restB_le l k⟩
  | f + 1, k, hs, bad, hk => by
    unfold scanB
    cases hr : recOk l k with
    | false => exact ⟨[], by simp, trivial, Nat.le_refl _, fun _ h => by simp at h, hk, restB_zero, restB_le l k⟩
    | true =>
      have hlen : k + 26 + saysN l k ≤ l.length := by
        unfold recOk at hr
        rw [Bool.and_eq_true] at hr
        exact of_decide_eq_true hr.2
      simp -implicitDefEqProofs only [reduceIte]
      cases hg : bodyGood l k (saysN l k) with
      | false =>
        simp -implicitDefEqProofs only [Bool.false_eq_true, reduceIte]
        obtain ⟨new, e1, e2, e3, e4, e5, e6, e7⟩ := scanB_all f (k + 26 + saysN l k) hs (bad + 1) hlen
        exact ⟨new, e1, chainB_le (by omega) e2, Nat.le_trans (endB_le (by omega) new) e3, e4, e5, e6, e7⟩
      | true =>
        simp -implicitDefEqProofs only [reduceIte]
        obtain ⟨new, e1, e2, e3, e4, e5, e6, e7⟩ := scanB_all f (k + 26 + saysN l k) (hs ++ [(bodyId l k (saysN l k), k, saysN l k)]) bad hlen
        refine ⟨(bodyId l k (saysN l k), k, saysN l k) :: new, by rw [e1, List.append_assoc]; rfl, ⟨Nat.le_refl _, e2⟩, e3, fun h hh => ?_, e5, e6, e7⟩
        rcases List.mem_cons.1 hh with rfl | hh
        · exact ⟨hr, rfl, hg, rfl⟩
        · exact e4 h hh
theorem scanAll_ok (l : List Nat) : chainB 0 (scanAll l).1 ∧ endB 0 (scanAll l).1 ≤ (scanAll l).2.2.1 ∧ (∀ h ∈ (scanAll l).1, Good l h) ∧ (scanAll l).2.2.1 ≤ l.length ∧ ((scanAll l).2.2.2 = 0 ↔ (scanAll l).2.2.1 = l.length) ∧ (scanAll l).2.2.2 ≤ 2 := by
  obtain ⟨new, e1, e2, e3, e4, e5, e6, e7⟩ := scanB_all (l := l) l.length 0 [] 0 (Nat.zero_le _)
  rw [List.nil_append] at e1
  have : (scanAll l).1 = new := e1
  rw [this]
  exact ⟨e2, e3, e4, e5, e6, e7⟩
theorem chain_take {e : Nat} : ∀ {t : List Hd} {i : Nat} {h : Hd}, chainB e t → t[i]? = some h → endB e (t.take i) ≤ h.2.1 ∧ endB e (t.take (i + 1)) = h.2.1 + 26 + h.2.2
  | [], i, h, _, hi => by simp at hi
  | x :: t, 0, h, hc, hi => by
    have : x = h := by simpa using hi
    subst this
    exact ⟨hc.1, rfl⟩
  | x :: t, i + 1, h, hc, hi => by
    have := chain_take (i := i) hc.2 (by simpa using hi)
    exact this
/-- .. is there, is what it says. -/
theorem Good.facts {l : List Nat} {h : Hd} (g : Good l h) : missB l h = false ∧ hitB l h = true ∧ h.2.1 + 26 + h.2.2 ≤ l.length ∧ 1 ≤ h.2.2 ∧ h.2.2 ≤ 1024 ∧ h.1.length = 16 ∧ idB (bodyC l h.2.1 h.2.2) = h.1 := by
  have hr := g.ok
  unfold recOk at hr
  rw [Bool.and_eq_true, Bool.and_eq_true, decide_eq_true_eq, decide_eq_true_eq, g.sz] at hr
  obtain ⟨⟨h1, h2⟩, h3⟩ := hr
  obtain ⟨g1, g2⟩ := saysOk_in h2
  rw [g.sz] at g1 g2
  have h4 : h.1.length = 16 := by rw [← g.id]; exact bodyId_len h3
  have hg := g.good
  unfold bodyGood at hg
  rw [Bool.and_eq_true, decide_eq_true_eq, decide_eq_true_eq] at hg
  have hid := g.id
  unfold bodyId at hid
  rw [if_pos hg.1] at hid
  refine ⟨?_, ?_, h3, g1, g2, h4, by rw [hg.2, hid]⟩
  · unfold missB saysB
    rw [if_pos h1]
    simp [h2, g.sz, h3]
  · unfold hitB
    rw [g.good, g.id]
    simp
end Go.Proofs.Ytofanlcjeohcjaa.Am
/- What each region of some functions comes to, as a word of the evaluator: equations, each checked by the kernel. Printed by a program. -/
namespace Go.Proofs.Ytofanlcjeohcjaa.Am
open Go.RowKit

/-! ### satchel/satchellaw17.PackHonest -/
noncomputable def law_Honest_g : Nat := globOf Try.f8
abbrev law_Honest_nt : Nat := 115
noncomputable def law_Honest_body : Code := Try.f8.body.getD .skip
theorem law_Honest_fn : envS.fn.get 8 = some Try.f8 := by kernel_rfl
theorem law_Honest_W {a0 : Value} {n : Nat} {s : St} {Q : Value → St → Prop} (h : ∀ tm, T.get tm 0 = some a0 → W (runF envS n ⟨8, 115, law_Honest_g, tm, [.code law_Honest_body], .run, .normal, none⟩) (s.cxN cxN) fun p s1 => Q p.1 (s1.cxN s.cx)) : W (callW envS (runF envS n) 8 [a0]) s Q :=
  W.call (by kernel_rfl) (by kernel_rfl) law_Honest_fn (by kernel_rfl) rfl rfl (by simp) (h _ (by kernel_rfl))
theorem law_Honest_res : Try.f8.results.toList = [.tmp 2] := by kernel_rfl
noncomputable def law_Honest_P0 : List Item := skim 64 [.code law_Honest_body]
noncomputable def law_Honest_P1 : List Item := skim 64 law_Honest_P0.tail
theorem law_Honest_S0_1 : skim 64 law_Honest_P0.tail = law_Honest_P1 := by kernel_rfl
noncomputable def law_Honest_P2 : List Item := skim 64 law_Honest_P1.tail
theorem law_Honest_S1_2 : skim 64 law_Honest_P1.tail = law_Honest_P2 := by kernel_rfl
noncomputable def law_Honest_P3 : List Item := skim 64 law_Honest_P2.tail
theorem law_Honest_S2_3 : skim 64 law_Honest_P2.tail = law_Honest_P3 := by kernel_rfl
noncomputable def law_Honest_P4 : List Item := skim 64 (brT law_Honest_P3)
theorem law_Honest_S3_4 : skim 64 (brT law_Honest_P3) = law_Honest_P4 := by kernel_rfl
noncomputable def law_Honest_P5 : List Item := skim 64 (brF law_Honest_P3)
theorem law_Honest_S3_5 : skim 64 (brF law_Honest_P3) = law_Honest_P5 := by kernel_rfl
noncomputable def law_Honest_P6 : List Item := skim 64 law_Honest_P4.tail
theorem law_Honest_S4_6 : skim 64 law_Honest_P4.tail = law_Honest_P6 := by kernel_rfl
noncomputable def law_Honest_P7 : List Item := skim 64 law_Honest_P5.tail
theorem law_Honest_S5_7 : skim 64 law_Honest_P5.tail = law_Honest_P7 := by kernel_rfl
noncomputable def law_Honest_P8 : List Item := skim 64 law_Honest_P7.tail
theorem law_Honest_S7_8 : skim 64 law_Honest_P7.tail = law_Honest_P8 := by kernel_rfl
noncomputable def law_Honest_P9 : List Item := skim 64 law_Honest_P8.tail
theorem law_Honest_S8_9 : skim 64 law_Honest_P8.tail = law_Honest_P9 := by kernel_rfl
noncomputable def law_Honest_P10 : List Item := skim 64 law_Honest_P9.tail
theorem law_Honest_S9_10 : skim 64 law_Honest_P9.tail = law_Honest_P10 := by kernel_rfl
noncomputable def law_Honest_P11 : List Item := skim 64 (brT law_Honest_P10)
theorem law_Honest_S10_11 : skim 64 (brT law_Honest_P10) = law_Honest_P11 := by kernel_rfl
noncomputable def law_Honest_P12 : List Item := skim 64 (brF law_Honest_P10)
theorem law_Honest_S10_12 : skim 64 (brF law_Honest_P10) = law_Honest_P12 := by kernel_rfl
noncomputable def law_Honest_P13 : List Item := skim 64 law_Honest_P11.tail
theorem law_Honest_S11_13 : skim 64 law_Honest_P11.tail = law_Honest_P13 := by kernel_rfl
noncomputable def law_Honest_P14 : List Item := skim 64 law_Honest_P12.tail
theorem law_Honest_S12_14 : skim 64 law_Honest_P12.tail = law_Honest_P14 := by kernel_rfl
noncomputable def law_Honest_P15 : List Item := skim 64 law_Honest_P13.tail
theorem law_Honest_S13_15 : skim 64 law_Honest_P13.tail = law_Honest_P15 := by kernel_rfl
noncomputable def law_Honest_P17 : List Item := skim 64 (brF law_Honest_P15)
theorem law_Honest_S15_17 : skim 64 (brF law_Honest_P15) = law_Honest_P17 := by kernel_rfl
noncomputable def law_Honest_P19 : List Item := skim 64 law_Honest_P17.tail
theorem law_Honest_S17_19 : skim 64 law_Honest_P17.tail = law_Honest_P19 := by kernel_rfl
theorem law_Honest_S19_9 : skim 64 law_Honest_P19.tail = law_Honest_P9 := by kernel_rfl
/-- outright.go:144 -/
noncomputable def law_Honest_r0 (E : Env) (call round : CallT) (tm : T Value) : M (T Value) :=
  mv (some (.bool false)) fun v2 =>
  setF 2 v2 tm fun tm1 =>
  M.pure tm1
theorem law_Honest_q0 : RegEq 8 115 law_Honest_g law_Honest_P0 law_Honest_r0 := ⟨by kernel_rfl, fun _ _ _ _ _ _ _ _ _ => by kernel_rfl⟩
/-- outright.go:145 -/
noncomputable def law_Honest_r1 (E : Env) (call round : CallT) (tm : T Value) : M (T Value) :=
  M.bind (M.on (some (.func (.func 15) #[] #[])) fun f => M.on (seqO []) fun l => callV call round f l) fun v12 =>
  mv (some v12) fun v3 =>
  setF 3 v3 tm fun tm1 =>
  M.pure tm1
theorem law_Honest_q1 : RegEq 8 115 law_Honest_g law_Honest_P1 law_Honest_r1 := ⟨by kernel_rfl, fun _ _ _ _ _ _ _ _ _ => by kernel_rfl⟩
/-- outright.go:146 -/
noncomputable def law_Honest_r2 (E : Env) (call round : CallT) (tm : T Value) : M (T Value) :=
  mv (T.get tm 0) fun v13 =>
  M.bind (oS (seqO [(some v13)]) fun l => aBuiltin E .len [22] l) fun v14 =>
  M.bind (oS (some v14) fun a => oS (some (.int .i64 6000)) fun b => Cl.get (aBin E .gtr 3 (.tmp 14) (.const (.int .i64 6000))) a b) fun v15 =>
  setF 15 v15 tm fun tm1 =>
  M.pure tm1
theorem law_Honest_q2 : RegEq 8 115 law_Honest_g law_Honest_P2 law_Honest_r2 := ⟨by kernel_rfl, fun _ _ _ _ _ _ _ _ _ => by kernel_rfl⟩
theorem law_Honest_C3 : condX law_Honest_P3 = some 15 := by kernel_rfl
/-- outright.go:147 -/
noncomputable def law_Honest_r4 (E : Env) (call round : CallT) (tm : T Value) : M (T Value) :=
  mv (T.get tm 3) fun v16 =>
  mv (some v16) fun v2 =>
  setF 2 v2 tm fun tm1 =>
  M.pure tm1
theorem law_Honest_q4 : RegEq 8 115 law_Honest_g law_Honest_P4 law_Honest_r4 := ⟨by kernel_rfl, fun _ _ _ _ _ _ _ _ _ => by kernel_rfl⟩
/-- outright.go:149 -/
noncomputable def law_Honest_r5 (E : Env) (call round : CallT) (tm : T Value) : M (T Value) :=
  mv (T.get tm 0) fun v18 =>
  M.bind (M.on (some (.func (.func 24) #[] #[])) fun f => M.on (seqO [(some v18)]) fun l => callV call round f l) fun v19 =>
  mv (some v19) fun v17 =>
  M.bind (oS (some v17) fun a => kExt 0 a) fun v20 =>
  M.bind (oS (some v17) fun a => kExt 1 a) fun v21 =>
  M.bind (oS (some v17) fun a => kExt 2 a) fun v22 =>
  M.bind (oS (some v17) fun a => kExt 3 a) fun v23 =>
  mv (some v20) fun v4 =>
  setF 4 v4 tm fun tm1 =>
  mv (some v21) fun v5 =>
  setF 5 v5 tm1 fun tm2 =>
  mv (some v22) fun v6 =>
  setF 6 v6 tm2 fun tm3 =>
  mv (some v23) fun v7 =>
  setF 7 v7 tm3 fun tm4 =>
  M.pure tm4
theorem law_Honest_q5 : RegEq 8 115 law_Honest_g law_Honest_P5 law_Honest_r5 := ⟨by kernel_rfl, fun _ _ _ _ _ _ _ _ _ => by kernel_rfl⟩
theorem law_Honest_E6 : ∃ k, law_Honest_P6 = .code .ret :: k := ⟨law_Honest_P6.tail, by kernel_rfl⟩
/-- outright.go:150 -/
noncomputable def law_Honest_r7 (E : Env) (call round : CallT) (tm : T Value) : M (T Value) :=
  mv (some (.int .i64 0)) fun v8 =>
  setF 8 v8 tm fun tm1 =>
  M.pure tm1
theorem law_Honest_q7 : RegEq 8 115 law_Honest_g law_Honest_P7 law_Honest_r7 := ⟨by kernel_rfl, fun _ _ _ _ _ _ _ _ _ => by kernel_rfl⟩
/-- outright.go:151 -/
noncomputable def law_Honest_r8 (E : Env) (call round : CallT) (tm : T Value) : M (T Value) :=
  mv (some (.int .i64 0)) fun v9 =>
  setF 9 v9 tm fun tm1 =>
  M.pure tm1
theorem law_Honest_q8 : RegEq 8 115 law_Honest_g law_Honest_P8 law_Honest_r8 := ⟨by kernel_rfl, fun _ _ _ _ _ _ _ _ _ => by kernel_rfl⟩
/-- outright.go:151 -/
noncomputable def law_Honest_r9 (E : Env) (call round : CallT) (tm : T Value) : M (T Value) :=
  mv (T.get tm 9) fun v24 =>
  mv (T.get tm 4) fun v25 =>
  M.bind (oS (seqO [(some v25)]) fun l => aBuiltin E .len [36] l) fun v26 =>
  M.bind (oS (some v24) fun a => oS (some v26) fun b => Cl.get (aBin E .lss 3 (.tmp 24) (.tmp 26)) a b) fun v27 =>
  setF 27 v27 tm fun tm1 =>
  M.pure tm1
theorem law_Honest_q9 : RegEq 8 115 law_Honest_g law_Honest_P9 law_Honest_r9 := ⟨by kernel_rfl, fun _ _ _ _ _ _ _ _ _ => by kernel_rfl⟩
theorem law_Honest_C10 : condX law_Honest_P10 = some 27 := by kernel_rfl
/-- outright.go:152 -/
noncomputable def law_Honest_r11 (E : Env) (call round : CallT) (tm : T Value) : M (T Value) :=
  mv (T.get tm 0) fun v31 =>
  mv (T.get tm 4) fun v32 =>
  mv (T.get tm 9) fun v33 =>
  M.bind (oS (some v32) fun a => oS (some v33) fun b => kIdxA E 36 a b) fun v34 =>
  M.bind (oS (some v34) fun a => kLoad E 35 a) fun v35 =>
  M.bind (M.on (some (.func (.func 27) #[] #[])) fun f => M.on (seqO [(some v31), (some v35)]) fun l => callV call round f l) fun v36 =>
  mv (some v36) fun v30 =>
  M.bind (oS (some v30) fun a => kExt 0 a) fun v37 =>
  M.bind (oS (some v30) fun a => kExt 1 a) fun v38 =>
  mv (some v37) fun v10 =>
  setF 10 v10 tm fun tm1 =>
  mv (some v38) fun v11 =>
  setF 11 v11 tm1 fun tm2 =>
  M.pure tm2
theorem law_Honest_q11 : RegEq 8 115 law_Honest_g law_Honest_P11 law_Honest_r11 := ⟨by kernel_rfl, fun _ _ _ _ _ _ _ _ _ => by kernel_rfl⟩
/-- outright.go:158 -/
noncomputable def law_Honest_r12 (E : Env) (call round : CallT) (tm : T Value) : M (T Value) :=
  mv (T.get tm 3) fun v82 =>
  mv (some v82) fun v83 =>
  M.bind (M.chk (isK v83) (M.if (isB v83 true) (oS (T.get tm 8) fun a => M.pure a) (M.pure undef))) fun v84 =>
  M.bind (M.chk (isK v83) (M.if (isB v83 true) (oS (T.get tm 5) fun a => M.pure a) (M.pure undef))) fun v85 =>
  M.bind (M.chk (isK v83) (M.if (isB v83 true) (oS (some v84) fun a => oS (some v85) fun b => Cl.get (aBin E .leq 3 (.tmp 84) (.tmp 85)) a b) (M.pure undef))) fun v86 =>
  M.bind (M.on (some v83) fun a => M.on (some v86) fun b => M.on (some (.bool false)) fun c => kPick a b c) fun v87 =>
  mv (some v87) fun v88 =>
  M.bind (M.chk (isK v88) (M.if (isB v88 true) (oS (T.get tm 5) fun a => M.pure a) (M.pure undef))) fun v89 =>
  M.bind (M.chk (isK v88) (M.if (isB v88 true) (oS (T.get tm 0) fun a => M.pure a) (M.pure undef))) fun v90 =>
  M.bind (M.chk (isK v88) (M.if (isB v88 true) (oS (seqO [(some v90)]) fun l => aBuiltin E .len [22] l) (M.pure undef))) fun v91 =>
  M.bind (M.chk (isK v88) (M.if (isB v88 true) (oS (some v89) fun a => oS (some v91) fun b => Cl.get (aBin E .leq 3 (.tmp 89) (.tmp 91)) a b) (M.pure undef))) fun v92 =>
  M.bind (M.on (some v88) fun a => M.on (some v92) fun b => M.on (some (.bool false)) fun c => kPick a b c) fun v93 =>
  mv (some v93) fun v94 =>
  M.bind (M.chk (isK v94) (M.if (isB v94 true) (oS (T.get tm 6) fun a => M.pure a) (M.pure undef))) fun v95 =>
  M.bind (M.chk (isK v94) (M.if (isB v94 true) (oS (some v95) fun a => oS (some (.int .i64 0)) fun b => Cl.get (aBin E .geq 3 (.tmp 95) (.const (.int .i64 0))) a b) (M.pure undef))) fun v96 =>
  M.bind (M.on (some v94) fun a => M.on (some v96) fun b => M.on (some (.bool false)) fun c => kPick a b c) fun v97 =>
  mv (some v97) fun v98 =>
  M.bind (M.chk (isK v98) (M.if (isB v98 true) (oS (T.get tm 7) fun a => M.pure a) (M.pure undef))) fun v99 =>
  M.bind (M.chk (isK v98) (M.if (isB v98 true) (oS (some v99) fun a => oS (some (.int .i64 0)) fun b => Cl.get (aBin E .eql 3 (.tmp 99) (.const (.int .i64 0))) a b) (M.pure undef))) fun v100 =>
  M.bind (M.chk (isK v98) (M.if (isB v98 true) (oS (T.get tm 5) fun a => M.pure a) (M.pure undef))) fun v101 =>
  M.bind (M.chk (isK v98) (M.if (isB v98 true) (oS (T.get tm 0) fun a => M.pure a) (M.pure undef))) fun v102 =>
  M.bind (M.chk (isK v98) (M.if (isB v98 true) (oS (seqO [(some v102)]) fun l => aBuiltin E .len [22] l) (M.pure undef))) fun v103 =>
  M.bind (M.chk (isK v98) (M.if (isB v98 true) (oS (some v101) fun a => oS (some v103) fun b => Cl.get (aBin E .eql 3 (.tmp 101) (.tmp 103)) a b) (M.pure undef))) fun v104 =>
  M.bind (M.chk (isK v98) (M.if (isB v98 true) (oS (some v100) fun a => oS (some v104) fun b => Cl.get (aBin E .eql 4 (.tmp 100) (.tmp 104)) a b) (M.pure undef))) fun v105 =>
  M.bind (M.on (some v98) fun a => M.on (some v105) fun b => M.on (some (.bool false)) fun c => kPick a b c) fun v106 =>
  mv (some v106) fun v107 =>
  M.bind (M.chk (isK v107) (M.if (isB v107 true) (oS (T.get tm 7) fun a => M.pure a) (M.pure undef))) fun v108 =>
  M.bind (M.chk (isK v107) (M.if (isB v107 true) (oS (some v108) fun a => oS (some (.int .i64 0)) fun b => Cl.get (aBin E .geq 3 (.tmp 108) (.const (.int .i64 0))) a b) (M.pure undef))) fun v109 =>
  M.bind (M.on (some v107) fun a => M.on (some v109) fun b => M.on (some (.bool false)) fun c => kPick a b c) fun v110 =>
  mv (some v110) fun v111 =>
  M.bind (M.chk (isK v111) (M.if (isB v111 true) (oS (T.get tm 7) fun a => M.pure a) (M.pure undef))) fun v112 =>
  M.bind (M.chk (isK v111) (M.if (isB v111 true) (oS (some v112) fun a => oS (some (.int .i64 2)) fun b => Cl.get (aBin E .leq 3 (.tmp 112) (.const (.int .i64 2))) a b) (M.pure undef))) fun v113 =>
  M.bind (M.on (some v111) fun a => M.on (some v113) fun b => M.on (some (.bool false)) fun c => kPick a b c) fun v114 =>
  mv (some v114) fun v2 =>
  setF 2 v2 tm fun tm1 =>
  M.pure tm1
theorem law_Honest_q12 : RegEq 8 115 law_Honest_g law_Honest_P12 law_Honest_r12 := ⟨by kernel_rfl, fun _ _ _ _ _ _ _ _ _ => by kernel_rfl⟩
/-- outright.go:153; the order is open -/
noncomputable def law_Honest_d13 (E : Env) (call round : CallT) (tm : T Value) : M ((Rho × T Value) × List OpLog) :=
  M.bind (apartO (oS (T.get tm 11) fun a => M.pure a)) fun p0 =>
  M.bind (apartO (oS (some p0.1) fun a => oS (some (.int .i64 0)) fun b => Cl.get (aBin E .neq 27 (.tmp 39) (.const (.int .i64 0))) a b)) fun p1 =>
  M.bind (apartO (oS (some p1.1) fun a => M.pure a)) fun p2 =>
  M.bind (apartO (M.chk (isK p2.1) (M.if (isB p2.1 false) (oS (T.get tm 10) fun a => M.pure a) (M.pure undef)))) fun p3 =>
  M.bind (apartO (M.chk (isK p2.1) (M.if (isB p2.1 false) (oS (seqO [(some p3.1)]) fun l => aBuiltin E .len [22] l) (M.pure undef)))) fun p4 =>
  M.bind (apartO (M.chk (isK p2.1) (M.if (isB p2.1 false) (oS (T.get tm 4) fun a => M.pure a) (M.pure undef)))) fun p5 =>
  M.bind (apartO (M.chk (isK p2.1) (M.if (isB p2.1 false) (oS (T.get tm 9) fun a => M.pure a) (M.pure undef)))) fun p6 =>
  M.bind (apartO (M.chk (isK p2.1) (M.if (isB p2.1 false) (oS (some p5.1) fun a => oS (some p6.1) fun b => kIdxA E 36 a b) (M.pure undef)))) fun p7 =>
  M.bind (apartO (M.chk (isK p2.1) (M.if (isB p2.1 false) (oS (some p7.1) fun a => kFld E 35 a 2) (M.pure undef)))) fun p8 =>
  M.bind (apartO (M.chk (isK p2.1) (M.if (isB p2.1 false) (oS (some p8.1) fun a => kLoad E 3 a) (M.pure undef)))) fun p9 =>
  M.bind (apartO (M.chk (isK p2.1) (M.if (isB p2.1 false) (oS (some p4.1) fun a => oS (some p9.1) fun b => Cl.get (aBin E .neq 3 (.tmp 43) (.tmp 48)) a b) (M.pure undef)))) fun p10 =>
  M.bind (apartO (M.on (some p2.1) fun a => M.on (some (.bool true)) fun b => M.on (some p10.1) fun c => kPick a b c)) fun p11 =>
  M.bind (apartO (oS (some p11.1) fun a => M.pure a)) fun p12 =>
  M.bind (apartO (M.chk (isK p12.1) (M.if (isB p12.1 false) (oS (T.get tm 10) fun a => M.pure a) (M.pure undef)))) fun p13 =>
  M.bind (apartO (M.chk (isK p12.1) (M.if (isB p12.1 false) (M.on (some (.func (.func 32) #[] #[])) fun f => M.on (seqO [(some p13.1)]) fun l => callV call round f l) (M.pure undef)))) fun p14 =>
  M.bind (apartO (M.chk (isK p12.1) (M.if (isB p12.1 false) (oS (T.get tm 4) fun a => M.pure a) (M.pure undef)))) fun p15 =>
  M.bind (apartO (M.chk (isK p12.1) (M.if (isB p12.1 false) (oS (T.get tm 9) fun a => M.pure a) (M.pure undef)))) fun p16 =>
  M.bind (apartO (M.chk (isK p12.1) (M.if (isB p12.1 false) (oS (some p15.1) fun a => oS (some p16.1) fun b => kIdxA E 36 a b) (M.pure undef)))) fun p17 =>
  M.bind (apartO (M.chk (isK p12.1) (M.if (isB p12.1 false) (oS (some p17.1) fun a => kFld E 35 a 0) (M.pure undef)))) fun p18 =>
  M.bind (apartO (M.chk (isK p12.1) (M.if (isB p12.1 false) (oS (some p18.1) fun a => kLoad E 26 a) (M.pure undef)))) fun p19 =>
  M.bind (apartO (M.chk (isK p12.1) (M.if (isB p12.1 false) (oS (some p14.1) fun a => oS (some p19.1) fun b => Cl.get (aBin E .neq 26 (.tmp 53) (.tmp 58)) a b) (M.pure undef)))) fun p20 =>
  M.bind (apartO (M.on (some p12.1) fun a => M.on (some (.bool true)) fun b => M.on (some p20.1) fun c => kPick a b c)) fun p21 =>
  M.bind (apartO (oS (some p21.1) fun a => M.pure a)) fun p22 =>
  M.bind (apartO (M.chk (isK p22.1) (M.if (isB p22.1 false) (oS (T.get tm 4) fun a => M.pure a) (M.pure undef)))) fun p23 =>
  M.bind (apartO (M.chk (isK p22.1) (M.if (isB p22.1 false) (oS (T.get tm 9) fun a => M.pure a) (M.pure undef)))) fun p24 =>
  M.bind (apartO (M.chk (isK p22.1) (M.if (isB p22.1 false) (oS (some p23.1) fun a => oS (some p24.1) fun b => kIdxA E 36 a b) (M.pure undef)))) fun p25 =>
  M.bind (apartO (M.chk (isK p22.1) (M.if (isB p22.1 false) (oS (some p25.1) fun a => kFld E 35 a 1) (M.pure undef)))) fun p26 =>
  M.bind (apartO (M.chk (isK p22.1) (M.if (isB p22.1 false) (oS (some p26.1) fun a => kLoad E 3 a) (M.pure undef)))) fun p27 =>
  M.bind (apartO (M.chk (isK p22.1) (M.if (isB p22.1 false) (oS (T.get tm 8) fun a => M.pure a) (M.pure undef)))) fun p28 =>
  M.bind (apartO (M.chk (isK p22.1) (M.if (isB p22.1 false) (oS (some p27.1) fun a => oS (some p28.1) fun b => Cl.get (aBin E .lss 3 (.tmp 66) (.tmp 67)) a b) (M.pure undef)))) fun p29 =>
  M.pure (([p29.1, p28.1, p27.1, p26.1, p25.1, p24.1, p23.1, p22.1, p21.1, p20.1, p19.1, p18.1, p17.1, p16.1, p15.1, p14.1, p13.1, p12.1, p11.1, p10.1, p9.1, p8.1, p7.1, p6.1, p5.1, p4.1, p3.1, p2.1, p1.1, p0.1], tm), [p29.2, p28.2, p27.2, p26.2, p25.2, p24.2, p23.2, p22.2, p21.2, p20.2, p19.2, p18.2, p17.2, p16.2, p15.2, p14.2, p13.2, p12.2, p11.2, p10.2, p9.2, p8.2, p7.2, p6.2, p5.2, p4.2, p3.2, p2.2, p1.2, p0.2])
theorem law_Honest_q13 : DrawEq 8 115 law_Honest_g law_Honest_P13 [0, 1, 3, 7, 15, 7, 7, 103, 231, 487, 1023, 2047, 4095, 8191, 16383, 8191, 8191, 106495, 237567, 499711, 1048575, 2097151, 4194303, 8388607, 8388607, 33554431, 67108863, 134217727, 8388607, 536870911, 1073741823] law_Honest_d13 := ⟨by kernel_rfl, by kernel_rfl, fun _ _ _ _ _ _ _ _ _ => by kernel_rfl⟩
theorem law_Honest_L13 (E : Env) (call round : CallT) (x39 x40 x41 x42 x43 x44 x45 x46 x47 x48 x49 x50 x51 x52 x53 x54 x55 x56 x57 x58 x59 x60 x61 x62 x63 x64 x65 x66 x67 x68 : Value) (tm : T Value) (s : St) : opsIn call round (lastOps E law_Honest_g 115 (hdC law_Honest_P13)) [x68, x67, x66, x65, x64, x63, x62, x61, x60, x59, x58, x57, x56, x55, x54, x53, x52, x51, x50, x49, x48, x47, x46, x45, x44, x43, x42, x41, x40, x39] tm s = (M.bind (M.on (some x61) fun a => M.on (some (.bool true)) fun b => M.on (some x68) fun c => kPick a b c) fun v69 => setT 69 v69 tm fun tm1 => M.pure tm1) s := by kernel_rfl
theorem law_Honest_E14 : ∃ k, law_Honest_P14 = .code .ret :: k := ⟨law_Honest_P14.tail, by kernel_rfl⟩
theorem law_Honest_C15 : condX law_Honest_P15 = some 69 := by kernel_rfl
/-- outright.go:156; the order is open -/
noncomputable def law_Honest_d17 (E : Env) (call round : CallT) (tm : T Value) : M ((Rho × T Value) × List OpLog) :=
  M.bind (apartO (oS (T.get tm 4) fun a => M.pure a)) fun p0 =>
  M.bind (apartO (oS (T.get tm 9) fun a => M.pure a)) fun p1 =>
  M.bind (apartO (oS (some p0.1) fun a => oS (some p1.1) fun b => kIdxA E 36 a b)) fun p2 =>
  M.bind (apartO (oS (some p2.1) fun a => kFld E 35 a 1)) fun p3 =>
  M.bind (apartO (oS (some p3.1) fun a => kLoad E 3 a)) fun p4 =>
  M.bind (apartO (oS (T.get tm 4) fun a => M.pure a)) fun p5 =>
  M.bind (apartO (oS (T.get tm 9) fun a => M.pure a)) fun p6 =>
  M.bind (apartO (oS (some p5.1) fun a => oS (some p6.1) fun b => kIdxA E 36 a b)) fun p7 =>
  M.bind (apartO (oS (some p7.1) fun a => kFld E 35 a 2)) fun p8 =>
  M.bind (apartO (oS (some p8.1) fun a => kLoad E 3 a)) fun p9 =>
  M.bind (apartO (M.on (some (.func (.func 20) #[] #[])) fun f => M.on (seqO [(some p9.1)]) fun l => callV call round f l)) fun p10 =>
  M.bind (apartO (oS (some p4.1) fun a => oS (some p10.1) fun b => Cl.get (aBin E .add 3 (.tmp 74) (.tmp 80)) a b)) fun p11 =>
  M.pure (([p11.1, p10.1, p9.1, p8.1, p7.1, p6.1, p5.1, p4.1, p3.1, p2.1, p1.1, p0.1], tm), [p11.2, p10.2, p9.2, p8.2, p7.2, p6.2, p5.2, p4.2, p3.2, p2.2, p1.2, p0.2])
theorem law_Honest_q17 : DrawEq 8 115 law_Honest_g law_Honest_P17 [0, 0, 3, 7, 15, 0, 0, 96, 224, 480, 992, 2047, 4095] law_Honest_d17 := ⟨by kernel_rfl, by kernel_rfl, fun _ _ _ _ _ _ _ _ _ => by kernel_rfl⟩
theorem law_Honest_L17 (E : Env) (call round : CallT) (x70 x71 x72 x73 x74 x75 x76 x77 x78 x79 x80 x81 : Value) (tm : T Value) (s : St) : opsIn call round (lastOps E law_Honest_g 115 (hdC law_Honest_P17)) [x81, x80, x79, x78, x77, x76, x75, x74, x73, x72, x71, x70] tm s = (M.bind (oS (some x81) fun a => M.pure a) fun v8 => setT 8 v8 tm fun tm1 => M.pure tm1) s := by kernel_rfl
/-- outright.go:151 -/
noncomputable def law_Honest_r19 (E : Env) (call round : CallT) (tm : T Value) : M (T Value) :=
  mv (T.get tm 9) fun v28 =>
  M.bind (oS (some v28) fun a => oS (some (.int .i64 1)) fun b => Cl.get (aBin E .add 3 (.tmp 28) (.const (.int .i64 1))) a b) fun v29 =>
  mv (some v29) fun v9 =>
  setF 9 v9 tm fun tm1 =>
  M.pure tm1
theorem law_Honest_q19 : RegEq 8 115 law_Honest_g law_Honest_P19 law_Honest_r19 := ⟨by kernel_rfl, fun _ _ _ _ _ _ _ _ _ => by kernel_rfl⟩
-- points: 0:region>[1], 1:region>[2], 2:region>[3], 3:cond>[4, 5], 4:region>[6], 5:region>[7], 6:ret>, 7:region>[8], 8:region>[9], 9:region>[10], 10:cond>[11, 12], 11:region>[13], 12:region>[14], 13:region>[15], 14:ret>, 15:cond>[16, 17], 16:region>[18], 17:region>[19], 18:ret>, 19:region>[9]
end Go.Proofs.Ytofanlcjeohcjaa.Am
/- satchellaw17.PackHonest, said of all states: what is held against what was scanned. -/
namespace Go.Proofs.Ytofanlcjeohcjaa.Am
open Go.RowKit

theorem ty_hs_sl : slN envS 36 = some 18 := by kernel_rfl
theorem heldCs_at : ∀ {hs : List Hd} {i : Nat} {h : Hd}, (∀ h ∈ hs, h.1.length = 16) → hs[i]? = some h → ∀ (j : Nat) (u : Value), (heldC h)[j]? = some u → (heldCs hs)[i * 18 + j]? = some u
  | [], i, h, _, hi, _, _, _ => by simp at hi
  | x :: t, 0, h, h16, hi, j, u, hj => by
    have : x = h := by simpa using hi
    subst this
    unfold heldCs
    have hjl : j < (heldC x).length := (List.getElem?_eq_some_iff.1 hj).1
    rw [List.getElem?_append_left (by omega), show 0 * 18 + j = j by omega]
    exact hj
  | x :: t, i + 1, h, h16, hi, j, u, hj => by
    unfold heldCs
    have hx : (heldC x).length = 18 := heldC_len (h16 x (by simp))
    rw [List.getElem?_append_right (by omega), hx, show (i + 1) * 18 + j - 18 = i * 18 + j by omega]
    exact heldCs_at (fun y hy => h16 y (by simp [hy])) (by simpa using hi) j u hj
theorem held_row {s : St} {b : Nat} {hs : List Hd} {i : Nat} {h : Hd} (ho : OwnRow s b 0 (heldCs hs)) (h16 : ∀ h ∈ hs, h.1.length = 16) (hi : hs[i]? = some h) : OwnRow s b (0 + i * 18) (heldC h) := fun j u hj => by
  have := ho _ u (heldCs_at h16 hi j u hj)
  rw [show 0 + i * 18 + j = 0 + (i * 18 + j) by omega]
  exact this
theorem held_id {s : St} {b o : Nat} {h : Hd} (ho : OwnRow s b o (heldC h)) : OwnRow s b (o + 0) (u8l h.1) := fun j u hj => by
  have hjl : j < (u8l h.1).length := (List.getElem?_eq_some_iff.1 hj).1
  exact ho j u (by unfold heldC; rw [List.getElem?_append_left hjl]; exact hj)
/-- All that is asked of a chunk that was got. -/
theorem hon_ask {b c N e i n : Nat} {w : Value} {x : List Nat} {hs : List Hd} {h : Hd} {tm : T Value} {td : List Item} {s : St} {Q : Value × FrameMode → St → Prop} (ho : OwnRow s b 0 (heldCs hs)) (hall : ∀ h ∈ hs, h.1.length = 16) (hN : N = hs.length) (hi : hs[i]? = some h) (hw : Bn s w x) (hxb : Byt x) (hxl : x.length = h.2.2) (hmax : h.2.2 ≤ 1024) (hid : idB x = h.1) (he : e ≤ h.2.1)
    (h4 : T.get tm 4 = some (.slice (some ⟨b, 0, none⟩) N c)) (h8 : T.get tm 8 = some (.int .i64 (e : Nat))) (h9 : T.get tm 9 = some (.int .i64 (i : Nat))) (h10 : T.get tm 10 = some w) (h11 : T.get tm 11 = some (.int .i64 0)) (hT : skim 64 td = law_Honest_P13) (hn : 30000 ≤ n)
    (q : ∀ n' s1 tm' td', n ≤ n' + 2 → skim 64 td' = law_Honest_P15 → Ext (fun y => BsF w y ∨ b ≤ y) Non s s1 → (∀ j, j ≠ 69 → T.get tm' j = T.get tm j) → T.get tm' 69 = some (.bool false) → W (runF envS n' ⟨8, law_Honest_nt, law_Honest_g, tm', td', .run, .normal, none⟩) s1 Q) :
    W (runF envS n ⟨8, law_Honest_nt, law_Honest_g, tm, td, .run, .normal, none⟩) s Q := by
  have hil : i < hs.length := (List.getElem?_eq_some_iff.1 hi).1
  have h16 : h.1.length = 16 := hall h (List.mem_of_getElem? hi)
  have hr := held_row ho hall hi
  have hrn : b + (i * 18 + 17) < s.next := by
    have := (hr 17 _ (heldC_get h16).2).1
    omega
  refine law_Honest_q13.w hT (by omega) ?_
  have hz : (!decide ((0 : Int) = 0)) = false := rfl
  simp -implicitDefEqProofs only [law_Honest_d13, h4, h8, h9, h10, h11, oS_some, on_some', seqO_cons, seqO_nil, onO_some', callV_fn, W_dpure]
  rw [W_dq fun s Q => W_neq64 (s := s) _ _, hz]
  simp -implicitDefEqProofs only [W_dpure, isK_bool, chk_t, isB_ff, if_t]
  obtain ⟨bw, ow, cw, hwe, hw2, hw3, hw4⟩ := hw
  subst hwe
  rw [W_dq fun s Q => W_lenSl (s := s) ty_b_sl Q]
  simp -implicitDefEqProofs only [W_dpure]
  rw [W_dq fun s Q => W_idxSl (s := s) ty_hs_sl (show i < N by omega) Q]
  rw [W_dq fun s Q => W_fld (s := s) ty_h_sz (by decide) Q]
  have o17 : At (dSt s.mem s.next) b (0 + i * 18 + 17) (.int .i64 (h.2.2 : Nat)) := ((hr 17 _ (heldC_get h16).2).same (s' := dSt s.mem s.next) rfl rfl).at'
  refine W.dload ty_int_1' o17 fun rd1 hr1 => ?_
  rw [W_dq fun s Q => W_neq64 (s := s) _ _]
  have e1 : (!decide (((x.length : Nat) : Int) = ((h.2.2 : Nat) : Int))) = false := by rw [hxl]; simp
  rw [e1, W_dq fun s Q => W_pick (s := s) _ _ _ _]
  simp -implicitDefEqProofs only [Bool.false_eq_true, reduceIte, W_dpure, isK_bool, chk_t, isB_ff, if_t]
  have hwn : Bn s (.slice (some ⟨bw, ow, none⟩) x.length cw) x := ⟨bw, ow, cw, rfl, hw2, hw3, hw4⟩
  refine W.dop (digest_ID_spec (s := oSt s.mem s.next) (Nat.le_refl _) (hwn.same rfl rfl).bs (fun y hy => hwn.lt y hy) hxb (by omega) (by omega) fun s2 x2 => ⟨_, x2, fun rd2 hr2 => ?_⟩)
  have n2 : s.next ≤ s2.next := x2.nxt
  simp -implicitDefEqProofs only [W_dpure]
  rw [W_dq fun s Q => W_idxSl (s := s) ty_hs_sl (show i < N by omega) Q]
  rw [W_dq fun s Q => W_fld (s := s) ty_h_id (by decide) Q]
  have keep : ∀ o u, Own s b o u → Own (dSt s2.mem s2.next) b o u := fun o u hu => (((hu.same (s' := oSt s.mem s.next) rfl rfl).ext0 x2).same rfl rfl)
  have oid : OwnRow (dSt s2.mem s2.next) b (0 + i * 18 + 0) (u8l h.1) := fun j u hj => keep _ _ (held_id hr j u hj)
  refine W.dloadA ty_ID_1 oid.row (by rw [u8l_length]; exact h16) fun mem3 rd3 hm3 hr3 => ?_
  subst hm3
  rw [W_dq fun s Q => W_neArr (s := s) ty_ID_b (idB_len x) h16 Q]
  rw [hid, W_dq fun s Q => W_pick (s := s) _ _ _ _]
  simp -implicitDefEqProofs only [decide_true, Bool.not_true, Bool.false_eq_true, reduceIte, W_dpure, isK_bool, chk_t, isB_ff, if_t]
  rw [W_dq fun s Q => W_idxSl (s := s) ty_hs_sl (show i < N by omega) Q]
  rw [W_dq fun s Q => W_fld (s := s) ty_h_at (by decide) Q]
  have o16 : At (dSt s2.mem s2.next) b (0 + i * 18 + 16) (.int .i64 (h.2.1 : Nat)) := (keep _ _ (hr 16 _ (heldC_get h16).1)).at'
  refine W.dload ty_int_1' o16 fun rd4 hr4 => ?_
  simp -implicitDefEqProofs only [W_dpure]
  rw [W_dq fun s Q => W_lss64 (s := s) _ _, W_pure]
  have e2 : decide (((h.2.1 : Nat) : Int) < ((e : Nat) : Int)) = false := decide_eq_false (by omega)
  rw [e2]
  have hold3 : ∀ y, y ∈ rd3 → y < s.next ∧ b ≤ y := fun y hy => by
    have h5 := (hr3 y hy).1
    have h6 := (hr3 y hy).2
    omega
  refine ⟨apartM_old (by simp) (by
    simp -implicitDefEqProofs only [List.reverse_cons, List.reverse_nil, List.nil_append, List.cons_append, List.mem_cons, List.not_mem_nil, or_false]
    rintro m (rfl | rfl | rfl | rfl | rfl | rfl | rfl | rfl | rfl | rfl | rfl | rfl | rfl | rfl | rfl | rfl | rfl | rfl | rfl | rfl | rfl | rfl | rfl | rfl | rfl | rfl | rfl | rfl | rfl | rfl) <;> refine ⟨rfl, fun y hy => ?_⟩ <;> first | (cases hy; done) | (have := hr1 _ hy; omega) | (exact (hr2 _ hy).1) | (exact (hold3 _ hy).1) | (have := hr4 _ hy; omega)), ?_⟩
  refine W.cast (law_Honest_L13 _ _ _ _ _ _ _ _ _ _ _ _ _ _ _ _ _ _ _ _ _ _ _ _ _ _ _ _ _ _ _ _ _ _ _) ?_
  simp -implicitDefEqProofs only [W_bind, W_on, W_pure, W_setT, reduceIte, W_pick, reduceCtorEq, ↓reduceIte]
  refine q _ _ _ _ (by omega) law_Honest_S13_15 (Ext.drawG n2 (fun y hy _ => x2.mem y hy id) ?_ ?_) (fun j hj => by rw [T.get_set, if_neg hj]) (by rw [T.get_set, if_pos rfl])
  · simp -implicitDefEqProofs only [List.mem_cons, List.not_mem_nil, or_false]
    rintro m (rfl | rfl | rfl | rfl | rfl | rfl | rfl | rfl | rfl | rfl | rfl | rfl | rfl | rfl | rfl | rfl | rfl | rfl | rfl | rfl | rfl | rfl | rfl | rfl | rfl | rfl | rfl | rfl | rfl | rfl) y hy _ <;> cases hy
  · simp -implicitDefEqProofs only [List.mem_cons, List.not_mem_nil, or_false]
    rintro m (rfl | rfl | rfl | rfl | rfl | rfl | rfl | rfl | rfl | rfl | rfl | rfl | rfl | rfl | rfl | rfl | rfl | rfl | rfl | rfl | rfl | rfl | rfl | rfl | rfl | rfl | rfl | rfl | rfl | rfl) y hy _ <;> first | (cases hy; done) | (have := hr1 _ hy; exact .inr (by omega)) | (exact .inl (hr2 _ hy).2) | (exact .inr (hold3 _ hy).2) | (have := hr4 _ hy; exact .inr (by omega))
/-- Where the next one may begin. -/
theorem hon_next {b c N i n : Nat} {hs : List Hd} {h : Hd} {tm : T Value} {td : List Item} {s : St} {Q : Value × FrameMode → St → Prop} (ho : OwnRow s b 0 (heldCs hs)) (hall : ∀ h ∈ hs, h.1.length = 16) (hN : N = hs.length) (hi : hs[i]? = some h) (hm1 : 1 ≤ h.2.2) (hmax : h.2.2 ≤ 1024) (hat : h.2.1 ≤ 1000000)
    (h4 : T.get tm 4 = some (.slice (some ⟨b, 0, none⟩) N c)) (h9 : T.get tm 9 = some (.int .i64 (i : Nat))) (hT : skim 64 td = law_Honest_P17) (hn : 1000 ≤ n)
    (q : ∀ n' s1 tm' td', n ≤ n' + 2 → skim 64 td' = law_Honest_P19 → Ext (fun y => b ≤ y) Non s s1 → (∀ j, j ≠ 8 → T.get tm' j = T.get tm j) → T.get tm' 8 = some (.int .i64 (h.2.1 + 26 + h.2.2 : Nat)) → W (runF envS n' ⟨8, law_Honest_nt, law_Honest_g, tm', td', .run, .normal, none⟩) s1 Q) :
    W (runF envS n ⟨8, law_Honest_nt, law_Honest_g, tm, td, .run, .normal, none⟩) s Q := by
  have hil : i < hs.length := (List.getElem?_eq_some_iff.1 hi).1
  have h16 : h.1.length = 16 := hall h (List.mem_of_getElem? hi)
  have hr := held_row ho hall hi
  have hrn : b + (i * 18 + 17) < s.next := by
    have := (hr 17 _ (heldC_get h16).2).1
    omega
  refine law_Honest_q17.w hT (by omega) ?_
  have keep : ∀ o u, Own s b o u → Own (dSt s.mem s.next) b o u := fun o u hu => hu.same rfl rfl
  simp -implicitDefEqProofs only [law_Honest_d17, h4, h9, oS_some, on_some', seqO_cons, seqO_nil, onO_some', callV_fn, W_dpure]
  rw [W_dq fun s Q => W_idxSl (s := s) ty_hs_sl (show i < N by omega) Q]
  rw [W_dq fun s Q => W_fld (s := s) ty_h_at (by decide) Q]
  refine W.dload ty_int_1' (keep _ _ (hr 16 _ (heldC_get h16).1)).at' fun rd1 hr1 => ?_
  simp -implicitDefEqProofs only [W_dpure]
  rw [W_dq fun s Q => W_idxSl (s := s) ty_hs_sl (show i < N by omega) Q]
  rw [W_dq fun s Q => W_fld (s := s) ty_h_sz (by decide) Q]
  refine W.dload ty_int_1' (keep _ _ (hr 17 _ (heldC_get h16).2)).at' fun rd2 hr2 => ?_
  refine W.dop0 (pack_Size_spec _ (by omega) ⟨rfl, ?_⟩)
  rw [sizeP_in hm1 hmax]
  have e1 : wrap64 (((h.2.1 : Nat) : Int) + ((h.2.2 + 26 : Nat) : Int)) = ((h.2.1 + 26 + h.2.2 : Nat) : Int) := by
    rw [wrap64_id (by omega) (by omega)]; omega
  rw [W_dq fun s Q => W_add64 (s := s) _ _, e1, W_pure]
  refine ⟨apartM_old (by simp) (by
    simp -implicitDefEqProofs only [List.reverse_cons, List.reverse_nil, List.nil_append, List.cons_append, List.mem_cons, List.not_mem_nil, or_false]
    rintro m (rfl | rfl | rfl | rfl | rfl | rfl | rfl | rfl | rfl | rfl | rfl | rfl) <;> refine ⟨rfl, fun y hy => ?_⟩ <;> first | (cases hy; done) | (have := hr1 _ hy; omega) | (have := hr2 _ hy; omega)), ?_⟩
  refine W.cast (law_Honest_L17 _ _ _ _ _ _ _ _ _ _ _ _ _ _ _ _ _) ?_
  simp -implicitDefEqProofs only [W_bind, W_oS, W_pure, W_setT]
  refine q _ _ _ _ (by omega) law_Honest_S17_19 (Ext.drawG (Nat.le_refl _) (fun y hy _ => rfl) ?_ ?_) (fun j hj => by rw [T.get_set, if_neg hj]) (by rw [T.get_set, if_pos rfl])
  · simp -implicitDefEqProofs only [List.mem_cons, List.not_mem_nil, or_false]
    rintro m (rfl | rfl | rfl | rfl | rfl | rfl | rfl | rfl | rfl | rfl | rfl | rfl) y hy _ <;> cases hy
  · simp -implicitDefEqProofs only [List.mem_cons, List.not_mem_nil, or_false]
    rintro m (rfl | rfl | rfl | rfl | rfl | rfl | rfl | rfl | rfl | rfl | rfl | rfl) y hy _ <;> first | (cases hy; done) | (have := hr1 _ hy; show b ≤ y; omega) | (have := hr2 _ hy; show b ≤ y; omega)
end Go.Proofs.Ytofanlcjeohcjaa.Am
/- satchellaw17.PackHonest, said of all states: it answers true. -/
namespace Go.Proofs.Ytofanlcjeohcjaa.Am
open Go.RowKit

section
variable {E : Env} {s : St} {t : Nat}
theorem eqB_run {a b : Bool} {xo yo : Operand} (h : E.P.underlying t = some .bool) : Cl.get (aBin E .eql t xo yo) (.bool a) (.bool b) s = .some (.bool (a == b)) s := by
  show binSlow E .eql t xo yo (.bool a) (.bool b) s = _
  unfold binSlow
  show M.on (semP E.P (do pure (.bool (← Op.equalIn (9999 + 1) t (.bool a) (.bool b))))) pV s = _
  have e : semP E.P (Op.equalIn (9999 + 1) t (.bool a) (.bool b)) = some (a == b) := by
    unfold Op.equalIn
    rw [semP_bind, semP_underlying h]
    rfl
  rw [semP_bind, e]
  rfl
theorem W_eqB {a b : Bool} {xo yo : Operand} (h : E.P.underlying t = some .bool) (Q : Value → St → Prop) : W (Cl.get (aBin E .eql t xo yo) (.bool a) (.bool b)) s Q = Q (.bool (a == b)) s := W_run (eqB_run h)
end
theorem ty_bool_u : envS.P.underlying 4 = some .bool := by kernel_rfl
theorem orc_awake17 : envS.orc.get 15 = some (closedM (.bool true)) := by kernel_rfl
theorem slLen_hs {s : St} {v : Value} {hs : List Hd} {s0 : St} (h : HeldR s0 s v hs) : ∃ p c, v = .slice p hs.length c := by
  rcases h with ⟨rfl, rfl⟩ | ⟨b, _, hm, _⟩
  · exact ⟨_, _, rfl⟩
  · exact ⟨_, _, hm.val⟩
/-- The last step. -/
theorem hon_end {n : Nat} {v : Value} {l : List Nat} {tm : T Value} {td : List Item} {s s0 : St} (hcx : s.cx = cxN) (hbs : Bs s v l) (h0 : T.get tm 0 = some v) (h3 : T.get tm 3 = some (.bool true)) (h5 : T.get tm 5 = some (.int .i64 ((scanAll l).2.2.1 : Nat))) (h6 : T.get tm 6 = some (.int .i64 ((scanAll l).2.1 : Nat))) (h7 : T.get tm 7 = some (.int .i64 ((scanAll l).2.2.2 : Nat))) (h8 : T.get tm 8 = some (.int .i64 (endB 0 (scanAll l).1 : Nat)))
    (hT : skim 64 td = law_Honest_P12) (hn : 10 ≤ n) : W (runF envS n ⟨8, law_Honest_nt, law_Honest_g, tm, td, .run, .normal, none⟩) s fun p s1 => (fun (u : Value) (_ : St) => u = .bool true) p.1 (s1.cxN s0.cx) := by
  obtain ⟨_, e1, _, e2, e3, e4⟩ := scanAll_ok l
  refine law_Honest_q12.w hT (by omega) ?_
  have d1 : decide (((endB 0 (scanAll l).1 : Nat) : Int) ≤ (((scanAll l).2.2.1 : Nat) : Int)) = true := decide_eq_true (by omega)
  have d2 : decide ((((scanAll l).2.2.1 : Nat) : Int) ≤ ((l.length : Nat) : Int)) = true := decide_eq_true (by omega)
  have d3 : decide ((0 : Int) ≤ (((scanAll l).2.1 : Nat) : Int)) = true := decide_eq_true (by omega)
  have d4 : (decide ((((scanAll l).2.2.2 : Nat) : Int) = 0) == decide ((((scanAll l).2.2.1 : Nat) : Int) = ((l.length : Nat) : Int))) = true := by
    rw [beq_iff_eq, decide_eq_decide]
    constructor
    · intro h
      have := e3.1 (by omega)
      omega
    · intro h
      have := e3.2 (by omega)
      omega
  have d5 : decide ((0 : Int) ≤ (((scanAll l).2.2.2 : Nat) : Int)) = true := decide_eq_true (by omega)
  have d6 : decide ((((scanAll l).2.2.2 : Nat) : Int) ≤ 2) = true := decide_eq_true (by omega)
  simp -implicitDefEqProofs only [law_Honest_r12, W_bind, W_oS, W_on, W_pure, W_mv, W_setF, seqO_cons, seqO_nil, onO_some', reduceIte, isK_bool, isB_tt, W_chk, W_ifT, W_pick, ↓reduceIte, W_leq64, W_geq64, W_eql64, h0, h3, h5, h6, h7, h8, hbs.len ty_b_sl, W_eqB ty_bool_u, d1, d2, d3, d4, d5, d6]
  exact W.end' (rs := [2]) (vs := [.bool true]) law_Honest_S12_14 (.inl law_Honest_E14) (by omega) law_Honest_fn law_Honest_res hcx (by simp [T.get_set]) rfl
theorem chain_len : ∀ (t : List Hd) (e : Nat), chainB e t → e + t.length ≤ endB e t := by
  intro t
  induction t with
  | nil => intro e _; exact Nat.le_refl _
  | cons h t ih =>
    intro e hc
    have := ih _ hc.2
    have h1 := hc.1
    rw [List.length_cons]
    show e + (t.length + 1) ≤ endB (h.2.1 + 26 + h.2.2) t
    omega
theorem scanAll_len (l : List Nat) : (scanAll l).1.length ≤ l.length := by
  obtain ⟨c1, c2, _, c4, _, _⟩ := scanAll_ok l
  have := chain_len _ 0 c1
  omega
theorem hon_loop {v w : Value} {l : List Nat} {hs : List Hd} {s0 sb : St} (hby : Byt l) (hz : l.length ≤ 6000) (hhs : hs = (scanAll l).1) : ∀ (k i n : Nat) (tm : T Value) (td : List Item) (s : St), i + k = hs.length → 70000 + 60 * k ≤ n → skim 64 td = law_Honest_P9 → s.lim ≤ s.next → s.cx = cxN → Bs s v l → HeldR sb s w hs →
    T.get tm 0 = some v → T.get tm 3 = some (.bool true) → T.get tm 4 = some w → T.get tm 5 = some (.int .i64 ((scanAll l).2.2.1 : Nat)) → T.get tm 6 = some (.int .i64 ((scanAll l).2.1 : Nat)) → T.get tm 7 = some (.int .i64 ((scanAll l).2.2.2 : Nat)) → T.get tm 8 = some (.int .i64 (endB 0 (hs.take i) : Nat)) → T.get tm 9 = some (.int .i64 (i : Nat)) →
    W (runF envS n ⟨8, law_Honest_nt, law_Honest_g, tm, td, .run, .normal, none⟩) s fun p s1 => (fun (u : Value) (_ : St) => u = .bool true) p.1 (s1.cxN s0.cx) := by
  obtain ⟨c1, c2, c3, c4, _, _⟩ := scanAll_ok l
  have hmany := scanAll_len l
  rw [← hhs] at c1 c2 c3 hmany
  intro k
  induction k with
  | zero =>
    intro i n tm td s hi hn hT hb hcx hbs hw h0 h3 h4 h5 h6 h7 h8 h9
    obtain ⟨p, c, hwe⟩ := slLen_hs hw
    refine law_Honest_q9.w hT (by omega) ?_
    simp -implicitDefEqProofs only [law_Honest_r9, W_bind, W_oS, W_pure, W_mv, W_setF, seqO_cons, seqO_nil, onO_some', W_lss64, h4, h9, hwe, W_lenSl ty_hs_sl]
    refine W.cond (v := false) law_Honest_S9_10 law_Honest_C10 (by simp [T.get_set]; omega) (by omega) (fun h => by cases h) fun _ => ?_
    rw [List.take_of_length_le (by omega), hhs] at h8
    exact hon_end (l := l) (s0 := s0) hcx hbs (by simp [T.get_set, h0]) (by simp [T.get_set, h3]) (by simp [T.get_set, h5]) (by simp [T.get_set, h6]) (by simp [T.get_set, h7]) (by simp [T.get_set, h8]) law_Honest_S10_12 (by omega)
  | succ k ih =>
    intro i n tm td s hi hn hT hb hcx hbs hw h0 h3 h4 h5 h6 h7 h8 h9
    have hil : i < hs.length := by omega
    obtain ⟨h, hh⟩ : ∃ h, hs[i]? = some h := ⟨_, List.getElem?_eq_getElem hil⟩
    have hmem := List.mem_of_getElem? hh
    obtain ⟨f1, f2, f3, f4, f5, f6, f7⟩ := (c3 h hmem).facts
    obtain ⟨t1, t2⟩ := chain_take c1 hh
    have hall : ∀ h ∈ hs, h.1.length = 16 := fun x hx => (c3 x hx).facts.2.2.2.2.2.1
    refine law_Honest_q9.w hT (by omega) ?_
    rcases hw with ⟨rfl, hnil⟩ | ⟨b, hsb, hm, hne⟩
    · rw [hnil] at hil
      simp at hil
    · have hwe := hm.val
      have hmk := hm
      generalize hcap : capU * ((b + hs.length * 18) * 1024 + 18) + hs.length = c at hwe
      subst hwe
      simp -implicitDefEqProofs only [law_Honest_r9, W_bind, W_oS, W_pure, W_mv, W_setF, seqO_cons, seqO_nil, onO_some', W_lss64, h4, h9, W_lenSl ty_hs_sl]
      refine W.cond (v := true) law_Honest_S9_10 law_Honest_C10 (by simp [T.get_set]; omega) (by omega) (fun _ => ?_) fun h => by cases h
      refine law_Honest_q11.w law_Honest_S10_11 (by omega) ?_
      simp -implicitDefEqProofs only [law_Honest_r11, W_bind, W_oS, W_on, W_pure, W_mv, W_setF, T.get_set, seqO_cons, seqO_nil, onO_some', W_callV, reduceIte, Nat.reduceEqDiff, Nat.reduceEqDiff, reduceCtorEq, ↓reduceIte, h0, h4, h9, W_idxSl ty_hs_sl hil]
      have hr := held_row hm.own hall hh
      refine W.loadA ty_held_1 hr.row (heldC_len f6) fun s1 m1 n1 x1 => ?_
      have hb1 : s1.lim ≤ s1.next := x1.bnd hb
      have hbs1 := hbs.ext0 x1
      have hm1 := hm.ext x1 fun _ _ h => h
      try simp -implicitDefEqProofs only [W_bind, W_oS, W_on, W_pure, W_mv, W_setF, W_setT, T.get_set, seqO_cons, seqO_nil, seqP_cons, seqP_nil, onO_some', W_callV, reduceIte, isK_bool, isB_tt, isB_tf, isB_ft, isB_ff, W_chk, W_ifT, W_ifF, W_pick, W_nil, Nat.reduceEqDiff, Nat.reduceEqDiff, reduceCtorEq, ↓reduceIte]
      refine get_spec hb1 hbs1 hby (by omega) (by omega) f6 (by omega) (fun _ _ s2 w2 x2 hw2 hw2n => ?_) (fun _ q => by rw [f2] at q; cases q) fun q => by rw [f1] at q; cases q
      have hb2 : s2.lim ≤ s2.next := x2.bnd hb1
      have hbs2 := hbs1.ext0 x2
      have hm2 := hm1.ext x2 fun _ _ h => h
      rw [W_ext (k := 0) rfl, W_ext (k := 1) rfl]
      refine hon_ask (b := b) (N := hs.length) (e := endB 0 (hs.take i)) (i := i) (hs := hs) (h := h) (x := bodyC l h.2.1 h.2.2) hm2.own hall rfl hh hw2 (byt_sub (body_byt hby _ _) fun y hy => List.mem_of_mem_drop hy) (bodyC_len f3) f5 f7 t1 (by simp [T.get_set, h4]; rfl) (by simp [T.get_set, h8]) (by simp [T.get_set, h9]) (by simp [T.get_set]) (by simp [T.get_set]) law_Honest_S11_13 (by omega) fun n' s3 tm3 td3 hn' hT3 x3 hk3 h69 => ?_
      have hb3 : s3.lim ≤ s3.next := x3.bnd hb2
      have hbs3 := hbs2.ext0 x3
      have hm3 := hm2.ext x3 fun _ _ h => h
      refine W.cond (v := false) hT3 law_Honest_C15 h69 (by omega) (fun h => by cases h) fun _ => ?_
      have g : ∀ j, j ≠ 69 → j ≠ 27 → j ≠ 10 → j ≠ 11 → T.get tm3 j = T.get tm j := fun j a1 a2 a3 a4 => by rw [hk3 j a1]; simp [T.get_set, a2, a3, a4]
      refine hon_next (b := b) (N := hs.length) (i := i) (hs := hs) (h := h) hm3.own hall rfl hh f4 f5 (by omega) (by rw [g 4 (by decide) (by decide) (by decide) (by decide)]; exact h4) (by rw [g 9 (by decide) (by decide) (by decide) (by decide)]; exact h9) law_Honest_S15_17 (by omega) fun n4 s4 tm4 td4 hn4 hT4 x4 hk4 h84 => ?_
      have g4 : ∀ j, j ≠ 8 → j ≠ 69 → j ≠ 27 → j ≠ 10 → j ≠ 11 → T.get tm4 j = T.get tm j := fun j a0 a1 a2 a3 a4 => by rw [hk4 j a0, g j a1 a2 a3 a4]
      refine law_Honest_q19.w hT4 (by omega) ?_
      have e1 : wrap64 (((i : Nat) : Int) + 1) = ((i + 1 : Nat) : Int) := by
        rw [wrap64_id (by omega) (by omega)]; omega
      have k9 : T.get tm4 9 = some (.int .i64 (i : Nat)) := by rw [g4 9 (by decide) (by decide) (by decide) (by decide) (by decide)]; exact h9
      simp -implicitDefEqProofs only [law_Honest_r19, W_bind, W_oS, W_pure, W_mv, W_setF, W_add64, k9, e1]
      have ge : ∀ j u, j ≠ 8 → j ≠ 69 → j ≠ 27 → j ≠ 10 → j ≠ 11 → j ≠ 9 → T.get tm j = some u → T.get (T.set tm4 9 (.int .i64 (i + 1 : Nat))) j = some u := fun j u a0 a1 a2 a3 a4 a5 hu => by
        rw [T.get_set, if_neg a5, g4 j a0 a1 a2 a3 a4]
        exact hu
      refine ih (i + 1) (n4 - 1) _ _ s4 (by omega) (by omega) law_Honest_S19_9 (x4.bnd hb3) (x4.cx.trans (x3.cx.trans (x2.cx.trans (x1.cx.trans hcx)))) (hbs3.ext0 x4) (.inr ⟨b, hsb, by rw [hcap] at *; exact hm3.ext x4 fun _ _ h => h, hne⟩) (ge 0 _ (by decide) (by decide) (by decide) (by decide) (by decide) (by decide) h0) (ge 3 _ (by decide) (by decide) (by decide) (by decide) (by decide) (by decide) h3) (ge 4 _ (by decide) (by decide) (by decide) (by decide) (by decide) (by decide) h4) (ge 5 _ (by decide) (by decide) (by decide) (by decide) (by decide) (by decide) h5) (ge 6 _ (by decide) (by decide) (by decide) (by decide) (by decide) (by decide) h6) (ge 7 _ (by decide) (by decide) (by decide) (by decide) (by decide) (by decide) h7) ?_ (by simp [T.get_set])
      rw [T.get_set, if_neg (by decide), h84, t2]
/-- The law, of at most 6,000 bytes. -/
theorem hon_W {n : Nat} {v : Value} {l : List Nat} {s : St} (hbd : s.lim ≤ s.next) (hbs : Bs s v l) (hvA : ∀ x, BsF v x → x < s.next) (hby : Byt l) (hz : l.length ≤ 6000) (hn : 600000 ≤ n) : W (callW envS (runF envS n) 8 [v]) s fun u _ => u = .bool true := by
  refine law_Honest_W fun tm h0 => ?_
  have hbs0 : Bs (s.cxN cxN) v l := hbs.same rfl rfl
  refine law_Honest_q0.w rfl (by omega) ?_
  simp -implicitDefEqProofs only [law_Honest_r0, W_pure, W_mv, W_setF]
  refine law_Honest_q1.w law_Honest_S0_1 (by omega) ?_
  simp -implicitDefEqProofs only [law_Honest_r1, W_bind, W_on, W_pure, W_mv, W_setF, seqO_nil, W_callV]
  refine W.orc orc_awake17 (W.pure ?_)
  refine law_Honest_q2.w law_Honest_S1_2 (by omega) ?_
  simp -implicitDefEqProofs only [law_Honest_r2, W_bind, W_oS, W_pure, W_mv, W_setF, T.get_set, seqO_cons, seqO_nil, onO_some', reduceIte, reduceCtorEq, ↓reduceIte, W_gtr64, h0, hbs0.len ty_b_sl]
  refine W.cond (v := false) law_Honest_S2_3 law_Honest_C3 (by simp [T.get_set]; omega) (by omega) (fun h => by cases h) fun _ => ?_
  refine law_Honest_q5.w law_Honest_S3_5 (by omega) ?_
  simp -implicitDefEqProofs only [law_Honest_r5, W_bind, W_oS, W_on, W_pure, W_mv, W_setF, T.get_set, seqO_cons, seqO_nil, onO_some', W_callV, reduceIte, reduceCtorEq, ↓reduceIte, h0]
  refine scan_spec (s := s.cxN cxN) hbd hbs0 hvA hby (by omega) (by omega) fun s1 w x1 hw => ?_
  rw [W_ext (k := 0) rfl, W_ext (k := 1) rfl, W_ext (k := 2) rfl, W_ext (k := 3) rfl]
  refine law_Honest_q7.w law_Honest_S5_7 (by omega) ?_
  simp -implicitDefEqProofs only [law_Honest_r7, W_pure, W_mv, W_setF]
  refine law_Honest_q8.w law_Honest_S7_8 (by omega) ?_
  simp -implicitDefEqProofs only [law_Honest_r8, W_pure, W_mv, W_setF]
  have hcnt := scanAll_len l
  refine hon_loop (v := v) (w := w) (l := l) (hs := (scanAll l).1) (s0 := s) (sb := s.cxN cxN) hby hz rfl (scanAll l).1.length 0 _ _ _ s1 (by omega) (by omega) law_Honest_S8_9 (x1.bnd hbd) x1.cx (hbs0.ext0 x1) hw (by simp [T.get_set, h0]) (by simp [T.get_set]) (by simp [T.get_set]) (by simp [T.get_set]) (by simp [T.get_set]) (by simp [T.get_set]) (by simp [T.get_set]; rfl) (by simp [T.get_set])
end Go.Proofs.Ytofanlcjeohcjaa.Am
/- satchellaw17.PackHonest: its contract, for all arguments of its types. -/
namespace Go.Proofs.Ytofanlcjeohcjaa.Am
open Go.RowKit Go.ChangeShapes Go.WideShapes

/-- The law, of more bytes than it goes through. -/
theorem hon_big {n N c : Nat} {p : Option Addr} {s : St} (hN : 6000 < N) (hn : 100 ≤ n) : W (callW envS (runF envS n) 8 [.slice p N c]) s fun u _ => u = .bool true := by
  refine law_Honest_W fun tm h0 => ?_
  refine law_Honest_q0.w rfl (by omega) ?_
  simp -implicitDefEqProofs only [law_Honest_r0, W_pure, W_mv, W_setF]
  refine law_Honest_q1.w law_Honest_S0_1 (by omega) ?_
  simp -implicitDefEqProofs only [law_Honest_r1, W_bind, W_on, W_pure, W_mv, W_setF, seqO_nil, W_callV]
  refine W.orc orc_awake17 (W.pure ?_)
  refine law_Honest_q2.w law_Honest_S1_2 (by omega) ?_
  simp -implicitDefEqProofs only [law_Honest_r2, W_bind, W_oS, W_pure, W_mv, W_setF, T.get_set, seqO_cons, seqO_nil, onO_some', reduceIte, reduceCtorEq, ↓reduceIte, W_gtr64, h0, W_lenSl ty_b_sl]
  refine W.cond (v := true) law_Honest_S2_3 law_Honest_C3 (by simp [T.get_set]; omega) (by omega) (fun _ => ?_) fun h => by cases h
  refine law_Honest_q4.w law_Honest_S3_4 (by omega) ?_
  simp -implicitDefEqProofs only [law_Honest_r4, W_pure, W_mv, W_setF, T.get_set, reduceIte, Nat.reduceEqDiff, Nat.reduceEqDiff, ↓reduceIte]
  exact W.end' (rs := [2]) (vs := [.bool true]) law_Honest_S4_6 (.inl law_Honest_E6) (by omega) law_Honest_fn law_Honest_res rfl (by simp [T.get_set]) rfl
theorem envS_P17 : envS.P = Try.prog := by kernel_rfl
theorem hon_params : Try.f8.params.toList = [22] := by kernel_rfl
theorem hon_params' : Try.f8.params = #[22] := by kernel_rfl
theorem under_bytes : Try.prog.underlying 22 = some (.slice 5) := by kernel_rfl
theorem under_u8 : Try.prog.underlying 5 = some (.int .u8) := by kernel_rfl
theorem cells_u8 : Try.prog.cellsOf 5 = 1 := by kernel_rfl
theorem hon_orc : envS.orc.get 8 = none := by kernel_rfl
theorem hon_ext : envS.ext.get 8 = none := by kernel_rfl
set_option maxRecDepth 1000000 in
theorem walkHonest {H : Type} {enc : TypeId × Value → H} {w : World} {base : Nat} {args : Array Value} {ds : List (DataW H)} {ps : List MemPlace} (hA : DataW.TrodAll enc Try.prog w 0 (fun _ => true) true Try.f8.params.toList args.toList ds ps)
    (hv : ∀ (j : Nat) t v, Try.f8.params[j]? = some t → args[j]? = some v → Value.okWide Try.prog w .any base t v) : Calls Try.prog 8 args w fun e w' => e = .returned (.bool true) ∧ Below w.heap.size w w' := by
  rw [hon_params] at hA
  rw [hon_params'] at hv
  obtain ⟨v, d, rfl, rfl, hj⟩ := trodAll_one hA
  rcases ok_bytes under_bytes under_u8 cells_u8 (hv 0 _ v rfl rfl) hj with rfl | ⟨b, o, len, cap, l, rfl, hc, hm, rfl, hb, hby, hcell⟩
  · have h := calls_plain (args := #[.slice none 0 0]) envS_ok hon_orc hon_ext (hon_W (n := 600000) (v := .slice none 0 0) (l := []) (s := st0) (Nat.le_refl _) (.inl ⟨rfl, rfl⟩) (fun x hx => hx.elim) (fun x hx => by simp at hx) (by simp) (by omega)) rfl (by
      intro v hv
      simp -implicitDefEqProofs only [List.mem_cons, List.not_mem_nil, or_false] at hv
      rw [hv]
      rfl) w
    rw [envS_P17] at h
    exact h
  · obtain ⟨e1, e2, e3, e4⟩ := row_bs l hc hm
    have hbs : Bs (stRow (u8l l)) (.slice (some ⟨0, 0, none⟩) l.length cap) l := .inr ⟨0, 0, cap, rfl, e2, e3, e4⟩
    have hrun : W (callW envS (runF envS 600000) 8 [.slice (some ⟨0, 0, none⟩) l.length cap]) (stRow (u8l l)) fun u _ => u = .bool true := by
      by_cases hlen : l.length ≤ 6000
      · refine hon_W (Nat.zero_le _) hbs (fun x hx => ?_) hby hlen (by omega)
        have h1 : x < 0 + 0 + l.length := hx.2
        show x < (u8l l).length + 1
        rw [u8l_length]
        omega
      · exact hon_big (by omega) (by omega)
    have h := calls_bytes (fuel := 600000) envS_ok hon_orc hon_ext hc hm hrun rfl hb hcell
    rw [envS_P17] at h
    exact h
end Go.Proofs.Ytofanlcjeohcjaa.Am
