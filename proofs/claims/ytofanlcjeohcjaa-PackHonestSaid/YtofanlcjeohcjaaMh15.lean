/- digest.Digest.Write, said of all states. -/
import Derived.Test.YtofanlcjeohcjaaMh14
import Derived.Test.YtofanlcjeohcjaaMh07
import Derived.Test.YtofanlcjeohcjaaMh13
import Derived.KernelRfl
namespace Go.Proofs.Ytofanlcjeohcjaa.Am
open Go.RowKit

/-- What may be read of a digest at D, and of bytes; what may be turned. -/
abbrev DigF (D : Nat) (v : Value) : Nat → Prop := fun x => In D 0 74 x ∨ BsF v x
theorem Dig.setN {F : Nat → Prop} {s s2 : St} {D : Nat} {d : DS} (h : Dig s D d) {m : Nat} (x : Ext F (In D 73 1) s s2) (o : Own s2 D 73 (.int .i64 (m : Nat))) : Dig s2 D ⟨d.st, d.w, m⟩ :=
  ⟨h.made.ext x fun q => by have := q.1; omega, h.st.ext x fun i hi q => by have h3 : i < 8 := hi; have := q.1; omega, h.w.ext x fun i hi q => by rw [u8l_length, h.len] at hi; have := q.1; omega, o, h.len, h.byt, h.ok⟩
theorem Dig.setSt {F : Nat → Prop} {s s2 : St} {D : Nat} {d : DS} (h : Dig s D d) {r : Sha.St8} (hr : r.Ok) (x : Ext F (In D 1 8) s s2) (o : OwnRow s2 D 1 (st8V r).toList) : Dig s2 D ⟨r, d.w, d.n⟩ :=
  ⟨h.made.ext x fun q => by have := q.1; omega, o, h.w.ext x fun i hi q => by have := q.2; omega, h.n.ext x fun q => by have := q.2; omega, h.len, h.byt, hr⟩
theorem Row.same' {s s' : St} {b o : Nat} {l : List Value} (h : Row s b o l) (hm : s'.mem = s.mem) (hn : s'.next = s.next) : Row s' b o l := fun i v e => (h i v e).same hm hn
theorem write_loop {D : Nat} {v0 : Value} {Q : Value × FrameMode → St → Prop} {s0 : St} (hb0 : s0.lim ≤ s0.next) (hcx : s0.cx = .cx none (some [])) (hdis : ∀ x, BsF v0 x → ¬ In D 0 74 x) : ∀ (f n : Nat) (tm : T Value) (s : St) (td : List Item) (d : DS) (b : List Nat) (v : Value), b.length ≤ f → 20 * f + 60 ≤ n → skim 64 td = digest_Write_P3 → Ext (DigF D v0) (In D 0 74) s0 s → Dig s D d → d.n + b.length ≤ 1000000000 → (b ≠ [] → Bn s v b) → Bs s v b → Byt b → (∀ x, BsF v x → BsF v0 x) →
    T.get tm 0 = some (.pointer (some ⟨D, 0, none⟩)) → T.get tm 1 = some v → (∀ s1, Ext (DigF D v0) (In D 0 74) s0 s1 → Dig s1 D (DS.write f d b) → Q (.tuple #[], .run) s1) →
    W (runF envS n ⟨111, digest_Write_nt, digest_Write_g, tm, td, .run, .normal, none⟩) s Q := by
  intro f
  induction f with
  | zero =>
    intro n tm s td d b v hf hn hT hx hd hmax hbn hbs hbyt hv h0 h1 q
    have hb : b = [] := List.eq_nil_of_length_eq_zero (by omega)
    subst hb
    refine digest_Write_q3.w hT (by omega) ?_
    simp -implicitDefEqProofs only [digest_Write_r3, W_bind, W_oS, W_pure, W_mv, W_setF, seqO_cons, seqO_nil, onO_some', W_gtr64, h1, hbs.len ty_b_sl]
    refine W.cond (v := false) digest_Write_S3_4 digest_Write_C4 (by simp [T.get_set]) (by omega) (fun h => by cases h) fun _ => ?_
    refine W.end' (rs := []) (vs := []) digest_Write_S4_6 (.inr (by kernel_rfl)) (by omega) digest_Write_fn digest_Write_res (hx.cx.trans hcx) rfl ?_
    exact q s hx hd
  | succ f ih =>
    intro n tm s td d b v hf hn hT hx hd hmax hbn hbs hbyt hv h0 h1 q
    by_cases hbe : b.length = 0
    · have hb : b = [] := List.eq_nil_of_length_eq_zero hbe
      subst hb
      refine digest_Write_q3.w hT (by omega) ?_
      simp -implicitDefEqProofs only [digest_Write_r3, W_bind, W_oS, W_pure, W_mv, W_setF, seqO_cons, seqO_nil, onO_some', W_gtr64, h1, hbs.len ty_b_sl]
      refine W.cond (v := false) digest_Write_S3_4 digest_Write_C4 (by simp [T.get_set]) (by omega) (fun h => by cases h) fun _ => ?_
      refine W.end' (rs := []) (vs := []) digest_Write_S4_6 (.inr (by kernel_rfl)) (by omega) digest_Write_fn digest_Write_res (hx.cx.trans hcx) rfl ?_
      exact q s hx hd
    · have hbne : b ≠ [] := fun e => hbe (by rw [e]; rfl)
      obtain ⟨hk1, hk2⟩ := d.k_le b
      have hm : d.n % 64 < 64 := Nat.mod_lt _ (by decide)
      have hk0 : 0 < d.k b := by
        unfold DS.k
        exact Nat.lt_min.2 ⟨by omega, by omega⟩
      refine digest_Write_q3.w hT (by omega) ?_
      simp -implicitDefEqProofs only [digest_Write_r3, W_bind, W_oS, W_pure, W_mv, W_setF, seqO_cons, seqO_nil, onO_some', W_gtr64, h1, hbs.len ty_b_sl]
      refine W.cond (v := true) digest_Write_S3_4 digest_Write_C4 (by simp [T.get_set]; omega) (by omega) (fun _ => ?_) fun h => by cases h
      refine digest_Write_q5.w digest_Write_S4_5 (by omega) ?_
      simp -implicitDefEqProofs only [digest_Write_r5, W_bind, W_oS, W_pure, W_mv, W_setF, T.get_set, reduceIte, W_nil, reduceCtorEq, ↓reduceIte, h0, W_fld ty_D3 (by decide : 0 < 1)]
      refine W.load1 ty_int_1 hd.n.at' ?_
      have hxa : Ext (DigF D v0) (In D 0 74) s0 (s.rdN (D + (0 + 73))) := hx.trans (Ext.rdN (F := DigF D v0) s _ fun _ => .inl ⟨by omega, by omega⟩) hb0 (fun _ _ h => h) fun _ _ h => h
      have hda : Dig (s.rdN (D + (0 + 73))) D d := hd.same rfl rfl
      have hba : Bn (s.rdN (D + (0 + 73))) v b := (hbn hbne).same rfl rfl
      generalize s.rdN (D + (0 + 73)) = sa at hxa hda hba ⊢
      simp -implicitDefEqProofs only [W_rem64']
      refine digest_Write_q7.w digest_Write_S5_7 (by omega) ?_
      simp -implicitDefEqProofs only [digest_Write_r7, W_bind, W_oS, W_on, W_pure, W_mv, W_setF, T.get_set, seqO_cons, seqO_nil, onO_some', reduceIte, W_nil, Nat.reduceEqDiff, Nat.reduceEqDiff, reduceCtorEq, ↓reduceIte, h0, h1, W_fld ty_D2 (by decide : 0 < 64), W_slArr (lo := some (.int .i64 ((d.n % 64 : Nat) : Int))) (hi := none) (l := d.n % 64) (h := 64) ty_a64 (capU_gt (by decide)) rfl rfl (by omega) (Nat.le_refl _)]
      rw [if_neg (by omega)]
      obtain ⟨p, c, rfl⟩ := hba.bs.sl
      refine W.copy ty_b_el rfl (hba.bs.srcK hk1) (by rw [u8l_length, List.length_take]; show Nat.min (d.k b) b.length = d.k b * 1; rw [Nat.mul_one]; exact Nat.min_eq_left hk1) (u8l_one _) (fun i hi => ?_) fun sb nb xb rb => ?_
      · have hi' : i < d.k b * 1 := hi
        have := hda.w (d.n % 64 + i) (u8 (d.w[d.n % 64 + i]'(by rw [hda.len]; omega))) (by rw [List.getElem?_map, List.getElem?_eq_getElem (by rw [hda.len]; omega)]; rfl)
        exact ⟨_, by rw [show 0 + 9 + d.n % 64 * 1 + i = 9 + (d.n % 64 + i) by omega]; exact this⟩
      have hdisb : ∀ x, BsF (.slice p b.length c) x → ¬ In D 0 74 x := fun x hx' => hdis x (hv x hx')
      have hxb : Ext (DigF D v0) (In D 0 74) s0 sb := hxa.trans xb hb0 (fun x _ h => by
        rcases h with h | h
        · exact .inr (hv x h)
        · exact .inl ⟨by have := h.1; omega, by have := h.2; have h3 : d.k b ≤ 64 := by omega
                                                have h4 : x < D + (0 + 9 + d.n % 64 * 1) + d.k b * 1 := h.2
                                                omega⟩) fun x _ h => ⟨by have := h.1; omega, by have h4 : x < D + (0 + 9 + d.n % 64 * 1) + d.k b * 1 := h.2
                                                                                                omega⟩
      have hdb : Dig sb D ⟨d.st, d.w' b, d.n⟩ := hda.lay xb rb hbyt
      have hbb : Bn sb (.slice p b.length c) b := hba.ext xb fun x hx' h => hdisb x hx' ⟨by have := h.1; omega, by have h4 : x < D + (0 + 9 + d.n % 64 * 1) + d.k b * 1 := h.2
                                                                                                                   omega⟩
      clear xb rb hda hba hxa nb
      have hkmin : Nat.min (64 - d.n % 64) b.length = d.k b := rfl
      simp -implicitDefEqProofs only [hkmin]
      refine digest_Write_q8.w digest_Write_S7_8 (by omega) ?_
      simp -implicitDefEqProofs only [digest_Write_r8, W_bind, W_on, W_pure, W_mv, W_setF, T.get_set, onO_some', reduceIte, Nat.reduceEqDiff, Nat.reduceEqDiff, ↓reduceIte, h1]
      refine W.cut hbb ty_b_sl (i := d.k b) (j := b.length) rfl rfl hk1 (Nat.le_refl _) fun v1 hv1 hF1 => ?_
      rw [List.take_length] at hv1
      refine digest_Write_q9.w digest_Write_S8_9 (by omega) ?_
      simp -implicitDefEqProofs only [digest_Write_r9, W_bind, W_oS, W_pure, W_mv, T.get_set, reduceIte, W_nil, Nat.reduceEqDiff, Nat.reduceEqDiff, reduceCtorEq, ↓reduceIte, h0, W_fld ty_D3 (by decide : 0 < 1)]
      refine W.load1 ty_int_1 hdb.n.at' ?_
      have en : wrap64 ((d.n : Nat) + (d.k b : Nat) : Int) = ((d.n + d.k b : Nat) : Int) := by
        rw [wrap64_id (by omega) (by omega)]; simp
      simp -implicitDefEqProofs only [W_add64, en]
      have hxb1 : Ext (DigF D v0) (In D 0 74) s0 (sb.rdN (D + (0 + 73))) := hxb.trans (Ext.rdN (F := DigF D v0) sb _ fun _ => .inl ⟨by omega, by omega⟩) hb0 (fun _ _ h => h) fun _ _ h => h
      have hdb1 : Dig (sb.rdN (D + (0 + 73))) D ⟨d.st, d.w' b, d.n⟩ := hdb.same rfl rfl
      have hv2 : Bn (sb.rdN (D + (0 + 73))) v1 (b.drop (d.k b)) := hv1.same rfl rfl
      generalize sb.rdN (D + (0 + 73)) = sc at hxb1 hdb1 hv2 ⊢
      refine W.store1 ty_int_1 rfl hdb1.n fun se ne xe oe => ?_
      have hxe : Ext (DigF D v0) (In D 0 74) s0 se := hxb1.trans xe hb0 (fun x _ h => .inl ⟨by have := h.1; omega, by have := h.2; omega⟩) fun x _ h => ⟨by have := h.1; omega, by have := h.2; omega⟩
      have hde : Dig se D ⟨d.st, d.w' b, d.n + d.k b⟩ := hdb1.setN xe oe
      have hve : Bn se v1 (b.drop (d.k b)) := hv2.ext xe fun x hx' h => hdisb x (hF1 x hx') ⟨by have := h.1; omega, by have := h.2; omega⟩
      clear xe oe hdb1 hv2 hxb1 hdb hxb
      refine digest_Write_q10.w digest_Write_S9_10 (by omega) ?_
      have ea : wrap64 ((d.n % 64 : Nat) + (d.k b : Nat) : Int) = ((d.n % 64 + d.k b : Nat) : Int) := by
        rw [wrap64_id (by omega) (by omega)]; simp
      simp -implicitDefEqProofs only [digest_Write_r10, W_bind, W_oS, W_pure, W_mv, W_setF, T.get_set, reduceIte, Nat.reduceEqDiff, Nat.reduceEqDiff, ↓reduceIte, W_add64, W_eql64, ea]
      have hlen1 : (b.drop (d.k b)).length ≤ f := by rw [List.length_drop]; omega
      have hmax1 : d.n + d.k b + (b.drop (d.k b)).length ≤ 1000000000 := by rw [List.length_drop]; omega
      have hby1 : Byt (b.drop (d.k b)) := fun x hx' => hbyt x (List.mem_of_mem_drop hx')
      by_cases hfull : d.n % 64 + d.k b = 64
      · refine W.cond (v := true) digest_Write_S10_11 digest_Write_C11 (by simp [T.get_set]; omega) (by omega) (fun _ => ?_) fun h => by cases h
        refine digest_Write_q12.w digest_Write_S11_12 (by omega) ?_
        have hde' : Dig (dSt se.mem se.next) D ⟨d.st, d.w' b, d.n + d.k b⟩ := hde.same rfl rfl
        simp -implicitDefEqProofs only [digest_Write_d12, T.get_set, Nat.reduceEqDiff, ↓reduceIte, h0, oS_some, on_some', W_dpure]
        rw [W_dq fun s Q => W_nil (s := s) ⟨D, 0, none⟩ Q, W_dq fun s Q => W_fld (s := s) ty_D1 (by decide : 0 < 8) Q]
        refine W.dloadA ty_st hde'.st.row (st8_len _) fun mem1 rd1 hm1 hr1 => ?_
        rw [hm1]
        simp -implicitDefEqProofs only [W_dpure]
        rw [W_dq fun s Q => W_nil (s := s) ⟨D, 0, none⟩ Q, W_dq fun s Q => W_fld (s := s) ty_D2 (by decide : 0 < 64) Q, W_dq fun s Q => W_slArr (s := s) (lo := none) (hi := none) (l := 0) (h := 64) ty_a64 (capU_gt (by decide)) rfl rfl (Nat.zero_le _) (Nat.le_refl _) Q]
        simp -implicitDefEqProofs only [seqO_cons, seqO_nil, onO_some', on_some']
        refine W.dop ?_
        rw [W_callV]
        refine W.orc (m := nextM) (by kernel_rfl) ?_
        refine W.next hde.ok (hde'.w.row.same' rfl rfl) hde'.len hde'.byt fun s1 m1 n1 x1 => ⟨In D 9 64, x1, fun rd2 hr2 => ?_⟩
        have m1' : s1.mem = se.mem := m1
        have n1' : s1.next = se.next := n1
        rw [m1', n1']
        simp -implicitDefEqProofs only [W_dpure]
        rw [W_dq fun s Q => W_nil (s := s) ⟨D, 0, none⟩ Q, W_dq fun s Q => W_fld (s := s) ty_D1 (by decide : 0 < 8) Q]
        rw [W_pure]
        refine ⟨apartM_q (by simp) (by simp), ?_⟩
        refine W.cast (digest_Write_L12 _ _ _ _ _ _ _ _ _ _ _ _ _ _ _ _ _) ?_
        simp -implicitDefEqProofs only [W_bind, W_oS, W_pure]
        generalize hs' : (⟨(dSt se.mem se.next).mem, (dSt se.mem se.next).next, se.lim, _, _, se.cx⟩ : St) = s'
        have hx' : Ext (DigF D v0) (In D 0 74) s0 s' := by
          rw [← hs']
          refine hxe.trans (Ext.draw (F := fun x => In D 0 74 x) (Nat.le_refl _) (fun _ _ => rfl) (by simp) (by
            simp -implicitDefEqProofs only [List.mem_cons, List.not_mem_nil, or_false]
            rintro m (rfl | rfl | rfl | rfl | rfl | rfl | rfl | rfl | rfl | rfl | rfl | rfl) x hx _ <;> first | (have h3 := hr1 _ hx; exact ⟨by have := h3.1; omega, by have := h3.2; omega⟩) | (have h3 := (hr2 _ hx).2; exact ⟨by have := h3.1; omega, by have := h3.2; omega⟩) | (cases hx))) hb0 (fun _ _ h => .inl h) fun _ _ h => h.elim
        have hdf : Dig s' D ⟨d.st, d.w' b, d.n + d.k b⟩ := by rw [← hs']; exact hde.same rfl rfl
        have hvf : Bn s' v1 (b.drop (d.k b)) := by rw [← hs']; exact hve.same rfl rfl
        clear hs' hr1 hr2 hm1 m1 n1 m1' n1' x1
        have hr : (Sha.next d.st fun j => (d.w' b).getD j 0).Ok := Sha.plus_ok _ _
        have hst : d.step b = ⟨Sha.next d.st fun j => (d.w' b).getD j 0, d.w' b, d.n + d.k b⟩ := by unfold DS.step; rw [if_pos hfull]
        generalize (Sha.next d.st fun j => (d.w' b).getD j 0) = r at hr hst ⊢
        refine W.store ty_st rfl rfl (fun i hi => ⟨_, by rw [show 0 + 1 + i = 1 + i by omega]; exact hdf.st i _ (List.getElem?_eq_getElem hi)⟩) fun sf nf xf rf => ?_
        have hxf : Ext (DigF D v0) (In D 0 74) s0 sf := hx'.trans xf hb0 (fun x _ h => .inl ⟨by have := h.1; omega, by have := h.2; omega⟩) fun x _ h => ⟨by have := h.1; omega, by have := h.2; omega⟩
        have hdg : Dig sf D ⟨r, d.w' b, d.n + d.k b⟩ := hdf.setSt hr xf rf
        have hvg : Bn sf v1 (b.drop (d.k b)) := hvf.ext xf fun x hx' h => hdisb x (hF1 x hx') ⟨by have := h.1; omega, by have := h.2; omega⟩
        refine ih _ _ _ _ ⟨r, d.w' b, d.n + d.k b⟩ (b.drop (d.k b)) v1 hlen1 (by omega) digest_Write_S12_3 hxf hdg hmax1 (fun _ => hvg) hvg.bs hby1 (fun x hx' => hv x (hF1 x hx')) (by simp [T.get_set, h0]) (by simp [T.get_set]) fun s1 x1 d1 => q s1 x1 ?_
        unfold DS.write
        rw [if_neg hbe, hst]
        exact d1
      · refine W.cond (v := false) digest_Write_S10_11 digest_Write_C11 (by simp [T.get_set]; omega) (by omega) (fun h => by cases h) fun _ => ?_
        refine ih _ _ _ _ ⟨d.st, d.w' b, d.n + d.k b⟩ (b.drop (d.k b)) v1 hlen1 (by omega) digest_Write_S11_3 hxe hde hmax1 (fun _ => hve) hve.bs hby1 (fun x hx' => hv x (hF1 x hx')) (by simp [T.get_set, h0]) (by simp [T.get_set]) fun s1 x1 d1 => q s1 x1 ?_
        have : d.step b = ⟨d.st, d.w' b, d.n + d.k b⟩ := by unfold DS.step; rw [if_neg hfull]
        unfold DS.write
        rw [if_neg hbe, this]
        exact d1
end Go.Proofs.Ytofanlcjeohcjaa.Am
/- digest.Digest.Write, said of all states: the call. -/
namespace Go.Proofs.Ytofanlcjeohcjaa.Am
open Go.RowKit

theorem digest_Write_spec {D n : Nat} {v : Value} {Q : Value → St → Prop} {s : St} {d : DS} {b : List Nat} (hbd : s.lim ≤ s.next) (hdis : ∀ x, BsF v x → ¬ In D 0 74 x) (hd : Dig s D d) (hmax : d.n + b.length ≤ 1000000000) (hbn : b ≠ [] → Bn s v b) (hbs : Bs s v b) (hbyt : Byt b) (hn : 20 * b.length + 100 ≤ n)
    (q : ∀ s1, Ext (DigF D v) (In D 0 74) s s1 → Dig s1 D (DS.write b.length d b) → Q (.tuple #[]) s1) : W (callW envS (runF envS n) 111 [.pointer (some ⟨D, 0, none⟩), v]) s Q := by
  refine digest_Write_W fun tm h0 h1 => ?_
  have hd' : Dig (s.cxN cxN) D d := hd.same rfl rfl
  refine digest_Write_q0.w rfl (by omega) ?_
  simp -implicitDefEqProofs only [digest_Write_r0, W_bind, W_oS, W_on, W_pure, W_mv, W_setF, reduceIte, isK_bool, isB_ff, W_chk, W_ifT, W_pick, W_nil, reduceCtorEq, ↓reduceIte, h0, W_eqNilP ty_Dp, W_fld ty_D0 (by decide : 0 < 1)]
  refine W.load1 ty_bool_1 hd'.made.at' ?_
  simp -implicitDefEqProofs only [W_not]
  refine W.cond (v := false) digest_Write_S0_1 digest_Write_C1 (by simp [T.get_set]) (by omega) (fun h => by cases h) fun _ => ?_
  refine write_loop (s0 := s.cxN cxN) (v0 := v) hbd rfl hdis b.length _ _ _ _ d b v (Nat.le_refl _) (by omega) digest_Write_S1_3 (Ext.rdN (F := DigF D v) _ _ fun _ => .inl ⟨by omega, by omega⟩) (hd'.same rfl rfl) hmax (fun h => (hbn h).same rfl rfl) (hbs.same rfl rfl) hbyt (fun x h => h) (by simp [T.get_set, h0]) (by simp [T.get_set, h1]) fun s1 x1 d1 => q _ x1.cx' (d1.same rfl rfl)
end Go.Proofs.Ytofanlcjeohcjaa.Am
/- digest.first, digest.New, said of all states. -/
namespace Go.Proofs.Ytofanlcjeohcjaa.Am
open Go.RowKit

theorem ty_st_z : zeroL envS 163 = some (List.replicate 8 (.int .u32 0)) := by kernel_rfl
theorem ty_D_z (r : Sha.St8) : buildN envS 167 [(0, .bool true), (1, .agg (st8V r))] = some (.bool true :: ((st8V r).toList ++ (u8l (List.replicate 64 0) ++ [.int .i64 ((0 : Nat) : Int)]))) := by kernel_rfl
theorem ty_st_b : buildN envS 163 [(0, .int .u32 1779033703), (1, .int .u32 3144134277), (2, .int .u32 1013904242), (3, .int .u32 2773480762), (4, .int .u32 1359893119), (5, .int .u32 2600822924), (6, .int .u32 528734635), (7, .int .u32 1541459225)] = some (st8V first8).toList := by kernel_rfl
theorem digest_first_spec {n : Nat} {s : St} {Q : Value → St → Prop} (hbd : s.lim ≤ s.next) (hn : 10 ≤ n) (q : ∀ s1, Ext Non Non s s1 → Q (.agg (st8V first8)) s1) : W (callW envS (runF envS n) 133 []) s Q := by
  refine digest_first_W fun tm => ?_
  refine digest_first_q0.w rfl (by omega) ?_
  simp -implicitDefEqProofs only [digest_first_r0, W_bind, W_pure, W_setF]
  refine W.alloc ty_st_z fun sa na xa oa => ?_
  refine digest_first_q1.w digest_first_S0_1 (by omega) ?_
  simp -implicitDefEqProofs only [digest_first_r1, W_bind, W_oS, W_pure, T.get_set, seqP_cons, seqP_nil, onO_some', reduceIte, ↓reduceIte, W_build ty_st_b]
  refine W.store ty_st rfl rfl (fun i hi => ⟨.int .u32 0, by rw [Nat.zero_add]; have := oa i (.int .u32 0) (by rw [List.getElem?_replicate]; rw [if_pos hi]); rw [Nat.zero_add] at this; exact this⟩) fun sb nb xb ob => ?_
  refine W.endC (r := 0) (t := 163) digest_first_S1_2 (.inl digest_first_E2) (by omega) digest_first_fn digest_first_res (xb.cx.trans xa.cx) (by simp [T.get_set]; rfl) ?_
  refine W.loadA ty_st ob.row rfl fun sc mc nc xc => ?_
  have x : Ext Non Non s (sc.cxN s.cx) := ((xa.trans xb hbd (fun x h g => by have g1 : s.next + 0 ≤ x := g.1; have h1 : x < s.lim := h; omega) fun x h g => by have g1 : s.next + 0 ≤ x := g.1; have h1 : x < s.next := h; omega).trans xc hbd (fun x h g => by have g1 : s.next + 0 ≤ x := g.1; have h1 : x < s.lim := h; omega) fun x h g => g.elim).cx'
  exact q _ x
/-- A new digest. -/
def DS.new : DS := ⟨first8, List.replicate 64 0, 0⟩
theorem digest_New_spec {n : Nat} {s : St} {Q : Value → St → Prop} (hbd : s.lim ≤ s.next) (hn : 30 ≤ n) (q : ∀ s1 D, s.next ≤ D → D + 74 ≤ s1.next → Ext Non Non s s1 → Dig s1 D DS.new → Q (.pointer (some ⟨D, 0, none⟩)) s1) : W (callW envS (runF envS n) 110 []) s Q := by
  refine digest_New_W fun tm => ?_
  refine digest_New_q0.w rfl (by omega) ?_
  simp -implicitDefEqProofs only [digest_New_r0, W_pure, W_mv, W_setF]
  refine digest_New_q1.w digest_New_S0_1 (by omega) ?_
  simp -implicitDefEqProofs only [digest_New_r1, W_bind, W_oS, W_on, W_pure, W_mv, W_setF, seqO_nil, seqP_cons, seqP_nil, onO_some', W_callV]
  refine digest_first_spec (s := s.cxN cxN) hbd (by omega) fun sa xa => ?_
  simp -implicitDefEqProofs only [W_build (ty_D_z first8)]
  refine W.box fun sb nb xb ob => ?_
  refine W.end' (rs := [0]) (vs := [.pointer (some ⟨sa.next, 0, none⟩)]) digest_New_S1_2 (.inl digest_New_E2) (by omega) digest_New_fn digest_New_res (xb.cx.trans xa.cx) (by simp [T.get_set]) ?_
  have hx : Ext Non Non s (sb.cxN s.cx) := (xa.trans xb hbd (fun x h g => g) fun x h g => g).cx'
  have ob' : OwnRow (sb.cxN s.cx) sa.next 0 (.bool true :: ((st8V first8).toList ++ (u8l (List.replicate 64 0) ++ [.int .i64 ((0 : Nat) : Int)]))) := fun i v e => (ob i v e).same rfl rfl
  refine q _ sa.next xa.nxt ?_ hx ⟨?_, ?_, ?_, ?_, rfl, ?_, first_ok⟩
  · have h : (sb.cxN s.cx).next = sa.next + 74 + 1 := nb
    omega
  · exact ob' 0 _ rfl
  · intro i v e
    have e : (st8V first8).toList[i]? = some v := e
    have hi := (List.getElem?_eq_some_iff.1 e).1
    have := ob' (1 + i) v (by rw [Nat.add_comm, List.getElem?_cons_succ, List.getElem?_append_left hi]; exact e)
    rw [Nat.zero_add] at this
    exact this
  · intro i v e
    have e : (u8l (List.replicate 64 0))[i]? = some v := e
    have hi := (List.getElem?_eq_some_iff.1 e).1
    have := ob' (9 + i) v (by rw [show 9 + i = (8 + i) + 1 by omega, List.getElem?_cons_succ, List.getElem?_append_right (by rw [st8_len]; omega), st8_len, show 8 + i - 8 = i by omega, List.getElem?_append_left hi]; exact e)
    rw [Nat.zero_add] at this
    exact this
  · exact ob' 73 _ rfl
  · intro x hx
    have hx : x ∈ List.replicate 64 0 := hx
    rw [List.mem_replicate] at hx
    omega
end Go.Proofs.Ytofanlcjeohcjaa.Am
/- (*digest.Digest).Sum, said of all states: the length behind the padding. -/
namespace Go.Proofs.Ytofanlcjeohcjaa.Am
open Go.RowKit

theorem ty_int_k : hasT envS 3 = true := by kernel_rfl
/-- The lowest bytes of a number, the highest of them first. -/
def tl8 (N : Nat) : Nat → List Nat
  | 0 => []
  | k + 1 => (N >>> (8 * k)) % 256 :: tl8 N k
theorem tl8_len (N : Nat) : ∀ k, (tl8 N k).length = k
  | 0 => rfl
  | k + 1 => by unfold tl8; rw [List.length_cons, tl8_len N k]
theorem tl8_byt (N : Nat) : ∀ k, Byt (tl8 N k)
  | 0 => fun x hx => by cases hx
  | k + 1 => fun x hx => by
    unfold tl8 at hx
    rcases List.mem_cons.1 hx with rfl | hx
    · exact Nat.mod_lt _ (by decide)
    · exact tl8_byt N k x hx
/-- What is read meanwhile. -/
abbrev PadF (D B : Nat) : Nat → Prop := fun x => In D 0 74 x ∨ In B 0 80 x
theorem pad_loop {D B : Nat} {a2 a3 a4 : Value} {d : DS} {Q : Value × FrameMode → St → Prop} {s0 : St} (hmax : 8 * d.n ≤ 9223372036854775807) (hb0 : s0.lim ≤ s0.next) (hdis : D + 74 ≤ B ∨ B + 80 ≤ D) (hB : B + 80 ≤ s0.next) : ∀ (k n : Nat) (tm : T Value) (s : St) (td : List Item) (p : List Nat), k ≤ 8 → 10 * k + 20 ≤ n → skim 64 td = digest_DSum_P10 → Ext (PadF D B) (In B 0 80) s0 s → Dig s D d → OwnRow s B 0 (u8l p) → Owned s B 0 80 → p.length + k ≤ 80 →
    T.get tm 0 = some (.pointer (some ⟨D, 0, none⟩)) → T.get tm 2 = some a2 → T.get tm 3 = some a3 → T.get tm 4 = some a4 → T.get tm 5 = some (.slice (some ⟨B, 0, none⟩) p.length 80) → T.get tm 6 = some (.int .i64 (8 * ((k : Nat) : Int) - 8)) →
    (∀ n' tm' s1 td', n ≤ n' + 10 * k + 5 → skim 64 td' = digest_DSum_P13 → Ext (PadF D B) (In B 0 80) s0 s1 → Dig s1 D d → OwnRow s1 B 0 (u8l (p ++ tl8 (8 * d.n) k)) → T.get tm' 0 = some (.pointer (some ⟨D, 0, none⟩)) → T.get tm' 2 = some a2 → T.get tm' 3 = some a3 → T.get tm' 4 = some a4 → T.get tm' 5 = some (.slice (some ⟨B, 0, none⟩) (p.length + k) 80) → W (runF envS n' ⟨112, digest_DSum_nt, digest_DSum_g, tm', td', .run, .normal, none⟩) s1 Q) →
    W (runF envS n ⟨112, digest_DSum_nt, digest_DSum_g, tm, td, .run, .normal, none⟩) s Q := by
  intro k
  induction k with
  | zero =>
    intro n tm s td p hk hn hT hx hd ho hw hl h0 h2 h3 h4 h5 h6 q
    refine digest_DSum_q10.w hT (by omega) ?_
    simp -implicitDefEqProofs only [digest_DSum_r10, W_bind, W_oS, W_pure, W_mv, W_setF, W_geq64, h6]
    refine W.cond (v := false) digest_DSum_S10_11 digest_DSum_C11 (by simp [T.get_set]) (by omega) (fun h => by cases h) fun _ => ?_
    refine q _ _ _ _ (by omega) digest_DSum_S11_13 hx hd ?_ (by simp [T.get_set, h0]) (by simp [T.get_set, h2]) (by simp [T.get_set, h3]) (by simp [T.get_set, h4]) (by simp [T.get_set, h5])
    rw [show tl8 (8 * d.n) 0 = [] from rfl, List.append_nil]
    exact ho
  | succ k ih =>
    intro n tm s td p hk hn hT hx hd ho hw hl h0 h2 h3 h4 h5 h6 q
    have ec : (8 * ((k + 1 : Nat) : Int) - 8) = ((8 * k : Nat) : Int) := by omega
    rw [ec] at h6
    refine digest_DSum_q10.w hT (by omega) ?_
    simp -implicitDefEqProofs only [digest_DSum_r10, W_bind, W_oS, W_pure, W_mv, W_setF, W_geq64, h6]
    refine W.cond (v := true) digest_DSum_S10_11 digest_DSum_C11 (by simp [T.get_set]; omega) (by omega) (fun _ => ?_) fun h => by cases h
    refine digest_DSum_q12.w digest_DSum_S11_12 (by omega) ?_
    simp -implicitDefEqProofs only [digest_DSum_r12, W_bind, W_oS, W_pure, W_mv, W_setF, T.get_set, seqO_cons, seqO_nil, seqP_cons, seqP_nil, onO_some', reduceIte, W_nil, Nat.reduceEqDiff, Nat.reduceEqDiff, reduceCtorEq, ↓reduceIte, h0, h5, h6, W_fld ty_D3 (by decide : 0 < 1)]
    refine W.load1 ty_int_1 hd.n.at' ?_
    have hxa : Ext (PadF D B) (In B 0 80) s0 (s.rdN (D + (0 + 73))) := hx.trans (Ext.rdN (F := PadF D B) s _ fun _ => .inl ⟨by omega, by omega⟩) hb0 (fun _ _ h => h) fun _ _ h => h
    have hda : Dig (s.rdN (D + (0 + 73))) D d := hd.same rfl rfl
    have hoa : OwnRow (s.rdN (D + (0 + 73))) B 0 (u8l p) := fun i v e => (ho i v e).same rfl rfl
    have hwa : Owned (s.rdN (D + (0 + 73))) B 0 80 := fun j hj => let ⟨u, h⟩ := hw j hj; ⟨u, h.same rfl rfl⟩
    generalize s.rdN (D + (0 + 73)) = sa at hxa hda hoa hwa ⊢
    simp -implicitDefEqProofs only [W_mul8 hmax, W_shr (k := .i64) (kk := .i64) (n := 8 * k) (show 8 * k ≤ 64 by omega), W_conv ty_int_k ty_u8_k, wrap_u8]
    have hba : sa.lim ≤ sa.next := hxa.bnd hb0
    refine W.buildS hba (r := u8l [(8 * d.n) >>> (8 * k) % 256]) ty_b_el (by decide) rfl (capU_gt (by decide)) fun sb nb xb rb => ?_
    have hxb : Ext (PadF D B) (In B 0 80) s0 sb := hxa.trans xb hb0 (fun _ _ h => h.elim) fun _ _ h => h.elim
    have hBs : Bs sb (.slice (some ⟨sa.next, 0, none⟩) 1 1) [(8 * d.n) >>> (8 * k) % 256] := OwnRow.bn rb (capU_gt (by simp))
    have hob : OwnRow sb B 0 (u8l p) := hoa.ext0 xb
    have hwb : Owned sb B 0 80 := fun j hj => let ⟨u, h⟩ := hwa j hj; ⟨u, h.ext0 xb⟩
    simp -implicitDefEqProofs only [W_app]
    refine W.appIn (n := 1) ty_b_ap hBs.src.g (by rw [Nat.mod_eq_of_lt (capU_gt (by decide))]; omega) rfl (u8l_one _) (fun i hi => ?_) fun sc nc xc rc => ?_
    · have := hwb (p.length + i) (by omega)
      rw [show 0 + p.length * 1 + i = 0 + (p.length + i) by omega]
      exact this
    have sub : ∀ x, In B (0 + p.length * 1) (1 * 1) x → In B 0 80 x := fun x h => ⟨by have := h.1; omega, by
      have h4 : x < B + (0 + p.length * 1) + 1 * 1 := h.2
      omega⟩
    have nod : ∀ i, i < 74 → ¬ In B (0 + p.length * 1) (1 * 1) (D + i) := fun i hi h => by
      have h3 : B + (0 + p.length * 1) ≤ D + i := h.1
      have h4 : D + i < B + (0 + p.length * 1) + 1 * 1 := h.2
      omega
    have hxc : Ext (PadF D B) (In B 0 80) s0 sc := hxb.trans xc hb0 (fun x hx' h => by
      rcases h with h | h
      · have h1 : sa.next + 0 ≤ x := h.1
        have h2 := hxa.nxt
        omega
      · exact .inr (sub x h)) fun x _ h => sub x h
    have hdc : Dig sc D d := ⟨hda.made.ext0 xb |>.ext xc (nod 0 (by decide)), (hda.st.ext0 xb).ext xc fun i hi => nod (1 + i) (by rw [st8_len] at hi; omega), (hda.w.ext0 xb).ext xc fun i hi => nod (9 + i) (by rw [u8l_length, hda.len] at hi; omega), (hda.n.ext0 xb).ext xc (nod 73 (by decide)), hda.len, hda.byt, hda.ok⟩
    have hoc : OwnRow sc B 0 (u8l (p ++ [(8 * d.n) >>> (8 * k) % 256])) := by
      have e : u8l (p ++ [(8 * d.n) >>> (8 * k) % 256]) = u8l p ++ u8l [(8 * d.n) >>> (8 * k) % 256] := List.map_append
      rw [e]
      refine OwnRow.append (hob.ext xc fun i hi h => ?_) ?_
      · rw [u8l_length] at hi
        have h1 : B + (0 + p.length * 1) ≤ B + (0 + i) := h.1
        omega
      · rw [u8l_length, show 0 + p.length = 0 + p.length * 1 by omega]
        exact rc
    have hwc : Owned sc B 0 80 := hwb.ext xc rc
    have hlp : (p ++ [(8 * d.n) >>> (8 * k) % 256]).length = p.length + 1 := by simp
    refine digest_DSum_q14.w digest_DSum_S12_14 (by omega) ?_
    have e8 : wrap64 (((8 * k : Nat) : Int) - 8) = 8 * ((k : Nat) : Int) - 8 := by
      rw [wrap64_id (by omega) (by omega)]; omega
    simp -implicitDefEqProofs only [digest_DSum_r14, W_bind, W_oS, W_pure, W_mv, W_setF, T.get_set, reduceIte, Nat.reduceEqDiff, Nat.reduceEqDiff, ↓reduceIte, W_sub64, h6, e8]
    refine ih _ _ sc _ (p ++ [(8 * d.n) >>> (8 * k) % 256]) (by omega) (by omega) digest_DSum_S14_10 hxc hdc hoc hwc (by omega) (by simp [T.get_set, h0]) (by simp [T.get_set, h2]) (by simp [T.get_set, h3]) (by simp [T.get_set, h4]) (by simp [T.get_set]) (by simp [T.get_set]) fun n' tm' s1 td' e1 e2 e3 e4 e5 e6 e7 e8 e9 e10 => q n' tm' s1 td' (by omega) e2 e3 e4 ?_ e6 e7 e8 e9 ?_
    · rw [List.append_assoc] at e5
      exact e5
    · rw [hlp] at e10
      rw [e10, show p.length + 1 + k = p.length + (k + 1) by omega]
end Go.Proofs.Ytofanlcjeohcjaa.Am
/- (*digest.Digest).Sum, said of all states: the words laid out as bytes. -/
namespace Go.Proofs.Ytofanlcjeohcjaa.Am
open Go.RowKit

theorem ty_a32 : arrN envS 101 = some (32, 1) := by kernel_rfl
theorem ty_st_u : arrU envS 163 = some 8 := by kernel_rfl
/-- A number's four bytes, the highest first. -/
def be4 (x : Nat) : List Nat := [x >>> 24 % 256, x >>> 16 % 256, x >>> 8 % 256, x % 256]
def outs : List Nat → List Nat
  | [] => []
  | x :: l => be4 x ++ outs l
theorem outs_len : ∀ l : List Nat, (outs l).length = 4 * l.length
  | [] => rfl
  | x :: l => by
    unfold outs
    rw [List.length_append, outs_len l, List.length_cons]
    show 4 + _ = _
    omega
theorem outs_snoc (x : Nat) : ∀ l : List Nat, outs (l ++ [x]) = outs l ++ be4 x
  | [] => by show be4 x ++ [] = _; rw [List.append_nil]; rfl
  | y :: l => by
    show be4 y ++ outs (l ++ [x]) = (be4 y ++ outs l) ++ be4 x
    rw [outs_snoc x l, List.append_assoc]
theorem out_loop {O : Nat} {a2 : Value} {cs : Array Value} {l : List Nat} (hl8 : l.length = 8) (hcs : ∀ i (h : i < l.length), cs.toList[i]? = some (.int .u32 (l[i] : Nat))) {Q : Value × FrameMode → St → Prop} {s0 : St} (hb0 : s0.lim ≤ s0.next) : ∀ (k i n : Nat) (tm : T Value) (s : St) (td : List Item), i + k = 8 → 10 * k + 20 ≤ n → skim 64 td = digest_DSum_P16 → Ext (In O 0 32) (In O 0 32) s0 s → OwnRow s O 0 (u8l (outs (l.take i))) → Owned s O 0 32 →
    T.get tm 2 = some a2 → T.get tm 3 = some (.pointer (some ⟨O, 0, none⟩)) → T.get tm 51 = some (.agg cs) → T.get tm 52 = some (.int .i64 (i : Nat)) →
    (∀ n' tm' s1 td', n ≤ n' + 10 * k + 5 → skim 64 td' = digest_DSum_P19 → Ext (In O 0 32) (In O 0 32) s0 s1 → OwnRow s1 O 0 (u8l (outs l)) → T.get tm' 2 = some a2 → T.get tm' 3 = some (.pointer (some ⟨O, 0, none⟩)) → W (runF envS n' ⟨112, digest_DSum_nt, digest_DSum_g, tm', td', .run, .normal, none⟩) s1 Q) →
    W (runF envS n ⟨112, digest_DSum_nt, digest_DSum_g, tm, td, .run, .normal, none⟩) s Q := by
  intro k
  induction k with
  | zero =>
    intro i n tm s td hi hn hT hx ho hw h2 h3 h51 h52 q
    refine digest_DSum_q16.w hT (by omega) ?_
    simp -implicitDefEqProofs only [digest_DSum_r16, W_bind, W_oS, W_pure, W_setF, h52, show (8 : Int) = ((8 : Nat) : Int) from rfl]
    simp -implicitDefEqProofs only [W_lss64]
    refine W.cond (v := false) digest_DSum_S16_17 digest_DSum_C17 (by simp [T.get_set]; omega) (by omega) (fun h => by cases h) fun _ => ?_
    rw [show i = l.length by omega, List.take_length] at ho
    exact q _ _ _ _ (by omega) digest_DSum_S17_19 hx ho (by simp [T.get_set, h2]) (by simp [T.get_set, h3])
  | succ k ih =>
    intro i n tm s td hi hn hT hx ho hw h2 h3 h51 h52 q
    have hil : i < l.length := by omega
    refine digest_DSum_q16.w hT (by omega) ?_
    simp -implicitDefEqProofs only [digest_DSum_r16, W_bind, W_oS, W_pure, W_setF, h52]
    simp -implicitDefEqProofs only [W_lss64]
    refine W.cond (v := true) digest_DSum_S16_17 digest_DSum_C17 (by simp [T.get_set]; omega) (by omega) (fun _ => ?_) fun h => by cases h
    refine digest_DSum_q18.w digest_DSum_S17_18 (by omega) ?_
    simp -implicitDefEqProofs only [digest_DSum_r18, W_bind, W_oS, W_pure, W_mv, W_setF, T.get_set, reduceIte, Nat.reduceEqDiff, Nat.reduceEqDiff, ↓reduceIte, h51, h52, W_idxV ty_st_u (show i < 8 by omega) (hcs i hil)]
    refine digest_DSum_q20.w digest_DSum_S18_20 (by omega) ?_
    generalize hxe : l[i] = x
    simp -implicitDefEqProofs only [digest_DSum_r20, W_bind, W_oS, W_on, W_pure, W_mv, T.get_set, seqO_cons, seqO_nil, seqP_cons, seqP_nil, onO_some', reduceIte, Nat.reduceEqDiff, Nat.reduceEqDiff, ↓reduceIte, h3, W_mul4 (show 4 * i ≤ 9223372036854775807 by omega), W_slArr (lo := some (.int .i64 ((4 * i : Nat) : Int))) (hi := none) (l := 4 * i) (h := 32) ty_a32 (capU_gt (by decide)) rfl rfl (by omega) (Nat.le_refl _)]
    rw [if_neg (by omega)]
    simp -implicitDefEqProofs only [W_conv ty_u32_k ty_u8_k, wrap_u8, W_shr8 (k := .u32) (by decide), W_shr16 (k := .u32) (by decide), W_shr24 (k := .u32) (by decide)]
    have hba : s.lim ≤ s.next := hx.bnd hb0
    refine W.buildS hba (r := u8l (be4 x)) ty_b_el (by decide) rfl (capU_gt (by decide)) fun sb nb xb rb => ?_
    have hxb : Ext (In O 0 32) (In O 0 32) s0 sb := hx.trans xb hb0 (fun _ _ h => h.elim) fun _ _ h => h.elim
    have hBs : Bs sb (.slice (some ⟨s.next, 0, none⟩) 4 4) (be4 x) := OwnRow.bn rb (capU_gt (by simp [be4]))
    have hob : OwnRow sb O 0 (u8l (outs (l.take i))) := ho.ext0 xb
    have hwb : Owned sb O 0 32 := fun j hj => let ⟨u, h⟩ := hw j hj; ⟨u, h.ext0 xb⟩
    refine W.copy (k := 4) (l := u8l (be4 x)) ty_b_el (Nat.min_eq_right (show 4 ≤ 32 - 4 * i by omega)).symm (hBs.srcK (k := 4) (Nat.le_refl _)) rfl (u8l_one _) (fun j hj => ?_) fun sc nc xc rc => ?_
    · have := hwb (4 * i + j) (by omega)
      rw [show 0 + 4 * i * 1 + j = 0 + (4 * i + j) by omega]
      exact this
    have sub : ∀ y, In O (0 + 4 * i * 1) (4 * 1) y → In O 0 32 y := fun y h => ⟨by have := h.1; omega, by
      have h4 : y < O + (0 + 4 * i * 1) + 4 * 1 := h.2
      omega⟩
    have hxc : Ext (In O 0 32) (In O 0 32) s0 sc := hxb.trans xc hb0 (fun y hy h => by
      rcases h with h | h
      · have h1 : s.next + 0 ≤ y := h.1
        have h2 := hx.nxt
        omega
      · exact sub y h) fun y _ h => sub y h
    have hlt : (outs (l.take i)).length = 4 * i := by rw [outs_len, List.length_take]; omega
    have hoc : OwnRow sc O 0 (u8l (outs (l.take (i + 1)))) := by
      have e : u8l (outs (l.take (i + 1))) = u8l (outs (l.take i)) ++ u8l (be4 x) := by
        rw [List.take_add_one, List.getElem?_eq_getElem hil, hxe]
        show u8l (outs (l.take i ++ [x])) = _
        rw [outs_snoc]
        exact List.map_append
      rw [e]
      refine OwnRow.append (hob.ext xc fun j hj h => ?_) ?_
      · rw [u8l_length, hlt] at hj
        have h1 : O + (0 + 4 * i * 1) ≤ O + (0 + j) := h.1
        omega
      · rw [u8l_length, hlt, show 0 + 4 * i = 0 + 4 * i * 1 by omega]
        exact rc
    have hwc : Owned sc O 0 32 := hwb.ext xc rc
    refine digest_DSum_q22.w digest_DSum_S20_22 (by omega) ?_
    have ei : wrap64 ((i : Nat) + 1 : Int) = ((i + 1 : Nat) : Int) := by
      rw [wrap64_id (by omega) (by omega)]; simp
    simp -implicitDefEqProofs only [digest_DSum_r22, W_bind, W_oS, W_pure, W_mv, W_setF, T.get_set, reduceIte, Nat.reduceEqDiff, Nat.reduceEqDiff, ↓reduceIte, W_add64, h52, ei]
    exact ih (i + 1) _ _ sc _ (by omega) (by omega) digest_DSum_S22_16 hxc hoc hwc (by simp [T.get_set, h2]) (by simp [T.get_set, h3]) (by simp [T.get_set, h51]) (by simp [T.get_set]) fun n' tm' s1 td' e1 => q n' tm' s1 td' (by omega)
end Go.Proofs.Ytofanlcjeohcjaa.Am
/- A digest as one row of cells. -/
namespace Go.Proofs.Ytofanlcjeohcjaa.Am
open Go.RowKit

theorem ty_D_1 : tyS envS 167 = some (74, true) := by kernel_rfl
theorem ty_D_zl : zeroL envS 167 = some (.bool false :: (List.replicate 8 (.int .u32 0) ++ (List.replicate 64 (.int .u8 0) ++ [.int .i64 0]))) := by kernel_rfl
theorem ty_a32_1 : tyS envS 101 = some (32, true) := by kernel_rfl
theorem ty_a32_z : zeroL envS 101 = some (List.replicate 32 (.int .u8 0)) := by kernel_rfl
/-- The cells of a digest. -/
def DS.row (d : DS) : List Value := .bool true :: ((st8V d.st).toList ++ (u8l d.w ++ [.int .i64 (d.n : Nat)]))
theorem DS.row_len (d : DS) (h : d.w.length = 64) : d.row.length = 74 := by
  unfold DS.row
  rw [List.length_cons, List.length_append, st8_len, List.length_append, u8l_length, h]
  rfl
theorem DS.row_one (d : DS) : d.row.all oneCell = true := by
  have h1 : (st8V d.st).toList.all oneCell = true := rfl
  unfold DS.row
  rw [List.all_cons, List.all_append, List.all_append, u8l_one, h1]
  rfl
theorem OwnRow.app_l {s : St} {b o : Nat} {l l' : List Value} (h : OwnRow s b o (l ++ l')) : OwnRow s b o l := fun i v e => h i v (by rw [List.getElem?_append_left (List.getElem?_eq_some_iff.1 e).1]; exact e)
theorem OwnRow.app_r {s : St} {b o : Nat} {l l' : List Value} (h : OwnRow s b o (l ++ l')) : OwnRow s b (o + l.length) l' := fun i v e => by
  have := h (l.length + i) v (by rw [List.getElem?_append_right (by omega), show l.length + i - l.length = i by omega]; exact e)
  rw [← Nat.add_assoc] at this
  exact this
theorem OwnRow.cons_l {s : St} {b o : Nat} {v : Value} {l : List Value} (h : OwnRow s b o (v :: l)) : Own s b o v := h 0 v rfl
theorem OwnRow.cons_r {s : St} {b o : Nat} {v : Value} {l : List Value} (h : OwnRow s b o (v :: l)) : OwnRow s b (o + 1) l := fun i x e => by
  have := h (i + 1) x (by simpa using e)
  rw [show o + 1 + i = o + (i + 1) by omega]
  exact this
theorem OwnRow.cons {s : St} {b o : Nat} {v : Value} {l : List Value} (h : Own s b o v) (k : OwnRow s b (o + 1) l) : OwnRow s b o (v :: l) := fun i x e => by
  cases i with
  | zero => simp at e; subst e; exact h
  | succ i =>
    have := k i x (by simpa using e)
    rw [show o + (i + 1) = o + 1 + i by omega]
    exact this
theorem OwnRow.nil {s : St} {b o : Nat} : OwnRow s b o [] := fun i x e => by simp at e
theorem Dig.toRow {s : St} {D : Nat} {d : DS} (h : Dig s D d) : OwnRow s D 0 d.row := by
  unfold DS.row
  refine OwnRow.cons h.made (OwnRow.append h.st (OwnRow.append ?_ ?_))
  · rw [st8_len]; exact h.w
  · rw [st8_len, u8l_length, h.len]
    exact OwnRow.cons h.n .nil
theorem Dig.ofRow {s : St} {D : Nat} {d : DS} (h : OwnRow s D 0 d.row) (h1 : d.w.length = 64) (h2 : Byt d.w) (h3 : d.st.Ok) : Dig s D d := by
  unfold DS.row at h
  have h4 := h.cons_r
  have h5 := h4.app_r
  have h6 := h5.app_r
  rw [st8_len] at h5
  rw [st8_len, u8l_length, h1] at h6
  exact ⟨h.cons_l, h4.app_l, h5.app_l, h6.cons_l, h1, h2, h3⟩
/-- What is written behind the bytes: a one, zeros, how many bits there were. -/
def DS.pad0 (d : DS) : List Nat := 128 :: List.replicate ((119 - d.n % 64) % 64) 0
def DS.pad (d : DS) : List Nat := d.pad0 ++ tl8 (8 * d.n) 8
def DS.fin (d : DS) : DS := DS.write d.pad.length d d.pad
def st8L (r : Sha.St8) : List Nat := [r.a, r.b, r.c, r.d, r.e, r.f, r.g, r.h]
def DS.sum (d : DS) : List Nat := outs (st8L d.fin.st)
theorem DS.pad0_len (d : DS) : d.pad0.length = (119 - d.n % 64) % 64 + 1 := by unfold DS.pad0; rw [List.length_cons, List.length_replicate]
theorem DS.pad0_byt (d : DS) : Byt d.pad0 := fun x hx => by
  unfold DS.pad0 at hx
  rcases List.mem_cons.1 hx with rfl | hx
  · decide
  · rw [List.mem_replicate] at hx; omega
theorem DS.pad_byt (d : DS) : Byt d.pad := fun x hx => by
  rcases List.mem_append.1 hx with hx | hx
  · exact d.pad0_byt x hx
  · exact tl8_byt _ _ x hx
theorem DS.sum_len (d : DS) : d.sum.length = 32 := outs_len _
theorem st8L_at (r : Sha.St8) (i : Nat) (h : i < (st8L r).length) : (st8V r).toList[i]? = some (.int .u32 ((st8L r)[i] : Nat)) := by
  have h8 : i < 8 := h
  match i, h8 with
  | 0, _ => rfl
  | 1, _ => rfl
  | 2, _ => rfl
  | 3, _ => rfl
  | 4, _ => rfl
  | 5, _ => rfl
  | 6, _ => rfl
  | 7, _ => rfl
end Go.Proofs.Ytofanlcjeohcjaa.Am
/- (*digest.Digest).Sum, said of all states: its end. -/
namespace Go.Proofs.Ytofanlcjeohcjaa.Am
open Go.RowKit

theorem sum_tail {C O2 O3 n : Nat} {d : DS} {tm : T Value} {td : List Item} {s : St} {Q : Value × FrameMode → St → Prop} (hb : s.lim ≤ s.next) (hcx : s.cx = .cx none (some [])) (h23 : O2 + 32 ≤ O3) (hd : Dig s C d) (ho3 : Owned s O3 0 32) (ho2 : Owned s O2 0 32) (hn : 120 ≤ n) (hT : skim 64 td = digest_DSum_P15)
    (h2 : T.get tm 2 = some (.pointer (some ⟨O2, 0, none⟩))) (h3 : T.get tm 3 = some (.pointer (some ⟨O3, 0, none⟩))) (h4 : T.get tm 4 = some (.pointer (some ⟨C, 0, none⟩)))
    (q : ∀ s1, Ext (fun x => In C 0 74 x ∨ In O3 0 32 x ∨ In O2 0 32 x) (fun x => In O3 0 32 x ∨ In O2 0 32 x) s s1 → Q (.agg (u8l (outs (st8L d.st))).toArray, .run) s1) : W (runF envS n ⟨112, digest_DSum_nt, digest_DSum_g, tm, td, .run, .normal, none⟩) s Q := by
  refine digest_DSum_q15.w hT (by omega) ?_
  simp -implicitDefEqProofs only [digest_DSum_r15, W_bind, W_oS, W_pure, W_mv, W_setF, h4, W_fld ty_D1 (by decide : 0 < 8)]
  refine W.loadA ty_st hd.st.row (st8_len _) fun sa ma na xa => ?_
  have hxa : Ext (fun x => In C 0 74 x ∨ In O3 0 32 x ∨ In O2 0 32 x) (fun x => In O3 0 32 x ∨ In O2 0 32 x) s sa := xa.weak hb (fun x _ h => .inl ⟨by have := h.1; omega, by have := h.2; omega⟩) fun _ _ h => h.elim
  have ho3a : Owned sa O3 0 32 := fun j hj => let ⟨u, h⟩ := ho3 j hj; ⟨u, h.same ma na⟩
  have ho2a : Owned sa O2 0 32 := fun j hj => let ⟨u, h⟩ := ho2 j hj; ⟨u, h.same ma na⟩
  have hba : sa.lim ≤ sa.next := xa.bnd hb
  refine out_loop (l := st8L d.st) (cs := (st8V d.st).toList.toArray) rfl (fun i h => st8L_at d.st i h) hba 8 0 _ _ sa _ rfl (by omega) digest_DSum_S15_16 (Ext.refl sa) (fun i v e => by simp [outs, u8l] at e) ho3a (by simp [T.get_set, h2]; rfl) (by simp [T.get_set, h3]) (by simp [T.get_set]) (by simp [T.get_set]) fun n' tm' sb td' e1 e2 xb ob t2 t3 => ?_
  refine digest_DSum_q19.w e2 (by omega) ?_
  simp -implicitDefEqProofs only [digest_DSum_r19, W_bind, W_oS, W_pure, t2, t3]
  have hxb := hxa.trans xb hb (fun x _ h => .inr (.inl h)) fun x _ h => .inl h
  have hlen : (u8l (outs (st8L d.st))).length = 32 := by rw [u8l_length, outs_len]; rfl
  refine W.loadA ty_a32_1 ob.row hlen fun sc mc nc xc => ?_
  have hxc := hxb.trans xc hb (fun x _ h => .inr (.inl h)) fun x _ h => h.elim
  have ho2c : Owned sc O2 0 32 := fun j hj => by
    obtain ⟨u, h⟩ := ho2a j hj
    refine ⟨u, (h.ext xb fun h => ?_).same mc nc⟩
    have h1 : O3 + 0 ≤ O2 + (0 + j) := h.1
    omega
  refine W.store ty_a32_1 hlen (u8l_one _) ho2c fun se ne xe oe => ?_
  have hxe := hxc.trans xe hb (fun x _ h => .inr (.inr h)) fun x _ h => .inr h
  refine W.endC (r := 2) digest_DSum_S19_21 (.inl digest_DSum_E21) (by omega) digest_DSum_fn digest_DSum_res (hxe.cx.trans hcx) t2 ?_
  refine W.loadA ty_a32_1 oe.row hlen fun sf mf nf xf => ?_
  exact q sf (hxe.trans xf hb (fun x _ h => .inr (.inr h)) fun x _ h => h.elim)
end Go.Proofs.Ytofanlcjeohcjaa.Am
/- (*digest.Digest).Sum, said of all states: its middle. -/
namespace Go.Proofs.Ytofanlcjeohcjaa.Am
open Go.RowKit

theorem Dig.ext {F G : Nat → Prop} {s s' : St} {D : Nat} {d : DS} (h : Dig s D d) (e : Ext F G s s') (k : ∀ x, In D 0 74 x → ¬ G x) : Dig s' D d :=
  ⟨h.made.ext e (k _ ⟨by omega, by omega⟩), h.st.ext e fun i hi => k _ ⟨by omega, by rw [st8_len] at hi; omega⟩, h.w.ext e fun i hi => k _ ⟨by omega, by rw [u8l_length, h.len] at hi; omega⟩, h.n.ext e (k _ ⟨by omega, by omega⟩), h.len, h.byt, h.ok⟩
theorem Owned.ext1 {F G : Nat → Prop} {s s' : St} {b o n : Nat} (h : Owned s b o n) (e : Ext F G s s') (k : ∀ x, In b o n x → ¬ G x) : Owned s' b o n := fun j hj => let ⟨u, hu⟩ := h j hj; ⟨u, hu.ext e (k _ ⟨by omega, by omega⟩)⟩
theorem W_idxSl0 {E : Env} {t : Nat} {s : St} {sz b o n c : Nat} (h : slN E t = some sz) (hk : 0 < n) (Q : Value → St → Prop) : W (kIdxA E t (.slice (some ⟨b, o, none⟩) n c) (.int .i64 0)) s Q = Q (.pointer (some ⟨b, o + 0 * sz, none⟩)) s := W_idxSl (k := 0) h hk Q
abbrev MidF (D O2 : Nat) : Nat → Prop := fun x => In D 0 74 x ∨ O2 ≤ x
theorem sum_mid {D C O2 O3 n : Nat} {d : DS} {tm : T Value} {td : List Item} {s : St} {Q : Value × FrameMode → St → Prop} (hb : s.lim ≤ s.next) (hcx : s.cx = .cx none (some [])) (hmax : d.n ≤ 900000000) (hD2 : D + 74 ≤ O2) (h23 : O2 + 32 ≤ O3) (h3C : O3 + 32 ≤ C) (hCn : C + 74 ≤ s.next) (hd : Dig s D d) (hc : Dig s C d) (ho3 : Owned s O3 0 32) (ho2 : Owned s O2 0 32) (hn : 2000 ≤ n) (hT : skim 64 td = digest_DSum_P7)
    (h0 : T.get tm 0 = some (.pointer (some ⟨D, 0, none⟩))) (h2 : T.get tm 2 = some (.pointer (some ⟨O2, 0, none⟩))) (h3 : T.get tm 3 = some (.pointer (some ⟨O3, 0, none⟩))) (h4 : T.get tm 4 = some (.pointer (some ⟨C, 0, none⟩)))
    (q : ∀ s1, Ext (MidF D O2) (fun x => O2 ≤ x) s s1 → Q (.agg (u8l d.sum).toArray, .run) s1) : W (runF envS n ⟨112, digest_DSum_nt, digest_DSum_g, tm, td, .run, .normal, none⟩) s Q := by
  refine digest_DSum_q7.w hT (by omega) ?_
  simp -implicitDefEqProofs only [digest_DSum_r7, W_bind, W_oS, W_pure, W_mv, W_setF, W_nil, h0, W_fld ty_D3 (by decide : 0 < 1)]
  refine W.load1 ty_int_1 hd.n.at' ?_
  have hxa : Ext (MidF D O2) (fun x => O2 ≤ x) s (s.rdN (D + (0 + 73))) := Ext.rdN (F := MidF D O2) s _ fun _ => .inl ⟨by omega, by omega⟩
  have hda : Dig (s.rdN (D + (0 + 73))) D d := hd.same rfl rfl
  have hca : Dig (s.rdN (D + (0 + 73))) C d := hc.same rfl rfl
  have ho3a : Owned (s.rdN (D + (0 + 73))) O3 0 32 := fun j hj => let ⟨u, h⟩ := ho3 j hj; ⟨u, h.same rfl rfl⟩
  have ho2a : Owned (s.rdN (D + (0 + 73))) O2 0 32 := fun j hj => let ⟨u, h⟩ := ho2 j hj; ⟨u, h.same rfl rfl⟩
  have na : (s.rdN (D + (0 + 73))).next = s.next := rfl
  generalize s.rdN (D + (0 + 73)) = sa at hxa hda hca ho3a ho2a na ⊢
  have hm : d.n % 64 < 64 := Nat.mod_lt _ (by decide)
  have e1 : wrap64 (119 - ((d.n % 64 : Nat) : Int)) = ((119 - d.n % 64 : Nat) : Int) := by
    rw [wrap64_id (by omega) (by omega)]; omega
  have e2 : wrap64 (1 + (((119 - d.n % 64) % 64 : Nat) : Int)) = ((d.pad0.length : Nat) : Int) := by
    rw [wrap64_id (by omega) (by omega), DS.pad0_len]; omega
  have hp0 : d.pad0.length ≤ 64 := by rw [DS.pad0_len]; omega
  simp -implicitDefEqProofs only [W_add64, W_sub64, W_rem64', e1, e2]
  have hba : sa.lim ≤ sa.next := hxa.bnd hb
  refine W.mkSl (c := 80) ty_b_el (by omega) (by decide) fun sb nb xb ob => ?_
  have hrl : (rep 80 [Value.int .u8 0]).length = 80 := by rw [rep_u8]; simp
  have hnew : s.next ≤ sa.next := hxa.nxt
  have hxb : Ext (MidF D O2) (fun x => O2 ≤ x) s sb := hxa.trans xb hb (fun _ _ h => h.elim) fun _ _ h => h.elim
  have hdb : Dig sb D d := hda.ext0 xb
  have hcb : Dig sb C d := hca.ext0 xb
  have ho3b : Owned sb O3 0 32 := ho3a.ext1 xb fun _ _ h => h
  have ho2b : Owned sb O2 0 32 := ho2a.ext1 xb fun _ _ h => h
  have hob : Owned sb sa.next 0 80 := by
    have := OwnRow.owned ob
    rw [hrl] at this
    exact this
  have hzb : OwnRow sb sa.next 0 (List.replicate 80 (.int .u8 0)) := by rw [← rep_u8]; exact ob
  clear ob xb hda hca ho3a ho2a
  refine digest_DSum_q8.w digest_DSum_S7_8 (by omega) ?_
  simp -implicitDefEqProofs only [digest_DSum_r8, W_bind, W_oS, W_pure, W_mv, T.get_set, reduceIte, ↓reduceIte, W_idxSl0 ty_b_sl (show 0 < d.pad0.length by rw [DS.pad0_len]; omega)]
  obtain ⟨u0, hu0⟩ := hob 0 (by omega)
  refine W.store1 ty_u8_1 rfl hu0 fun sc nc xc oc => ?_
  have sub : ∀ x, In sa.next (0 + 0 * 1) 1 x → In sa.next 0 80 x := fun x h => ⟨by have := h.1; omega, by have := h.2; omega⟩
  have up : ∀ x, In sa.next 0 80 x → O2 ≤ x := fun x h => by have := h.1; omega
  have nod : ∀ b m x, b + m ≤ s.next → In b 0 m x → ¬ In sa.next 0 80 x := fun b m x hbm h h' => by
    have g1 := h.2
    have g2 := h'.1
    omega
  have hxc : Ext (MidF D O2) (fun x => O2 ≤ x) s sc := hxb.trans xc hb (fun x _ h => .inr (up x (sub x h))) fun x _ h => up x (sub x h)
  have hdc : Dig sc D d := hdb.ext xc fun x h h' => nod D 74 x (by omega) h (sub x h')
  have hcc : Dig sc C d := hcb.ext xc fun x h h' => nod C 74 x (by omega) h (sub x h')
  have ho3c : Owned sc O3 0 32 := ho3b.ext1 xc fun x h h' => nod O3 32 x (by omega) h (sub x h')
  have ho2c : Owned sc O2 0 32 := ho2b.ext1 xc fun x h h' => nod O2 32 x (by omega) h (sub x h')
  have hwc : Owned sc sa.next 0 80 := hob.ext (l := [.int .u8 128]) xc (OwnRow.cons oc .nil)
  have hpc : OwnRow sc sa.next 0 (u8l d.pad0) := by
    have e : u8l d.pad0 = .int .u8 128 :: List.replicate ((119 - d.n % 64) % 64) (.int .u8 0) := by
      unfold DS.pad0 u8l
      rw [List.map_cons, List.map_replicate]
      rfl
    rw [e]
    refine OwnRow.cons oc fun i v hi => ?_
    rw [List.getElem?_replicate] at hi
    split at hi
    · rename_i hlt
      cases hi
      have := hzb (1 + i) (.int .u8 0) (by rw [List.getElem?_replicate, if_pos (by omega)])
      rw [← Nat.add_assoc] at this
      refine this.ext xc fun h => ?_
      have := h.2
      omega
    · cases hi
  clear hob hzb hu0 oc
  have hbc : sc.lim ≤ sc.next := hxc.bnd hb
  have hBn : sa.next + 80 ≤ sc.next := by
    have h1 : sb.next = sa.next + (rep 80 [Value.int .u8 0]).length + 1 := nb
    omega
  refine digest_DSum_q9.w digest_DSum_S8_9 (by omega) ?_
  simp -implicitDefEqProofs only [digest_DSum_r9, W_pure, W_mv, W_setF]
  refine pad_loop (d := d) (a2 := .pointer (some ⟨O2, 0, none⟩)) (a3 := .pointer (some ⟨O3, 0, none⟩)) (a4 := .pointer (some ⟨C, 0, none⟩)) (by omega) hbc (.inl (show D + 74 ≤ sa.next by omega)) hBn 8 _ _ sc _ d.pad0 (Nat.le_refl _) (by omega) digest_DSum_S9_10 (Ext.refl sc) hdc hpc hwc (by omega) (by simp [T.get_set, h0]) (by simp [T.get_set, h2]) (by simp [T.get_set, h3]) (by simp [T.get_set, h4]) (by simp [T.get_set]) (by simp [T.get_set]) fun n' tm' sd td' f1 f2 xd hdd hpd t0 t2 t3 t4 t5 => ?_
  have hxd : Ext (MidF D O2) (fun x => O2 ≤ x) s sd := hxc.trans xd hb (fun x _ h => by
    rcases h with h | h
    · exact .inl h
    · exact .inr (up x h)) fun x _ h => up x h
  have hcd : Dig sd C d := hcc.ext xd fun x h h' => nod C 74 x (by omega) h h'
  have ho3d : Owned sd O3 0 32 := ho3c.ext1 xd fun x h h' => nod O3 32 x (by omega) h h'
  have ho2d : Owned sd O2 0 32 := ho2c.ext1 xd fun x h h' => nod O2 32 x (by omega) h h'
  have hpl : d.pad.length = d.pad0.length + 8 := by unfold DS.pad; rw [List.length_append, tl8_len]
  rw [← hpl] at t5
  have hpd' : OwnRow sd sa.next 0 (u8l d.pad) := hpd
  have hbn : Bn sd (.slice (some ⟨sa.next, 0, none⟩) d.pad.length 80) d.pad := ⟨sa.next, 0, 80, rfl, by rw [Nat.mod_eq_of_lt (capU_gt (by decide))]; omega, sizeOk_exact (capU_gt (by decide)), hpd'.row⟩
  have hbd : sd.lim ≤ sd.next := hxd.bnd hb
  refine digest_DSum_q13.w f2 (by omega) ?_
  simp -implicitDefEqProofs only [digest_DSum_r13, W_bind, W_on, W_pure, W_mv, seqO_cons, seqO_nil, onO_some', W_callV, t4, t5]
  refine digest_Write_spec hbd (fun x h h' => nod C 74 x (by omega) h' ⟨h.1, by have := h.2; omega⟩) hcd (by omega) (fun _ => hbn) hbn.bs d.pad_byt (by omega) fun se xe he => ?_
  have hxe : Ext (MidF D O2) (fun x => O2 ≤ x) s se := hxd.trans xe hb (fun x _ h => by
    rcases h with h | h
    · exact .inr (by have := h.1; omega)
    · exact .inr (up x ⟨h.1, by have := h.2; omega⟩)) fun x _ h => by have := h.1; omega
  have ho3e : Owned se O3 0 32 := ho3d.ext1 xe fun x h h' => by have := h.2; have := h'.1; omega
  have ho2e : Owned se O2 0 32 := ho2d.ext1 xe fun x h h' => by have := h.2; have := h'.1; omega
  have hbe : se.lim ≤ se.next := hxe.bnd hb
  refine sum_tail (C := C) hbe (hxe.cx.trans hcx) h23 he ho3e ho2e (by omega) digest_DSum_S13_15 t2 t3 t4 fun sf xf => q sf (hxe.trans xf hb (fun x _ h => ?_) fun x _ h => ?_)
  · rcases h with h | h | h
    · exact .inr (by have := h.1; omega)
    · exact .inr (by have := h.1; omega)
    · exact .inr (by have := h.1; omega)
  · rcases h with h | h
    · have := h.1; omega
    · have := h.1; omega
end Go.Proofs.Ytofanlcjeohcjaa.Am
/- (*digest.Digest).Sum, said of all states: the call. -/
namespace Go.Proofs.Ytofanlcjeohcjaa.Am
open Go.RowKit

theorem DSum_spec {D n : Nat} {d : DS} {s : St} {Q : Value → St → Prop} (hbd : s.lim ≤ s.next) (hd : Dig s D d) (hmax : d.n ≤ 900000000) (hn : 2500 ≤ n)
    (q : ∀ s1, Ext (In D 0 74) Non s s1 → Q (.agg (u8l d.sum).toArray) s1) : W (callW envS (runF envS n) 112 [.pointer (some ⟨D, 0, none⟩)]) s Q := by
  refine digest_DSum_W fun tm h0 => ?_
  have hD : D + 73 < s.next := by have := hd.n.1; omega
  have hd0 : Dig (s.cxN cxN) D d := hd.same rfl rfl
  refine digest_DSum_q0.w rfl (by omega) ?_
  simp -implicitDefEqProofs only [digest_DSum_r0, W_bind, W_pure, W_setF]
  refine W.alloc ty_a32_z fun sa na xa oa => ?_
  have na' : sa.next = s.next + 33 := na
  have hxa : Ext (In D 0 74) Non (s.cxN cxN) sa := (Ext.refl _).step xa hbd (fun _ _ h => h.elim) fun _ h => h.elim
  refine digest_DSum_q1.w digest_DSum_S0_1 (by omega) ?_
  simp -implicitDefEqProofs only [digest_DSum_r1, W_bind, W_pure, W_setF]
  refine W.alloc ty_a32_z fun sb nb xb ob => ?_
  have nb' : sb.next = sa.next + 33 := nb
  have hxb : Ext (In D 0 74) Non (s.cxN cxN) sb := hxa.step xb hbd (fun _ _ h => h.elim) fun _ h => h.elim
  have hdb : Dig sb D d := hd0.ext0 hxb
  have ho2 : Owned sb s.next 0 32 := (OwnRow.owned oa).ext1 xb fun _ _ h => h
  have ho3 : Owned sb sa.next 0 32 := OwnRow.owned ob
  refine digest_DSum_q2.w digest_DSum_S1_2 (by omega) ?_
  simp -implicitDefEqProofs only [digest_DSum_r2, W_bind, W_oS, W_on, W_pure, W_mv, W_setF, T.get_set, reduceIte, isK_bool, isB_ff, W_chk, W_ifT, W_pick, W_nil, reduceCtorEq, ↓reduceIte, h0, W_eqNilP ty_Dp, W_fld ty_D0 (by decide : 0 < 1)]
  refine W.load1 ty_bool_1 hdb.made.at' ?_
  simp -implicitDefEqProofs only [W_not]
  have hxc : Ext (In D 0 74) Non (s.cxN cxN) (sb.rdN (D + (0 + 0))) := hxb.step (Ext.rdN (F := In D 0 74) (G := Non) sb _ fun _ => ⟨by omega, by omega⟩) hbd (fun _ _ h => h) fun _ h => h.elim
  have hdc : Dig (sb.rdN (D + (0 + 0))) D d := hdb.same rfl rfl
  have ho2c : Owned (sb.rdN (D + (0 + 0))) s.next 0 32 := fun j hj => let ⟨u, h⟩ := ho2 j hj; ⟨u, h.same rfl rfl⟩
  have ho3c : Owned (sb.rdN (D + (0 + 0))) sa.next 0 32 := fun j hj => let ⟨u, h⟩ := ho3 j hj; ⟨u, h.same rfl rfl⟩
  have nc : (sb.rdN (D + (0 + 0))).next = sb.next := rfl
  refine W.cond (v := false) digest_DSum_S2_3 digest_DSum_C3 (by simp [T.get_set]) (by omega) (fun h => by cases h) fun _ => ?_
  generalize sb.rdN (D + (0 + 0)) = sc at hxc hdc ho2c ho3c nc ⊢
  refine digest_DSum_q5.w digest_DSum_S3_5 (by omega) ?_
  simp -implicitDefEqProofs only [digest_DSum_r5, W_bind, W_oS, W_pure, W_mv, W_setF, T.get_set, reduceIte, W_nil, reduceCtorEq, ↓reduceIte, h0]
  refine W.loadA ty_D_1 hdc.toRow.row (d.row_len hd.len) fun sd md nd xd => ?_
  have hxd : Ext (In D 0 74) Non (s.cxN cxN) sd := hxc.step xd hbd (fun _ _ h => h) fun _ h => h.elim
  refine W.alloc ty_D_zl fun se ne xe oe => ?_
  have ne' : se.next = sd.next + 75 := ne
  have hxe : Ext (In D 0 74) Non (s.cxN cxN) se := hxd.step xe hbd (fun _ _ h => h.elim) fun _ h => h.elim
  have hnd : sd.next = sc.next := nd
  refine W.store ty_D_1 (d.row_len hd.len) d.row_one (fun i hi => oe.owned i (by simp; omega)) fun sf nf xf of => ?_
  have hnf : sf.next = se.next := nf
  have hG : ∀ x, In sd.next 0 74 x → s.next ≤ x := fun x h => by have := h.1; omega
  have hxf : Ext (In D 0 74) Non (s.cxN cxN) sf := hxe.step xf hbd (fun x hx h => by
    have h1 := hG x h
    have h2 : x < s.lim := hx
    omega) fun x h => hG x h
  have hbf : sf.lim ≤ sf.next := hxf.bnd hbd
  have hcf : Dig sf sd.next d := Dig.ofRow of hd.len hd.byt hd.ok
  have hdf : Dig sf D d := hd0.ext0 hxf
  have ho2f : Owned sf s.next 0 32 := ((ho2c.ext1 xd fun _ _ h => h).ext1 xe fun _ _ h => h).ext1 xf fun x h h' => by
    have := h.2
    have := h'.1
    omega
  have ho3f : Owned sf sa.next 0 32 := ((ho3c.ext1 xd fun _ _ h => h).ext1 xe fun _ _ h => h).ext1 xf fun x h h' => by
    have := h.2
    have := h'.1
    omega
  refine sum_mid (D := D) (C := sd.next) (O2 := s.next) (O3 := sa.next) (d := d) hbf hxf.cx hmax (by omega) (by omega) (by omega) (by omega) hdf hcf ho3f ho2f (by omega) digest_DSum_S5_7 (by simp [T.get_set, h0]) (by simp [T.get_set]) (by simp [T.get_set]) (by simp [T.get_set]) fun sg xg => ?_
  have hxg : Ext (In D 0 74) Non (s.cxN cxN) sg := hxf.step xg hbd (fun x hx h => by
    have h2 : x < s.lim := hx
    rcases h with h | h
    · exact h
    · omega) fun x h => h
  exact q _ hxg.cx'
end Go.Proofs.Ytofanlcjeohcjaa.Am
/- digest.Sum, digest.ID, said of all states. -/
namespace Go.Proofs.Ytofanlcjeohcjaa.Am
open Go.RowKit

theorem DS.write_n : ∀ (f : Nat) (d : DS) (b : List Nat), b.length ≤ f → (DS.write f d b).n = d.n + b.length
  | 0, d, b, h => by
    have : b.length = 0 := by omega
    unfold DS.write
    omega
  | f + 1, d, b, h => by
    unfold DS.write
    by_cases hb : b.length = 0
    · rw [if_pos hb]; omega
    · rw [if_neg hb]
      obtain ⟨hk1, hk2⟩ := d.k_le b
      have hm : d.n % 64 < 64 := Nat.mod_lt _ (by decide)
      have hk0 : 0 < d.k b := by
        unfold DS.k
        exact Nat.lt_min.2 ⟨by omega, by omega⟩
      rw [DS.write_n f _ _ (by rw [List.length_drop]; omega), List.length_drop]
      show d.n + d.k b + (b.length - d.k b) = _
      omega
/-- The sum of some bytes. -/
def sumB (b : List Nat) : List Nat := (DS.write b.length DS.new b).sum
theorem sumB_len (b : List Nat) : (sumB b).length = 32 := DS.sum_len _
theorem Bs.bn' {s : St} {v : Value} {b : List Nat} (h : Bs s v b) (hb : b ≠ []) : Bn s v b := by
  rcases h with ⟨_, h⟩ | h
  · exact absurd h hb
  · exact h
theorem digest_Sum_spec {n : Nat} {v : Value} {b : List Nat} {s : St} {Q : Value → St → Prop} (hbd : s.lim ≤ s.next) (hbs : Bs s v b) (hlt : ∀ x, BsF v x → x < s.next) (hby : Byt b) (hmax : b.length ≤ 900000) (hn : 20 * b.length + 2600 ≤ n)
    (q : ∀ s1, Ext (BsF v) Non s s1 → Q (.agg (u8l (sumB b)).toArray) s1) : W (callW envS (runF envS n) 73 [v]) s Q := by
  refine digest_Sum_W fun tm h0 => ?_
  have hbs0 : Bs (s.cxN cxN) v b := hbs.same rfl rfl
  refine digest_Sum_q0.w rfl (by omega) ?_
  simp -implicitDefEqProofs only [digest_Sum_r0, W_bind, W_pure, W_setF]
  refine W.alloc ty_a32_z fun sa na xa oa => ?_
  have na' : sa.next = s.next + 33 := na
  have hxa : Ext (BsF v) Non (s.cxN cxN) sa := (Ext.refl _).step xa hbd (fun _ _ h => h.elim) fun _ h => h.elim
  refine digest_Sum_q1.w digest_Sum_S0_1 (by omega) ?_
  simp -implicitDefEqProofs only [digest_Sum_r1, W_bind, W_on, W_pure, W_mv, W_setF, seqO_nil, W_callV]
  refine digest_New_spec (hxa.bnd hbd) (by omega) fun sb D hD1 hD2 xb hd => ?_
  have hxb : Ext (BsF v) Non (s.cxN cxN) sb := hxa.step xb hbd (fun _ _ h => h.elim) fun _ h => h.elim
  refine digest_Sum_q2.w digest_Sum_S1_2 (by omega) ?_
  simp -implicitDefEqProofs only [digest_Sum_r2, W_bind, W_on, W_pure, W_mv, T.get_set, seqO_cons, seqO_nil, onO_some', W_callV, reduceIte, reduceCtorEq, ↓reduceIte, h0]
  have hbsb : Bs sb v b := hbs0.ext0 hxb
  refine digest_Write_spec (hxb.bnd hbd) (fun x h h' => by have := hlt x h; have := h'.1; omega) hd (show 0 + b.length ≤ 1000000000 by omega) (fun h => hbsb.bn' h) hbsb hby (by omega) fun sc xc hdc => ?_
  have hG : ∀ x, In D 0 74 x → s.next ≤ x := fun x h => by have := h.1; omega
  have hxc : Ext (BsF v) Non (s.cxN cxN) sc := hxb.step xc hbd (fun x hx h => by
    have h2 : x < s.lim := hx
    rcases h with h | h
    · have := hG x h; omega
    · exact h) fun x h => hG x h
  have hoc : Owned sc s.next 0 32 := ((OwnRow.owned oa).ext1 xb fun _ _ h => h).ext1 xc fun x h h' => by
    have h1 : x < s.next + 0 + 32 := h.2
    have := h'.1
    omega
  refine digest_Sum_q3.w digest_Sum_S2_3 (by omega) ?_
  simp -implicitDefEqProofs only [digest_Sum_r3, W_bind, W_oS, W_on, W_pure, W_mv, T.get_set, seqO_cons, seqO_nil, onO_some', W_callV, reduceIte, Nat.reduceEqDiff, Nat.reduceEqDiff, ↓reduceIte]
  refine DSum_spec (hxc.bnd hbd) hdc (by rw [DS.write_n _ _ _ (Nat.le_refl _)]; show 0 + b.length ≤ _; omega) (by omega) fun sd xd => ?_
  have hxd : Ext (BsF v) Non (s.cxN cxN) sd := hxc.step xd hbd (fun x hx h => by
    have h2 : x < s.lim := hx
    have := hG x h
    omega) fun _ h => h.elim
  have hod : Owned sd s.next 0 32 := hoc.ext1 xd fun _ _ h => h
  have hlen : (u8l (DS.write b.length DS.new b).sum).length = 32 := by rw [u8l_length]; exact DS.sum_len _
  refine W.store ty_a32_1 hlen (u8l_one _) hod fun se ne xe oe => ?_
  have hG2 : ∀ x, In s.next 0 32 x → s.next ≤ x := fun x h => by have := h.1; omega
  have hxe : Ext (BsF v) Non (s.cxN cxN) se := hxd.step xe hbd (fun x hx h => by
    have h2 : x < s.lim := hx
    have := hG2 x h
    omega) hG2
  refine W.endC (r := 2) digest_Sum_S3_4 (.inl digest_Sum_E4) (by omega) digest_Sum_fn digest_Sum_res hxe.cx (by simp [T.get_set]; rfl) ?_
  refine W.loadA ty_a32_1 oe.row hlen fun sf mf nf xf => ?_
  have hxf : Ext (BsF v) Non (s.cxN cxN) sf := hxe.step xf hbd (fun x hx h => by
    have h2 : x < s.lim := hx
    have := hG2 x h
    omega) fun _ h => h.elim
  exact q _ hxf.cx'
end Go.Proofs.Ytofanlcjeohcjaa.Am
/- digest.ID, said of all states. -/
namespace Go.Proofs.Ytofanlcjeohcjaa.Am
open Go.RowKit

theorem W_slArrP {E : Env} {t n sz l c : Nat} {a : Addr} {s : St} (h : arrN E t = some (n, sz)) (h1 : n ≤ l) (h2 : 0 < l) (Q : Value → St → Prop) : W (kSlArr E t (.slice (some a) l c)) s Q = Q (.pointer (some a)) s := by
  obtain ⟨i, e, ie, g1, g2, g3, g4⟩ := arrN_inv h
  refine W_run ?_
  unfold kSlArr
  rw [bind_run (show ti E t s = .some i s by unfold ti; rw [g1]; rfl), g2]
  show M.chk (Nat.ble n l && Nat.blt 0 l) (M.pure (Value.pointer (some a))) s = _
  rw [Nat.ble_eq_true_of_le h1, blt_t h2]
  rfl
theorem ty_ID : arrN envS 26 = some (16, 1) := by kernel_rfl
theorem ty_ID_1 : tyS envS 26 = some (16, true) := by kernel_rfl
theorem ty_ID_z : zeroL envS 26 = some (List.replicate 16 (.int .u8 0)) := by kernel_rfl
/-- The name of some bytes. -/
def idB (b : List Nat) : List Nat := (sumB b).take 16
theorem idB_len (b : List Nat) : (idB b).length = 16 := by unfold idB; rw [List.length_take, sumB_len]; rfl
theorem digest_ID_spec {n : Nat} {v : Value} {b : List Nat} {s : St} {Q : Value → St → Prop} (hbd : s.lim ≤ s.next) (hbs : Bs s v b) (hlt : ∀ x, BsF v x → x < s.next) (hby : Byt b) (hmax : b.length ≤ 900000) (hn : 20 * b.length + 2700 ≤ n)
    (q : ∀ s1, Ext (BsF v) Non s s1 → Q (.agg (u8l (idB b)).toArray) s1) : W (callW envS (runF envS n) 32 [v]) s Q := by
  refine digest_ID_W fun tm h0 => ?_
  have hbs0 : Bs (s.cxN cxN) v b := hbs.same rfl rfl
  refine digest_ID_q0.w rfl (by omega) ?_
  simp -implicitDefEqProofs only [digest_ID_r0, W_bind, W_pure, W_setF]
  refine W.alloc ty_ID_z fun sa na xa oa => ?_
  have na' : sa.next = s.next + 17 := na
  have hxa : Ext (BsF v) Non (s.cxN cxN) sa := (Ext.refl _).step xa hbd (fun _ _ h => h.elim) fun _ h => h.elim
  refine digest_ID_q1.w digest_ID_S0_1 (by omega) ?_
  simp -implicitDefEqProofs only [digest_ID_r1, W_bind, W_oS, W_on, W_pure, W_mv, W_setF, T.get_set, seqO_cons, seqO_nil, onO_some', W_callV, reduceIte, reduceCtorEq, ↓reduceIte, h0]
  refine digest_Sum_spec (hxa.bnd hbd) (hbs0.ext0 hxa) (fun x h => by have := hlt x h; omega) hby hmax (by omega) fun sb xb => ?_
  have hxb : Ext (BsF v) Non (s.cxN cxN) sb := hxa.step xb hbd (fun _ _ h => h) fun _ h => h.elim
  refine W.alloc ty_a32_z fun sc nc xc oc => ?_
  have hxc : Ext (BsF v) Non (s.cxN cxN) sc := hxb.step xc hbd (fun _ _ h => h.elim) fun _ h => h.elim
  have hbn : sa.next ≤ sb.next := xb.nxt
  have hlen : (u8l (sumB b)).length = 32 := by rw [u8l_length]; exact sumB_len _
  refine W.store ty_a32_1 hlen (u8l_one _) (fun i hi => oc.owned i (by simp; omega)) fun sd nd xd od => ?_
  have hG : ∀ x, In sb.next 0 32 x → s.next ≤ x := fun x h => by have := h.1; omega
  have hxd : Ext (BsF v) Non (s.cxN cxN) sd := hxc.step xd hbd (fun x hx h => by
    have h2 : x < s.lim := hx
    have := hG x h
    omega) hG
  have ho2 : Owned sd s.next 0 16 := (((OwnRow.owned oa).ext1 xb fun _ _ h => h).ext1 xc fun _ _ h => h).ext1 xd fun x h h' => by
    have h1 : x < s.next + 0 + 16 := h.2
    have := h'.1
    omega
  refine digest_ID_q2.w digest_ID_S1_2 (by omega) ?_
  simp -implicitDefEqProofs only [digest_ID_r2, W_bind, W_oS, W_on, W_pure, T.get_set, onO_some', reduceIte, Nat.reduceEqDiff, Nat.reduceEqDiff, ↓reduceIte]
  simp -implicitDefEqProofs only [W_slArr (lo := none) (hi := some (.int .i64 16)) (l := 0) (h := 16) ty_a32 (capU_gt (by decide)) rfl rfl (Nat.zero_le _) (by decide), W_slArrP ty_ID (show 16 ≤ 16 - 0 by decide) (by decide), reduceIte, reduceCtorEq, ↓reduceIte]
  have hlen2 : (u8l (idB b)).length = 16 := by rw [u8l_length]; exact idB_len _
  have hod : OwnRow sd sb.next 0 (u8l (idB b)) := by
    have := od.take (n := 16)
    show OwnRow sd sb.next 0 (u8l ((sumB b).take 16))
    unfold u8l
    rw [List.map_take]
    exact this
  refine W.loadA ty_ID_1 hod.row hlen2 fun se me ne xe => ?_
  have hxe : Ext (BsF v) Non (s.cxN cxN) se := hxd.step xe hbd (fun x hx h => by
    have h2 : x < s.lim := hx
    have h3 : sb.next + (0 + 0 * 1) ≤ x := h.1
    omega) fun _ h => h.elim
  have ho2e : Owned se s.next 0 16 := ho2.ext1 xe fun _ _ h => h
  refine W.store ty_ID_1 hlen2 (u8l_one _) ho2e fun sf nf xf of => ?_
  have hG2 : ∀ x, In s.next 0 16 x → s.next ≤ x := fun x h => by have := h.1; omega
  have hxf : Ext (BsF v) Non (s.cxN cxN) sf := hxe.step xf hbd (fun x hx h => by
    have h2 : x < s.lim := hx
    have := hG2 x h
    omega) hG2
  refine W.endC (r := 2) digest_ID_S2_3 (.inl digest_ID_E3) (by omega) digest_ID_fn digest_ID_res hxf.cx (by simp [T.get_set]; rfl) ?_
  refine W.loadA ty_ID_1 of.row hlen2 fun sg mg ng xg => ?_
  have hxg : Ext (BsF v) Non (s.cxN cxN) sg := hxf.step xg hbd (fun x hx h => by
    have h2 : x < s.lim := hx
    have := hG2 x h
    omega) fun _ h => h.elim
  exact q _ hxg.cx'
end Go.Proofs.Ytofanlcjeohcjaa.Am
/- What each region of some functions comes to, as a word of the evaluator: equations, each checked by the kernel. Printed by a program. -/
namespace Go.Proofs.Ytofanlcjeohcjaa.Am
open Go.RowKit

/-! ### satchel/pack.Size -/
noncomputable def pack_Size_g : Nat := globOf Try.f20
noncomputable def pack_Size_body : Code := Try.f20.body.getD .skip
theorem pack_Size_fn : envS.fn.get 20 = some Try.f20 := by kernel_rfl
theorem pack_Size_W {a0 : Value} {n : Nat} {s : St} {Q : Value → St → Prop} (h : ∀ tm, T.get tm 0 = some a0 → W (runF envS n ⟨20, 11, pack_Size_g, tm, [.code pack_Size_body], .run, .normal, none⟩) (s.cxN cxN) fun p s1 => Q p.1 (s1.cxN s.cx)) : W (callW envS (runF envS n) 20 [a0]) s Q :=
  W.call (by kernel_rfl) (by kernel_rfl) pack_Size_fn (by kernel_rfl) rfl rfl (by simp) (h _ (by kernel_rfl))
theorem pack_Size_res : Try.f20.results.toList = [.tmp 2] := by kernel_rfl
noncomputable def pack_Size_P0 : List Item := skim 64 [.code pack_Size_body]
noncomputable def pack_Size_P1 : List Item := skim 64 pack_Size_P0.tail
theorem pack_Size_S0_1 : skim 64 pack_Size_P0.tail = pack_Size_P1 := by kernel_rfl
noncomputable def pack_Size_P2 : List Item := skim 64 pack_Size_P1.tail
theorem pack_Size_S1_2 : skim 64 pack_Size_P1.tail = pack_Size_P2 := by kernel_rfl
noncomputable def pack_Size_P3 : List Item := skim 64 (brT pack_Size_P2)
theorem pack_Size_S2_3 : skim 64 (brT pack_Size_P2) = pack_Size_P3 := by kernel_rfl
noncomputable def pack_Size_P4 : List Item := skim 64 (brF pack_Size_P2)
theorem pack_Size_S2_4 : skim 64 (brF pack_Size_P2) = pack_Size_P4 := by kernel_rfl
noncomputable def pack_Size_P5 : List Item := skim 64 pack_Size_P3.tail
theorem pack_Size_S3_5 : skim 64 pack_Size_P3.tail = pack_Size_P5 := by kernel_rfl
noncomputable def pack_Size_P6 : List Item := skim 64 pack_Size_P4.tail
theorem pack_Size_S4_6 : skim 64 pack_Size_P4.tail = pack_Size_P6 := by kernel_rfl
/-- pack.go:27 -/
noncomputable def pack_Size_r0 (E : Env) (call round : CallT) (tm : T Value) : M (T Value) :=
  mv (some (.int .i64 0)) fun v2 =>
  setF 2 v2 tm fun tm1 =>
  M.pure tm1
theorem pack_Size_q0 : RegEq 20 11 pack_Size_g pack_Size_P0 pack_Size_r0 := ⟨by kernel_rfl, fun _ _ _ _ _ _ _ _ _ => by kernel_rfl⟩
/-- pack.go:28 -/
noncomputable def pack_Size_r1 (E : Env) (call round : CallT) (tm : T Value) : M (T Value) :=
  mv (T.get tm 0) fun v3 =>
  M.bind (oS (some v3) fun a => oS (some (.int .i64 1)) fun b => Cl.get (aBin E .lss 3 (.tmp 3) (.const (.int .i64 1))) a b) fun v4 =>
  mv (some v4) fun v5 =>
  M.bind (M.chk (isK v5) (M.if (isB v5 false) (oS (T.get tm 0) fun a => M.pure a) (M.pure undef))) fun v6 =>
  M.bind (M.chk (isK v5) (M.if (isB v5 false) (oS (some v6) fun a => oS (some (.int .i64 1024)) fun b => Cl.get (aBin E .gtr 3 (.tmp 6) (.const (.int .i64 1024))) a b) (M.pure undef))) fun v7 =>
  M.bind (M.on (some v5) fun a => M.on (some (.bool true)) fun b => M.on (some v7) fun c => kPick a b c) fun v8 =>
  setF 8 v8 tm fun tm1 =>
  M.pure tm1
theorem pack_Size_q1 : RegEq 20 11 pack_Size_g pack_Size_P1 pack_Size_r1 := ⟨by kernel_rfl, fun _ _ _ _ _ _ _ _ _ => by kernel_rfl⟩
theorem pack_Size_C2 : condX pack_Size_P2 = some 8 := by kernel_rfl
/-- pack.go:29 -/
noncomputable def pack_Size_r3 (E : Env) (call round : CallT) (tm : T Value) : M (T Value) :=
  mv (some (.int .i64 0)) fun v2 =>
  setF 2 v2 tm fun tm1 =>
  M.pure tm1
theorem pack_Size_q3 : RegEq 20 11 pack_Size_g pack_Size_P3 pack_Size_r3 := ⟨by kernel_rfl, fun _ _ _ _ _ _ _ _ _ => by kernel_rfl⟩
/-- pack.go:31 -/
noncomputable def pack_Size_r4 (E : Env) (call round : CallT) (tm : T Value) : M (T Value) :=
  mv (T.get tm 0) fun v9 =>
  M.bind (oS (some v9) fun a => oS (some (.int .i64 26)) fun b => Cl.get (aBin E .add 3 (.tmp 9) (.const (.int .i64 26))) a b) fun v10 =>
  mv (some v10) fun v2 =>
  setF 2 v2 tm fun tm1 =>
  M.pure tm1
theorem pack_Size_q4 : RegEq 20 11 pack_Size_g pack_Size_P4 pack_Size_r4 := ⟨by kernel_rfl, fun _ _ _ _ _ _ _ _ _ => by kernel_rfl⟩
theorem pack_Size_E5 : ∃ k, pack_Size_P5 = .code .ret :: k := ⟨pack_Size_P5.tail, by kernel_rfl⟩
theorem pack_Size_E6 : ∃ k, pack_Size_P6 = .code .ret :: k := ⟨pack_Size_P6.tail, by kernel_rfl⟩
-- points: 0:region>[1], 1:region>[2], 2:cond>[3, 4], 3:region>[5], 4:region>[6], 5:ret>, 6:ret>

/-! ### satchel/pack.head -/
noncomputable def pack_head_g : Nat := globOf Try.f62
noncomputable def pack_head_body : Code := Try.f62.body.getD .skip
theorem pack_head_fn : envS.fn.get 62 = some Try.f62 := by kernel_rfl
theorem pack_head_W {a0 : Value} {n : Nat} {s : St} {Q : Value → St → Prop} (h : ∀ tm, T.get tm 0 = some a0 → W (runF envS n ⟨62, 31, pack_head_g, tm, [.code pack_head_body], .run, .normal, none⟩) (s.cxN cxN) fun p s1 => Q p.1 (s1.cxN s.cx)) : W (callW envS (runF envS n) 62 [a0]) s Q :=
  W.call (by kernel_rfl) (by kernel_rfl) pack_head_fn (by kernel_rfl) rfl rfl (by simp) (h _ (by kernel_rfl))
theorem pack_head_res : Try.f62.results.toList = [.cell 2 89] := by kernel_rfl
noncomputable def pack_head_P0 : List Item := skim 64 [.code pack_head_body]
noncomputable def pack_head_P1 : List Item := skim 64 pack_head_P0.tail
theorem pack_head_S0_1 : skim 64 pack_head_P0.tail = pack_head_P1 := by kernel_rfl
noncomputable def pack_head_P2 : List Item := skim 64 pack_head_P1.tail
theorem pack_head_S1_2 : skim 64 pack_head_P1.tail = pack_head_P2 := by kernel_rfl
noncomputable def pack_head_P3 : List Item := skim 64 pack_head_P2.tail
theorem pack_head_S2_3 : skim 64 pack_head_P2.tail = pack_head_P3 := by kernel_rfl
noncomputable def pack_head_P4 : List Item := skim 64 pack_head_P3.tail
theorem pack_head_S3_4 : skim 64 pack_head_P3.tail = pack_head_P4 := by kernel_rfl
/-- pack.go:20 -/
noncomputable def pack_head_r0 (E : Env) (call round : CallT) (tm : T Value) : M (T Value) :=
  M.bind (kAlloc E 89) fun v2 =>
  setF 2 v2 tm fun tm1 =>
  M.pure tm1
theorem pack_head_q0 : RegEq 62 31 pack_head_g pack_head_P0 pack_head_r0 := ⟨by kernel_rfl, fun _ _ _ _ _ _ _ _ _ => by kernel_rfl⟩
/-- pack.go:21 -/
noncomputable def pack_head_r1 (E : Env) (call round : CallT) (tm : T Value) : M (T Value) :=
  mv (T.get tm 0) fun v6 =>
  M.bind (oS (some v6) fun a => oS (some (.int .u64 8)) fun b => Cl.get (aBin E .shr 3 (.tmp 6) (.const (.int .u64 8))) a b) fun v7 =>
  M.bind (oS (some v7) fun a => kConvB E 3 5 a) fun v8 =>
  mv (T.get tm 0) fun v9 =>
  M.bind (oS (some v9) fun a => kConvB E 3 5 a) fun v10 =>
  mv (some v8) fun v3 =>
  setF 3 v3 tm fun tm1 =>
  mv (some v10) fun v4 =>
  setF 4 v4 tm1 fun tm2 =>
  M.pure tm2
theorem pack_head_q1 : RegEq 62 31 pack_head_g pack_head_P1 pack_head_r1 := ⟨by kernel_rfl, fun _ _ _ _ _ _ _ _ _ => by kernel_rfl⟩
/-- pack.go:22 -/
noncomputable def pack_head_r2 (E : Env) (call round : CallT) (tm : T Value) : M (T Value) :=
  mv (T.get tm 3) fun v11 =>
  mv (T.get tm 4) fun v12 =>
  mv (T.get tm 3) fun v13 =>
  M.bind (oS (some v13) fun a => kUn E.P .xor a) fun v14 =>
  mv (T.get tm 4) fun v15 =>
  M.bind (oS (some v15) fun a => kUn E.P .xor a) fun v16 =>
  M.bind (oS (seqP [(0, (some v11)), (1, (some v12)), (2, (some v14)), (3, (some v16))]) fun ps => aBuildS E 22 4 ps) fun v17 =>
  M.bind (M.on (some (.func (.func 105) #[] #[])) fun f => M.on (seqO [(some v17)]) fun l => callV call round f l) fun v18 =>
  mv (some v18) fun v5 =>
  setF 5 v5 tm fun tm1 =>
  M.pure tm1
theorem pack_head_q2 : RegEq 62 31 pack_head_g pack_head_P2 pack_head_r2 := ⟨by kernel_rfl, fun _ _ _ _ _ _ _ _ _ => by kernel_rfl⟩
/-- pack.go:23 -/
noncomputable def pack_head_r3 (E : Env) (call round : CallT) (tm : T Value) : M (T Value) :=
  mv (T.get tm 3) fun v19 =>
  mv (T.get tm 4) fun v20 =>
  mv (T.get tm 3) fun v21 =>
  M.bind (oS (some v21) fun a => kUn E.P .xor a) fun v22 =>
  mv (T.get tm 4) fun v23 =>
  M.bind (oS (some v23) fun a => kUn E.P .xor a) fun v24 =>
  mv (T.get tm 5) fun v25 =>
  M.bind (oS (some v25) fun a => kConvB E 51 5 a) fun v26 =>
  mv (T.get tm 5) fun v27 =>
  M.bind (oS (some v27) fun a => oS (some (.int .u64 8)) fun b => Cl.get (aBin E .shr 51 (.tmp 27) (.const (.int .u64 8))) a b) fun v28 =>
  M.bind (oS (some v28) fun a => kConvB E 51 5 a) fun v29 =>
  M.bind (oS (seqP [(0, (some v19)), (1, (some v20)), (2, (some v22)), (3, (some v24)), (4, (some v26)), (5, (some v29))]) fun ps => aBuild E 89 ps) fun v30 =>
  M.bind (oS (T.get tm 2) fun a => oS (some v30) fun b => kStore E 89 a b) fun _ =>
  M.pure tm
theorem pack_head_q3 : RegEq 62 31 pack_head_g pack_head_P3 pack_head_r3 := ⟨by kernel_rfl, fun _ _ _ _ _ _ _ _ _ => by kernel_rfl⟩
theorem pack_head_E4 : ∃ k, pack_head_P4 = .code .ret :: k := ⟨pack_head_P4.tail, by kernel_rfl⟩
-- points: 0:region>[1], 1:region>[2], 2:region>[3], 3:region>[4], 4:ret>

/-! ### satchel/pack.says -/
noncomputable def pack_says_g : Nat := globOf Try.f71
abbrev pack_says_nt : Nat := 45
noncomputable def pack_says_body : Code := Try.f71.body.getD .skip
theorem pack_says_fn : envS.fn.get 71 = some Try.f71 := by kernel_rfl
theorem pack_says_W {a0 a1 : Value} {n : Nat} {s : St} {Q : Value → St → Prop} (h : ∀ tm, T.get tm 0 = some a0 → T.get tm 1 = some a1 → W (runF envS n ⟨71, 45, pack_says_g, tm, [.code pack_says_body], .run, .normal, none⟩) (s.cxN cxN) fun p s1 => Q p.1 (s1.cxN s.cx)) : W (callW envS (runF envS n) 71 [a0, a1]) s Q :=
  W.call (by kernel_rfl) (by kernel_rfl) pack_says_fn (by kernel_rfl) rfl rfl (by simp) (h _ (by kernel_rfl) (by kernel_rfl))
theorem pack_says_res : Try.f71.results.toList = [.tmp 4, .tmp 5] := by kernel_rfl
noncomputable def pack_says_P0 : List Item := skim 64 [.code pack_says_body]
noncomputable def pack_says_P1 : List Item := skim 64 pack_says_P0.tail
theorem pack_says_S0_1 : skim 64 pack_says_P0.tail = pack_says_P1 := by kernel_rfl
noncomputable def pack_says_P2 : List Item := skim 64 pack_says_P1.tail
theorem pack_says_S1_2 : skim 64 pack_says_P1.tail = pack_says_P2 := by kernel_rfl
noncomputable def pack_says_P3 : List Item := skim 64 (brT pack_says_P2)
theorem pack_says_S2_3 : skim 64 (brT pack_says_P2) = pack_says_P3 := by kernel_rfl
noncomputable def pack_says_P4 : List Item := skim 64 (brF pack_says_P2)
theorem pack_says_S2_4 : skim 64 (brF pack_says_P2) = pack_says_P4 := by kernel_rfl
noncomputable def pack_says_P5 : List Item := skim 64 pack_says_P3.tail
theorem pack_says_S3_5 : skim 64 pack_says_P3.tail = pack_says_P5 := by kernel_rfl
noncomputable def pack_says_P6 : List Item := skim 64 pack_says_P4.tail
theorem pack_says_S4_6 : skim 64 pack_says_P4.tail = pack_says_P6 := by kernel_rfl
noncomputable def pack_says_P7 : List Item := skim 64 pack_says_P6.tail
theorem pack_says_S6_7 : skim 64 pack_says_P6.tail = pack_says_P7 := by kernel_rfl
/-- pack.go:47 -/
noncomputable def pack_says_r0 (E : Env) (call round : CallT) (tm : T Value) : M (T Value) :=
  mv (some (.int .i64 0)) fun v4 =>
  setF 4 v4 tm fun tm1 =>
  mv (some (.bool false)) fun v5 =>
  setF 5 v5 tm1 fun tm2 =>
  M.pure tm2
theorem pack_says_q0 : RegEq 71 45 pack_says_g pack_says_P0 pack_says_r0 := ⟨by kernel_rfl, fun _ _ _ _ _ _ _ _ _ => by kernel_rfl⟩
/-- pack.go:48 -/
noncomputable def pack_says_r1 (E : Env) (call round : CallT) (tm : T Value) : M (T Value) :=
  mv (T.get tm 1) fun v7 =>
  M.bind (oS (some v7) fun a => oS (some (.int .i64 0)) fun b => Cl.get (aBin E .lss 3 (.tmp 7) (.const (.int .i64 0))) a b) fun v8 =>
  mv (some v8) fun v9 =>
  M.bind (M.chk (isK v9) (M.if (isB v9 false) (oS (T.get tm 1) fun a => M.pure a) (M.pure undef))) fun v10 =>
  M.bind (M.chk (isK v9) (M.if (isB v9 false) (oS (T.get tm 0) fun a => M.pure a) (M.pure undef))) fun v11 =>
  M.bind (M.chk (isK v9) (M.if (isB v9 false) (oS (seqO [(some v11)]) fun l => aBuiltin E .len [22] l) (M.pure undef))) fun v12 =>
  M.bind (M.chk (isK v9) (M.if (isB v9 false) (oS (some v12) fun a => oS (some (.int .i64 6)) fun b => Cl.get (aBin E .sub 3 (.tmp 12) (.const (.int .i64 6))) a b) (M.pure undef))) fun v13 =>
  M.bind (M.chk (isK v9) (M.if (isB v9 false) (oS (some v10) fun a => oS (some v13) fun b => Cl.get (aBin E .gtr 3 (.tmp 10) (.tmp 13)) a b) (M.pure undef))) fun v14 =>
  M.bind (M.on (some v9) fun a => M.on (some (.bool true)) fun b => M.on (some v14) fun c => kPick a b c) fun v15 =>
  setF 15 v15 tm fun tm1 =>
  M.pure tm1
theorem pack_says_q1 : RegEq 71 45 pack_says_g pack_says_P1 pack_says_r1 := ⟨by kernel_rfl, fun _ _ _ _ _ _ _ _ _ => by kernel_rfl⟩
theorem pack_says_C2 : condX pack_says_P2 = some 15 := by kernel_rfl
/-- pack.go:49 -/
noncomputable def pack_says_r3 (E : Env) (call round : CallT) (tm : T Value) : M (T Value) :=
  mv (some (.int .i64 0)) fun v4 =>
  setF 4 v4 tm fun tm1 =>
  mv (some (.bool false)) fun v5 =>
  setF 5 v5 tm1 fun tm2 =>
  M.pure tm2
theorem pack_says_q3 : RegEq 71 45 pack_says_g pack_says_P3 pack_says_r3 := ⟨by kernel_rfl, fun _ _ _ _ _ _ _ _ _ => by kernel_rfl⟩
/-- pack.go:51; the order is open -/
noncomputable def pack_says_d4 (E : Env) (call round : CallT) (tm : T Value) : M ((Rho × T Value) × List OpLog) :=
  M.bind (apartO (oS (T.get tm 0) fun a => M.pure a)) fun p0 =>
  M.bind (apartO (oS (T.get tm 1) fun a => M.pure a)) fun p1 =>
  M.bind (apartO (oS (some p0.1) fun a => oS (some p1.1) fun b => kIdxA E 22 a b)) fun p2 =>
  M.bind (apartO (oS (some p2.1) fun a => kLoad E 5 a)) fun p3 =>
  M.bind (apartO (oS (some p3.1) fun a => kConvB E 5 3 a)) fun p4 =>
  M.bind (apartO (oS (some p4.1) fun a => oS (some (.int .u64 8)) fun b => Cl.get (aBin E .shl 3 (.tmp 20) (.const (.int .u64 8))) a b)) fun p5 =>
  M.bind (apartO (oS (T.get tm 0) fun a => M.pure a)) fun p6 =>
  M.bind (apartO (oS (T.get tm 1) fun a => M.pure a)) fun p7 =>
  M.bind (apartO (oS (some p7.1) fun a => oS (some (.int .i64 1)) fun b => Cl.get (aBin E .add 3 (.tmp 23) (.const (.int .i64 1))) a b)) fun p8 =>
  M.bind (apartO (oS (some p6.1) fun a => oS (some p8.1) fun b => kIdxA E 22 a b)) fun p9 =>
  M.bind (apartO (oS (some p9.1) fun a => kLoad E 5 a)) fun p10 =>
  M.bind (apartO (oS (some p10.1) fun a => kConvB E 5 3 a)) fun p11 =>
  M.bind (apartO (oS (some p5.1) fun a => oS (some p11.1) fun b => Cl.get (aBin E .or 3 (.tmp 21) (.tmp 27)) a b)) fun p12 =>
  M.pure (([p12.1, p11.1, p10.1, p9.1, p8.1, p7.1, p6.1, p5.1, p4.1, p3.1, p2.1, p1.1, p0.1], tm), [p12.2, p11.2, p10.2, p9.2, p8.2, p7.2, p6.2, p5.2, p4.2, p3.2, p2.2, p1.2, p0.2])
theorem pack_says_q4 : DrawEq 71 45 pack_says_g pack_says_P4 [0, 0, 3, 7, 15, 31, 0, 0, 128, 448, 960, 1984, 4095, 8191] pack_says_d4 := ⟨by kernel_rfl, by kernel_rfl, fun _ _ _ _ _ _ _ _ _ => by kernel_rfl⟩
theorem pack_says_L4 (E : Env) (call round : CallT) (x16 x17 x18 x19 x20 x21 x22 x23 x24 x25 x26 x27 x28 : Value) (tm : T Value) (s : St) : opsIn call round (lastOps E pack_says_g 45 (hdC pack_says_P4)) [x28, x27, x26, x25, x24, x23, x22, x21, x20, x19, x18, x17, x16] tm s = (M.bind (oS (some x28) fun a => M.pure a) fun v6 => setT 6 v6 tm fun tm1 => M.pure tm1) s := by kernel_rfl
theorem pack_says_E5 : ∃ k, pack_says_P5 = .code .ret :: k := ⟨pack_says_P5.tail, by kernel_rfl⟩
/-- pack.go:52; the order is open -/
noncomputable def pack_says_d6 (E : Env) (call round : CallT) (tm : T Value) : M ((Rho × T Value) × List OpLog) :=
  M.bind (apartO (oS (T.get tm 6) fun a => M.pure a)) fun p0 =>
  M.bind (apartO (oS (T.get tm 6) fun a => M.pure a)) fun p1 =>
  M.bind (apartO (M.on (some (.func (.func 20) #[] #[])) fun f => M.on (seqO [(some p1.1)]) fun l => callV call round f l)) fun p2 =>
  M.bind (apartO (oS (some p2.1) fun a => oS (some (.int .i64 0)) fun b => Cl.get (aBin E .gtr 3 (.tmp 31) (.const (.int .i64 0))) a b)) fun p3 =>
  M.bind (apartO (oS (some p3.1) fun a => M.pure a)) fun p4 =>
  M.bind (apartO (M.chk (isK p4.1) (M.if (isB p4.1 true) (oS (T.get tm 0) fun a => M.pure a) (M.pure undef)))) fun p5 =>
  M.bind (apartO (M.chk (isK p4.1) (M.if (isB p4.1 true) (oS (T.get tm 1) fun a => M.pure a) (M.pure undef)))) fun p6 =>
  M.bind (apartO (M.chk (isK p4.1) (M.if (isB p4.1 true) (oS (T.get tm 1) fun a => M.pure a) (M.pure undef)))) fun p7 =>
  M.bind (apartO (M.chk (isK p4.1) (M.if (isB p4.1 true) (oS (some p7.1) fun a => oS (some (.int .i64 6)) fun b => Cl.get (aBin E .add 3 (.tmp 36) (.const (.int .i64 6))) a b) (M.pure undef)))) fun p8 =>
  M.bind (apartO (M.chk (isK p4.1) (M.if (isB p4.1 true) (M.on (some p5.1) fun a => M.on (onO (some p6.1) fun v => some (some v)) fun b => M.on (onO (some p8.1) fun v => some (some v)) fun c => aSlice E 22 a b c) (M.pure undef)))) fun p9 =>
  M.bind (apartO (M.chk (isK p4.1) (M.if (isB p4.1 true) (oS (some p9.1) fun a => kSlArr E 89 a) (M.pure undef)))) fun p10 =>
  M.bind (apartO (M.chk (isK p4.1) (M.if (isB p4.1 true) (oS (some p10.1) fun a => kLoad E 89 a) (M.pure undef)))) fun p11 =>
  M.bind (apartO (M.chk (isK p4.1) (M.if (isB p4.1 true) (oS (T.get tm 6) fun a => M.pure a) (M.pure undef)))) fun p12 =>
  M.bind (apartO (M.chk (isK p4.1) (M.if (isB p4.1 true) (M.on (some (.func (.func 62) #[] #[])) fun f => M.on (seqO [(some p12.1)]) fun l => callV call round f l) (M.pure undef)))) fun p13 =>
  M.bind (apartO (M.chk (isK p4.1) (M.if (isB p4.1 true) (oS (some p11.1) fun a => oS (some p13.1) fun b => Cl.get (aBin E .eql 89 (.tmp 40) (.tmp 42)) a b) (M.pure undef)))) fun p14 =>
  M.bind (apartO (M.on (some p4.1) fun a => M.on (some p14.1) fun b => M.on (some (.bool false)) fun c => kPick a b c)) fun p15 =>
  M.bind (apartO (oS (some p0.1) fun a => M.pure a)) fun p16 =>
  setT 4 p16.1 tm fun tm1 =>
  M.pure (([p16.1, p15.1, p14.1, p13.1, p12.1, p11.1, p10.1, p9.1, p8.1, p7.1, p6.1, p5.1, p4.1, p3.1, p2.1, p1.1, p0.1], tm1), [p16.2, p15.2, p14.2, p13.2, p12.2, p11.2, p10.2, p9.2, p8.2, p7.2, p6.2, p5.2, p4.2, p3.2, p2.2, p1.2, p0.2])
theorem pack_says_q6 : DrawEq 71 45 pack_says_g pack_says_P6 [0, 0, 2, 6, 14, 30, 30, 30, 158, 510, 1022, 2046, 30, 4126, 16382, 32766, 12319, 131071] pack_says_d6 := ⟨by kernel_rfl, by kernel_rfl, fun _ _ _ _ _ _ _ _ _ => by kernel_rfl⟩
theorem pack_says_L6 (E : Env) (call round : CallT) (x29 x30 x31 x32 x33 x34 x35 x36 x37 x38 x39 x40 x41 x42 x43 x44 x4 : Value) (tm : T Value) (s : St) : opsIn call round (lastOps E pack_says_g 45 (hdC pack_says_P6)) [x4, x44, x43, x42, x41, x40, x39, x38, x37, x36, x35, x34, x33, x32, x31, x30, x29] tm s = (M.bind (oS (some x44) fun a => M.pure a) fun v5 => setT 5 v5 tm fun tm1 => M.pure tm1) s := by kernel_rfl
theorem pack_says_E7 : ∃ k, pack_says_P7 = .code .ret :: k := ⟨pack_says_P7.tail, by kernel_rfl⟩
-- points: 0:region>[1], 1:region>[2], 2:cond>[3, 4], 3:region>[5], 4:region>[6], 5:ret>, 6:region>[7], 7:ret>

/-! ### satchel/pack.body -/
noncomputable def pack_body_g : Nat := globOf Try.f72
abbrev pack_body_nt : Nat := 39
noncomputable def pack_body_body : Code := Try.f72.body.getD .skip
theorem pack_body_fn : envS.fn.get 72 = some Try.f72 := by kernel_rfl
theorem pack_body_W {a0 a1 a2 : Value} {n : Nat} {s : St} {Q : Value → St → Prop} (h : ∀ tm, T.get tm 0 = some a0 → T.get tm 1 = some a1 → T.get tm 2 = some a2 → W (runF envS n ⟨72, 39, pack_body_g, tm, [.code pack_body_body], .run, .normal, none⟩) (s.cxN cxN) fun p s1 => Q p.1 (s1.cxN s.cx)) : W (callW envS (runF envS n) 72 [a0, a1, a2]) s Q :=
  W.call (by kernel_rfl) (by kernel_rfl) pack_body_fn (by kernel_rfl) rfl rfl (by simp) (h _ (by kernel_rfl) (by kernel_rfl) (by kernel_rfl))
theorem pack_body_res : Try.f72.results.toList = [.cell 6 26, .tmp 7, .tmp 8] := by kernel_rfl
noncomputable def pack_body_P0 : List Item := skim 64 [.code pack_body_body]
noncomputable def pack_body_P1 : List Item := skim 64 pack_body_P0.tail
theorem pack_body_S0_1 : skim 64 pack_body_P0.tail = pack_body_P1 := by kernel_rfl
noncomputable def pack_body_P2 : List Item := skim 64 pack_body_P1.tail
theorem pack_body_S1_2 : skim 64 pack_body_P1.tail = pack_body_P2 := by kernel_rfl
noncomputable def pack_body_P3 : List Item := skim 64 pack_body_P2.tail
theorem pack_body_S2_3 : skim 64 pack_body_P2.tail = pack_body_P3 := by kernel_rfl
noncomputable def pack_body_P4 : List Item := skim 64 (brT pack_body_P3)
theorem pack_body_S3_4 : skim 64 (brT pack_body_P3) = pack_body_P4 := by kernel_rfl
noncomputable def pack_body_P5 : List Item := skim 64 (brF pack_body_P3)
theorem pack_body_S3_5 : skim 64 (brF pack_body_P3) = pack_body_P5 := by kernel_rfl
noncomputable def pack_body_P6 : List Item := skim 64 pack_body_P4.tail
theorem pack_body_S4_6 : skim 64 pack_body_P4.tail = pack_body_P6 := by kernel_rfl
noncomputable def pack_body_P7 : List Item := skim 64 pack_body_P5.tail
theorem pack_body_S5_7 : skim 64 pack_body_P5.tail = pack_body_P7 := by kernel_rfl
noncomputable def pack_body_P8 : List Item := skim 64 pack_body_P7.tail
theorem pack_body_S7_8 : skim 64 pack_body_P7.tail = pack_body_P8 := by kernel_rfl
/-- pack.go:56 -/
noncomputable def pack_body_r0 (E : Env) (call round : CallT) (tm : T Value) : M (T Value) :=
  M.bind (kAlloc E 26) fun v6 =>
  setF 6 v6 tm fun tm1 =>
  mv (some (.slice none 0 0)) fun v7 =>
  setF 7 v7 tm1 fun tm2 =>
  mv (some (.bool false)) fun v8 =>
  setF 8 v8 tm2 fun tm3 =>
  M.pure tm3
theorem pack_body_q0 : RegEq 72 39 pack_body_g pack_body_P0 pack_body_r0 := ⟨by kernel_rfl, fun _ _ _ _ _ _ _ _ _ => by kernel_rfl⟩
/-- pack.go:57 -/
noncomputable def pack_body_r1 (E : Env) (call round : CallT) (tm : T Value) : M (T Value) :=
  mv (T.get tm 0) fun v13 =>
  mv (T.get tm 1) fun v14 =>
  M.bind (oS (some v14) fun a => oS (some (.int .i64 6)) fun b => Cl.get (aBin E .add 3 (.tmp 14) (.const (.int .i64 6))) a b) fun v15 =>
  mv (T.get tm 1) fun v16 =>
  mv (T.get tm 2) fun v17 =>
  M.bind (M.on (some (.func (.func 20) #[] #[])) fun f => M.on (seqO [(some v17)]) fun l => callV call round f l) fun v18 =>
  M.bind (oS (some v16) fun a => oS (some v18) fun b => Cl.get (aBin E .add 3 (.tmp 16) (.tmp 18)) a b) fun v19 =>
  M.bind (M.on (some v13) fun a => M.on (onO (some v15) fun v => some (some v)) fun b => M.on (onO (some v19) fun v => some (some v)) fun c => aSlice E 22 a b c) fun v20 =>
  M.bind (M.on (some (.func (.func 81) #[] #[])) fun f => M.on (seqO [(some v20)]) fun l => callV call round f l) fun v21 =>
  mv (some v21) fun v12 =>
  M.bind (oS (some v12) fun a => kExt 0 a) fun v22 =>
  M.bind (oS (some v12) fun a => kExt 1 a) fun v23 =>
  mv (some v22) fun v9 =>
  setF 9 v9 tm fun tm1 =>
  mv (some v23) fun v10 =>
  setF 10 v10 tm1 fun tm2 =>
  M.pure tm2
theorem pack_body_q1 : RegEq 72 39 pack_body_g pack_body_P1 pack_body_r1 := ⟨by kernel_rfl, fun _ _ _ _ _ _ _ _ _ => by kernel_rfl⟩
/-- pack.go:58 -/
noncomputable def pack_body_r2 (E : Env) (call round : CallT) (tm : T Value) : M (T Value) :=
  mv (T.get tm 10) fun v24 =>
  M.bind (oS (some v24) fun a => oS (some (.int .i64 0)) fun b => Cl.get (aBin E .neq 27 (.tmp 24) (.const (.int .i64 0))) a b) fun v25 =>
  setF 25 v25 tm fun tm1 =>
  M.pure tm1
theorem pack_body_q2 : RegEq 72 39 pack_body_g pack_body_P2 pack_body_r2 := ⟨by kernel_rfl, fun _ _ _ _ _ _ _ _ _ => by kernel_rfl⟩
theorem pack_body_C3 : condX pack_body_P3 = some 25 := by kernel_rfl
/-- pack.go:59 -/
noncomputable def pack_body_r4 (E : Env) (call round : CallT) (tm : T Value) : M (T Value) :=
  M.bind (oS (seqP []) fun ps => aBuild E 26 ps) fun v26 =>
  M.bind (oS (T.get tm 6) fun a => oS (some v26) fun b => kStore E 26 a b) fun _ =>
  mv (some (.slice none 0 0)) fun v7 =>
  setF 7 v7 tm fun tm1 =>
  mv (some (.bool false)) fun v8 =>
  setF 8 v8 tm1 fun tm2 =>
  M.pure tm2
theorem pack_body_q4 : RegEq 72 39 pack_body_g pack_body_P4 pack_body_r4 := ⟨by kernel_rfl, fun _ _ _ _ _ _ _ _ _ => by kernel_rfl⟩
/-- pack.go:61 -/
noncomputable def pack_body_r5 (E : Env) (call round : CallT) (tm : T Value) : M (T Value) :=
  mv (T.get tm 9) fun v27 =>
  M.bind (M.on (some v27) fun a => M.on (some none) fun b => M.on (onO (some (.int .i64 16)) fun v => some (some v)) fun c => aSlice E 22 a b c) fun v28 =>
  M.bind (oS (some v28) fun a => kSlArr E 26 a) fun v29 =>
  M.bind (oS (some v29) fun a => kLoad E 26 a) fun v30 =>
  M.bind (kAlloc E 26) fun v11 =>
  setF 11 v11 tm fun tm1 =>
  M.bind (oS (some v11) fun a => oS (some v30) fun b => kStore E 26 a b) fun _ =>
  M.pure tm1
theorem pack_body_q5 : RegEq 72 39 pack_body_g pack_body_P5 pack_body_r5 := ⟨by kernel_rfl, fun _ _ _ _ _ _ _ _ _ => by kernel_rfl⟩
theorem pack_body_E6 : ∃ k, pack_body_P6 = .code .ret :: k := ⟨pack_body_P6.tail, by kernel_rfl⟩
/-- pack.go:62; the order is open -/
noncomputable def pack_body_d7 (E : Env) (call round : CallT) (tm : T Value) : M ((Rho × T Value) × List OpLog) :=
  M.bind (apartO (oS (T.get tm 11) fun a => kLoad E 26 a)) fun p0 =>
  M.bind (apartO (oS (T.get tm 9) fun a => M.pure a)) fun p1 =>
  M.bind (apartO (M.on (some p1.1) fun a => M.on (onO (some (.int .i64 16)) fun v => some (some v)) fun b => M.on (some none) fun c => aSlice E 22 a b c)) fun p2 =>
  M.bind (apartO (oS (T.get tm 9) fun a => M.pure a)) fun p3 =>
  M.bind (apartO (M.on (some p3.1) fun a => M.on (onO (some (.int .i64 16)) fun v => some (some v)) fun b => M.on (some none) fun c => aSlice E 22 a b c)) fun p4 =>
  M.bind (apartO (M.on (some (.func (.func 32) #[] #[])) fun f => M.on (seqO [(some p4.1)]) fun l => callV call round f l)) fun p5 =>
  M.bind (apartO (oS (T.get tm 11) fun a => kLoad E 26 a)) fun p6 =>
  M.bind (apartO (oS (some p5.1) fun a => oS (some p6.1) fun b => Cl.get (aBin E .eql 26 (.tmp 36) (.tmp 37)) a b)) fun p7 =>
  M.bind (apartO (oS (T.get tm 6) fun a => oS (some p0.1) fun b => kStore E 26 a b)) fun p8 =>
  M.bind (apartO (oS (some p2.1) fun a => M.pure a)) fun p9 =>
  setT 7 p9.1 tm fun tm1 =>
  M.pure (([p9.1, p7.1, p6.1, p5.1, p4.1, p3.1, p2.1, p1.1, p0.1], tm1), [p9.2, p8.2, p7.2, p6.2, p5.2, p4.2, p3.2, p2.2, p1.2, p0.2])
theorem pack_body_q7 : DrawEq 72 39 pack_body_g pack_body_P7 [0, 0, 2, 0, 8, 24, 0, 120, 57, 319, 1023] pack_body_d7 := ⟨by kernel_rfl, by kernel_rfl, fun _ _ _ _ _ _ _ _ _ => by kernel_rfl⟩
theorem pack_body_L7 (E : Env) (call round : CallT) (x31 x32 x33 x34 x35 x36 x37 x38 x7 : Value) (tm : T Value) (s : St) : opsIn call round (lastOps E pack_body_g 39 (hdC pack_body_P7)) [x7, x38, x37, x36, x35, x34, x33, x32, x31] tm s = (M.bind (oS (some x38) fun a => M.pure a) fun v8 => setT 8 v8 tm fun tm1 => M.pure tm1) s := by kernel_rfl
theorem pack_body_E8 : ∃ k, pack_body_P8 = .code .ret :: k := ⟨pack_body_P8.tail, by kernel_rfl⟩
-- points: 0:region>[1], 1:region>[2], 2:region>[3], 3:cond>[4, 5], 4:region>[6], 5:region>[7], 6:ret>, 7:region>[8], 8:ret>

/-! ### satchel/pack.Put -/
-- points: 0:region>[1], 1:region>[2], 2:cond>[3, 4], 3:region>[5], 4:region>[6], 5:ret>, 6:cond>[7, 8], 7:region>[5], 8:region>[9], 9:region>[10], 10:ret>

/-! ### satchel/pack.Get -/
noncomputable def pack_Get_g : Nat := globOf Try.f27
abbrev pack_Get_nt : Nat := 54
noncomputable def pack_Get_body : Code := Try.f27.body.getD .skip
theorem pack_Get_fn : envS.fn.get 27 = some Try.f27 := by kernel_rfl
theorem pack_Get_W {a0 a1 : Value} {n : Nat} {s : St} {Q : Value → St → Prop} (h : ∀ tm, T.get tm 0 = some a0 → T.get tm 1 = some a1 → W (runF envS n ⟨27, 54, pack_Get_g, tm, [.code pack_Get_body], .run, .normal, none⟩) (s.cxN cxN) fun p s1 => Q p.1 (s1.cxN s.cx)) : W (callW envS (runF envS n) 27 [a0, a1]) s Q :=
  W.call (by kernel_rfl) (by kernel_rfl) pack_Get_fn (by kernel_rfl) rfl rfl (by simp) (h _ (by kernel_rfl) (by kernel_rfl))
theorem pack_Get_res : Try.f27.results.toList = [.tmp 4, .tmp 5] := by kernel_rfl
noncomputable def pack_Get_P0 : List Item := skim 64 [.code pack_Get_body]
noncomputable def pack_Get_P1 : List Item := skim 64 pack_Get_P0.tail
theorem pack_Get_S0_1 : skim 64 pack_Get_P0.tail = pack_Get_P1 := by kernel_rfl
noncomputable def pack_Get_P2 : List Item := skim 64 pack_Get_P1.tail
theorem pack_Get_S1_2 : skim 64 pack_Get_P1.tail = pack_Get_P2 := by kernel_rfl
noncomputable def pack_Get_P3 : List Item := skim 64 pack_Get_P2.tail
theorem pack_Get_S2_3 : skim 64 pack_Get_P2.tail = pack_Get_P3 := by kernel_rfl
noncomputable def pack_Get_P4 : List Item := skim 64 (brT pack_Get_P3)
theorem pack_Get_S3_4 : skim 64 (brT pack_Get_P3) = pack_Get_P4 := by kernel_rfl
noncomputable def pack_Get_P5 : List Item := skim 64 (brF pack_Get_P3)
theorem pack_Get_S3_5 : skim 64 (brF pack_Get_P3) = pack_Get_P5 := by kernel_rfl
noncomputable def pack_Get_P6 : List Item := skim 64 pack_Get_P4.tail
theorem pack_Get_S4_6 : skim 64 pack_Get_P4.tail = pack_Get_P6 := by kernel_rfl
noncomputable def pack_Get_P7 : List Item := skim 64 pack_Get_P5.tail
theorem pack_Get_S5_7 : skim 64 pack_Get_P5.tail = pack_Get_P7 := by kernel_rfl
noncomputable def pack_Get_P8 : List Item := skim 64 pack_Get_P7.tail
theorem pack_Get_S7_8 : skim 64 pack_Get_P7.tail = pack_Get_P8 := by kernel_rfl
noncomputable def pack_Get_P9 : List Item := skim 64 (brT pack_Get_P8)
theorem pack_Get_S8_9 : skim 64 (brT pack_Get_P8) = pack_Get_P9 := by kernel_rfl
noncomputable def pack_Get_P10 : List Item := skim 64 (brF pack_Get_P8)
theorem pack_Get_S8_10 : skim 64 (brF pack_Get_P8) = pack_Get_P10 := by kernel_rfl
noncomputable def pack_Get_P11 : List Item := skim 64 pack_Get_P9.tail
theorem pack_Get_S9_11 : skim 64 pack_Get_P9.tail = pack_Get_P11 := by kernel_rfl
noncomputable def pack_Get_P12 : List Item := skim 64 pack_Get_P10.tail
theorem pack_Get_S10_12 : skim 64 pack_Get_P10.tail = pack_Get_P12 := by kernel_rfl
/-- pack.go:115 -/
noncomputable def pack_Get_r0 (E : Env) (call round : CallT) (tm : T Value) : M (T Value) :=
  M.bind (oS (T.get tm 1) fun a => kBox a) fun v3 =>
  setF 3 v3 tm fun tm1 =>
  mv (some (.slice none 0 0)) fun v4 =>
  setF 4 v4 tm1 fun tm2 =>
  mv (some (.int .i64 0)) fun v5 =>
  setF 5 v5 tm2 fun tm3 =>
  M.pure tm3
theorem pack_Get_q0 : RegEq 27 54 pack_Get_g pack_Get_P0 pack_Get_r0 := ⟨by kernel_rfl, fun _ _ _ _ _ _ _ _ _ => by kernel_rfl⟩
/-- pack.go:116 -/
noncomputable def pack_Get_r1 (E : Env) (call round : CallT) (tm : T Value) : M (T Value) :=
  mv (T.get tm 0) fun v12 =>
  M.bind (oS (T.get tm 3) fun a => kFld E 35 a 1) fun v13 =>
  M.bind (oS (some v13) fun a => kLoad E 3 a) fun v14 =>
  M.bind (M.on (some (.func (.func 71) #[] #[])) fun f => M.on (seqO [(some v12), (some v14)]) fun l => callV call round f l) fun v15 =>
  mv (some v15) fun v11 =>
  M.bind (oS (some v11) fun a => kExt 0 a) fun v16 =>
  M.bind (oS (some v11) fun a => kExt 1 a) fun v17 =>
  mv (some v16) fun v6 =>
  setF 6 v6 tm fun tm1 =>
  mv (some v17) fun v7 =>
  setF 7 v7 tm1 fun tm2 =>
  M.pure tm2
theorem pack_Get_q1 : RegEq 27 54 pack_Get_g pack_Get_P1 pack_Get_r1 := ⟨by kernel_rfl, fun _ _ _ _ _ _ _ _ _ => by kernel_rfl⟩
/-- pack.go:117; the order is open -/
noncomputable def pack_Get_d2 (E : Env) (call round : CallT) (tm : T Value) : M ((Rho × T Value) × List OpLog) :=
  M.bind (apartO (oS (T.get tm 7) fun a => M.pure a)) fun p0 =>
  M.bind (apartO (oS (some p0.1) fun a => kUn E.P .not a)) fun p1 =>
  M.bind (apartO (oS (some p1.1) fun a => M.pure a)) fun p2 =>
  M.bind (apartO (M.chk (isK p2.1) (M.if (isB p2.1 false) (oS (T.get tm 6) fun a => M.pure a) (M.pure undef)))) fun p3 =>
  M.bind (apartO (M.chk (isK p2.1) (M.if (isB p2.1 false) (oS (T.get tm 3) fun a => kFld E 35 a 2) (M.pure undef)))) fun p4 =>
  M.bind (apartO (M.chk (isK p2.1) (M.if (isB p2.1 false) (oS (some p4.1) fun a => kLoad E 3 a) (M.pure undef)))) fun p5 =>
  M.bind (apartO (M.chk (isK p2.1) (M.if (isB p2.1 false) (oS (some p3.1) fun a => oS (some p5.1) fun b => Cl.get (aBin E .neq 3 (.tmp 21) (.tmp 23)) a b) (M.pure undef)))) fun p6 =>
  M.bind (apartO (M.on (some p2.1) fun a => M.on (some (.bool true)) fun b => M.on (some p6.1) fun c => kPick a b c)) fun p7 =>
  M.bind (apartO (oS (some p7.1) fun a => M.pure a)) fun p8 =>
  M.bind (apartO (M.chk (isK p8.1) (M.if (isB p8.1 false) (oS (T.get tm 0) fun a => M.pure a) (M.pure undef)))) fun p9 =>
  M.bind (apartO (M.chk (isK p8.1) (M.if (isB p8.1 false) (oS (seqO [(some p9.1)]) fun l => aBuiltin E .len [22] l) (M.pure undef)))) fun p10 =>
  M.bind (apartO (M.chk (isK p8.1) (M.if (isB p8.1 false) (oS (T.get tm 3) fun a => kFld E 35 a 1) (M.pure undef)))) fun p11 =>
  M.bind (apartO (M.chk (isK p8.1) (M.if (isB p8.1 false) (oS (some p11.1) fun a => kLoad E 3 a) (M.pure undef)))) fun p12 =>
  M.bind (apartO (M.chk (isK p8.1) (M.if (isB p8.1 false) (oS (some p10.1) fun a => oS (some p12.1) fun b => Cl.get (aBin E .sub 3 (.tmp 28) (.tmp 30)) a b) (M.pure undef)))) fun p13 =>
  M.bind (apartO (M.chk (isK p8.1) (M.if (isB p8.1 false) (oS (T.get tm 6) fun a => M.pure a) (M.pure undef)))) fun p14 =>
  M.bind (apartO (M.chk (isK p8.1) (M.if (isB p8.1 false) (M.on (some (.func (.func 20) #[] #[])) fun f => M.on (seqO [(some p14.1)]) fun l => callV call round f l) (M.pure undef)))) fun p15 =>
  M.bind (apartO (M.chk (isK p8.1) (M.if (isB p8.1 false) (oS (some p13.1) fun a => oS (some p15.1) fun b => Cl.get (aBin E .lss 3 (.tmp 31) (.tmp 33)) a b) (M.pure undef)))) fun p16 =>
  M.pure (([p16.1, p15.1, p14.1, p13.1, p12.1, p11.1, p10.1, p9.1, p8.1, p7.1, p6.1, p5.1, p4.1, p3.1, p2.1, p1.1, p0.1], tm), [p16.2, p15.2, p14.2, p13.2, p12.2, p11.2, p10.2, p9.2, p8.2, p7.2, p6.2, p5.2, p4.2, p3.2, p2.2, p1.2, p0.2])
theorem pack_Get_q2 : DrawEq 27 54 pack_Get_g pack_Get_P2 [0, 1, 3, 7, 7, 23, 63, 127, 255, 511, 1023, 511, 2559, 8191, 511, 16895, 65535, 131071] pack_Get_d2 := ⟨by kernel_rfl, by kernel_rfl, fun _ _ _ _ _ _ _ _ _ => by kernel_rfl⟩
theorem pack_Get_L2 (E : Env) (call round : CallT) (x18 x19 x20 x21 x22 x23 x24 x25 x26 x27 x28 x29 x30 x31 x32 x33 x34 : Value) (tm : T Value) (s : St) : opsIn call round (lastOps E pack_Get_g 54 (hdC pack_Get_P2)) [x34, x33, x32, x31, x30, x29, x28, x27, x26, x25, x24, x23, x22, x21, x20, x19, x18] tm s = (M.bind (M.on (some x26) fun a => M.on (some (.bool true)) fun b => M.on (some x34) fun c => kPick a b c) fun v35 => setT 35 v35 tm fun tm1 => M.pure tm1) s := by kernel_rfl
theorem pack_Get_C3 : condX pack_Get_P3 = some 35 := by kernel_rfl
/-- pack.go:118 -/
noncomputable def pack_Get_r4 (E : Env) (call round : CallT) (tm : T Value) : M (T Value) :=
  mv (some (.slice none 0 0)) fun v4 =>
  setF 4 v4 tm fun tm1 =>
  mv (some (.int .i64 6)) fun v5 =>
  setF 5 v5 tm1 fun tm2 =>
  M.pure tm2
theorem pack_Get_q4 : RegEq 27 54 pack_Get_g pack_Get_P4 pack_Get_r4 := ⟨by kernel_rfl, fun _ _ _ _ _ _ _ _ _ => by kernel_rfl⟩
/-- pack.go:120 -/
noncomputable def pack_Get_r5 (E : Env) (call round : CallT) (tm : T Value) : M (T Value) :=
  mv (T.get tm 0) fun v37 =>
  M.bind (oS (T.get tm 3) fun a => kFld E 35 a 1) fun v38 =>
  M.bind (oS (some v38) fun a => kLoad E 3 a) fun v39 =>
  mv (T.get tm 6) fun v40 =>
  M.bind (M.on (some (.func (.func 72) #[] #[])) fun f => M.on (seqO [(some v37), (some v39), (some v40)]) fun l => callV call round f l) fun v41 =>
  mv (some v41) fun v36 =>
  M.bind (oS (some v36) fun a => kExt 0 a) fun v42 =>
  M.bind (oS (some v36) fun a => kExt 1 a) fun v43 =>
  M.bind (oS (some v36) fun a => kExt 2 a) fun v44 =>
  M.bind (kAlloc E 26) fun v8 =>
  setF 8 v8 tm fun tm1 =>
  M.bind (oS (some v8) fun a => oS (some v42) fun b => kStore E 26 a b) fun _ =>
  mv (some v43) fun v9 =>
  setF 9 v9 tm1 fun tm2 =>
  mv (some v44) fun v10 =>
  setF 10 v10 tm2 fun tm3 =>
  M.pure tm3
theorem pack_Get_q5 : RegEq 27 54 pack_Get_g pack_Get_P5 pack_Get_r5 := ⟨by kernel_rfl, fun _ _ _ _ _ _ _ _ _ => by kernel_rfl⟩
theorem pack_Get_E6 : ∃ k, pack_Get_P6 = .code .ret :: k := ⟨pack_Get_P6.tail, by kernel_rfl⟩
/-- pack.go:121 -/
noncomputable def pack_Get_r7 (E : Env) (call round : CallT) (tm : T Value) : M (T Value) :=
  mv (T.get tm 10) fun v45 =>
  M.bind (oS (some v45) fun a => kUn E.P .not a) fun v46 =>
  mv (some v46) fun v47 =>
  M.bind (M.chk (isK v47) (M.if (isB v47 false) (oS (T.get tm 8) fun a => kLoad E 26 a) (M.pure undef))) fun v48 =>
  M.bind (M.chk (isK v47) (M.if (isB v47 false) (oS (T.get tm 3) fun a => kFld E 35 a 0) (M.pure undef))) fun v49 =>
  M.bind (M.chk (isK v47) (M.if (isB v47 false) (oS (some v49) fun a => kLoad E 26 a) (M.pure undef))) fun v50 =>
  M.bind (M.chk (isK v47) (M.if (isB v47 false) (oS (some v48) fun a => oS (some v50) fun b => Cl.get (aBin E .neq 26 (.tmp 48) (.tmp 50)) a b) (M.pure undef))) fun v51 =>
  M.bind (M.on (some v47) fun a => M.on (some (.bool true)) fun b => M.on (some v51) fun c => kPick a b c) fun v52 =>
  setF 52 v52 tm fun tm1 =>
  M.pure tm1
theorem pack_Get_q7 : RegEq 27 54 pack_Get_g pack_Get_P7 pack_Get_r7 := ⟨by kernel_rfl, fun _ _ _ _ _ _ _ _ _ => by kernel_rfl⟩
theorem pack_Get_C8 : condX pack_Get_P8 = some 52 := by kernel_rfl
/-- pack.go:122 -/
noncomputable def pack_Get_r9 (E : Env) (call round : CallT) (tm : T Value) : M (T Value) :=
  mv (some (.slice none 0 0)) fun v4 =>
  setF 4 v4 tm fun tm1 =>
  mv (some (.int .i64 11)) fun v5 =>
  setF 5 v5 tm1 fun tm2 =>
  M.pure tm2
theorem pack_Get_q9 : RegEq 27 54 pack_Get_g pack_Get_P9 pack_Get_r9 := ⟨by kernel_rfl, fun _ _ _ _ _ _ _ _ _ => by kernel_rfl⟩
/-- pack.go:124 -/
noncomputable def pack_Get_r10 (E : Env) (call round : CallT) (tm : T Value) : M (T Value) :=
  mv (T.get tm 9) fun v53 =>
  mv (some v53) fun v4 =>
  setF 4 v4 tm fun tm1 =>
  mv (some (.int .i64 0)) fun v5 =>
  setF 5 v5 tm1 fun tm2 =>
  M.pure tm2
theorem pack_Get_q10 : RegEq 27 54 pack_Get_g pack_Get_P10 pack_Get_r10 := ⟨by kernel_rfl, fun _ _ _ _ _ _ _ _ _ => by kernel_rfl⟩
theorem pack_Get_E11 : ∃ k, pack_Get_P11 = .code .ret :: k := ⟨pack_Get_P11.tail, by kernel_rfl⟩
theorem pack_Get_E12 : ∃ k, pack_Get_P12 = .code .ret :: k := ⟨pack_Get_P12.tail, by kernel_rfl⟩
-- points: 0:region>[1], 1:region>[2], 2:region>[3], 3:cond>[4, 5], 4:region>[6], 5:region>[7], 6:ret>, 7:region>[8], 8:cond>[9, 10], 9:region>[11], 10:region>[12], 11:ret>, 12:ret>

/-! ### satchel/pack.records -/
noncomputable def pack_records_g : Nat := globOf Try.f68
noncomputable def pack_records_body : Code := Try.f68.body.getD .skip
theorem pack_records_fn : envS.fn.get 68 = some Try.f68 := by kernel_rfl
theorem pack_records_W {a0 : Value} {n : Nat} {s : St} {Q : Value → St → Prop} (h : ∀ tm, T.get tm 0 = some a0 → W (runF envS n ⟨68, 4, pack_records_g, tm, [.code pack_records_body], .run, .normal, none⟩) (s.cxN cxN) fun p s1 => Q p.1 (s1.cxN s.cx)) : W (callW envS (runF envS n) 68 [a0]) s Q :=
  W.call (by kernel_rfl) (by kernel_rfl) pack_records_fn (by kernel_rfl) rfl rfl (by simp) (h _ (by kernel_rfl))
theorem pack_records_res : Try.f68.results.toList = [.tmp 2] := by kernel_rfl
noncomputable def pack_records_P0 : List Item := skim 64 [.code pack_records_body]
noncomputable def pack_records_P1 : List Item := skim 64 pack_records_P0.tail
theorem pack_records_S0_1 : skim 64 pack_records_P0.tail = pack_records_P1 := by kernel_rfl
noncomputable def pack_records_P2 : List Item := skim 64 pack_records_P1.tail
theorem pack_records_S1_2 : skim 64 pack_records_P1.tail = pack_records_P2 := by kernel_rfl
/-- pack.go:73 -/
noncomputable def pack_records_r0 (E : Env) (call round : CallT) (tm : T Value) : M (T Value) :=
  M.bind (oS (T.get tm 0) fun a => kBox a) fun v1 =>
  setF 1 v1 tm fun tm1 =>
  mv (some .nilFunc) fun v2 =>
  setF 2 v2 tm1 fun tm2 =>
  M.pure tm2
theorem pack_records_q0 : RegEq 68 4 pack_records_g pack_records_P0 pack_records_r0 := ⟨by kernel_rfl, fun _ _ _ _ _ _ _ _ _ => by kernel_rfl⟩
/-- pack.go:74 -/
noncomputable def pack_records_r1 (E : Env) (call round : CallT) (tm : T Value) : M (T Value) :=
  M.bind (oS (seqO []) fun a => oS (seqO [(T.get tm 1)]) fun b => M.pure (.func (.func 109) a.toArray b.toArray)) fun v3 =>
  mv (some v3) fun v2 =>
  setF 2 v2 tm fun tm1 =>
  M.pure tm1
theorem pack_records_q1 : RegEq 68 4 pack_records_g pack_records_P1 pack_records_r1 := ⟨by kernel_rfl, fun _ _ _ _ _ _ _ _ _ => by kernel_rfl⟩
theorem pack_records_E2 : ∃ k, pack_records_P2 = .code .ret :: k := ⟨pack_records_P2.tail, by kernel_rfl⟩
-- points: 0:region>[1], 1:region>[2], 2:ret>

/-! ### satchel/pack.records$1 -/
noncomputable def pack_recs_g : Nat := globOf Try.f109
abbrev pack_recs_nt : Nat := 66
noncomputable def pack_recs_body : Code := Try.f109.body.getD .skip
theorem pack_recs_fn : envS.fn.get 109 = some Try.f109 := by kernel_rfl
theorem pack_recs_W {a0 a1 : Value} {n : Nat} {s : St} {Q : Value → St → Prop} (h : ∀ tm, T.get tm 0 = some a0 → T.get tm 1 = some a1 → W (runF envS n ⟨109, 66, pack_recs_g, tm, [.code pack_recs_body], .run, .normal, none⟩) (s.cxN cxN) fun p s1 => Q p.1 (s1.cxN s.cx)) : W (callW envS (runF envS n) 109 [a0, a1]) s Q :=
  W.call (by kernel_rfl) (by kernel_rfl) pack_recs_fn (by kernel_rfl) rfl rfl (by simp) (h _ (by kernel_rfl) (by kernel_rfl))
theorem pack_recs_res : Try.f109.results.toList = [] := by kernel_rfl
noncomputable def pack_recs_P0 : List Item := skim 64 [.code pack_recs_body]
noncomputable def pack_recs_P1 : List Item := skim 64 pack_recs_P0.tail
theorem pack_recs_S0_1 : skim 64 pack_recs_P0.tail = pack_recs_P1 := by kernel_rfl
noncomputable def pack_recs_P2 : List Item := skim 64 pack_recs_P1.tail
theorem pack_recs_S1_2 : skim 64 pack_recs_P1.tail = pack_recs_P2 := by kernel_rfl
noncomputable def pack_recs_P3 : List Item := skim 64 pack_recs_P2.tail
theorem pack_recs_S2_3 : skim 64 pack_recs_P2.tail = pack_recs_P3 := by kernel_rfl
noncomputable def pack_recs_P4 : List Item := skim 64 pack_recs_P3.tail
theorem pack_recs_S3_4 : skim 64 pack_recs_P3.tail = pack_recs_P4 := by kernel_rfl
noncomputable def pack_recs_P5 : List Item := skim 64 (brT pack_recs_P4)
theorem pack_recs_S4_5 : skim 64 (brT pack_recs_P4) = pack_recs_P5 := by kernel_rfl
noncomputable def pack_recs_P6 : List Item := skim 64 (brF pack_recs_P4)
theorem pack_recs_S4_6 : skim 64 (brF pack_recs_P4) = pack_recs_P6 := by kernel_rfl
noncomputable def pack_recs_P7 : List Item := skim 64 pack_recs_P5.tail
theorem pack_recs_S5_7 : skim 64 pack_recs_P5.tail = pack_recs_P7 := by kernel_rfl
noncomputable def pack_recs_P8 : List Item := skim 64 pack_recs_P6.tail
theorem pack_recs_S6_8 : skim 64 pack_recs_P6.tail = pack_recs_P8 := by kernel_rfl
noncomputable def pack_recs_P9 : List Item := skim 64 pack_recs_P7.tail
theorem pack_recs_S7_9 : skim 64 pack_recs_P7.tail = pack_recs_P9 := by kernel_rfl
noncomputable def pack_recs_P10 : List Item := skim 64 (brT pack_recs_P8)
theorem pack_recs_S8_10 : skim 64 (brT pack_recs_P8) = pack_recs_P10 := by kernel_rfl
noncomputable def pack_recs_P11 : List Item := skim 64 (brF pack_recs_P8)
theorem pack_recs_S8_11 : skim 64 (brF pack_recs_P8) = pack_recs_P11 := by kernel_rfl
noncomputable def pack_recs_P12 : List Item := skim 64 (brT pack_recs_P10)
theorem pack_recs_S10_12 : skim 64 (brT pack_recs_P10) = pack_recs_P12 := by kernel_rfl
noncomputable def pack_recs_P13 : List Item := skim 64 (brF pack_recs_P10)
theorem pack_recs_S10_13 : skim 64 (brF pack_recs_P10) = pack_recs_P13 := by kernel_rfl
theorem pack_recs_S11_10 : skim 64 pack_recs_P11.tail = pack_recs_P10 := by kernel_rfl
theorem pack_recs_S12_7 : skim 64 pack_recs_P12.tail = pack_recs_P7 := by kernel_rfl
noncomputable def pack_recs_P14 : List Item := skim 64 pack_recs_P13.tail
theorem pack_recs_S13_14 : skim 64 pack_recs_P13.tail = pack_recs_P14 := by kernel_rfl
noncomputable def pack_recs_P15 : List Item := skim 64 (brT pack_recs_P14)
theorem pack_recs_S14_15 : skim 64 (brT pack_recs_P14) = pack_recs_P15 := by kernel_rfl
theorem pack_recs_S14_7 : skim 64 (brF pack_recs_P14) = pack_recs_P7 := by kernel_rfl
noncomputable def pack_recs_P16 : List Item := skim 64 pack_recs_P15.tail
theorem pack_recs_S15_16 : skim 64 pack_recs_P15.tail = pack_recs_P16 := by kernel_rfl
noncomputable def pack_recs_P17 : List Item := skim 64 pack_recs_P16.tail
theorem pack_recs_S16_17 : skim 64 pack_recs_P16.tail = pack_recs_P17 := by kernel_rfl
noncomputable def pack_recs_P19 : List Item := skim 64 (brF pack_recs_P17)
theorem pack_recs_S17_19 : skim 64 (brF pack_recs_P17) = pack_recs_P19 := by kernel_rfl
theorem pack_recs_S19_1 : skim 64 pack_recs_P19.tail = pack_recs_P1 := by kernel_rfl
/-- pack.go:75 -/
noncomputable def pack_recs_r0 (E : Env) (call round : CallT) (tm : T Value) : M (T Value) :=
  mv (some (.int .i64 0)) fun v3 =>
  setF 3 v3 tm fun tm1 =>
  M.pure tm1
theorem pack_recs_q0 : RegEq 109 66 pack_recs_g pack_recs_P0 pack_recs_r0 := ⟨by kernel_rfl, fun _ _ _ _ _ _ _ _ _ => by kernel_rfl⟩
/-- pack.go:78 -/
noncomputable def pack_recs_r1 (E : Env) (call round : CallT) (tm : T Value) : M (T Value) :=
  M.bind (oS (T.get tm 1) fun a => kLoad E 22 a) fun v11 =>
  mv (T.get tm 3) fun v12 =>
  M.bind (M.on (some (.func (.func 71) #[] #[])) fun f => M.on (seqO [(some v11), (some v12)]) fun l => callV call round f l) fun v13 =>
  mv (some v13) fun v10 =>
  M.bind (oS (some v10) fun a => kExt 0 a) fun v14 =>
  M.bind (oS (some v10) fun a => kExt 1 a) fun v15 =>
  mv (some v14) fun v4 =>
  setF 4 v4 tm fun tm1 =>
  mv (some v15) fun v5 =>
  setF 5 v5 tm1 fun tm2 =>
  M.pure tm2
theorem pack_recs_q1 : RegEq 109 66 pack_recs_g pack_recs_P1 pack_recs_r1 := ⟨by kernel_rfl, fun _ _ _ _ _ _ _ _ _ => by kernel_rfl⟩
/-- pack.go:79 -/
noncomputable def pack_recs_r2 (E : Env) (call round : CallT) (tm : T Value) : M (T Value) :=
  mv (some (.int .i64 2)) fun v6 =>
  setF 6 v6 tm fun tm1 =>
  M.pure tm1
theorem pack_recs_q2 : RegEq 109 66 pack_recs_g pack_recs_P2 pack_recs_r2 := ⟨by kernel_rfl, fun _ _ _ _ _ _ _ _ _ => by kernel_rfl⟩
/-- pack.go:81 -/
noncomputable def pack_recs_r3 (E : Env) (call round : CallT) (tm : T Value) : M (T Value) :=
  mv (T.get tm 3) fun v17 =>
  M.bind (oS (T.get tm 1) fun a => kLoad E 22 a) fun v18 =>
  M.bind (oS (seqO [(some v18)]) fun l => aBuiltin E .len [22] l) fun v19 =>
  M.bind (oS (some v17) fun a => oS (some v19) fun b => Cl.get (aBin E .eql 3 (.tmp 17) (.tmp 19)) a b) fun v20 =>
  mv (some v20) fun v16 =>
  setF 16 v16 tm fun tm1 =>
  M.pure tm1
theorem pack_recs_q3 : RegEq 109 66 pack_recs_g pack_recs_P3 pack_recs_r3 := ⟨by kernel_rfl, fun _ _ _ _ _ _ _ _ _ => by kernel_rfl⟩
theorem pack_recs_C4 : condX pack_recs_P4 = some 16 := by kernel_rfl
/-- pack.go:82 -/
noncomputable def pack_recs_r5 (E : Env) (call round : CallT) (tm : T Value) : M (T Value) :=
  mv (some (.int .i64 0)) fun v6 =>
  setF 6 v6 tm fun tm1 =>
  M.pure tm1
theorem pack_recs_q5 : RegEq 109 66 pack_recs_g pack_recs_P5 pack_recs_r5 := ⟨by kernel_rfl, fun _ _ _ _ _ _ _ _ _ => by kernel_rfl⟩
/-- pack.go:83 -/
noncomputable def pack_recs_r6 (E : Env) (call round : CallT) (tm : T Value) : M (T Value) :=
  M.bind (oS (T.get tm 1) fun a => kLoad E 22 a) fun v22 =>
  M.bind (oS (seqO [(some v22)]) fun l => aBuiltin E .len [22] l) fun v23 =>
  mv (T.get tm 3) fun v24 =>
  M.bind (oS (some v23) fun a => oS (some v24) fun b => Cl.get (aBin E .sub 3 (.tmp 23) (.tmp 24)) a b) fun v25 =>
  M.bind (oS (some v25) fun a => oS (some (.int .i64 6)) fun b => Cl.get (aBin E .lss 3 (.tmp 25) (.const (.int .i64 6))) a b) fun v26 =>
  mv (some v26) fun v21 =>
  setF 21 v21 tm fun tm1 =>
  M.pure tm1
theorem pack_recs_q6 : RegEq 109 66 pack_recs_g pack_recs_P6 pack_recs_r6 := ⟨by kernel_rfl, fun _ _ _ _ _ _ _ _ _ => by kernel_rfl⟩
/-- pack.go:93 -/
noncomputable def pack_recs_r7 (E : Env) (call round : CallT) (tm : T Value) : M (T Value) :=
  mv (T.get tm 0) fun v61 =>
  mv (T.get tm 3) fun v62 =>
  mv (T.get tm 6) fun v63 =>
  M.bind (oS (seqP [(2, (some v63))]) fun ps => aBuild E 97 ps) fun v64 =>
  M.bind (M.on (some v61) fun f => M.on (seqO [(some v62), (some v64)]) fun l => callV call round f l) fun v65 =>
  M.pure tm
theorem pack_recs_q7 : RegEq 109 66 pack_recs_g pack_recs_P7 pack_recs_r7 := ⟨by kernel_rfl, fun _ _ _ _ _ _ _ _ _ => by kernel_rfl⟩
theorem pack_recs_C8 : condX pack_recs_P8 = some 21 := by kernel_rfl
-- P9: the end
theorem pack_recs_C10 : condX pack_recs_P10 = some 21 := by kernel_rfl
/-- pack.go:83; the order is open -/
noncomputable def pack_recs_d11 (E : Env) (call round : CallT) (tm : T Value) : M ((Rho × T Value) × List OpLog) :=
  M.bind (apartO (oS (T.get tm 5) fun a => M.pure a)) fun p0 =>
  M.bind (apartO (oS (some p0.1) fun a => M.pure a)) fun p1 =>
  M.bind (apartO (M.chk (isK p1.1) (M.if (isB p1.1 true) (oS (T.get tm 1) fun a => kLoad E 22 a) (M.pure undef)))) fun p2 =>
  M.bind (apartO (M.chk (isK p1.1) (M.if (isB p1.1 true) (oS (seqO [(some p2.1)]) fun l => aBuiltin E .len [22] l) (M.pure undef)))) fun p3 =>
  M.bind (apartO (M.chk (isK p1.1) (M.if (isB p1.1 true) (oS (T.get tm 3) fun a => M.pure a) (M.pure undef)))) fun p4 =>
  M.bind (apartO (M.chk (isK p1.1) (M.if (isB p1.1 true) (oS (some p3.1) fun a => oS (some p4.1) fun b => Cl.get (aBin E .sub 3 (.tmp 30) (.tmp 31)) a b) (M.pure undef)))) fun p5 =>
  M.bind (apartO (M.chk (isK p1.1) (M.if (isB p1.1 true) (oS (T.get tm 4) fun a => M.pure a) (M.pure undef)))) fun p6 =>
  M.bind (apartO (M.chk (isK p1.1) (M.if (isB p1.1 true) (M.on (some (.func (.func 20) #[] #[])) fun f => M.on (seqO [(some p6.1)]) fun l => callV call round f l) (M.pure undef)))) fun p7 =>
  M.bind (apartO (M.chk (isK p1.1) (M.if (isB p1.1 true) (oS (some p5.1) fun a => oS (some p7.1) fun b => Cl.get (aBin E .lss 3 (.tmp 32) (.tmp 34)) a b) (M.pure undef)))) fun p8 =>
  M.bind (apartO (M.on (some p1.1) fun a => M.on (some p8.1) fun b => M.on (some (.bool false)) fun c => kPick a b c)) fun p9 =>
  M.pure (([p9.1, p8.1, p7.1, p6.1, p5.1, p4.1, p3.1, p2.1, p1.1, p0.1], tm), [p9.2, p8.2, p7.2, p6.2, p5.2, p4.2, p3.2, p2.2, p1.2, p0.2])
theorem pack_recs_q11 : DrawEq 109 66 pack_recs_g pack_recs_P11 [0, 1, 3, 7, 3, 31, 3, 67, 255, 511, 1023] pack_recs_d11 := ⟨by kernel_rfl, by kernel_rfl, fun _ _ _ _ _ _ _ _ _ => by kernel_rfl⟩
theorem pack_recs_L11 (E : Env) (call round : CallT) (x27 x28 x29 x30 x31 x32 x33 x34 x35 x36 : Value) (tm : T Value) (s : St) : opsIn call round (lastOps E pack_recs_g 66 (hdC pack_recs_P11)) [x36, x35, x34, x33, x32, x31, x30, x29, x28, x27] tm s = (M.bind (oS (some x36) fun a => M.pure a) fun v21 => setT 21 v21 tm fun tm1 => M.pure tm1) s := by kernel_rfl
/-- pack.go:84 -/
noncomputable def pack_recs_r12 (E : Env) (call round : CallT) (tm : T Value) : M (T Value) :=
  mv (some (.int .i64 1)) fun v6 =>
  setF 6 v6 tm fun tm1 =>
  M.pure tm1
theorem pack_recs_q12 : RegEq 109 66 pack_recs_g pack_recs_P12 pack_recs_r12 := ⟨by kernel_rfl, fun _ _ _ _ _ _ _ _ _ => by kernel_rfl⟩
/-- pack.go:85 -/
noncomputable def pack_recs_r13 (E : Env) (call round : CallT) (tm : T Value) : M (T Value) :=
  mv (T.get tm 5) fun v38 =>
  mv (some v38) fun v37 =>
  setF 37 v37 tm fun tm1 =>
  M.pure tm1
theorem pack_recs_q13 : RegEq 109 66 pack_recs_g pack_recs_P13 pack_recs_r13 := ⟨by kernel_rfl, fun _ _ _ _ _ _ _ _ _ => by kernel_rfl⟩
theorem pack_recs_C14 : condX pack_recs_P14 = some 37 := by kernel_rfl
/-- pack.go:86 -/
noncomputable def pack_recs_r15 (E : Env) (call round : CallT) (tm : T Value) : M (T Value) :=
  M.bind (oS (T.get tm 1) fun a => kLoad E 22 a) fun v40 =>
  mv (T.get tm 3) fun v41 =>
  mv (T.get tm 4) fun v42 =>
  M.bind (M.on (some (.func (.func 72) #[] #[])) fun f => M.on (seqO [(some v40), (some v41), (some v42)]) fun l => callV call round f l) fun v43 =>
  mv (some v43) fun v39 =>
  M.bind (oS (some v39) fun a => kExt 0 a) fun v44 =>
  M.bind (oS (some v39) fun a => kExt 1 a) fun v45 =>
  M.bind (oS (some v39) fun a => kExt 2 a) fun v46 =>
  M.bind (kAlloc E 26) fun v7 =>
  setF 7 v7 tm fun tm1 =>
  M.bind (oS (some v7) fun a => oS (some v44) fun b => kStore E 26 a b) fun _ =>
  mv (some v45) fun v8 =>
  mv (some v46) fun v9 =>
  setF 9 v9 tm1 fun tm2 =>
  M.pure tm2
theorem pack_recs_q15 : RegEq 109 66 pack_recs_g pack_recs_P15 pack_recs_r15 := ⟨by kernel_rfl, fun _ _ _ _ _ _ _ _ _ => by kernel_rfl⟩
/-- pack.go:87 -/
noncomputable def pack_recs_r16 (E : Env) (call round : CallT) (tm : T Value) : M (T Value) :=
  mv (T.get tm 0) fun v47 =>
  mv (T.get tm 3) fun v48 =>
  M.bind (oS (T.get tm 7) fun a => kLoad E 26 a) fun v49 =>
  mv (T.get tm 3) fun v50 =>
  mv (T.get tm 4) fun v51 =>
  M.bind (oS (seqP [(0, (some v49)), (1, (some v50)), (2, (some v51))]) fun ps => aBuild E 35 ps) fun v52 =>
  mv (T.get tm 9) fun v53 =>
  M.bind (oS (seqP [(0, (some v52)), (1, (some v53)), (2, (some (.int .i64 (-1))))]) fun ps => aBuild E 97 ps) fun v54 =>
  M.bind (M.on (some v47) fun f => M.on (seqO [(some v48), (some v54)]) fun l => callV call round f l) fun v55 =>
  M.bind (oS (some v55) fun a => kUn E.P .not a) fun v56 =>
  setF 56 v56 tm fun tm1 =>
  M.pure tm1
theorem pack_recs_q16 : RegEq 109 66 pack_recs_g pack_recs_P16 pack_recs_r16 := ⟨by kernel_rfl, fun _ _ _ _ _ _ _ _ _ => by kernel_rfl⟩
theorem pack_recs_C17 : condX pack_recs_P17 = some 56 := by kernel_rfl
/-- pack.go:90 -/
noncomputable def pack_recs_r19 (E : Env) (call round : CallT) (tm : T Value) : M (T Value) :=
  mv (T.get tm 3) fun v57 =>
  mv (T.get tm 4) fun v58 =>
  M.bind (M.on (some (.func (.func 20) #[] #[])) fun f => M.on (seqO [(some v58)]) fun l => callV call round f l) fun v59 =>
  M.bind (oS (some v57) fun a => oS (some v59) fun b => Cl.get (aBin E .add 3 (.tmp 57) (.tmp 59)) a b) fun v60 =>
  mv (some v60) fun v3 =>
  setF 3 v3 tm fun tm1 =>
  M.pure tm1
theorem pack_recs_q19 : RegEq 109 66 pack_recs_g pack_recs_P19 pack_recs_r19 := ⟨by kernel_rfl, fun _ _ _ _ _ _ _ _ _ => by kernel_rfl⟩
-- points: 0:region>[1], 1:region>[2], 2:region>[3], 3:region>[4], 4:cond>[5, 6], 5:region>[7], 6:region>[8], 7:region>[9], 8:cond>[10, 11], 9:end>, 10:cond>[12, 13], 11:region>[10], 12:region>[7], 13:region>[14], 14:cond>[15, 7], 15:region>[16], 16:region>[17], 17:cond>[18, 19], 18:ret>, 19:region>[1]

/-! ### satchel/pack.Scan -/
noncomputable def pack_Scan_g : Nat := globOf Try.f24
abbrev pack_Scan_nt : Nat := 33
noncomputable def pack_Scan_body : Code := Try.f24.body.getD .skip
theorem pack_Scan_fn : envS.fn.get 24 = some Try.f24 := by kernel_rfl
theorem pack_Scan_W {a0 : Value} {n : Nat} {s : St} {Q : Value → St → Prop} (h : ∀ tm, T.get tm 0 = some a0 → W (runF envS n ⟨24, 33, pack_Scan_g, tm, [.code pack_Scan_body], .run, .normal, none⟩) (s.cxN cxN) fun p s1 => Q p.1 (s1.cxN s.cx)) : W (callW envS (runF envS n) 24 [a0]) s Q :=
  W.call (by kernel_rfl) (by kernel_rfl) pack_Scan_fn (by kernel_rfl) rfl rfl (by simp) (h _ (by kernel_rfl))
theorem pack_Scan_res : Try.f24.results.toList = [.cell 2 36, .cell 3 3, .cell 4 3, .cell 5 3] := by kernel_rfl
noncomputable def pack_Scan_P0 : List Item := skim 64 [.code pack_Scan_body]
noncomputable def pack_Scan_P1 : List Item := skim 64 pack_Scan_P0.tail
theorem pack_Scan_S0_1 : skim 64 pack_Scan_P0.tail = pack_Scan_P1 := by kernel_rfl
noncomputable def pack_Scan_P2 : List Item := skim 64 pack_Scan_P1.tail
theorem pack_Scan_S1_2 : skim 64 pack_Scan_P1.tail = pack_Scan_P2 := by kernel_rfl
noncomputable def pack_Scan_as2 : Code := asC pack_Scan_P2
noncomputable def pack_Scan_bd2 : Code := bdC pack_Scan_P2
theorem pack_Scan_F2 : rfP pack_Scan_P2 = some (9, [10, 11], pack_Scan_as2, pack_Scan_bd2) := by kernel_rfl
theorem pack_Scan_G2 : roundI pack_Scan_P2 = [.code pack_Scan_as2, .beginRound, .code pack_Scan_bd2] := by kernel_rfl
noncomputable def pack_Scan_P3 : List Item := skim 64 pack_Scan_P2.tail
theorem pack_Scan_S2_3 : skim 64 pack_Scan_P2.tail = pack_Scan_P3 := by kernel_rfl
noncomputable def pack_Scan_P4 : List Item := skim 64 (roundI pack_Scan_P2)
theorem pack_Scan_S2_4 : skim 64 (roundI pack_Scan_P2) = pack_Scan_P4 := by kernel_rfl
noncomputable def pack_Scan_P5 : List Item := skim 64 pack_Scan_P3.tail
theorem pack_Scan_S3_5 : skim 64 pack_Scan_P3.tail = pack_Scan_P5 := by kernel_rfl
noncomputable def pack_Scan_P6 : List Item := skim 64 pack_Scan_P4.tail
theorem pack_Scan_S4_6 : skim 64 pack_Scan_P4.tail = pack_Scan_P6 := by kernel_rfl
noncomputable def pack_Scan_P7 : List Item := skim 64 pack_Scan_P6.tail
theorem pack_Scan_S6_7 : skim 64 pack_Scan_P6.tail = pack_Scan_P7 := by kernel_rfl
noncomputable def pack_Scan_P8 : List Item := skim 64 pack_Scan_P7.tail
theorem pack_Scan_S7_8 : skim 64 pack_Scan_P7.tail = pack_Scan_P8 := by kernel_rfl
noncomputable def pack_Scan_P9 : List Item := skim 64 pack_Scan_P8.tail
theorem pack_Scan_S8_9 : skim 64 pack_Scan_P8.tail = pack_Scan_P9 := by kernel_rfl
noncomputable def pack_Scan_P10 : List Item := skim 64 (brT pack_Scan_P9)
theorem pack_Scan_S9_10 : skim 64 (brT pack_Scan_P9) = pack_Scan_P10 := by kernel_rfl
noncomputable def pack_Scan_P11 : List Item := skim 64 (brF pack_Scan_P9)
theorem pack_Scan_S9_11 : skim 64 (brF pack_Scan_P9) = pack_Scan_P11 := by kernel_rfl
noncomputable def pack_Scan_P12 : List Item := skim 64 pack_Scan_P10.tail
theorem pack_Scan_S10_12 : skim 64 pack_Scan_P10.tail = pack_Scan_P12 := by kernel_rfl
noncomputable def pack_Scan_P13 : List Item := skim 64 pack_Scan_P11.tail
theorem pack_Scan_S11_13 : skim 64 pack_Scan_P11.tail = pack_Scan_P13 := by kernel_rfl
noncomputable def pack_Scan_P14 : List Item := skim 64 (brT pack_Scan_P13)
theorem pack_Scan_S13_14 : skim 64 (brT pack_Scan_P13) = pack_Scan_P14 := by kernel_rfl
noncomputable def pack_Scan_P15 : List Item := skim 64 (brF pack_Scan_P13)
theorem pack_Scan_S13_15 : skim 64 (brF pack_Scan_P13) = pack_Scan_P15 := by kernel_rfl
theorem pack_Scan_S14_12 : skim 64 pack_Scan_P14.tail = pack_Scan_P12 := by kernel_rfl
theorem pack_Scan_S15_12 : skim 64 pack_Scan_P15.tail = pack_Scan_P12 := by kernel_rfl
/-- pack.go:100 -/
noncomputable def pack_Scan_r0 (E : Env) (call round : CallT) (tm : T Value) : M (T Value) :=
  M.bind (kAlloc E 36) fun v2 =>
  setF 2 v2 tm fun tm1 =>
  M.bind (kAlloc E 3) fun v3 =>
  setF 3 v3 tm1 fun tm2 =>
  M.bind (kAlloc E 3) fun v4 =>
  setF 4 v4 tm2 fun tm3 =>
  M.bind (kAlloc E 3) fun v5 =>
  setF 5 v5 tm3 fun tm4 =>
  M.pure tm4
theorem pack_Scan_q0 : RegEq 24 33 pack_Scan_g pack_Scan_P0 pack_Scan_r0 := ⟨by kernel_rfl, fun _ _ _ _ _ _ _ _ _ => by kernel_rfl⟩
/-- pack.go:101 -/
noncomputable def pack_Scan_r1 (E : Env) (call round : CallT) (tm : T Value) : M (T Value) :=
  mv (T.get tm 0) fun v8 =>
  M.bind (M.on (some (.func (.func 68) #[] #[])) fun f => M.on (seqO [(some v8)]) fun l => callV call round f l) fun v9 =>
  setF 9 v9 tm fun tm1 =>
  M.pure tm1
theorem pack_Scan_q1 : RegEq 24 33 pack_Scan_g pack_Scan_P1 pack_Scan_r1 := ⟨by kernel_rfl, fun _ _ _ _ _ _ _ _ _ => by kernel_rfl⟩
/-- pack.go:111; the order is open -/
noncomputable def pack_Scan_d3 (E : Env) (call round : CallT) (tm : T Value) : M ((Rho × T Value) × List OpLog) :=
  M.bind (apartO (oS (T.get tm 2) fun a => kLoad E 36 a)) fun p0 =>
  M.bind (apartO (oS (T.get tm 3) fun a => kLoad E 3 a)) fun p1 =>
  M.bind (apartO (oS (T.get tm 4) fun a => kLoad E 3 a)) fun p2 =>
  M.bind (apartO (oS (T.get tm 5) fun a => kLoad E 3 a)) fun p3 =>
  M.bind (apartO (oS (T.get tm 2) fun a => oS (some p0.1) fun b => kStore E 36 a b)) fun p4 =>
  M.bind (apartO (oS (T.get tm 3) fun a => oS (some p1.1) fun b => kStore E 3 a b)) fun p5 =>
  M.bind (apartO (oS (T.get tm 4) fun a => oS (some p2.1) fun b => kStore E 3 a b)) fun p6 =>
  M.pure (([p3.1, p2.1, p1.1, p0.1], tm), [p6.2, p5.2, p4.2, p3.2, p2.2, p1.2, p0.2])
theorem pack_Scan_q3 : DrawEq 24 33 pack_Scan_g pack_Scan_P3 [0, 0, 0, 0, 1, 19, 55, 127] pack_Scan_d3 := ⟨by kernel_rfl, by kernel_rfl, fun _ _ _ _ _ _ _ _ _ => by kernel_rfl⟩
theorem pack_Scan_L3 (E : Env) (call round : CallT) (x29 x30 x31 x32 : Value) (tm : T Value) (s : St) : opsIn call round (lastOps E pack_Scan_g 33 (hdC pack_Scan_P3)) [x32, x31, x30, x29] tm s = (M.bind (oS (T.get tm 5) fun a => oS (some x32) fun b => kStore E 3 a b) fun _ => M.pure tm) s := by kernel_rfl
/-- pack.go:101 -/
noncomputable def pack_Scan_r4 (E : Env) (call round : CallT) (tm : T Value) : M (T Value) :=
  mv (T.get tm 10) fun v6 =>
  setF 6 v6 tm fun tm1 =>
  M.pure tm1
theorem pack_Scan_q4 : RegEq 24 33 pack_Scan_g pack_Scan_P4 pack_Scan_r4 := ⟨by kernel_rfl, fun _ _ _ _ _ _ _ _ _ => by kernel_rfl⟩
theorem pack_Scan_E5 : ∃ k, pack_Scan_P5 = .code .ret :: k := ⟨pack_Scan_P5.tail, by kernel_rfl⟩
/-- pack.go:101 -/
noncomputable def pack_Scan_r6 (E : Env) (call round : CallT) (tm : T Value) : M (T Value) :=
  M.bind (kAlloc E 97) fun v7 =>
  setF 7 v7 tm fun tm1 =>
  M.bind (oS (some v7) fun a => oS (T.get tm1 11) fun b => kStore E 97 a b) fun _ =>
  M.pure tm1
theorem pack_Scan_q6 : RegEq 24 33 pack_Scan_g pack_Scan_P6 pack_Scan_r6 := ⟨by kernel_rfl, fun _ _ _ _ _ _ _ _ _ => by kernel_rfl⟩
theorem pack_Scan_B7 : pack_Scan_P7 = .beginRound :: pack_Scan_P7.tail := by kernel_rfl
/-- pack.go:103 -/
noncomputable def pack_Scan_r8 (E : Env) (call round : CallT) (tm : T Value) : M (T Value) :=
  M.bind (oS (T.get tm 7) fun a => kFld E 97 a 2) fun v15 =>
  M.bind (oS (some v15) fun a => kLoad E 3 a) fun v16 =>
  M.bind (oS (some v16) fun a => oS (some (.int .i64 0)) fun b => Cl.get (aBin E .geq 3 (.tmp 16) (.const (.int .i64 0))) a b) fun v17 =>
  mv (some v17) fun v14 =>
  setF 14 v14 tm fun tm1 =>
  M.pure tm1
theorem pack_Scan_q8 : RegEq 24 33 pack_Scan_g pack_Scan_P8 pack_Scan_r8 := ⟨by kernel_rfl, fun _ _ _ _ _ _ _ _ _ => by kernel_rfl⟩
theorem pack_Scan_C9 : condX pack_Scan_P9 = some 14 := by kernel_rfl
/-- pack.go:104; the order is open -/
noncomputable def pack_Scan_d10 (E : Env) (call round : CallT) (tm : T Value) : M ((Rho × T Value) × List OpLog) :=
  M.bind (apartO (oS (T.get tm 6) fun a => M.pure a)) fun p0 =>
  M.bind (apartO (oS (T.get tm 7) fun a => kFld E 97 a 2)) fun p1 =>
  M.bind (apartO (oS (some p1.1) fun a => kLoad E 3 a)) fun p2 =>
  M.bind (apartO (oS (T.get tm 3) fun a => oS (some p0.1) fun b => kStore E 3 a b)) fun p3 =>
  M.pure (([p2.1, p1.1, p0.1], tm), [p3.2, p2.2, p1.2, p0.2])
theorem pack_Scan_q10 : DrawEq 24 33 pack_Scan_g pack_Scan_P10 [0, 0, 2, 1, 15] pack_Scan_d10 := ⟨by kernel_rfl, by kernel_rfl, fun _ _ _ _ _ _ _ _ _ => by kernel_rfl⟩
theorem pack_Scan_L10 (E : Env) (call round : CallT) (x18 x19 x20 : Value) (tm : T Value) (s : St) : opsIn call round (lastOps E pack_Scan_g 33 (hdC pack_Scan_P10)) [x20, x19, x18] tm s = (M.bind (oS (T.get tm 5) fun a => oS (some x20) fun b => kStore E 3 a b) fun _ => M.pure tm) s := by kernel_rfl
/-- pack.go:105 -/
noncomputable def pack_Scan_r11 (E : Env) (call round : CallT) (tm : T Value) : M (T Value) :=
  M.bind (oS (T.get tm 7) fun a => kFld E 97 a 1) fun v22 =>
  M.bind (oS (some v22) fun a => kLoad E 4 a) fun v23 =>
  mv (some v23) fun v21 =>
  setF 21 v21 tm fun tm1 =>
  M.pure tm1
theorem pack_Scan_q11 : RegEq 24 33 pack_Scan_g pack_Scan_P11 pack_Scan_r11 := ⟨by kernel_rfl, fun _ _ _ _ _ _ _ _ _ => by kernel_rfl⟩
-- P12: the end
theorem pack_Scan_C13 : condX pack_Scan_P13 = some 21 := by kernel_rfl
/-- pack.go:106 -/
noncomputable def pack_Scan_r14 (E : Env) (call round : CallT) (tm : T Value) : M (T Value) :=
  M.bind (oS (T.get tm 2) fun a => kLoad E 36 a) fun v24 =>
  M.bind (oS (T.get tm 7) fun a => kFld E 97 a 0) fun v25 =>
  M.bind (oS (some v25) fun a => kLoad E 35 a) fun v26 =>
  M.bind (oS (seqP [(0, (some v26))]) fun ps => aBuildS E 36 1 ps) fun v27 =>
  M.bind (oS (seqO [(some v24), (some v27)]) fun l => aBuiltin E .append [36, 36] l) fun v28 =>
  M.bind (oS (T.get tm 2) fun a => oS (some v28) fun b => kStore E 36 a b) fun _ =>
  M.pure tm
theorem pack_Scan_q14 : RegEq 24 33 pack_Scan_g pack_Scan_P14 pack_Scan_r14 := ⟨by kernel_rfl, fun _ _ _ _ _ _ _ _ _ => by kernel_rfl⟩
/-- pack.go:108 -/
noncomputable def pack_Scan_r15 (E : Env) (call round : CallT) (tm : T Value) : M (T Value) :=
  M.bind (oS (T.get tm 4) fun a => kLoad E 3 a) fun v12 =>
  M.bind (oS (some v12) fun a => oS (some (.int .i64 1)) fun b => Cl.get (aBin E .add 3 (.tmp 12) (.const (.int .i64 1))) a b) fun v13 =>
  M.bind (oS (T.get tm 4) fun a => oS (some v13) fun b => kStore E 3 a b) fun _ =>
  M.pure tm
theorem pack_Scan_q15 : RegEq 24 33 pack_Scan_g pack_Scan_P15 pack_Scan_r15 := ⟨by kernel_rfl, fun _ _ _ _ _ _ _ _ _ => by kernel_rfl⟩
-- points: 0:region>[1], 1:region>[2], 2:rangeFunc>[3, 4], 3:region>[5], 4:region>[6], 5:ret>, 6:region>[7], 7:beginRound>[8], 8:region>[9], 9:cond>[10, 11], 10:region>[12], 11:region>[13], 12:end>, 13:cond>[14, 15], 14:region>[12], 15:region>[12]
end Go.Proofs.Ytofanlcjeohcjaa.Am
