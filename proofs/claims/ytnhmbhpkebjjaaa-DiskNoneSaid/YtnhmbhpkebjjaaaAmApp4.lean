/- The evaluator's append against the model's own: grown rows. -/
import Derived.Test.YtnhmbhpkebjjaaaAmApp3
namespace Go.Proofs.Ytnhmbhpkebjjaaa.Am
open Go.RowKit

section
variable {E : Env} {w0 w : World} {r : Inj} {t : Nat}
theorem enc {q need : Nat} (h : need < capU) : (capU * q + need) / capU = q ∧ (capU * q + need) % capU = need := by
  have hp := capU_pos
  constructor
  · rw [Nat.mul_add_div hp, Nat.div_eq_of_lt h]; rfl
  · rw [Nat.mul_add_mod, Nat.mod_eq_of_lt h]
theorem enc2 {m sz : Nat} (h : sz < 1024) : (m * 1024 + sz) / 1024 = m ∧ (m * 1024 + sz) % 1024 = sz := by omega
theorem finCap {r' : Inj} {b bb o m need size x cap' : Nat} (h1 : r'.blk b = some (bb, o)) (h2 : r'.ext m = some ⟨x, bb, o + need * size, size⟩) (hs0 : 0 < size) (hs1 : size < 1024) (hn : need < capU) (hc : cap' = need + x) :
    VR r' (.slice (some ⟨b, 0, none⟩) need (capU * (m * 1024 + size) + need)) (.slice (some ⟨bb, o, none⟩) need cap') := by
  obtain ⟨e1, e2⟩ := enc (q := m * 1024 + size) hn
  obtain ⟨e3, e4⟩ := enc2 (m := m) hs1
  have := VR.sl (r := r') (b := b) (o := 0) (b' := bb) (d := o) (l := need) (c := capU * (m * 1024 + size) + need) (c' := cap') h1 (.inr ⟨by rw [e1]; omega, _, by rw [e1, e3]; exact h2, by rw [e1, e4], by rw [e2]; exact hc, rfl, by rw [e2]; show 0 + o + need * size = o + need * size; omega⟩) (by rw [e2]; exact Nat.le_refl _)
  rw [Nat.zero_add] at this
  exact this
theorem finNew {vs vs' : List Value} {s2 s3 s4 s5 : St} {b need size e cap' : Nat} {u : Unit} {v : Value} {zs : Array Value} (hr : Rel w0 r s2.mem w) (hn : newL vs s2 = .some b s3) (hw : wrC (b + need * size) (.O (.tok false size)) s3 = .some u s4)
    (hp : pSl ⟨b, 0, none⟩ need (capU * ((b + need * size) * 1024 + size) + need) s4 = .some v s5) (hf : Fresh r s2.next s5.next) (hv : VRs r vs vs') (hlen : vs.length = need * size) (hs0 : 0 < size) (hs1 : size < 1024) (hnu : need < capU) (hcap : need ≤ cap')
    (hzs : zs.size = (cap' - need) * size) : ∃ r', Goes w0 r s2 s5 r' (w.drew.alloc (.cells (vs'.toArray ++ zs) e)) ∧ VR r' v (.slice (some ⟨w.heap.size, 0, none⟩) need cap') ∧ s5.lim = s2.lim ∧ s5.cx = s2.cx := by
  obtain ⟨rfl, rfl⟩ := pSl_some hp
  have hbn := (newL_some hn).1
  obtain ⟨r', g1, g2, g3, g4, g5, rfl⟩ := growNew_ok (w := w.drew) (m := b + need * size) (x := cap' - need) hr.drew hn hw (by rw [hbn, hlen]) hf hv (c := vs'.toArray ++ zs) e
    (fun i v h => by
      have hi := (List.getElem?_eq_some_iff.1 h).1
      rw [Array.getElem?_append_left (by simpa using hi)]
      simpa using h)
    (by simp [hzs])
  refine ⟨r', g1, ?_, g4, g5⟩
  refine finCap (x := cap' - need) g2 ?_ hs0 hs1 hnu (by omega)
  rw [hlen] at g3
  rw [Nat.zero_add]
  exact g3
theorem finIn {vs vs' : List Value} {s2 s3 s4 s5 : St} {b need size cap' bb o : Nat} {u : Unit} {v : Value} (hr : Rel w0 r s2.mem w) (hn : newL vs s2 = .some b s3) (hw : wrC (b + need * size) (.O (.tok false size)) s3 = .some u s4)
    (hp : pSl ⟨b, 0, none⟩ need (capU * ((b + need * size) * 1024 + size) + need) s4 = .some v s5) (hf : Fresh r s2.next s5.next) (hv : VRs r vs vs') (hlen : vs.length = need * size) (hs0 : 0 < size) (hs1 : size < 1024) (hnu : need < capU) (hcap : need ≤ cap')
    (hb1 : w0.heap.size ≤ bb) (hb2 : bb < w.heap.size) (hvs : ∀ (i : Nat) (v : Value), vs'[i]? = some v → w.cell? ⟨bb, o + i, none⟩ = some v)
    (hcell : ∀ j, j < cap' * size → ∃ v', w.cell? ⟨bb, o + j, none⟩ = some v' ∧ w.frozen? ⟨bb, o + j, none⟩ = false)
    (hno : ∀ loc b v d, T.get s2.mem loc = some (.C b v) → r.blk b = some (bb, d) → loc - b + d < o)
    (htk : ∀ t2 sz k2, T.get s2.mem t2 = some (.O (.tok false sz)) → r.ext t2 = some k2 → k2.b ≠ bb) :
    ∃ r', Goes w0 r s2 s5 r' w ∧ VR r' v (.slice (some ⟨bb, o, none⟩) need cap') ∧ s5.lim = s2.lim ∧ s5.cx = s2.cx := by
  obtain ⟨rfl, rfl⟩ := pSl_some hp
  have hbn := (newL_some hn).1
  have hmul : need * size + (cap' - need) * size = cap' * size := by rw [← Nat.add_mul]; congr 1; omega
  obtain ⟨r', g1, g2, g3, g4, g5, rfl⟩ := growIn_ok (m := b + need * size) (x := cap' - need) hr hn hw (by rw [hbn, hlen]) hf hv hb1 hb2 hvs (fun j hj => hcell j (by omega)) hno htk
  refine ⟨r', g1, ?_, g4, g5⟩
  refine finCap (x := cap' - need) g2 ?_ hs0 hs1 hnu (by omega)
  rw [hlen] at g3
  exact g3
theorem useUp_some {size lb tok : Nat} {base : Option Addr} {s s' : St} {u : Unit} (h : useUp size base lb tok s = .some u s') : (tok = 0 ∧ s = s') ∨ (tok ≠ 0 ∧ T.get s.mem (tok / 1024) = some (.O (.tok false size)) ∧ tok % 1024 = size ∧ s'.next = s.next ∧ s'.lim = s.lim ∧ s'.cx = s.cx ∧
    ∀ loc c, T.get s'.mem loc = some c → ((loc = tok / 1024 ∧ c = .O (.tok true size)) ∨ (loc ≠ tok / 1024 ∧ T.get s.mem loc = some c)) ∧ (∀ a, base = some a → ¬ (a.block + a.off ≤ loc ∧ loc < a.block + a.off + lb * size))) := by
  unfold useUp at h
  rw [if_eq] at h
  by_cases h0 : Nat.beq tok 0 = true
  · rw [if_pos h0] at h
    obtain ⟨_, rfl⟩ := pure_some h
    exact .inl ⟨Nat.eq_of_beq_eq_true h0, rfl⟩
  · rw [if_neg h0] at h
    have hne : tok ≠ 0 := fun e => h0 (by rw [e]; rfl)
    obtain ⟨c, s1, h1, h2⟩ := bind_some h
    obtain ⟨g1, g2⟩ := rdC_some h1
    split at h2
    · rename_i sz
      obtain ⟨h3, h4⟩ := chk_some h2
      rw [Bool.and_eq_true] at h3
      have e1 : sz = size := Nat.eq_of_beq_eq_true h3.1
      have e2 : tok % 1024 = size := Nat.eq_of_beq_eq_true h3.2
      subst e1
      obtain ⟨u1, s2, h5, h6⟩ := bind_some h4
      obtain ⟨k1, k2, k3, k4⟩ := wrC_some h5
      have set : ∀ loc c, T.get s2.mem loc = some c → ((loc = tok / 1024 ∧ c = .O (.tok true sz)) ∨ (loc ≠ tok / 1024 ∧ T.get s.mem loc = some c)) := by
        intro loc c e
        rw [k1, T.get_set, g2.1] at e
        split at e
        · cases e; exact .inl ⟨by assumption, rfl⟩
        · exact .inr ⟨by assumption, e⟩
      refine .inr ⟨hne, g1, e2, ?_⟩
      unfold goOld at h6
      split at h6
      · rename_i a
        obtain ⟨q1, q2, q3, q4⟩ := letGo_some _ _ h6
        refine ⟨q2.trans (k2.trans g2.2.1), q3.trans (k3.trans g2.2.2.1), q4.trans (k4.trans g2.2.2.2), fun loc c e => ?_⟩
        obtain ⟨x1, x2⟩ := q1 loc c e
        exact ⟨set _ _ x1, fun a' ea => by cases ea; exact x2⟩
      · obtain ⟨_, rfl⟩ := pure_some h6
        exact ⟨k2.trans g2.2.1, k3.trans g2.2.2.1, k4.trans g2.2.2.2, fun loc c e => ⟨set _ _ e, fun a' ea => by cases ea⟩⟩
    · cases h2
variable {ts : Array TypeId} {ty : TypeId} {t2 e : Nat} {u2 : TypeDesc} {ni : TypeInfo} {z x' : Value} {n len c : Nat} {news news' : List Value} {base : Option Addr} {y' v : Value} {s s' : St}
theorem oneCell_eq (v : Value) : v.oneCell' = oneCell v := by cases v <;> rfl
theorem rdL_mem : ∀ (n : Nat) {a : Addr} {s s' : St} {l : List Value}, rdL n a s = .some l s' → ∀ j, j < n → ∃ v, T.get s.mem (a.block + a.off + j) = some (.C a.block v)
  | 0, _, _, _, _, _, j, hj => absurd hj (Nat.not_lt_zero _)
  | n + 1, a, s, s', l, h, j, hj => by
    have h0 : rdL (n + 1) a = fA a fun a => M.bind (rdV a) fun v => M.bind (rdL n ⟨a.block, Nat.succ a.off, a.spot⟩) fun l => M.pure (v :: l) := rfl
    rw [h0, fA_eq] at h
    obtain ⟨v, s1, h1, h2⟩ := bind_some h
    obtain ⟨l1, s2, h3, h4⟩ := bind_some h2
    obtain ⟨_, g1, g2⟩ := rdV_some h1
    cases j with
    | zero => exact ⟨v, g1⟩
    | succ j =>
      obtain ⟨v1, q⟩ := rdL_mem n h3 j (by omega)
      rw [g2.1] at q
      refine ⟨v1, ?_⟩
      have e : a.block + a.off + (j + 1) = a.block + Nat.succ a.off + j := by omega
      rw [e]
      exact q
theorem drew_heap (w : World) : w.drew.heap.size = w.heap.size := rfl
theorem grow_ok (hts0 : ts[0]? = some t) (hts1 : ts[1]? = some t2) (ht : E.P.underlying t = some (.slice e)) (ht2 : E.P.underlying t2 = some u2) (hi : E.P.info? e = some ni) (hz : ni.zero = some z) (hzs : z.cells.size = ni.size)
    (hs : SrcOK E.P w u2 x' n ni.size ni.bytes z news') (hn : VRs r news news') (hv : VR r (.slice base len c) y') (h : grow ni.size ni.bytes base len c n news s = .some v s') (hle : ¬ (len + n ≤ c % capU)) (hr : Rel w0 r s.mem w) (hf : Fresh r s.next s'.next) :
    Yields E w0 r s s' v w (Builtin.append_ ts ty #[y', x']) := by
  unfold grow at h
  obtain ⟨hc, h⟩ := chk_some h
  simp only [Bool.and_eq_true, Bool.or_eq_true] at hc
  obtain ⟨⟨⟨⟨⟨c1, c2⟩, c3⟩, c4⟩, c5⟩, c6⟩ := hc
  have hb := Nat.le_of_ble_eq_true c1
  have hs0 : 0 < ni.size := blt_lt c2
  have hs1 : ni.size < 1024 := blt_lt c3
  have hnl : news.length = n * ni.size := Nat.eq_of_beq_eq_true c5
  have hmul : (len + n) * (ni.bytes + 1) = (len + n) * ni.bytes + (len + n) := Nat.mul_succ _ _
  have hnu : len + n < capU := by unfold capU; omega
  obtain ⟨old, s1, h1, h⟩ := bind_some h
  obtain ⟨u, s2, h2, h⟩ := bind_some h
  obtain ⟨b, s3, h3, h⟩ := bind_some h
  rw [fN_eq] at h
  obtain ⟨u4, s4, h4, h5⟩ := bind_some h
  change newL (old.take (len * ni.size) ++ news) s2 = _ at h3
  change wrC (b + (len + n) * ni.size) _ s3 = _ at h4
  change pSl ⟨b, 0, none⟩ (len + n) (capU * ((b + (len + n) * ni.size) * 1024 + ni.size) + (len + n)) s4 = _ at h5
  have fin : ∀ {olds : List Value} {base' : Option Addr} {c' : Nat} {r0 : Inj}, y' = .slice base' len c' → VRs r (old.take (len * ni.size)) olds → olds.length = len * ni.size → (Builtin.firstCells ni.size len (.slice base' len c')).run E.P w.drew = .ok olds.toArray w.drew →
      c' < len + n → Rel w0 r s2.mem w → s2.next = s.next → s2.lim = s.lim → s2.cx = s.cx → Yields E w0 r s s' v w (Builtin.append_ ts ty #[y', x']) := by
    intro olds base' c' _ hy ho hol hrun hg hr2 e1 e2 e3
    subst hy
    have hv' : VRs r (old.take (len * ni.size) ++ news) (olds ++ news') := ho.append hn
    have hge := grownCap_ge w (len + n) c' e
    obtain ⟨r', g1, g2, g3, g4⟩ := finNew (e := e) (cap' := grownCap w (len + n) c' e) (zs := Builtin.zeroCells z.cells (grownCap w (len + n) c' e - (len + n))) hr2 h3 h4 h5 (by rw [e1]; exact hf) hv'
      (by rw [List.length_append, ho.1, hol, hnl, ← Nat.add_mul]) hs0 hs1 hnu hge (by rw [size_zeroCells, hzs])
    refine ⟨_, _, r', ?_, ⟨g1.le, by rw [← e1]; exact g1.nxt, fun b h => by rw [← e1]; exact g1.domB b h, fun b h => by rw [← e1]; exact g1.domE b h, g1.rel⟩, g2, g3.trans e2, g4.trans e3⟩
    rw [run_app_grow hts0 hts1 ht ht2 hi hz hs hrun hg hb]
    congr 3
    simp
  by_cases hq : c / capU = 0
  · -- the room is known
    have hK : oldL ni.size base len s = .some old s1 := by
      have : Nat.beq (Nat.div c capU) 0 = true := by
        have e : Nat.div c capU = 0 := hq
        rw [e]; rfl
      rw [this] at h1
      exact h1
    have hcc := cap_div0 hq
    rcases useUp_some h2 with ⟨_, rfl⟩ | ⟨e1, _⟩
    · unfold oldL at hK
      split at hK
      · rename_i a
        rcases hv.sl_inv with ⟨a2, c2, rfl, ha2, hc, hlen⟩ | ⟨_, q1, _⟩
        · rcases hc with ⟨_, rfl⟩ | ⟨q1, _⟩
          · obtain ⟨l', g1, g2, g3, g4⟩ := rdL_ok _ hK hr ha2
            have hol : old.length = len * ni.size := by rw [g3.1, g1]
            have hrun := run_loadCells_list (P := E.P) w.drew a2 l' (fun j v e => by have := g2 j v e; simpa using this)
            rw [g1] at hrun
            exact fin (r0 := r) rfl (by rw [← hol, List.take_length]; exact g3) g1 (by simpa [Builtin.firstCells] using hrun) (by omega) (by rw [g4.1]; exact hr) g4.2.1 g4.2.2.1 g4.2.2.2
          · exact absurd hq q1
        · exact absurd hq q1
      · obtain ⟨rfl, rfl⟩ := pure_some hK
        cases hv
        exact fin (r0 := r) (olds := []) rfl (by simpa using VRs.nil) (by simp) (by simp [Builtin.firstCells]) (by omega) hr rfl rfl rfl
    · exact absurd hq e1
  · -- the room may be more than is known
    have h1' : oldL ni.size base (c % capU) s = .some old s1 := by
      have : Nat.beq (Nat.div c capU) 0 = false := by
        cases e : Nat.beq (Nat.div c capU) 0 with
        | true => exact absurd (Nat.eq_of_beq_eq_true e) hq
        | false => rfl
      rw [this] at h1
      exact h1
    have hlb : 0 < c % capU := by
      rcases c4 with c4 | c4
      · exact blt_lt c4
      · have : c = 0 := Nat.eq_of_beq_eq_true c4
        rw [this, Nat.zero_div] at hq
        exact absurd rfl hq
    rcases useUp_some h2 with ⟨e1, _⟩ | ⟨_, u1, uu2, u3, uu4, u5, u6⟩
    · exact absurd e1 hq
    · cases base with
      | none =>
        cases hv
        exact absurd (Nat.zero_div _) hq
      | some a =>
        rcases hv.sl_inv with ⟨a2, cc, rfl, ha2, hc, hlen⟩ | ⟨_, _, q2, _⟩
        · rcases hc with ⟨e1, _⟩ | ⟨_, k, k1, k2, k3, k4, k5⟩
          · exact absurd e1 hq
          · have hsz : k.sz = ni.size := k2.trans uu2
            have h1'' : rdL (c % capU * ni.size) a s = .some old s1 := h1'
            obtain ⟨l', g1, g2, g3, g4⟩ := rdL_ok _ h1'' hr ha2
            have hmem := rdL_mem _ h1''
            change T.get s1.mem (c / capU / 1024) = _ at u1
            rw [g4.1] at u1
            obtain ⟨k', t1, t2', t3, t4, t5, t6⟩ := hr.tok _ _ u1
            rw [k1] at t1
            cases t1
            have hr2 : Rel w0 r s2.mem w := hr.lessTok fun loc c e => by
              rcases (u6 loc c e).1 with ⟨_, h⟩ | ⟨_, h⟩
              · exact .inr ⟨_, h, by omega⟩
              · rw [g4.1] at h; exact .inl h
            have hlm : len * ni.size ≤ c % capU * ni.size := Nat.mul_le_mul_right _ hlen
            have hol : (l'.take (len * ni.size)).length = len * ni.size := by rw [List.length_take, g1]; omega
            have hrun := run_loadCells_list (P := E.P) w.drew a2 (l'.take (len * ni.size)) (fun j v e => by
              rw [List.getElem?_take] at e
              split at e
              · have := g2 j v e; simpa using this
              · cases e)
            rw [hol] at hrun
            by_cases hroom : len + n ≤ cc
            · obtain ⟨b0, o0, bb, d, rfl, rfl, hblk⟩ := ha2
              subst k4
              have hcell : ∀ j, j < cc * ni.size → ∃ v', w.cell? ⟨k.b, o0 + d + j, none⟩ = some v' ∧ w.frozen? ⟨k.b, o0 + d + j, none⟩ = false := by
                intro j hj
                by_cases hj1 : j < c % capU * ni.size
                · obtain ⟨v1, q⟩ := hmem j hj1
                  change T.get s.mem (b0 + o0 + j) = some (.C b0 v1) at q
                  rw [Nat.add_assoc] at q
                  obtain ⟨v', q1, _, q3⟩ := hr.load q hblk
                  rw [show o0 + d + j = o0 + j + d by omega]
                  exact ⟨v', q1, q3⟩
                · have hcm : cc * ni.size = c % capU * ni.size + k.e * ni.size := by rw [k3, Nat.add_mul]
                  have := t5 (j - c % capU * ni.size) (by omega)
                  rw [hsz] at k5
                  change o0 + d + _ = _ at k5
                  rw [← k5, show o0 + d + c % capU * ni.size + (j - c % capU * ni.size) = o0 + d + j by omega] at this
                  exact this
              have hnl' : news'.length = n * ni.size := by rw [← hn.1]; exact hnl
              have hcm2 : (len + n) * ni.size ≤ cc * ni.size := Nat.mul_le_mul_right _ hroom
              rw [Nat.add_mul] at hcm2
              have hcell2 : ∀ j, j < news'.length → ∃ v', w.cell? ⟨k.b, o0 + d + len * ni.size + j, none⟩ = some v' ∧ w.frozen? ⟨k.b, o0 + d + len * ni.size + j, none⟩ = false := by
                intro j hj
                have := hcell (len * ni.size + j) (by omega)
                rw [← Nat.add_assoc] at this
                exact this
              have hst : (storeCells ((⟨k.b, o0 + d, none⟩ : Addr).add (len * ni.size)) news').run E.P w = .ok () (w.setCells k.b (o0 + d + len * ni.size) news') := by
                rw [addr_add]
                refine run_storeCells_cells k.b _ news' 0 w (fun j hj => ?_) (fun j hj => ?_) (fun v hv => ?_)
                · obtain ⟨v', q, _⟩ := hcell2 j hj; rw [Nat.add_zero, q]; rfl
                · obtain ⟨v', _, q⟩ := hcell2 j hj; rw [Nat.add_zero]; exact q
                · rw [oneCell_eq]
                  obtain ⟨i, hi, rfl⟩ := List.getElem_of_mem hv
                  have hi' : i < news.length := by rw [hn.1]; exact hi
                  have := hn.2 i _ _ (List.getElem?_eq_getElem hi') (List.getElem?_eq_getElem hi)
                  rw [this.oneCell]
                  exact List.all_eq_true.1 c6 _ (List.getElem_mem hi')
              have hno : ∀ loc b v d', T.get s2.mem loc = some (.C b v) → r.blk b = some (k.b, d') → loc - b + d' < o0 + d := by
                intro loc b v d' e1 e2
                obtain ⟨x1, x2⟩ := u6 loc _ e1
                have x3 := x2 _ rfl
                rcases x1 with ⟨_, x1⟩ | ⟨_, x1⟩
                · cases x1
                · rw [g4.1] at x1
                  have q := t6 _ _ _ _ x1 e2
                  rw [hsz] at k5
                  change o0 + d + _ = _ at k5
                  rcases Nat.lt_or_ge (loc - b + d') (o0 + d) with q2 | q2
                  · exact q2
                  · exfalso
                    obtain ⟨v1, q3⟩ := hmem (loc - b + d' - (o0 + d)) (by omega)
                    change T.get s.mem (b0 + o0 + _) = some (.C b0 v1) at q3
                    have q4 := hr.sep _ _ _ _ _ _ _ _ _ x1 q3 e2 hblk (by omega)
                    apply x3
                    change b0 + o0 ≤ loc ∧ loc < b0 + o0 + c % capU * ni.size
                    omega
              have htk : ∀ t2 sz k2, T.get s2.mem t2 = some (.O (.tok false sz)) → r.ext t2 = some k2 → k2.b ≠ k.b := by
                intro t2 sz k2' e1 e2 heq
                rcases (u6 t2 _ e1).1 with ⟨_, x1⟩ | ⟨x0, x1⟩
                · cases x1
                · rw [g4.1] at x1
                  exact x0 (hr.sepT _ _ _ _ _ _ x1 u1 e2 k1 heq)
              have hr3 : Rel w0 r s2.mem (w.setCells k.b (o0 + d + len * ni.size) news') := hr2.setFrees t3 htk news' _ (fun j hj => by obtain ⟨v', q, _⟩ := hcell2 j hj; rw [q]; rfl) (fun loc b v d' e1 e2 => by have := hno _ _ _ _ e1 e2; omega)
              have hin := World.cell?_setCells_in k.b news' (o0 + d + len * ni.size) w (fun j hj => by obtain ⟨v', q, _⟩ := hcell2 j hj; rw [q]; rfl)
              have hout : ∀ p, p < o0 + d + len * ni.size ∨ o0 + d + len * ni.size + news'.length ≤ p → (w.setCells k.b (o0 + d + len * ni.size) news').cell? ⟨k.b, p, none⟩ = w.cell? ⟨k.b, p, none⟩ := fun p hp => World.cell?_setCells_out k.b news' _ w ⟨k.b, p, none⟩ fun _ _ => hp
              obtain ⟨r', f1, f2, f3, f4⟩ := finIn (cap' := cc) (bb := k.b) (o := o0 + d) hr3 h3 h4 h5 (by rw [u3, g4.2.1]; exact hf) ((g3.take (len * ni.size)).append hn) (by rw [List.length_append, (g3.take (len * ni.size)).1, hol, hnl, ← Nat.add_mul]) hs0 hs1 hnu hroom t3
                (by have := hr3.dom _ _ _ hblk; exact this.2) (fun i v e => by
                  rw [List.getElem?_append] at e
                  split at e
                  · rename_i hi
                    rw [hol] at hi
                    rw [hout _ (.inl (by omega))]
                    rw [List.getElem?_take, if_pos hi] at e
                    have := g2 i v e
                    rw [addr_add] at this
                    exact this
                  · rename_i hi
                    rw [hol] at e hi
                    obtain ⟨hi2, rfl⟩ := List.getElem?_eq_some_iff.1 e
                    have := hin _ hi2
                    rw [show o0 + d + len * ni.size + (i - len * ni.size) = o0 + d + i by omega] at this
                    exact this) (fun j hj => by
                  obtain ⟨v', q1, q2⟩ := hcell j hj
                  by_cases hj2 : o0 + d + j < o0 + d + len * ni.size ∨ o0 + d + len * ni.size + news'.length ≤ o0 + d + j
                  · exact ⟨v', by rw [hout _ hj2]; exact q1, by rw [World.frozen?_setCells]; exact q2⟩
                  · have hj3 : j - len * ni.size < news'.length := by omega
                    have := hin _ hj3
                    rw [show o0 + d + len * ni.size + (j - len * ni.size) = o0 + d + j by omega] at this
                    exact ⟨_, this, by rw [World.frozen?_setCells]; exact q2⟩) hno htk
              have e1 : s2.next = s.next := u3.trans g4.2.1
              exact ⟨_, _, r', run_app_room hts0 hts1 ht ht2 hi hz hs hroom hst, ⟨f1.le, by rw [← e1]; exact f1.nxt, fun b h => by rw [← e1]; exact f1.domB b h, fun b h => by rw [← e1]; exact f1.domE b h, f1.rel⟩, f2, f3.trans (uu4.trans g4.2.2.1), f4.trans (u5.trans g4.2.2.2)⟩
            · exact fin (r0 := r) rfl (g3.take _) hol (by simpa [Builtin.firstCells] using hrun) (by omega) hr2 (u3.trans g4.2.1) (uu4.trans g4.2.2.1) (u5.trans g4.2.2.2)
        · omega
end
end Go.Proofs.Ytnhmbhpkebjjaaa.Am
