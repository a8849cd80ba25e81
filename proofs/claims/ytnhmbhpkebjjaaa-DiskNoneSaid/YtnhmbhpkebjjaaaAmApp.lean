/- The evaluator's append against the model's own. -/
import Derived.Test.YtnhmbhpkebjjaaaAmOps5
import Derived.Laws.AppendOwn
namespace Go.Proofs.Ytnhmbhpkebjjaaa.Am
open Go.RowKit

section
variable {w0 w : World} {r : Inj} {mem : T Cell}
/-- Less memory, or marks used up. -/
theorem Rel.lessTok (h : Rel w0 r mem w) {mem' : T Cell} (hm : ∀ loc c, T.get mem' loc = some c → T.get mem loc = some c ∨ ∃ sz, c = .O (.tok true sz) ∧ sz < 1024) : Rel w0 r mem' w := by
  have cel : ∀ loc b v, T.get mem' loc = some (.C b v) → T.get mem loc = some (.C b v) := by
    intro loc b v e
    rcases hm _ _ e with e | ⟨sz, e, _⟩
    · exact e
    · cases e
  have obj : ∀ loc o, o.isTok = false → T.get mem' loc = some (.O o) → T.get mem loc = some (.O o) := by
    intro loc o ht e
    rcases hm _ _ e with e | ⟨sz, e, _⟩
    · exact e
    · cases e; cases ht
  have tok : ∀ loc sz, T.get mem' loc = some (.O (.tok false sz)) → T.get mem loc = some (.O (.tok false sz)) := by
    intro loc sz e
    rcases hm _ _ e with e | ⟨sz, e, _⟩
    · exact e
    · cases e
  exact ⟨h.below, h.dom, fun l b v e => h.cell l b v (cel _ _ _ e), fun l1 l2 b1 v1 b2 v2 b' d1 d2 e1 e2 => h.sep l1 l2 b1 v1 b2 v2 b' d1 d2 (cel _ _ _ e1) (cel _ _ _ e2), fun l o e t => h.obj l o (obj _ _ t e) t,
    fun l1 l2 o1 o2 b' d1 d2 e1 e2 t1 t2 => h.sepO l1 l2 o1 o2 b' d1 d2 (obj _ _ t1 e1) (obj _ _ t2 e2) t1 t2,
    fun t sz e => let ⟨k, g1, g2, g3, g4, g5, g6⟩ := h.tok t sz (tok _ _ e); ⟨k, g1, g2, g3, g4, g5, fun l b v d e1 => g6 l b v d (cel _ _ _ e1)⟩,
    fun t1 t2 s1 s2 k1 k2 e1 e2 => h.sepT t1 t2 s1 s2 k1 k2 (tok _ _ e1) (tok _ _ e2), h.known, fun l n e => by
      rcases hm _ _ e with e | ⟨sz, e, hz⟩
      · exact h.szs l n e
      · cases e; omega⟩

theorem Goes.mark {s s' s2 : St} {w' : World} {r1 : Inj} (g : Goes w0 r s s' r1 w') {m : Nat} {k : Tok} (hn : s2.next = s'.next) (h1 : s.next ≤ m) (h2 : m < s'.next) (hm : r1.ext m = none) (hr : Rel w0 (r1.mark m k) s2.mem w') : Goes w0 r s s2 (r1.mark m k) w' := by
  refine ⟨Inj.le_trans g.le (Inj.mark_le k hm), by rw [hn]; exact g.nxt, fun b hb => by rw [hn]; exact g.domB b hb, fun b hb => ?_, hr⟩
  by_cases e : b = m
  · rw [hn, e]; exact .inr ⟨h1, h2⟩
  · rw [hn]
    refine g.domE b ?_
    have : (r1.mark m k).ext b = r1.ext b := if_neg e
    rw [← this]; exact hb

/-- A grown row, laid anew, with its mark. -/
theorem growNew_ok {vs vs' : List Value} {s s1 s2 : St} {b m sz x : Nat} {u : Unit} (hr : Rel w0 r s.mem w) (hn : newL vs s = .some b s1) (hw : wrC m (.O (.tok false sz)) s1 = .some u s2) (hm : m = s.next + vs.length) (hf : Fresh r s.next s2.next)
    (hv : VRs r vs vs') {c : Array Value} (e : TypeId) (hc : ∀ (i : Nat) (v : Value), vs'[i]? = some v → c[i]? = some v) (hsz : c.size = vs'.length + x * sz) :
    ∃ r', Goes w0 r s s2 r' (w.alloc (.cells c e)) ∧ r'.blk s.next = some (w.heap.size, 0) ∧ r'.ext m = some ⟨x, w.heap.size, vs.length, sz⟩ ∧ s2.lim = s.lim ∧ s2.cx = s.cx ∧ b = s.next := by
  obtain ⟨k1, k2, k3, k4⟩ := wrC_some hw
  obtain ⟨n1, n2, n3, n4, n5⟩ := newL_some hn
  rw [k2] at hf
  obtain ⟨g1, g2, g3, g4, g5⟩ := newL_ok hn hr hf hv e hc
  have hm1 : s.next ≤ m := by omega
  have hm2 : m < s1.next := by omega
  have hE : (r.add s.next (w.heap.size, 0)).ext m = none := (hf m hm1 hm2).2
  refine ⟨(r.add s.next (w.heap.size, 0)).mark m ⟨x, w.heap.size, vs.length, sz⟩, ?_, Inj.add_self _ _ _, Inj.mark_self _ _ _, k3.trans g4, k4.trans g5, n1⟩
  refine Goes.mark g2 k2 hm1 hm2 hE ?_
  rw [k1]
  refine g2.rel.newTok hE rfl hr.below.size (by rw [World.size_alloc]; exact Nat.lt_succ_self _) ?_ ?_ ?_
  · intro j hj
    have hj' : j < x * sz := hj
    have h1 : vs.length + j < c.size := by rw [hsz, hv.1]; omega
    exact ⟨c[vs.length + j], by rw [alloc_cells]; exact Array.getElem?_eq_getElem h1, alloc_frozen _ _ _ _⟩
  · intro loc b1 v1 d e1 e2
    rw [n2] at e1
    rcases layL_get _ _ _ _ _ _ e1 with ⟨i, y, q1, q2, q3⟩ | q
    · cases q3
      rw [Inj.add_self] at e2
      cases e2
      have := (List.getElem?_eq_some_iff.1 q2).1
      show loc - s.next + 0 < vs.length
      omega
    · obtain ⟨b2, d2, _, _, g7, _⟩ := hr.cell _ _ _ q
      by_cases hb : b1 = s.next
      · rw [hb, (hf s.next (Nat.le_refl _) (by omega)).1] at g7; cases g7
      · rw [Inj.add_other _ hb] at e2
        exact absurd (hr.dom _ _ _ e2).2 (Nat.lt_irrefl _)
  · intro t2 s3 k2 e1 e2
    rw [n2] at e1
    rcases layL_get _ _ _ _ _ _ e1 with ⟨i, y, q1, q2, q3⟩ | q
    · cases q3
    · obtain ⟨k, g7, _, _, g8, _⟩ := hr.tok _ _ q
      have e2' : r.ext t2 = some k2 := e2
      rw [g7] at e2'
      cases e2'
      exact Nat.ne_of_lt g8

theorem Rel.overlay (h : Rel w0 r mem w) {b : Nat} (hb : r.blk b = none) {vs vs' : List Value} (hv : VRs r vs vs') {bb o : Nat} (hb1 : w0.heap.size ≤ bb) (hb2 : bb < w.heap.size)
    (hvs : ∀ (i : Nat) (v : Value), vs'[i]? = some v → w.cell? ⟨bb, o + i, none⟩ = some v) (hfr : ∀ i, i < vs.length → w.frozen? ⟨bb, o + i, none⟩ = false)
    (hno : ∀ loc b v d, T.get mem loc = some (.C b v) → r.blk b = some (bb, d) → loc - b + d < o)
    (htk : ∀ t2 s2 k2, T.get mem t2 = some (.O (.tok false s2)) → r.ext t2 = some k2 → k2.b ≠ bb) {mem' : T Cell}
    (hm : ∀ loc x, T.get mem' loc = some x → (∃ i v, loc = b + i ∧ vs[i]? = some v ∧ x = .C b v) ∨ T.get mem loc = some x) : Rel w0 (r.add b (bb, o)) mem' w := by
  have hle := Inj.add_le (bb, o) hb
  have notb : ∀ loc b1 v1, T.get mem loc = some (.C b1 v1) → b1 ≠ b := by
    intro loc b1 v1 e1 heq
    obtain ⟨b2, d2, _, _, g2, _⟩ := h.cell _ _ _ e1
    rw [heq, hb] at g2; cases g2
  have notbO : ∀ loc o, T.get mem loc = some (.O o) → o.isTok = false → loc ≠ b := by
    intro loc o e1 ht heq
    obtain ⟨b2, d2, _, g2, _⟩ := h.obj _ _ e1 ht
    rw [heq, hb] at g2; cases g2
  have oldO : ∀ loc o, T.get mem' loc = some (.O o) → T.get mem loc = some (.O o) := by
    intro loc o e1
    rcases hm _ _ e1 with ⟨i, v, _, _, h3⟩ | h3
    · cases h3
    · exact h3
  refine ⟨h.below, ?_, ?_, ?_, ?_, ?_, ?_, ?_, h.known, fun l n e1 => let ⟨p, q⟩ := h.szs l n (oldO _ _ e1); ⟨p, q.to hle fun b' q1 q2 => q2⟩⟩
  · intro x b' d e1
    by_cases hx : x = b
    · rw [hx, Inj.add_self] at e1
      cases e1
      exact ⟨hb1, hb2⟩
    · rw [Inj.add_other _ hx] at e1
      exact h.dom _ _ _ e1
  · intro loc b1 v1 e1
    rcases hm _ _ e1 with ⟨i, v, h1, h2, h3⟩ | h3
    · cases h3
      obtain ⟨v', h4, h5⟩ := hv.get h2
      have hi := (List.getElem?_eq_some_iff.1 h2).1
      have e2 : loc - b + o = o + i := by omega
      exact ⟨bb, o, v', by omega, Inj.add_self _ _ _, by rw [e2]; exact hvs _ _ h4, h5.mono hle, by rw [e2]; exact hfr _ hi⟩
    · obtain ⟨b2, d2, v2, g1, g2, g3, g4, g5⟩ := h.cell _ _ _ h3
      exact ⟨b2, d2, v2, g1, hle.1 _ _ g2, g3, g4.mono hle, g5⟩
  · intro l1 l2 b1 v1 b2 v2 b' d1 d2 e1 e2 r1 r2 hh
    rcases hm _ _ e1 with ⟨i, v, h1, h2, h3⟩ | h3
    · cases h3
      rw [Inj.add_self] at r1
      cases r1
      rcases hm _ _ e2 with ⟨i', v', h1', h2', h3'⟩ | h3'
      · cases h3'
        rw [Inj.add_self] at r2
        cases r2
        omega
      · rw [Inj.add_other _ (notb _ _ _ h3')] at r2
        have := hno _ _ _ _ h3' r2
        omega
    · rw [Inj.add_other _ (notb _ _ _ h3)] at r1
      rcases hm _ _ e2 with ⟨i', v', h1', h2', h3'⟩ | h3'
      · cases h3'
        rw [Inj.add_self] at r2
        cases r2
        have := hno _ _ _ _ h3 r1
        omega
      · rw [Inj.add_other _ (notb _ _ _ h3')] at r2
        exact h.sep _ _ _ _ _ _ _ _ _ h3 h3' r1 r2 hh
  · intro loc o e1 ht
    obtain ⟨b2, d2, o', g1, g2, g3⟩ := h.obj _ _ (oldO _ _ e1) ht
    exact ⟨b2, d2, o', hle.1 _ _ g1, g2, g3.mono hle⟩
  · intro l1 l2 o1 o2 b' d1 d2 e1 e2 t1 t2 r1 r2
    rw [Inj.add_other _ (notbO _ _ (oldO _ _ e1) t1)] at r1
    rw [Inj.add_other _ (notbO _ _ (oldO _ _ e2) t2)] at r2
    exact h.sepO _ _ _ _ _ _ _ (oldO _ _ e1) (oldO _ _ e2) t1 t2 r1 r2
  · intro t sz e1
    obtain ⟨k, g1, g2, g3, g4, g5, g6⟩ := h.tok _ _ (oldO _ _ e1)
    refine ⟨k, g1, g2, g3, g4, g5, ?_⟩
    intro loc b1 v1 d e2 r1
    rcases hm _ _ e2 with ⟨i, v, h1, h2, h3⟩ | h3
    · cases h3
      rw [Inj.add_self] at r1
      simp only [Option.some.injEq, Prod.mk.injEq] at r1
      exact absurd r1.1.symm (htk _ _ _ (oldO _ _ e1) g1)
    · rw [Inj.add_other _ (notb _ _ _ h3)] at r1
      exact g6 _ _ _ _ h3 r1
  · intro t1 t2 s1 s2 k1 k2 e1 e2
    exact h.sepT _ _ _ _ _ _ (oldO _ _ e1) (oldO _ _ e2)

/-- A grown row in the room behind the old one: its cells, and those of the room, are there; nothing else that is known lies there. -/
theorem growIn_ok {vs vs' : List Value} {s s1 s2 : St} {b m sz x bb o : Nat} {u : Unit} (hr : Rel w0 r s.mem w) (hn : newL vs s = .some b s1) (hw : wrC m (.O (.tok false sz)) s1 = .some u s2) (hm : m = s.next + vs.length) (hf : Fresh r s.next s2.next)
    (hv : VRs r vs vs') (hb1 : w0.heap.size ≤ bb) (hb2 : bb < w.heap.size) (hvs : ∀ (i : Nat) (v : Value), vs'[i]? = some v → w.cell? ⟨bb, o + i, none⟩ = some v)
    (hcell : ∀ j, j < vs.length + x * sz → ∃ v', w.cell? ⟨bb, o + j, none⟩ = some v' ∧ w.frozen? ⟨bb, o + j, none⟩ = false)
    (hno : ∀ loc b v d, T.get s.mem loc = some (.C b v) → r.blk b = some (bb, d) → loc - b + d < o)
    (htk : ∀ t2 s2 k2, T.get s.mem t2 = some (.O (.tok false s2)) → r.ext t2 = some k2 → k2.b ≠ bb) :
    ∃ r', Goes w0 r s s2 r' w ∧ r'.blk s.next = some (bb, o) ∧ r'.ext m = some ⟨x, bb, o + vs.length, sz⟩ ∧ s2.lim = s.lim ∧ s2.cx = s.cx ∧ b = s.next := by
  obtain ⟨k1, k2, k3, k4⟩ := wrC_some hw
  obtain ⟨n1, n2, n3, n4, n5⟩ := newL_some hn
  rw [k2] at hf
  have hb := (hf s.next (Nat.le_refl _) (by omega)).1
  have hm1 : s.next ≤ m := by omega
  have hm2 : m < s1.next := by omega
  have hE : (r.add s.next (bb, o)).ext m = none := (hf m hm1 hm2).2
  have hrel : Rel w0 (r.add s.next (bb, o)) s1.mem w := by
    rw [n2]
    exact hr.overlay hb hv hb1 hb2 hvs (fun i hi => (hcell i (by omega)).elim fun _ h => h.2) hno htk (layL_get _ _ _ _)
  have g2 : Goes w0 r s s1 (r.add s.next (bb, o)) w := .add hb (by omega) hrel
  refine ⟨(r.add s.next (bb, o)).mark m ⟨x, bb, o + vs.length, sz⟩, ?_, Inj.add_self _ _ _, Inj.mark_self _ _ _, k3.trans n4, k4.trans n5, n1⟩
  refine Goes.mark g2 k2 hm1 hm2 hE ?_
  rw [k1]
  refine hrel.newTok hE rfl hb1 hb2 ?_ ?_ ?_
  · intro j hj
    have hj' : j < x * sz := hj
    have := hcell (vs.length + j) (by omega)
    rw [← Nat.add_assoc] at this
    exact this
  · intro loc b1 v1 d e1 e2
    show loc - b1 + d < o + vs.length
    rw [n2] at e1
    rcases layL_get _ _ _ _ _ _ e1 with ⟨i, y, q1, q2, q3⟩ | q
    · cases q3
      rw [Inj.add_self] at e2
      cases e2
      have := (List.getElem?_eq_some_iff.1 q2).1
      omega
    · obtain ⟨b2, d2, _, _, g7, _⟩ := hr.cell _ _ _ q
      by_cases hb : b1 = s.next
      · rw [hb, (hf s.next (Nat.le_refl _) (by omega)).1] at g7; cases g7
      · rw [Inj.add_other _ hb] at e2
        have := hno _ _ _ _ q e2
        omega
  · intro t2 s3 k2 e1 e2
    rw [n2] at e1
    rcases layL_get _ _ _ _ _ _ e1 with ⟨i, y, q1, q2, q3⟩ | q
    · cases q3
    · exact htk _ _ _ q e2
end
end Go.Proofs.Ytnhmbhpkebjjaaa.Am
