/- The evaluator's append against the model's own. -/
import Derived.Test.YtkgncjlgmnbfoaaGreatDoorAmOps5
import Derived.Laws.AppendOwn
namespace Go.Proofs.YtkgncjlgmnbfoaaGreatDoor.Am
open Go.RowKit

section
variable {w0 w : World} {r : Inj} {mem : T Cell}
/-- Less memory, or marks used up. -/
theorem Rel.lessTok (h : Rel w0 r mem w) {mem' : T Cell} (hm : ∀ loc c, T.get mem' loc = some c → T.get mem loc = some c ∨ ∃ sz, c = .O (.tok true sz) ∧ sz < 1024) : Rel w0 r mem' w := by
  have cel : ∀ loc b v, T.get mem' loc = some (.C b v) → T.get mem loc = some (.C b v) := by
    intro loc b v e
    rcases hm _ _ e with e | ⟨sz, e, _⟩
    · exact e
    · cases e
  have obj : ∀ loc o, o.isTok = false → T.get mem' loc = some (.O o) → T.get mem loc = some (.O o) := by
    intro loc o ht e
    rcases hm _ _ e with e | ⟨sz, e, _⟩
    · exact e
    · cases e; cases ht
  have tok : ∀ loc sz, T.get mem' loc = some (.O (.tok false sz)) → T.get mem loc = some (.O (.tok false sz)) := by
    intro loc sz e
    rcases hm _ _ e with e | ⟨sz, e, _⟩
    · exact e
    · cases e
  exact ⟨h.below, h.dom, fun l b v e => h.cell l b v (cel _ _ _ e), fun l1 l2 b1 v1 b2 v2 b' d1 d2 e1 e2 => h.sep l1 l2 b1 v1 b2 v2 b' d1 d2 (cel _ _ _ e1) (cel _ _ _ e2), fun l o e t => h.obj l o (obj _ _ t e) t,
    fun l1 l2 o1 o2 b' d1 d2 e1 e2 t1 t2 => h.sepO l1 l2 o1 o2 b' d1 d2 (obj _ _ t1 e1) (obj _ _ t2 e2) t1 t2,
    fun t sz e => let ⟨k, g1, g2, g3, g4, g5, g6⟩ := h.tok t sz (tok _ _ e); ⟨k, g1, g2, g3, g4, g5, fun l b v d e1 => g6 l b v d (cel _ _ _ e1)⟩,
    fun t1 t2 s1 s2 k1 k2 e1 e2 => h.sepT t1 t2 s1 s2 k1 k2 (tok _ _ e1) (tok _ _ e2), h.known, fun l n e => by
      rcases hm _ _ e with e | ⟨sz, e, hz⟩
      · exact h.szs l n e
      · cases e; omega,
    h.oldsTo (Inj.le_refl r) fun loc c e => by
      rcases hm _ _ e with e | ⟨sz, e, hz⟩
      · exact .inl e
      · exact .inr (.inr (.inl ⟨_, _, e, fun n _ hn => by omega⟩))⟩

theorem Goes.mark {s s' s2 : St} {w' : World} {r1 : Inj} (g : Goes w0 r s s' r1 w') {m : Nat} {k : Tok} (hn : s2.next = s'.next) (h1 : s.next ≤ m) (h2 : m < s'.next) (hm : r1.ext m = none) (hr : Rel w0 (r1.mark m k) s2.mem w') : Goes w0 r s s2 (r1.mark m k) w' := by
  refine ⟨Inj.le_trans g.le (Inj.mark_le k hm), by rw [hn]; exact g.nxt, fun b hb => by rw [hn]; exact g.domB b hb, fun b hb => ?_, hr⟩
  by_cases e : b = m
  · rw [hn, e]; exact .inr ⟨h1, h2⟩
  · rw [hn]
    refine g.domE b ?_
    have : (r1.mark m k).ext b = r1.ext b := if_neg e
    rw [← this]; exact hb

/-- A grown row, laid anew, with its mark. -/
theorem growNew_ok {vs vs' : List Value} {s s1 s2 : St} {b m sz x : Nat} {u : Unit} (hr : Rel w0 r s.mem w) (hn : newL vs s = .some b s1) (hw : wrC m (.O (.tok false sz)) s1 = .some u s2) (hm : m = s.next + vs.length) (hf : Fresh r s.next s2.next)
    (hv : VRs r vs vs') {c : Array Value} (e : TypeId) (hc : ∀ (i : Nat) (v : Value), vs'[i]? = some v → c[i]? = some v) (hsz : c.size = vs'.length + x * sz) :
    ∃ r', Goes w0 r s s2 r' (w.alloc (.cells c e)) ∧ r'.blk s.next = some (w.heap.size, 0) ∧ r'.ext m = some ⟨x, w.heap.size, vs.length, sz⟩ ∧ s2.lim = s.lim ∧ s2.cx = s.cx ∧ b = s.next := by
  obtain ⟨k1, k2, k3, k4⟩ := wrC_some hw
  obtain ⟨n1, n2, n3, n4, n5⟩ := newL_some hn
  rw [k2] at hf
  obtain ⟨g1, g2, g3, g4, g5⟩ := newL_ok hn hr hf hv e hc
  have hm1 : s.next ≤ m := by omega
  have hm2 : m < s1.next := by omega
  have hE : (r.add s.next (w.heap.size, 0)).ext m = none := (hf m hm1 hm2).2
  refine ⟨(r.add s.next (w.heap.size, 0)).mark m ⟨x, w.heap.size, vs.length, sz⟩, ?_, Inj.add_self _ _ _, Inj.mark_self _ _ _, k3.trans g4, k4.trans g5, n1⟩
  refine Goes.mark g2 k2 hm1 hm2 hE ?_
  rw [k1]
  refine g2.rel.newTok hE rfl hr.below.size (by rw [World.size_alloc]; exact Nat.lt_succ_self _) ?_ ?_ ?_
  · intro j hj
    have hj' : j < x * sz := hj
    have h1 : vs.length + j < c.size := by rw [hsz, hv.1]; omega
    exact ⟨c[vs.length + j], by rw [alloc_cells]; exact Array.getElem?_eq_getElem h1, alloc_frozen _ _ _ _⟩
  · intro loc b1 v1 d e1 e2
    rw [n2] at e1
    rcases layL_get _ _ _ _ _ _ e1 with ⟨i, y, q1, q2, q3⟩ | q
    · cases q3
      rw [Inj.add_self] at e2
      cases e2
      have := (List.getElem?_eq_some_iff.1 q2).1
      show loc - s.next + 0 < vs.length
      omega
    · obtain ⟨b2, d2, _, _, g7, _⟩ := hr.cell _ _ _ q
      by_cases hb : b1 = s.next
      · rw [hb, (hf s.next (Nat.le_refl _) (by omega)).1] at g7; cases g7
      · rw [Inj.add_other _ hb] at e2
        exact absurd (hr.dom _ _ _ e2).2 (Nat.lt_irrefl _)
  · intro t2 s3 k2 e1 e2
    rw [n2] at e1
    rcases layL_get _ _ _ _ _ _ e1 with ⟨i, y, q1, q2, q3⟩ | q
    · cases q3
    · obtain ⟨k, g7, _, _, g8, _⟩ := hr.tok _ _ q
      have e2' : r.ext t2 = some k2 := e2
      rw [g7] at e2'
      cases e2'
      exact Nat.ne_of_lt g8

theorem Rel.overlay (h : Rel w0 r mem w) {b : Nat} (hb : r.blk b = none) {vs vs' : List Value} (hv : VRs r vs vs') {bb o : Nat} (hb1 : w0.heap.size ≤ bb) (hb2 : bb < w.heap.size)
    (hvs : ∀ (i : Nat) (v : Value), vs'[i]? = some v → w.cell? ⟨bb, o + i, none⟩ = some v) (hfr : ∀ i, i < vs.length → w.frozen? ⟨bb, o + i, none⟩ = false)
    (hno : ∀ loc b v d, T.get mem loc = some (.C b v) → r.blk b = some (bb, d) → loc - b + d < o)
    (htk : ∀ t2 s2 k2, T.get mem t2 = some (.O (.tok false s2)) → r.ext t2 = some k2 → k2.b ≠ bb) {mem' : T Cell}
    (hm : ∀ loc x, T.get mem' loc = some x → (∃ i v, loc = b + i ∧ vs[i]? = some v ∧ x = .C b v) ∨ T.get mem loc = some x) : Rel w0 (r.add b (bb, o)) mem' w := by
  have hle := Inj.add_le (bb, o) hb
  have notb : ∀ loc b1 v1, T.get mem loc = some (.C b1 v1) → b1 ≠ b := by
    intro loc b1 v1 e1 heq
    obtain ⟨b2, d2, _, _, g2, _⟩ := h.cell _ _ _ e1
    rw [heq, hb] at g2; cases g2
  have notbO : ∀ loc o, T.get mem loc = some (.O o) → o.isTok = false → loc ≠ b := by
    intro loc o e1 ht heq
    obtain ⟨b2, d2, _, g2, _⟩ := h.obj _ _ e1 ht
    rw [heq, hb] at g2; cases g2
  have oldO : ∀ loc o, T.get mem' loc = some (.O o) → T.get mem loc = some (.O o) := by
    intro loc o e1
    rcases hm _ _ e1 with ⟨i, v, _, _, h3⟩ | h3
    · cases h3
    · exact h3
  refine ⟨h.below, ?_, ?_, ?_, ?_, ?_, ?_, ?_, h.known, fun l n e1 => let ⟨p, q⟩ := h.szs l n (oldO _ _ e1); ⟨p, q.to hle fun b' q1 q2 => q2⟩,
    h.oldsTo hle fun loc c e => by
      rcases hm _ _ e with ⟨i, v, _, _, h3⟩ | h3
      · exact .inr (.inl ⟨_, _, _, _, h3, Inj.add_self _ _ _, hb1⟩)
      · exact .inl h3⟩
  · intro x b' d e1
    by_cases hx : x = b
    · rw [hx, Inj.add_self] at e1
      cases e1
      exact ⟨h.below.size, hb2⟩
    · rw [Inj.add_other _ hx] at e1
      exact h.dom _ _ _ e1
  · intro loc b1 v1 e1
    rcases hm _ _ e1 with ⟨i, v, h1, h2, h3⟩ | h3
    · cases h3
      obtain ⟨v', h4, h5⟩ := hv.get h2
      have hi := (List.getElem?_eq_some_iff.1 h2).1
      have e2 : loc - b + o = o + i := by omega
      exact ⟨bb, o, v', by omega, Inj.add_self _ _ _, by rw [e2]; exact hvs _ _ h4, h5.mono hle, by rw [e2]; exact hfr _ hi⟩
    · obtain ⟨b2, d2, v2, g1, g2, g3, g4, g5⟩ := h.cell _ _ _ h3
      exact ⟨b2, d2, v2, g1, hle.1 _ _ g2, g3, g4.mono hle, g5⟩
  · intro l1 l2 b1 v1 b2 v2 b' d1 d2 e1 e2 r1 r2 hh
    rcases hm _ _ e1 with ⟨i, v, h1, h2, h3⟩ | h3
    · cases h3
      rw [Inj.add_self] at r1
      cases r1
      rcases hm _ _ e2 with ⟨i', v', h1', h2', h3'⟩ | h3'
      · cases h3'
        rw [Inj.add_self] at r2
        cases r2
        omega
      · rw [Inj.add_other _ (notb _ _ _ h3')] at r2
        have := hno _ _ _ _ h3' r2
        omega
    · rw [Inj.add_other _ (notb _ _ _ h3)] at r1
      rcases hm _ _ e2 with ⟨i', v', h1', h2', h3'⟩ | h3'
      · cases h3'
        rw [Inj.add_self] at r2
        cases r2
        have := hno _ _ _ _ h3 r1
        omega
      · rw [Inj.add_other _ (notb _ _ _ h3')] at r2
        exact h.sep _ _ _ _ _ _ _ _ _ h3 h3' r1 r2 hh
  · intro loc o e1 ht
    obtain ⟨b2, d2, o', g1, g2, g3⟩ := h.obj _ _ (oldO _ _ e1) ht
    exact ⟨b2, d2, o', hle.1 _ _ g1, g2, g3.mono hle⟩
  · intro l1 l2 o1 o2 b' d1 d2 e1 e2 t1 t2 r1 r2
    rw [Inj.add_other _ (notbO _ _ (oldO _ _ e1) t1)] at r1
    rw [Inj.add_other _ (notbO _ _ (oldO _ _ e2) t2)] at r2
    exact h.sepO _ _ _ _ _ _ _ (oldO _ _ e1) (oldO _ _ e2) t1 t2 r1 r2
  · intro t sz e1
    obtain ⟨k, g1, g2, g3, g4, g5, g6⟩ := h.tok _ _ (oldO _ _ e1)
    refine ⟨k, g1, g2, g3, g4, g5, ?_⟩
    intro loc b1 v1 d e2 r1
    rcases hm _ _ e2 with ⟨i, v, h1, h2, h3⟩ | h3
    · cases h3
      rw [Inj.add_self] at r1
      simp only [Option.some.injEq, Prod.mk.injEq] at r1
      exact absurd r1.1.symm (htk _ _ _ (oldO _ _ e1) g1)
    · rw [Inj.add_other _ (notb _ _ _ h3)] at r1
      exact g6 _ _ _ _ h3 r1
  · intro t1 t2 s1 s2 k1 k2 e1 e2
    exact h.sepT _ _ _ _ _ _ (oldO _ _ e1) (oldO _ _ e2)

/-- A grown row in the room behind the old one: its cells, and those of the room, are there; nothing else that is known lies there. -/
theorem growIn_ok {vs vs' : List Value} {s s1 s2 : St} {b m sz x bb o : Nat} {u : Unit} (hr : Rel w0 r s.mem w) (hn : newL vs s = .some b s1) (hw : wrC m (.O (.tok false sz)) s1 = .some u s2) (hm : m = s.next + vs.length) (hf : Fresh r s.next s2.next)
    (hv : VRs r vs vs') (hb1 : w0.heap.size ≤ bb) (hb2 : bb < w.heap.size) (hvs : ∀ (i : Nat) (v : Value), vs'[i]? = some v → w.cell? ⟨bb, o + i, none⟩ = some v)
    (hcell : ∀ j, j < vs.length + x * sz → ∃ v', w.cell? ⟨bb, o + j, none⟩ = some v' ∧ w.frozen? ⟨bb, o + j, none⟩ = false)
    (hno : ∀ loc b v d, T.get s.mem loc = some (.C b v) → r.blk b = some (bb, d) → loc - b + d < o)
    (htk : ∀ t2 s2 k2, T.get s.mem t2 = some (.O (.tok false s2)) → r.ext t2 = some k2 → k2.b ≠ bb) :
    ∃ r', Goes w0 r s s2 r' w ∧ r'.blk s.next = some (bb, o) ∧ r'.ext m = some ⟨x, bb, o + vs.length, sz⟩ ∧ s2.lim = s.lim ∧ s2.cx = s.cx ∧ b = s.next := by
  obtain ⟨k1, k2, k3, k4⟩ := wrC_some hw
  obtain ⟨n1, n2, n3, n4, n5⟩ := newL_some hn
  rw [k2] at hf
  have hb := (hf s.next (Nat.le_refl _) (by omega)).1
  have hm1 : s.next ≤ m := by omega
  have hm2 : m < s1.next := by omega
  have hE : (r.add s.next (bb, o)).ext m = none := (hf m hm1 hm2).2
  have hrel : Rel w0 (r.add s.next (bb, o)) s1.mem w := by
    rw [n2]
    exact hr.overlay hb hv hb1 hb2 hvs (fun i hi => (hcell i (by omega)).elim fun _ h => h.2) hno htk (layL_get _ _ _ _)
  have g2 : Goes w0 r s s1 (r.add s.next (bb, o)) w := .add hb (by omega) hrel
  refine ⟨(r.add s.next (bb, o)).mark m ⟨x, bb, o + vs.length, sz⟩, ?_, Inj.add_self _ _ _, Inj.mark_self _ _ _, k3.trans n4, k4.trans n5, n1⟩
  refine Goes.mark g2 k2 hm1 hm2 hE ?_
  rw [k1]
  refine hrel.newTok hE rfl hb1 hb2 ?_ ?_ ?_
  · intro j hj
    have hj' : j < x * sz := hj
    have := hcell (vs.length + j) (by omega)
    rw [← Nat.add_assoc] at this
    exact this
  · intro loc b1 v1 d e1 e2
    show loc - b1 + d < o + vs.length
    rw [n2] at e1
    rcases layL_get _ _ _ _ _ _ e1 with ⟨i, y, q1, q2, q3⟩ | q
    · cases q3
      rw [Inj.add_self] at e2
      cases e2
      have := (List.getElem?_eq_some_iff.1 q2).1
      omega
    · obtain ⟨b2, d2, _, _, g7, _⟩ := hr.cell _ _ _ q
      by_cases hb : b1 = s.next
      · rw [hb, (hf s.next (Nat.le_refl _) (by omega)).1] at g7; cases g7
      · rw [Inj.add_other _ hb] at e2
        have := hno _ _ _ _ q e2
        omega
  · intro t2 s3 k2 e1 e2
    rw [n2] at e1
    rcases layL_get _ _ _ _ _ _ e1 with ⟨i, y, q1, q2, q3⟩ | q
    · cases q3
    · exact htk _ _ _ q e2
end
end Go.Proofs.YtkgncjlgmnbfoaaGreatDoor.Am
namespace Go.Proofs.YtkgncjlgmnbfoaaGreatDoor.Am
open Go.RowKit

section
variable {w0 w : World} {r : Inj} {mem : T Cell}
theorem Rel.setFree (h : Rel w0 r mem w) {bb p : Nat} (hb1 : w0.heap.size ≤ bb) (hc : (w.cell? ⟨bb, p, none⟩).isSome = true)
    (hno : ∀ loc b v d, T.get mem loc = some (.C b v) → r.blk b = some (bb, d) → loc - b + d ≠ p)
    (htk : ∀ t2 s2 k2, T.get mem t2 = some (.O (.tok false s2)) → r.ext t2 = some k2 → k2.b ≠ bb) (u : Value) : Rel w0 r mem (w.setCell ⟨bb, p, none⟩ u) := by
  refine ⟨h.below.setCell hb1 _, fun x y z e => by rw [World.size_setCell]; exact h.dom x y z e, ?_, h.sep, ?_, h.sepO, ?_, h.sepT, h.known, fun l n e => let ⟨p, q⟩ := h.szs l n e; ⟨p, q.to (Inj.le_refl r) fun b' _ q2 => q2.setCell _ _⟩, h.olds⟩
  · intro loc b1 v1 e
    obtain ⟨b2, d2, v2, g1, g2, g3, g4, g5⟩ := h.cell _ _ _ e
    refine ⟨b2, d2, v2, g1, g2, ?_, g4, by rw [World.frozen?_setCell]; exact g5⟩
    rw [World.cell?_setCell_other w]
    · exact g3
    · intro heq
      simp only [Addr.mk.injEq, and_true] at heq
      obtain ⟨q1, q2⟩ := heq
      subst q1
      exact hno _ _ _ _ e g2 q2.symm
  · intro loc ob e ht
    obtain ⟨b2, d2, o', g1, g2, g3⟩ := h.obj _ _ e ht
    refine ⟨b2, d2, o', g1, ?_, g3⟩
    rw [setCell_block_other]
    · exact g2
    · intro heq
      have heq' : b2 = bb := heq
      subst heq'
      cases o' with
      | cells c t f => exact g3.cells
      | _ => simp [World.cell?, g2] at hc
  · intro t sz e
    obtain ⟨k, g1, g2, g3, g4, g5, g6⟩ := h.tok _ _ e
    refine ⟨k, g1, g2, g3, by rw [World.size_setCell]; exact g4, ?_, g6⟩
    intro j hj
    obtain ⟨x, q1, q2⟩ := g5 j hj
    refine ⟨x, ?_, by rw [World.frozen?_setCell]; exact q2⟩
    rw [World.cell?_setCell_other w]
    · exact q1
    · intro heq
      simp only [Addr.mk.injEq, and_true] at heq
      exact htk _ _ _ e g1 heq.1.symm
theorem Rel.setFrees {bb : Nat} (hb1 : w0.heap.size ≤ bb) (htk : ∀ t2 s2 k2, T.get mem t2 = some (.O (.tok false s2)) → r.ext t2 = some k2 → k2.b ≠ bb) : ∀ (vs : List Value) (p : Nat) {w : World}, Rel w0 r mem w →
    (∀ j, j < vs.length → (w.cell? ⟨bb, p + j, none⟩).isSome = true) → (∀ loc b v d, T.get mem loc = some (.C b v) → r.blk b = some (bb, d) → loc - b + d < p) → Rel w0 r mem (w.setCells bb p vs)
  | [], _, _, h, _, _ => h
  | v :: vs, p, w, h, hc, hno => by
    have h1 := h.setFree hb1 (hc 0 (by simp)) (fun loc b v d e1 e2 => by have := hno _ _ _ _ e1 e2; omega) htk v
    refine Rel.setFrees hb1 htk vs (p + 1) h1 (fun j hj => ?_) (fun loc b v d e1 e2 => by have := hno _ _ _ _ e1 e2; omega)
    rw [World.cell?_setCell_other _ _ _ _ (by simp; omega)]
    have := hc (j + 1) (by simp; omega)
    rwa [show p + (j + 1) = p + 1 + j by omega] at this
end

/-- What an append is to append. -/
def SrcOK (P : Program) (w : World) (u2 : TypeDesc) (x : Value) (n size bytes : Nat) (z : Value) (news : List Value) : Prop :=
  (isIntD u2 = false ∧ (Builtin.lenOf x).run P w = .ok n w ∧ ∀ w1, (w1 = w ∨ w1 = w.drew) → (Builtin.firstCells size n x).run P w1 = .ok news.toArray w1) ∨
  (isIntD u2 = true ∧ x = .int .i64 n ∧ n ≤ 16777216 ∧ n * bytes ≤ 16777216 ∧ ((n * size = 0 ∧ news = []) ∨ (n * size ≠ 0 ∧ news.toArray = Builtin.zeroCells z.cells n)))

section
variable {P : Program} {w w' : World} {t t2 e : TypeId} {u2 : TypeDesc} {i : TypeInfo} {z : Value} {ts : Array TypeId} {ty : TypeId} {len c n : Nat} {x : Value} {news : List Value}
theorem wrap_small {n : Nat} (h : n ≤ 16777216) : IntKind.i64.wrap (n : Int) = n := by rw [IntKind.wrap_i64]; omega
theorem notInt {u : TypeDesc} (h : isIntD u = false) : ∀ k, u = .int k → False := by
  intro k e
  subst e
  cases h
theorem isInt {u : TypeDesc} (h : isIntD u = true) : ∃ k, u = .int k := by
  unfold isIntD at h
  split at h
  · exact ⟨_, rfl⟩
  · cases h
theorem run_app_room (hts0 : ts[0]? = some t) (hts1 : ts[1]? = some t2) (ht : P.underlying t = some (.slice e)) (ht2 : P.underlying t2 = some u2) (hi : P.info? e = some i) (hz : i.zero = some z)
    (hs : SrcOK P w u2 x n i.size i.bytes z news) {a : Addr} (hroom : len + n ≤ c) (hst : (storeCells (a.add (len * i.size)) news).run P w = .ok () w') :
    (Builtin.append_ ts ty #[.slice (some a) len c, x]).run P w = .ok (.slice (some a) (len + n) c) w' := by
  rcases hs with ⟨h1, h2, h3⟩ | ⟨h1, rfl, h2, h3, h4⟩
  · have h3 := h3 w (.inl rfl)
    have hne := notInt h1
    simp [Builtin.append_, hts0, hts1, run_underlying ht, run_underlying ht2, sizeOf, typeInfo, hi, h2, h3, hroom, hst]
  · obtain ⟨k, rfl⟩ := isInt h1
    have hw := wrap_small h2
    have h7 : ¬ ((n : Int) < 0) := by omega
    have h6 : ¬ (281474976710656 < (n : Int) * (i.bytes : Int)) := by
      have : (n : Int) * (i.bytes : Int) = ((n * i.bytes : Nat) : Int) := by rw [Int.natCast_mul]
      omega
    rcases h4 with ⟨h4, rfl⟩ | ⟨h4, h5⟩
    · simp [Builtin.append_, hts0, hts1, run_underlying ht, run_underlying ht2, sizeOf, typeInfo, hi, hroom, hst, asInt, asIntOf, hw, h6, h7, h4]
    · simp [Builtin.append_, hts0, hts1, run_underlying ht, run_underlying ht2, sizeOf, typeInfo, zeroValue, hi, hz, hroom, hst, asInt, asIntOf, hw, h6, h7, h4, ← h5]
theorem run_app_none (hts0 : ts[0]? = some t) (hts1 : ts[1]? = some t2) (ht : P.underlying t = some (.slice e)) (ht2 : P.underlying t2 = some u2) (hi : P.info? e = some i)
    (hs : SrcOK P w u2 x 0 i.size i.bytes z news) :
    (Builtin.append_ ts ty #[.slice none 0 0, x]).run P w = .ok (.slice none 0 0) w := by
  rcases hs with ⟨h1, h2, h3⟩ | ⟨h1, rfl, h2, h3, h4⟩
  · have h3 := h3 w (.inl rfl)
    have hne := notInt h1
    simp [Builtin.append_, hts0, hts1, run_underlying ht, run_underlying ht2, sizeOf, typeInfo, hi, h2, h3]
  · obtain ⟨k, rfl⟩ := isInt h1
    have hw0 : IntKind.i64.wrap 0 = 0 := by rw [IntKind.wrap_i64]; omega
    simp [Builtin.append_, hts0, hts1, run_underlying ht, run_underlying ht2, sizeOf, typeInfo, hi, asInt, asIntOf, hw0]
theorem run_app_grow (hts0 : ts[0]? = some t) (hts1 : ts[1]? = some t2) (ht : P.underlying t = some (.slice e)) (ht2 : P.underlying t2 = some u2) (hi : P.info? e = some i) (hz : i.zero = some z)
    (hs : SrcOK P w u2 x n i.size i.bytes z news) {base : Option Addr} {olds : List Value} (hold : (Builtin.firstCells i.size len (.slice base len c)).run P w.drew = .ok olds.toArray w.drew) (hg : c < len + n) (hb : (len + n) * (i.bytes + 1) ≤ 16777216) :
    (Builtin.append_ ts ty #[.slice base len c, x]).run P w =
      .ok (.slice (some ⟨w.heap.size, 0, none⟩) (len + n) (grownCap w (len + n) c e)) (w.drew.alloc (.cells (olds.toArray ++ news.toArray ++ (Builtin.zeroCells z.cells (grownCap w (len + n) c e - (len + n)))) e)) := by
  have hm : (len + n) * (i.bytes + 1) = (len + n) * i.bytes + (len + n) := Nat.mul_succ _ _
  have hn : ¬ (len + n ≤ c) := by omega
  have h63' : ¬ (9223372036854775807 < ((len : Int) + (n : Int))) := by omega
  have h48' : ¬ (281474976710656 < Builtin.nextslicecap (len + n) c * i.bytes) := by
    have := growslice_fits (bytes := i.bytes) hg (by omega)
    omega
  generalize hA : olds.toArray = A at hold ⊢
  rcases hs with ⟨h1, h2, h3⟩ | ⟨h1, rfl, h2, h3, h4⟩
  · have h3 := h3 w.drew (.inr rfl)
    generalize news.toArray = B at h3 ⊢
    have hne := notInt h1
    simp [Builtin.append_, hts0, hts1, run_underlying ht, run_underlying ht2, sizeOf, typeInfo, zeroValue, hi, hz, h2, h3, hn, h63', h48', Question.forced, hold, newRow, grownCap]
  · obtain ⟨k, rfl⟩ := isInt h1
    have hw := wrap_small h2
    have h7 : ¬ ((n : Int) < 0) := by omega
    have h6 : ¬ (281474976710656 < (n : Int) * (i.bytes : Int)) := by
      have : (n : Int) * (i.bytes : Int) = ((n * i.bytes : Nat) : Int) := by rw [Int.natCast_mul]
      omega
    rcases h4 with ⟨h4, rfl⟩ | ⟨h4, h5⟩
    · simp [Builtin.append_, hts0, hts1, run_underlying ht, run_underlying ht2, sizeOf, typeInfo, zeroValue, hi, hz, hn, h63', h48', Question.forced, hold, newRow, grownCap, asInt, asIntOf, hw, h6, h7, h4]
    · rw [h5]
      simp [Builtin.append_, hts0, hts1, run_underlying ht, run_underlying ht2, sizeOf, typeInfo, zeroValue, hi, hz, hn, h63', h48', Question.forced, hold, newRow, grownCap, asInt, asIntOf, hw, h6, h7, h4]
end
end Go.Proofs.YtkgncjlgmnbfoaaGreatDoor.Am
namespace Go.Proofs.YtkgncjlgmnbfoaaGreatDoor.Am
open Go.RowKit

section
variable {E : Env} {w0 w : World} {r : Inj} {t : Nat}
theorem srcL_ok2 {size k : Nat} {x x' : Value} {l : List Value} {s s' : St} (h : srcL size x k s = .some l s') (hr : Rel w0 r s.mem w) (hx : VR r x x') (hk : ∀ b o c, x = .slice b o c → k ≤ o) :
    ∃ l' : List Value, (∀ w1 : World, (∀ a, w1.cell? a = w.cell? a) → (Builtin.firstCells size k x').run E.P w1 = .ok l'.toArray w1) ∧ VRs r l l' ∧ Same s s' := by
  unfold srcL at h
  split at h
  · rename_i a n c
    rcases hx.sl_inv with ⟨a2, c2, rfl, ha2, hc, _⟩ | ⟨rfl, _, _, a2, c2, rfl⟩
    · obtain ⟨l', g1, g2, g3, g4⟩ := rdL_ok _ h hr ha2
      refine ⟨l', fun w1 hw => ?_, g3, g4⟩
      have hrun := run_loadCells_list (P := E.P) w1 a2 l' (fun j v e => by rw [hw]; exact g2 j v e)
      rw [g1] at hrun
      simpa [Builtin.firstCells] using hrun
    · have hk0 : k = 0 := Nat.le_zero.1 (hk _ _ _ rfl)
      subst hk0
      rw [Nat.zero_mul] at h
      obtain ⟨rfl, rfl⟩ := pure_some h
      exact ⟨[], fun w1 _ => by simp [Builtin.firstCells, loadCells, loadCellsFrom], .nil, .refl _⟩
  · obtain ⟨rfl, rfl⟩ := pure_some h
    cases hx
    exact ⟨[], fun w1 _ => by simp [Builtin.firstCells], .nil, .refl _⟩
  · rename_i st
    obtain ⟨rfl, rfl⟩ := pure_some h
    cases hx
    refine ⟨bytesV (st.data.toList.take k), fun w1 _ => ?_, bytesV_VRs _, .refl _⟩
    simp only [Builtin.firstCells, Sem.run_pure]
    congr 1
    apply Array.ext'
    simp [bytesV, Array.toList_extract]
  · cases h
theorem appN_some {zs : Bool} {by' : Nat} {x : Value} {n : Nat} {s s1 : St} (h : appN zs by' x s = .some n s1) :
    s = s1 ∧ ((zs = false ∧ ((∃ b c, x = .slice b n c) ∨ ∃ st, x = .string st ∧ n = st.size)) ∨ (zs = true ∧ x = .int .i64 n ∧ n * (by' + 1) ≤ 16777216)) := by
  unfold appN at h
  split at h
  · obtain ⟨rfl, rfl⟩ := pure_some h
    exact ⟨rfl, .inl ⟨rfl, .inl ⟨_, _, rfl⟩⟩⟩
  · obtain ⟨rfl, rfl⟩ := pure_some h
    exact ⟨rfl, .inl ⟨rfl, .inr ⟨_, rfl, rfl⟩⟩⟩
  · obtain ⟨h3, h4⟩ := chk_some h
    obtain ⟨rfl, rfl⟩ := pure_some h4
    exact ⟨rfl, .inr ⟨rfl, rfl, Nat.le_of_ble_eq_true h3⟩⟩
  · cases h
theorem src_ok {e : Nat} {ie : TI} {u2 : TypeDesc} {x x' : Value} {n : Nat} {news : List Value} {s s1 s2 : St} (h1 : appN (isIntD u2) ie.bytes x s = .some n s1) (h2 : appL (isIntD u2) ie x n s1 = .some news s2) (hr : Rel w0 r s.mem w) (hx : VR r x x')
    (hie : TyOK E.P e ie) {z : Value} (hz : z.cells.toList = ie.zero) : Same s s2 ∧ (n = 0 → news = []) ∧ ∃ news', VRs r news news' ∧ SrcOK E.P w u2 x' n ie.size ie.bytes z news' := by
  unfold appL at h2
  rw [if_eq] at h2
  obtain ⟨rfl, ⟨hq', hx1⟩ | ⟨hq, rfl, h5⟩⟩ := appN_some h1
  · rw [hq', if_neg (by simp)] at h2
    have hk : ∀ b o c, x = .slice b o c → n ≤ o := by
      intro b o c e1
      rcases hx1 with ⟨b1, c1, e2⟩ | ⟨st, e2, _⟩
      · rw [e2] at e1; cases e1; exact Nat.le_refl _
      · rw [e2] at e1; cases e1
    obtain ⟨l', g1, g2, g3⟩ := srcL_ok2 (E := E) h2 hr hx hk
    refine ⟨g3, fun h => by rw [h] at h2; exact (srcL_zero h2).1, l', g2, .inl ⟨hq', ?_, ?_⟩⟩
    · rcases hx1 with ⟨b1, c1, rfl⟩ | ⟨st, rfl, rfl⟩
      · cases hx <;> simp [Builtin.lenOf]
      · cases hx
        simp [Builtin.lenOf]
    · intro w1 hw1
      refine g1 w1 fun a => ?_
      rcases hw1 with rfl | rfl
      · rfl
      · simp
  · rw [hq, if_pos rfl] at h2
    obtain ⟨rfl, rfl⟩ := pure_some h2
    have h6 : n * (ie.bytes + 1) = n * ie.bytes + n := Nat.mul_succ _ _
    cases hx
    refine ⟨.refl _, fun h => by rw [h]; rfl, rep n ie.zero, plain_VRs (rep_VRs hie.pl n), .inr ⟨hq, rfl, by omega, by omega, ?_⟩⟩
    have hzs : z.cells.size = ie.size := by rw [← Array.length_toList, hz, hie.len]
    by_cases h0 : n * ie.size = 0
    · exact .inl ⟨h0, List.eq_nil_of_length_eq_zero (by rw [rep_length, hie.len, h0])⟩
    · refine .inr ⟨h0, ?_⟩
      apply Array.ext'
      have hpos : 0 < z.cells.size := by rw [hzs]; exact Nat.pos_of_ne_zero fun q => h0 (by rw [q, Nat.mul_zero])
      rw [← hz]
      exact (rep_eq z.cells n hpos).symm

theorem letGo_some : ∀ (n l : Nat) {s s' : St} {u : Unit}, letGo n l s = .some u s' →
    (∀ loc c, T.get s'.mem loc = some c → T.get s.mem loc = some c ∧ ¬ (l ≤ loc ∧ loc < l + n)) ∧ s'.next = s.next ∧ s'.lim = s.lim ∧ s'.cx = s.cx
  | 0, l, s, s', u, h => by
    obtain ⟨_, rfl⟩ := pure_some h
    exact ⟨fun loc c e => ⟨e, by omega⟩, rfl, rfl, rfl⟩
  | n + 1, l, s, s', u, h => by
    have h0 : letGo (n + 1) l = M.bind (delC l) fun _ => letGo n (l + 1) := rfl
    rw [h0] at h
    obtain ⟨u1, s1, h1, h2⟩ := bind_some h
    obtain ⟨g1, g2, g3, g4⟩ := delC_some h1
    obtain ⟨k1, k2, k3, k4⟩ := letGo_some n (l + 1) h2
    refine ⟨fun loc c e => ?_, k2.trans g2, k3.trans g3, k4.trans g4⟩
    obtain ⟨q1, q2⟩ := k1 loc c e
    rw [g1, T.get_del] at q1
    split at q1
    · cases q1
    · exact ⟨q1, by omega⟩

variable {ts : Array TypeId} {ty : TypeId} {t2 e : Nat} {u2 : TypeDesc} {ni : TypeInfo} {z x' : Value} {n len c : Nat} {news news' : List Value} {base : Option Addr} {y' v : Value} {s s' : St}
theorem add_zero' (a : Addr) : a.add 0 = a := by simp [Addr.add]
theorem inRoom_ok (hts0 : ts[0]? = some t) (hts1 : ts[1]? = some t2) (ht : E.P.underlying t = some (.slice e)) (ht2 : E.P.underlying t2 = some u2) (hi : E.P.info? e = some ni) (hz : ni.zero = some z)
    (hs : SrcOK E.P w u2 x' n ni.size ni.bytes z news') (hn : VRs r news news') (hn0 : n = 0 → news = []) (hv : VR r (.slice base len c) y') (h : inRoom ni.size base len c n news s = .some v s') (hle : len + n ≤ c % capU) (hr : Rel w0 r s.mem w) :
    Yields E w0 r s s' v w (Builtin.append_ ts ty #[y', x']) := by
  unfold inRoom at h
  split at h
  · rename_i a
    obtain ⟨u, s1, h1, h2⟩ := bind_some h
    obtain ⟨rfl, rfl⟩ := pSl_some h2
    rcases hv.sl_inv with ⟨a2, c2, rfl, ha2, hc, hlen⟩ | ⟨rfl, q1, q2, a2, c2, rfl⟩
    · have hle2 : c % capU ≤ c2 := by
        rcases hc with ⟨e1, rfl⟩ | ⟨_, k, _, _, e2, _⟩
        · exact Nat.mod_le _ _
        · omega
      have ha3 : AR r (addA a (len * ni.size)) ((a2.add (len * ni.size)).add 0) := by rw [add_zero']; exact ha2.add _
      obtain ⟨w', k1, k2, k3, k4, k5⟩ := wrL_ok (P := E.P) _ _ 0 h1 hr ha3 hn
      exact ⟨_, w', r, run_app_room hts0 hts1 ht ht2 hi hz hs (by omega) k1, .of_rel k3 k2, .slice ha2 hc hle, k4, k5⟩
    · have hn1 : n = 0 := by omega
      have := hn0 hn1
      subst this
      subst hn1
      have := hn.inv_nil
      subst this
      obtain ⟨_, rfl⟩ := pure_some h1
      exact .pure (run_app_room (len := 0) hts0 hts1 ht ht2 hi hz hs (Nat.zero_le _) rfl) hr (.slEnd q1 q2)
  · obtain ⟨rfl, rfl⟩ := pure_some h
    cases hv
    have hn1 : n = 0 := by
      have : 0 % capU = 0 := Nat.zero_mod _
      omega
    subst hn1
    exact .pure (run_app_none hts0 hts1 ht ht2 hi hs) hr .slNil
end
end Go.Proofs.YtkgncjlgmnbfoaaGreatDoor.Am
namespace Go.Proofs.YtkgncjlgmnbfoaaGreatDoor.Am
open Go.RowKit

section
variable {E : Env} {w0 w : World} {r : Inj} {t : Nat}
theorem enc {q need : Nat} (h : need < capU) : (capU * q + need) / capU = q ∧ (capU * q + need) % capU = need := by
  have hp := capU_pos
  constructor
  · rw [Nat.mul_add_div hp, Nat.div_eq_of_lt h]; rfl
  · rw [Nat.mul_add_mod, Nat.mod_eq_of_lt h]
theorem enc2 {m sz : Nat} (h : sz < 1024) : (m * 1024 + sz) / 1024 = m ∧ (m * 1024 + sz) % 1024 = sz := by omega
theorem finCap {r' : Inj} {b bb o m need size x cap' : Nat} (h1 : r'.blk b = some (bb, o)) (h2 : r'.ext m = some ⟨x, bb, o + need * size, size⟩) (hs0 : 0 < size) (hs1 : size < 1024) (hn : need < capU) (hc : cap' = need + x) :
    VR r' (.slice (some ⟨b, 0, none⟩) need (capU * (m * 1024 + size) + need)) (.slice (some ⟨bb, o, none⟩) need cap') := by
  obtain ⟨e1, e2⟩ := enc (q := m * 1024 + size) hn
  obtain ⟨e3, e4⟩ := enc2 (m := m) hs1
  have := VR.sl (r := r') (b := b) (o := 0) (b' := bb) (d := o) (l := need) (c := capU * (m * 1024 + size) + need) (c' := cap') h1 (.inr ⟨by rw [e1]; omega, _, by rw [e1, e3]; exact h2, by rw [e1, e4], by rw [e2]; exact hc, rfl, by rw [e2]; show 0 + o + need * size = o + need * size; omega⟩) (by rw [e2]; exact Nat.le_refl _)
  rw [Nat.zero_add] at this
  exact this
theorem finNew {vs vs' : List Value} {s2 s3 s4 s5 : St} {b need size e cap' : Nat} {u : Unit} {v : Value} {zs : Array Value} (hr : Rel w0 r s2.mem w) (hn : newL vs s2 = .some b s3) (hw : wrC (b + need * size) (.O (.tok false size)) s3 = .some u s4)
    (hp : pSl ⟨b, 0, none⟩ need (capU * ((b + need * size) * 1024 + size) + need) s4 = .some v s5) (hf : Fresh r s2.next s5.next) (hv : VRs r vs vs') (hlen : vs.length = need * size) (hs0 : 0 < size) (hs1 : size < 1024) (hnu : need < capU) (hcap : need ≤ cap')
    (hzs : zs.size = (cap' - need) * size) : ∃ r', Goes w0 r s2 s5 r' (w.drew.alloc (.cells (vs'.toArray ++ zs) e)) ∧ VR r' v (.slice (some ⟨w.heap.size, 0, none⟩) need cap') ∧ s5.lim = s2.lim ∧ s5.cx = s2.cx := by
  obtain ⟨rfl, rfl⟩ := pSl_some hp
  have hbn := (newL_some hn).1
  obtain ⟨r', g1, g2, g3, g4, g5, rfl⟩ := growNew_ok (w := w.drew) (m := b + need * size) (x := cap' - need) hr.drew hn hw (by rw [hbn, hlen]) hf hv (c := vs'.toArray ++ zs) e
    (fun i v h => by
      have hi := (List.getElem?_eq_some_iff.1 h).1
      rw [Array.getElem?_append_left (by simpa using hi)]
      simpa using h)
    (by simp [hzs])
  refine ⟨r', g1, ?_, g4, g5⟩
  refine finCap (x := cap' - need) g2 ?_ hs0 hs1 hnu (by omega)
  rw [hlen] at g3
  rw [Nat.zero_add]
  exact g3
theorem finIn {vs vs' : List Value} {s2 s3 s4 s5 : St} {b need size cap' bb o : Nat} {u : Unit} {v : Value} (hr : Rel w0 r s2.mem w) (hn : newL vs s2 = .some b s3) (hw : wrC (b + need * size) (.O (.tok false size)) s3 = .some u s4)
    (hp : pSl ⟨b, 0, none⟩ need (capU * ((b + need * size) * 1024 + size) + need) s4 = .some v s5) (hf : Fresh r s2.next s5.next) (hv : VRs r vs vs') (hlen : vs.length = need * size) (hs0 : 0 < size) (hs1 : size < 1024) (hnu : need < capU) (hcap : need ≤ cap')
    (hb1 : w0.heap.size ≤ bb) (hb2 : bb < w.heap.size) (hvs : ∀ (i : Nat) (v : Value), vs'[i]? = some v → w.cell? ⟨bb, o + i, none⟩ = some v)
    (hcell : ∀ j, j < cap' * size → ∃ v', w.cell? ⟨bb, o + j, none⟩ = some v' ∧ w.frozen? ⟨bb, o + j, none⟩ = false)
    (hno : ∀ loc b v d, T.get s2.mem loc = some (.C b v) → r.blk b = some (bb, d) → loc - b + d < o)
    (htk : ∀ t2 sz k2, T.get s2.mem t2 = some (.O (.tok false sz)) → r.ext t2 = some k2 → k2.b ≠ bb) :
    ∃ r', Goes w0 r s2 s5 r' w ∧ VR r' v (.slice (some ⟨bb, o, none⟩) need cap') ∧ s5.lim = s2.lim ∧ s5.cx = s2.cx := by
  obtain ⟨rfl, rfl⟩ := pSl_some hp
  have hbn := (newL_some hn).1
  have hmul : need * size + (cap' - need) * size = cap' * size := by rw [← Nat.add_mul]; congr 1; omega
  obtain ⟨r', g1, g2, g3, g4, g5, rfl⟩ := growIn_ok (m := b + need * size) (x := cap' - need) hr hn hw (by rw [hbn, hlen]) hf hv hb1 hb2 hvs (fun j hj => hcell j (by omega)) hno htk
  refine ⟨r', g1, ?_, g4, g5⟩
  refine finCap (x := cap' - need) g2 ?_ hs0 hs1 hnu (by omega)
  rw [hlen] at g3
  exact g3
theorem useUp_some {size lb tok : Nat} {base : Option Addr} {s s' : St} {u : Unit} (h : useUp size base lb tok s = .some u s') : (tok = 0 ∧ s = s') ∨ (tok ≠ 0 ∧ T.get s.mem (tok / 1024) = some (.O (.tok false size)) ∧ tok % 1024 = size ∧ s'.next = s.next ∧ s'.lim = s.lim ∧ s'.cx = s.cx ∧
    ∀ loc c, T.get s'.mem loc = some c → ((loc = tok / 1024 ∧ c = .O (.tok true size)) ∨ (loc ≠ tok / 1024 ∧ T.get s.mem loc = some c)) ∧ (∀ a, base = some a → ¬ (a.block + a.off ≤ loc ∧ loc < a.block + a.off + lb * size))) := by
  unfold useUp at h
  rw [if_eq] at h
  by_cases h0 : Nat.beq tok 0 = true
  · rw [if_pos h0] at h
    obtain ⟨_, rfl⟩ := pure_some h
    exact .inl ⟨Nat.eq_of_beq_eq_true h0, rfl⟩
  · rw [if_neg h0] at h
    have hne : tok ≠ 0 := fun e => h0 (by rw [e]; rfl)
    obtain ⟨c, s1, h1, h2⟩ := bind_some h
    obtain ⟨g1, g2⟩ := rdC_some h1
    split at h2
    · rename_i sz
      obtain ⟨h3, h4⟩ := chk_some h2
      rw [Bool.and_eq_true] at h3
      have e1 : sz = size := Nat.eq_of_beq_eq_true h3.1
      have e2 : tok % 1024 = size := Nat.eq_of_beq_eq_true h3.2
      subst e1
      obtain ⟨u1, s2, h5, h6⟩ := bind_some h4
      obtain ⟨k1, k2, k3, k4⟩ := wrC_some h5
      have set : ∀ loc c, T.get s2.mem loc = some c → ((loc = tok / 1024 ∧ c = .O (.tok true sz)) ∨ (loc ≠ tok / 1024 ∧ T.get s.mem loc = some c)) := by
        intro loc c e
        rw [k1, T.get_set, g2.1] at e
        split at e
        · cases e; exact .inl ⟨by assumption, rfl⟩
        · exact .inr ⟨by assumption, e⟩
      refine .inr ⟨hne, g1, e2, ?_⟩
      unfold goOld at h6
      split at h6
      · rename_i a
        obtain ⟨q1, q2, q3, q4⟩ := letGo_some _ _ h6
        refine ⟨q2.trans (k2.trans g2.2.1), q3.trans (k3.trans g2.2.2.1), q4.trans (k4.trans g2.2.2.2), fun loc c e => ?_⟩
        obtain ⟨x1, x2⟩ := q1 loc c e
        exact ⟨set _ _ x1, fun a' ea => by cases ea; exact x2⟩
      · obtain ⟨_, rfl⟩ := pure_some h6
        exact ⟨k2.trans g2.2.1, k3.trans g2.2.2.1, k4.trans g2.2.2.2, fun loc c e => ⟨set _ _ e, fun a' ea => by cases ea⟩⟩
    · cases h2
variable {ts : Array TypeId} {ty : TypeId} {t2 e : Nat} {u2 : TypeDesc} {ni : TypeInfo} {z x' : Value} {n len c : Nat} {news news' : List Value} {base : Option Addr} {y' v : Value} {s s' : St}
theorem oneCell_eq (v : Value) : v.oneCell' = oneCell v := by cases v <;> rfl
theorem rdL_mem : ∀ (n : Nat) {a : Addr} {s s' : St} {l : List Value}, rdL n a s = .some l s' → ∀ j, j < n → ∃ v, T.get s.mem (a.block + a.off + j) = some (.C a.block v) ∨ T.get s.mem (a.block + a.off + j) = some (.O (.old a.block v))
  | 0, _, _, _, _, _, j, hj => absurd hj (Nat.not_lt_zero _)
  | n + 1, a, s, s', l, h, j, hj => by
    have h0 : rdL (n + 1) a = fA a fun a => M.bind (rdV a) fun v => M.bind (rdL n ⟨a.block, Nat.succ a.off, a.spot⟩) fun l => M.pure (v :: l) := rfl
    rw [h0, fA_eq] at h
    obtain ⟨v, s1, h1, h2⟩ := bind_some h
    obtain ⟨l1, s2, h3, h4⟩ := bind_some h2
    obtain ⟨_, g1, g2⟩ := rdV_some h1
    cases j with
    | zero => exact ⟨v, g1⟩
    | succ j =>
      obtain ⟨v1, q⟩ := rdL_mem n h3 j (by omega)
      rw [g2.1] at q
      refine ⟨v1, ?_⟩
      have e : a.block + a.off + (j + 1) = a.block + Nat.succ a.off + j := by omega
      rw [e]
      exact q
theorem drew_heap (w : World) : w.drew.heap.size = w.heap.size := rfl
theorem grow_ok (hts0 : ts[0]? = some t) (hts1 : ts[1]? = some t2) (ht : E.P.underlying t = some (.slice e)) (ht2 : E.P.underlying t2 = some u2) (hi : E.P.info? e = some ni) (hz : ni.zero = some z) (hzs : z.cells.size = ni.size)
    (hs : SrcOK E.P w u2 x' n ni.size ni.bytes z news') (hn : VRs r news news') (hv : VR r (.slice base len c) y') (h : grow ni.size ni.bytes base len c n news s = .some v s') (hle : ¬ (len + n ≤ c % capU)) (hr : Rel w0 r s.mem w) (hf : Fresh r s.next s'.next) :
    Yields E w0 r s s' v w (Builtin.append_ ts ty #[y', x']) := by
  unfold grow at h
  obtain ⟨hc, h⟩ := chk_some h
  simp only [Bool.and_eq_true, Bool.or_eq_true] at hc
  obtain ⟨⟨⟨⟨⟨c1, c2⟩, c3⟩, c4⟩, c5⟩, c6⟩ := hc
  have hb := Nat.le_of_ble_eq_true c1
  have hs0 : 0 < ni.size := blt_lt c2
  have hs1 : ni.size < 1024 := blt_lt c3
  have hnl : news.length = n * ni.size := Nat.eq_of_beq_eq_true c5
  have hmul : (len + n) * (ni.bytes + 1) = (len + n) * ni.bytes + (len + n) := Nat.mul_succ _ _
  have hnu : len + n < capU := by unfold capU; omega
  obtain ⟨old, s1, h1, h⟩ := bind_some h
  obtain ⟨u, s2, h2, h⟩ := bind_some h
  obtain ⟨b, s3, h3, h⟩ := bind_some h
  rw [fN_eq] at h
  obtain ⟨u4, s4, h4, h5⟩ := bind_some h
  change newL (old.take (len * ni.size) ++ news) s2 = _ at h3
  change wrC (b + (len + n) * ni.size) _ s3 = _ at h4
  change pSl ⟨b, 0, none⟩ (len + n) (capU * ((b + (len + n) * ni.size) * 1024 + ni.size) + (len + n)) s4 = _ at h5
  have fin : ∀ {olds : List Value} {base' : Option Addr} {c' : Nat} {r0 : Inj}, y' = .slice base' len c' → VRs r (old.take (len * ni.size)) olds → olds.length = len * ni.size → (Builtin.firstCells ni.size len (.slice base' len c')).run E.P w.drew = .ok olds.toArray w.drew →
      c' < len + n → Rel w0 r s2.mem w → s2.next = s.next → s2.lim = s.lim → s2.cx = s.cx → Yields E w0 r s s' v w (Builtin.append_ ts ty #[y', x']) := by
    intro olds base' c' _ hy ho hol hrun hg hr2 e1 e2 e3
    subst hy
    have hv' : VRs r (old.take (len * ni.size) ++ news) (olds ++ news') := ho.append hn
    have hge := grownCap_ge w (len + n) c' e
    obtain ⟨r', g1, g2, g3, g4⟩ := finNew (e := e) (cap' := grownCap w (len + n) c' e) (zs := Builtin.zeroCells z.cells (grownCap w (len + n) c' e - (len + n))) hr2 h3 h4 h5 (by rw [e1]; exact hf) hv'
      (by rw [List.length_append, ho.1, hol, hnl, ← Nat.add_mul]) hs0 hs1 hnu hge (by rw [size_zeroCells, hzs])
    refine ⟨_, _, r', ?_, ⟨g1.le, by rw [← e1]; exact g1.nxt, fun b h => by rw [← e1]; exact g1.domB b h, fun b h => by rw [← e1]; exact g1.domE b h, g1.rel⟩, g2, g3.trans e2, g4.trans e3⟩
    rw [run_app_grow hts0 hts1 ht ht2 hi hz hs hrun hg hb]
    congr 3
    simp
  by_cases hq : c / capU = 0
  · -- the room is known
    have hK : oldL ni.size base len s = .some old s1 := by
      have : Nat.beq (Nat.div c capU) 0 = true := by
        have e : Nat.div c capU = 0 := hq
        rw [e]; rfl
      rw [this] at h1
      exact h1
    have hcc := cap_div0 hq
    rcases useUp_some h2 with ⟨_, rfl⟩ | ⟨e1, _⟩
    · unfold oldL at hK
      split at hK
      · rename_i a
        rcases hv.sl_inv with ⟨a2, c2, rfl, ha2, hc, hlen⟩ | ⟨_, q1, _⟩
        · rcases hc with ⟨_, rfl⟩ | ⟨q1, _⟩
          · obtain ⟨l', g1, g2, g3, g4⟩ := rdL_ok _ hK hr ha2
            have hol : old.length = len * ni.size := by rw [g3.1, g1]
            have hrun := run_loadCells_list (P := E.P) w.drew a2 l' (fun j v e => by have := g2 j v e; simpa using this)
            rw [g1] at hrun
            exact fin (r0 := r) rfl (by rw [← hol, List.take_length]; exact g3) g1 (by simpa [Builtin.firstCells] using hrun) (by omega) (by rw [g4.1]; exact hr) g4.2.1 g4.2.2.1 g4.2.2.2
          · exact absurd hq q1
        · exact absurd hq q1
      · obtain ⟨rfl, rfl⟩ := pure_some hK
        cases hv
        exact fin (r0 := r) (olds := []) rfl (by simpa using VRs.nil) (by simp) (by simp [Builtin.firstCells]) (by omega) hr rfl rfl rfl
    · exact absurd hq e1
  · -- the room may be more than is known
    have h1' : oldL ni.size base (c % capU) s = .some old s1 := by
      have : Nat.beq (Nat.div c capU) 0 = false := by
        cases e : Nat.beq (Nat.div c capU) 0 with
        | true => exact absurd (Nat.eq_of_beq_eq_true e) hq
        | false => rfl
      rw [this] at h1
      exact h1
    have hlb : 0 < c % capU := by
      rcases c4 with c4 | c4
      · exact blt_lt c4
      · have : c = 0 := Nat.eq_of_beq_eq_true c4
        rw [this, Nat.zero_div] at hq
        exact absurd rfl hq
    rcases useUp_some h2 with ⟨e1, _⟩ | ⟨_, u1, uu2, u3, uu4, u5, u6⟩
    · exact absurd e1 hq
    · cases base with
      | none =>
        cases hv
        exact absurd (Nat.zero_div _) hq
      | some a =>
        rcases hv.sl_inv with ⟨a2, cc, rfl, ha2, hc, hlen⟩ | ⟨_, _, q2, _⟩
        · rcases hc with ⟨e1, _⟩ | ⟨_, k, k1, k2, k3, k4, k5⟩
          · exact absurd e1 hq
          · have hsz : k.sz = ni.size := k2.trans uu2
            have h1'' : rdL (c % capU * ni.size) a s = .some old s1 := h1'
            obtain ⟨l', g1, g2, g3, g4⟩ := rdL_ok _ h1'' hr ha2
            have hmem0 := rdL_mem _ h1''
            change T.get s1.mem (c / capU / 1024) = _ at u1
            rw [g4.1] at u1
            obtain ⟨k', t1, t2', t3, t4, t5, t6⟩ := hr.tok _ _ u1
            rw [k1] at t1
            cases t1
            have hr2 : Rel w0 r s2.mem w := hr.lessTok fun loc c e => by
              rcases (u6 loc c e).1 with ⟨_, h⟩ | ⟨_, h⟩
              · exact .inr ⟨_, h, by omega⟩
              · rw [g4.1] at h; exact .inl h
            have hlm : len * ni.size ≤ c % capU * ni.size := Nat.mul_le_mul_right _ hlen
            have hol : (l'.take (len * ni.size)).length = len * ni.size := by rw [List.length_take, g1]; omega
            have hrun := run_loadCells_list (P := E.P) w.drew a2 (l'.take (len * ni.size)) (fun j v e => by
              rw [List.getElem?_take] at e
              split at e
              · have := g2 j v e; simpa using this
              · cases e)
            rw [hol] at hrun
            by_cases hroom : len + n ≤ cc
            · obtain ⟨b0, o0, bb, d, rfl, rfl, hblk⟩ := ha2
              subst k4
              have hmem : ∀ j, j < c % capU * ni.size → ∃ v, T.get s.mem (b0 + o0 + j) = some (.C b0 v) := fun j hj => by
                obtain ⟨v, q⟩ := hmem0 j hj
                rcases q with q | q
                · exact ⟨v, q⟩
                · exact absurd (hr.oldLt q hblk) (Nat.not_lt_of_le t3)
              have hcell : ∀ j, j < cc * ni.size → ∃ v', w.cell? ⟨k.b, o0 + d + j, none⟩ = some v' ∧ w.frozen? ⟨k.b, o0 + d + j, none⟩ = false := by
                intro j hj
                by_cases hj1 : j < c % capU * ni.size
                · obtain ⟨v1, q⟩ := hmem j hj1
                  change T.get s.mem (b0 + o0 + j) = some (.C b0 v1) at q
                  rw [Nat.add_assoc] at q
                  obtain ⟨v', q1, _, q3⟩ := hr.load q hblk
                  rw [show o0 + d + j = o0 + j + d by omega]
                  exact ⟨v', q1, q3⟩
                · have hcm : cc * ni.size = c % capU * ni.size + k.e * ni.size := by rw [k3, Nat.add_mul]
                  have := t5 (j - c % capU * ni.size) (by omega)
                  rw [hsz] at k5
                  change o0 + d + _ = _ at k5
                  rw [← k5, show o0 + d + c % capU * ni.size + (j - c % capU * ni.size) = o0 + d + j by omega] at this
                  exact this
              have hnl' : news'.length = n * ni.size := by rw [← hn.1]; exact hnl
              have hcm2 : (len + n) * ni.size ≤ cc * ni.size := Nat.mul_le_mul_right _ hroom
              rw [Nat.add_mul] at hcm2
              have hcell2 : ∀ j, j < news'.length → ∃ v', w.cell? ⟨k.b, o0 + d + len * ni.size + j, none⟩ = some v' ∧ w.frozen? ⟨k.b, o0 + d + len * ni.size + j, none⟩ = false := by
                intro j hj
                have := hcell (len * ni.size + j) (by omega)
                rw [← Nat.add_assoc] at this
                exact this
              have hst : (storeCells ((⟨k.b, o0 + d, none⟩ : Addr).add (len * ni.size)) news').run E.P w = .ok () (w.setCells k.b (o0 + d + len * ni.size) news') := by
                rw [addr_add]
                refine run_storeCells_cells k.b _ news' 0 w (fun j hj => ?_) (fun j hj => ?_) (fun v hv => ?_)
                · obtain ⟨v', q, _⟩ := hcell2 j hj; rw [Nat.add_zero, q]; rfl
                · obtain ⟨v', _, q⟩ := hcell2 j hj; rw [Nat.add_zero]; exact q
                · rw [oneCell_eq]
                  obtain ⟨i, hi, rfl⟩ := List.getElem_of_mem hv
                  have hi' : i < news.length := by rw [hn.1]; exact hi
                  have := hn.2 i _ _ (List.getElem?_eq_getElem hi') (List.getElem?_eq_getElem hi)
                  rw [this.oneCell]
                  exact List.all_eq_true.1 c6 _ (List.getElem_mem hi')
              have hno : ∀ loc b v d', T.get s2.mem loc = some (.C b v) → r.blk b = some (k.b, d') → loc - b + d' < o0 + d := by
                intro loc b v d' e1 e2
                obtain ⟨x1, x2⟩ := u6 loc _ e1
                have x3 := x2 _ rfl
                rcases x1 with ⟨_, x1⟩ | ⟨_, x1⟩
                · cases x1
                · rw [g4.1] at x1
                  have q := t6 _ _ _ _ x1 e2
                  rw [hsz] at k5
                  change o0 + d + _ = _ at k5
                  rcases Nat.lt_or_ge (loc - b + d') (o0 + d) with q2 | q2
                  · exact q2
                  · exfalso
                    obtain ⟨v1, q3⟩ := hmem (loc - b + d' - (o0 + d)) (by omega)
                    change T.get s.mem (b0 + o0 + _) = some (.C b0 v1) at q3
                    have q4 := hr.sep _ _ _ _ _ _ _ _ _ x1 q3 e2 hblk (by omega)
                    apply x3
                    change b0 + o0 ≤ loc ∧ loc < b0 + o0 + c % capU * ni.size
                    omega
              have htk : ∀ t2 sz k2, T.get s2.mem t2 = some (.O (.tok false sz)) → r.ext t2 = some k2 → k2.b ≠ k.b := by
                intro t2 sz k2' e1 e2 heq
                rcases (u6 t2 _ e1).1 with ⟨_, x1⟩ | ⟨x0, x1⟩
                · cases x1
                · rw [g4.1] at x1
                  exact x0 (hr.sepT _ _ _ _ _ _ x1 u1 e2 k1 heq)
              have hr3 : Rel w0 r s2.mem (w.setCells k.b (o0 + d + len * ni.size) news') := hr2.setFrees t3 htk news' _ (fun j hj => by obtain ⟨v', q, _⟩ := hcell2 j hj; rw [q]; rfl) (fun loc b v d' e1 e2 => by have := hno _ _ _ _ e1 e2; omega)
              have hin := World.cell?_setCells_in k.b news' (o0 + d + len * ni.size) w (fun j hj => by obtain ⟨v', q, _⟩ := hcell2 j hj; rw [q]; rfl)
              have hout : ∀ p, p < o0 + d + len * ni.size ∨ o0 + d + len * ni.size + news'.length ≤ p → (w.setCells k.b (o0 + d + len * ni.size) news').cell? ⟨k.b, p, none⟩ = w.cell? ⟨k.b, p, none⟩ := fun p hp => World.cell?_setCells_out k.b news' _ w ⟨k.b, p, none⟩ fun _ _ => hp
              obtain ⟨r', f1, f2, f3, f4⟩ := finIn (cap' := cc) (bb := k.b) (o := o0 + d) hr3 h3 h4 h5 (by rw [u3, g4.2.1]; exact hf) ((g3.take (len * ni.size)).append hn) (by rw [List.length_append, (g3.take (len * ni.size)).1, hol, hnl, ← Nat.add_mul]) hs0 hs1 hnu hroom t3
                (by have := hr3.dom _ _ _ hblk; exact this.2) (fun i v e => by
                  rw [List.getElem?_append] at e
                  split at e
                  · rename_i hi
                    rw [hol] at hi
                    rw [hout _ (.inl (by omega))]
                    rw [List.getElem?_take, if_pos hi] at e
                    have := g2 i v e
                    rw [addr_add] at this
                    exact this
                  · rename_i hi
                    rw [hol] at e hi
                    obtain ⟨hi2, rfl⟩ := List.getElem?_eq_some_iff.1 e
                    have := hin _ hi2
                    rw [show o0 + d + len * ni.size + (i - len * ni.size) = o0 + d + i by omega] at this
                    exact this) (fun j hj => by
                  obtain ⟨v', q1, q2⟩ := hcell j hj
                  by_cases hj2 : o0 + d + j < o0 + d + len * ni.size ∨ o0 + d + len * ni.size + news'.length ≤ o0 + d + j
                  · exact ⟨v', by rw [hout _ hj2]; exact q1, by rw [World.frozen?_setCells]; exact q2⟩
                  · have hj3 : j - len * ni.size < news'.length := by omega
                    have := hin _ hj3
                    rw [show o0 + d + len * ni.size + (j - len * ni.size) = o0 + d + j by omega] at this
                    exact ⟨_, this, by rw [World.frozen?_setCells]; exact q2⟩) hno htk
              have e1 : s2.next = s.next := u3.trans g4.2.1
              exact ⟨_, _, r', run_app_room hts0 hts1 ht ht2 hi hz hs hroom hst, ⟨f1.le, by rw [← e1]; exact f1.nxt, fun b h => by rw [← e1]; exact f1.domB b h, fun b h => by rw [← e1]; exact f1.domE b h, f1.rel⟩, f2, f3.trans (uu4.trans g4.2.2.1), f4.trans (u5.trans g4.2.2.2)⟩
            · exact fin (r0 := r) rfl (g3.take _) hol (by simpa [Builtin.firstCells] using hrun) (by omega) hr2 (u3.trans g4.2.1) (uu4.trans g4.2.2.1) (u5.trans g4.2.2.2)
        · omega
end
end Go.Proofs.YtkgncjlgmnbfoaaGreatDoor.Am
namespace Go.Proofs.YtkgncjlgmnbfoaaGreatDoor.Am
open Go.RowKit

section
variable {E : Env} {w0 w : World} {r : Inj} {t t2 : Nat}
theorem Yields.before {s s1 s' : St} {v : Value} {m : Sem Value} (hs : Same s s1) (h : Yields E w0 r s1 s' v w m) : Yields E w0 r s s' v w m := by
  obtain ⟨v', w', r', h1, h2, h3, h4, h5⟩ := h
  exact ⟨v', w', r', h1, ⟨h2.le, by rw [← hs.2.1]; exact h2.nxt, fun b h => by rw [← hs.2.1]; exact h2.domB b h, fun b h => by rw [← hs.2.1]; exact h2.domE b h, h2.rel⟩, h3, h4.trans hs.2.2.1, h5.trans hs.2.2.2⟩
theorem aAppend_ok {ts : Array TypeId} {ty : TypeId} {x x' y y' v : Value} {s s' : St} (hts0 : ts[0]? = some t) (hts1 : ts[1]? = some t2) (he : EnvTy E) (h : aAppend E t t2 y x s = .some v s') (hr : Rel w0 r s.mem w) (hf : Fresh r s.next s'.next) (hy : VR r y y') (hx : VR r x x') :
    Yields E w0 r s s' v w (Builtin.append_ ts ty #[y', x']) := by
  obtain ⟨i, s1, h1, h2⟩ := bind_some h
  obtain ⟨hi, rfl⟩ := ti_some h1 he
  obtain ⟨i2, s1, h3, h4⟩ := bind_some h2
  obtain ⟨hi2, rfl⟩ := ti_some h3 he
  have ht := hi.und
  have ht2 := hi2.und
  generalize i.u = u at h4 ht
  split at h4
  · rename_i e base len c
    obtain ⟨ie, s1, h5, h6⟩ := bind_some h4
    obtain ⟨hie, rfl⟩ := ti_some h5 he
    obtain ⟨n, s1, h7, h8⟩ := bind_some h6
    obtain ⟨news, s2, h9, h10⟩ := bind_some h8
    obtain ⟨ni, q1, q2, q3, z, q4, q5⟩ := hie.info
    obtain ⟨g1, g2, news', g3, g4⟩ := src_ok (E := E) h7 h9 hr hx hie q5
    have hzs : z.cells.size = ni.size := by rw [← Array.length_toList, q5, hie.len, q2]
    rw [← q2, ← q3] at g4
    rw [if_eq] at h10
    have hr2 : Rel w0 r s2.mem w := by rw [g1.1]; exact hr
    refine Yields.before g1 ?_
    by_cases hle : Nat.ble (Nat.add len n) (Nat.mod c capU) = true
    · rw [if_pos hle, ← q2] at h10
      exact inRoom_ok hts0 hts1 ht ht2 q1 q4 g4 g3 g2 hy h10 (Nat.le_of_ble_eq_true hle) hr2
    · rw [if_neg hle, ← q2, ← q3] at h10
      exact grow_ok hts0 hts1 ht ht2 q1 q4 hzs g4 g3 hy h10 (fun hh => hle (Nat.ble_eq_true_of_le hh)) hr2 (by rw [g1.2.1]; exact hf)
  · cases h4
end
end Go.Proofs.YtkgncjlgmnbfoaaGreatDoor.Am
