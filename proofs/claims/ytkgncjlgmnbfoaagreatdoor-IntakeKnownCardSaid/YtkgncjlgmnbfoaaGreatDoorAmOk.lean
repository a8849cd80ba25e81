/- The evaluator's touches of memory, each against the model's own. -/
import Derived.Test.YtkgncjlgmnbfoaaGreatDoorAmMem
namespace Go.Proofs.YtkgncjlgmnbfoaaGreatDoor.Am
open Go.RowKit

/-- Addresses that are one. -/
def AR (r : Inj) (a a' : Addr) : Prop := ∃ b o b' d, a = ⟨b, o, none⟩ ∧ a' = ⟨b', o + d, none⟩ ∧ r.blk b = some (b', d)
theorem AR.mono {r r' : Inj} (h : r.le r') {a a' : Addr} (k : AR r a a') : AR r' a a' := let ⟨b, o, b', d, h1, h2, h3⟩ := k; ⟨b, o, b', d, h1, h2, h.1 _ _ h3⟩
theorem AR.ptr {r : Inj} {a a' : Addr} (k : AR r a a') : VR r (.pointer (some a)) (.pointer (some a')) := by obtain ⟨b, o, b', d, rfl, rfl, h3⟩ := k; exact .ptr h3
theorem VR.ptr_inv {r : Inj} {a : Addr} {v' : Value} (h : VR r (.pointer (some a)) v') : ∃ a', v' = .pointer (some a') ∧ AR r a a' := by
  cases h with
  | ptr e => exact ⟨_, rfl, _, _, _, _, rfl, rfl, e⟩
theorem addr_add (b o n : Nat) : (⟨b, o, none⟩ : Addr).add n = ⟨b, o + n, none⟩ := by
  unfold Addr.add
  split
  · rename_i h; rw [h]; rfl
  · rfl
theorem AR.add {r : Inj} {a a' : Addr} (k : AR r a a') (n : Nat) : AR r (addA a n) (a'.add n) := by
  obtain ⟨b, o, b', d, rfl, rfl, h3⟩ := k
  exact ⟨b, o + n, b', d, rfl, by rw [addr_add]; congr 1; omega, h3⟩
theorem addA_eq {r : Inj} {a a' : Addr} (k : AR r a a') (n : Nat) : addA a n = a.add n := by
  obtain ⟨b, o, b', d, rfl, rfl, h3⟩ := k
  rw [addr_add]; rfl

/-- Nothing but what was noted has turned. -/
def Same (s s' : St) : Prop := s'.mem = s.mem ∧ s'.next = s.next ∧ s'.lim = s.lim ∧ s'.cx = s.cx
theorem Same.refl (s : St) : Same s s := ⟨rfl, rfl, rfl, rfl⟩
theorem Same.trans {a b c : St} (h : Same a b) (k : Same b c) : Same a c := ⟨k.1.trans h.1, k.2.1.trans h.2.1, k.2.2.1.trans h.2.2.1, k.2.2.2.trans h.2.2.2⟩

theorem rdC_some {loc : Nat} {s s' : St} {c : Cell} (h : rdC loc s = .some c s') : T.get s.mem loc = some c ∧ Same s s' := by
  obtain ⟨mem, next, lim, rd, wr, cx⟩ := s
  unfold rdC at h
  simp only at h
  cases hb : Nat.blt loc next with
  | false => rw [hb] at h; cases h
  | true =>
    rw [hb] at h
    cases e : T.get mem loc with
    | none => rw [e] at h; cases h
    | some c1 => rw [e] at h; cases h; exact ⟨rfl, rfl, rfl, rfl, rfl⟩
theorem wrC_some {loc : Nat} {c : Cell} {s s' : St} {u : Unit} (h : wrC loc c s = .some u s') : s'.mem = T.set s.mem loc c ∧ s'.next = s.next ∧ s'.lim = s.lim ∧ s'.cx = s.cx := by
  obtain ⟨mem, next, lim, rd, wr, cx⟩ := s
  unfold wrC at h
  obtain ⟨v, l, r, e⟩ := T.set_N mem loc c
  simp only [e] at h
  cases hb : Nat.blt loc next with
  | false => rw [hb] at h; cases h
  | true => rw [hb] at h; cases h; exact ⟨e.symm, rfl, rfl, rfl⟩
theorem delC_some {loc : Nat} {s s' : St} {u : Unit} (h : delC loc s = .some u s') : s'.mem = T.del s.mem loc ∧ s'.next = s.next ∧ s'.lim = s.lim ∧ s'.cx = s.cx := by
  obtain ⟨mem, next, lim, rd, wr, cx⟩ := s
  unfold delC at h
  simp only at h
  cases hb : Nat.blt loc next with
  | false => rw [hb] at h; cases h
  | true => rw [hb] at h; cases h; exact ⟨rfl, rfl, rfl, rfl⟩
theorem cellV_some {b : Nat} {c : Cell} {v : Value} (h : cellV b c = some v) : c = .C b v ∨ c = .O (.old b v) := by
  cases c with
  | C blk x =>
    unfold cellV at h
    simp only at h
    cases e : Nat.beq blk b with
    | false => rw [e] at h; cases h
    | true => rw [e] at h; cases h; rw [Nat.eq_of_beq_eq_true e]; exact .inl rfl
  | O o =>
    have h' : oldV b o = some v := h
    unfold oldV at h'
    split at h'
    · rename_i blk x
      cases e : Nat.beq blk b with
      | false => rw [e] at h'; cases h'
      | true => rw [e] at h'; cases h'; rw [Nat.eq_of_beq_eq_true e]; exact .inr rfl
    · cases h'
theorem rdV_some {a : Addr} {s s' : St} {v : Value} (h : rdV a s = .some v s') : a.spot = none ∧ (T.get s.mem (a.block + a.off) = some (.C a.block v) ∨ T.get s.mem (a.block + a.off) = some (.O (.old a.block v))) ∧ Same s s' := by
  obtain ⟨b, o, sp⟩ := a
  cases sp with
  | some x => cases h
  | none =>
    obtain ⟨c, s1, h1, h2⟩ := bind_some h
    obtain ⟨h3, h4⟩ := rdC_some h1
    obtain ⟨h5, rfl⟩ := ofOpt_some h2
    refine ⟨rfl, ?_, h4⟩
    rcases cellV_some h5 with q | q
    · rw [q] at h3; exact .inl h3
    · rw [q] at h3; exact .inr h3
theorem wrV_some {a : Addr} {v : Value} {s s' : St} {u : Unit} (h : wrV a v s = .some u s') :
    a.spot = none ∧ (∃ x, T.get s.mem (a.block + a.off) = some (.C a.block x)) ∧ oneCell v = true ∧ s'.mem = T.set s.mem (a.block + a.off) (.C a.block v) ∧ s'.next = s.next ∧ s'.lim = s.lim ∧ s'.cx = s.cx := by
  obtain ⟨b, o, sp⟩ := a
  cases sp with
  | some x => cases h
  | none =>
    obtain ⟨c, s1, h1, h2⟩ := bind_some h
    obtain ⟨h3, h4⟩ := rdC_some h1
    obtain ⟨h5, h6⟩ := chk_some h2
    obtain ⟨h7, h8, h9, h10⟩ := wrC_some h6
    rw [Bool.and_eq_true] at h5
    refine ⟨rfl, ?_, h5.2, by rw [h7, h4.1]; rfl, h8.trans h4.2.1, h9.trans h4.2.2.1, h10.trans h4.2.2.2⟩
    cases c with
    | C blk x =>
      have : blk = b := Nat.eq_of_beq_eq_true h5.1
      rw [this] at h3
      exact ⟨x, h3⟩
    | O o => cases h5.1

/-- Between two states, on the side of the world: more is known of where things lie, what is new being numbered from the first 'next' on. -/
structure Goes (w0 : World) (r : Inj) (s s' : St) (r' : Inj) (w' : World) : Prop where
  le : r.le r'
  nxt : s.next ≤ s'.next
  domB : ∀ b, r'.blk b ≠ none → r.blk b ≠ none ∨ (s.next ≤ b ∧ b < s'.next)
  domE : ∀ b, r'.ext b ≠ none → r.ext b ≠ none ∨ (s.next ≤ b ∧ b < s'.next)
  rel : Rel w0 r' s'.mem w'
/-- The numbers to come are free. -/
def Fresh (r : Inj) (lo hi : Nat) : Prop := ∀ b, lo ≤ b → b < hi → r.blk b = none ∧ r.ext b = none
theorem Goes.fresh {w0 : World} {r r' : Inj} {s s' : St} {w' : World} {hi : Nat} (h : Goes w0 r s s' r' w') (k : Fresh r s.next hi) : Fresh r' s'.next hi := by
  intro b h1 h2
  have h3 := k b (Nat.le_trans h.nxt h1) h2
  constructor
  · cases e : r'.blk b with
    | none => rfl
    | some x =>
      rcases h.domB b (by rw [e]; simp) with h4 | h4
      · exact absurd h3.1 h4
      · omega
  · cases e : r'.ext b with
    | none => rfl
    | some x =>
      rcases h.domE b (by rw [e]; simp) with h4 | h4
      · exact absurd h3.2 h4
      · omega
theorem Goes.trans {w0 : World} {r r1 r2 : Inj} {s s1 s2 : St} {w1 w2 : World} (h : Goes w0 r s s1 r1 w1) (k : Goes w0 r1 s1 s2 r2 w2) : Goes w0 r s s2 r2 w2 := by
  refine ⟨Inj.le_trans h.le k.le, Nat.le_trans h.nxt k.nxt, fun b hb => ?_, fun b hb => ?_, k.rel⟩
  · rcases k.domB b hb with h1 | h1
    · rcases h.domB b h1 with h2 | h2
      · exact .inl h2
      · exact .inr ⟨h2.1, Nat.lt_of_lt_of_le h2.2 k.nxt⟩
    · exact .inr ⟨Nat.le_trans h.nxt h1.1, h1.2⟩
  · rcases k.domE b hb with h1 | h1
    · rcases h.domE b h1 with h2 | h2
      · exact .inl h2
      · exact .inr ⟨h2.1, Nat.lt_of_lt_of_le h2.2 k.nxt⟩
    · exact .inr ⟨Nat.le_trans h.nxt h1.1, h1.2⟩
theorem Goes.of_rel {w0 : World} {r : Inj} {s s' : St} {w' : World} (hn : s'.next = s.next) (h : Rel w0 r s'.mem w') : Goes w0 r s s' r w' :=
  ⟨Inj.le_refl r, Nat.le_of_eq hn.symm, fun _ h => .inl h, fun _ h => .inl h, h⟩
theorem Goes.same {w0 : World} {r : Inj} {s s' : St} {w : World} (hs : Same s s') (h : Rel w0 r s.mem w) : Goes w0 r s s' r w := .of_rel hs.2.1 (by rw [hs.1]; exact h)

section
variable {P : Program} {w0 w : World} {r : Inj}

theorem run_load_cell {a : Addr} {v : Value} (h : w.cell? a = some v) : (load a).run P w = .ok v w := by simp [load, Sem.run, h]
theorem run_store_cell {a : Addr} {v u : Value} (h : w.cell? a = some u) (hf : w.frozen? a = false) (ho : oneCell v = true) : (store a v).run P w = .ok () (w.setCell a v) := by
  cases v <;> simp [oneCell] at ho <;> simp [store, Sem.run, h, hf]
theorem VR.oneCell {v v' : Value} (h : VR r v v') : oneCell v' = oneCell v := by cases h <;> first | rfl | exact TopR.one (by assumption)

theorem rdV_ok {a a' : Addr} {s s' : St} {v : Value} (h : rdV a s = .some v s') (hr : Rel w0 r s.mem w) (ha : AR r a a') :
    ∃ v', w.cell? a' = some v' ∧ VR r v v' ∧ Same s s' := by
  obtain ⟨b, o, b', d, rfl, rfl, h3⟩ := ha
  obtain ⟨_, h1, h2⟩ := rdV_some h
  rcases h1 with h1 | h1
  · obtain ⟨v', g1, g2, _⟩ := hr.load h1 h3
    exact ⟨v', g1, g2, h2⟩
  · obtain ⟨v', g1, g2⟩ := hr.loadOld h1 h3
    exact ⟨v', g1, g2, h2⟩
theorem wrV_ok {a a' : Addr} {s s' : St} {v v' : Value} {u : Unit} (h : wrV a v s = .some u s') (hr : Rel w0 r s.mem w) (ha : AR r a a') (hv : VR r v v') :
    (store a' v').run P w = .ok () (w.setCell a' v') ∧ Rel w0 r s'.mem (w.setCell a' v') ∧ s'.next = s.next ∧ s'.lim = s.lim ∧ s'.cx = s.cx ∧ (w.cell? a').isSome = true ∧ w.frozen? a' = false := by
  obtain ⟨b, o, b', d, rfl, rfl, h3⟩ := ha
  obtain ⟨_, ⟨x, h1⟩, h2, h4, h5, h6, h7⟩ := wrV_some h
  obtain ⟨x', g1, g2, g3⟩ := hr.load h1 h3
  refine ⟨run_store_cell g1 g3 (by rw [hv.oneCell]; exact h2), ?_, h5, h6, h7, by rw [g1]; rfl, g3⟩
  rw [h4]
  exact hr.store h1 h3 hv

theorem rdL_ok : ∀ (n : Nat) {a a' : Addr} {s s' : St} {l : List Value}, rdL n a s = .some l s' → Rel w0 r s.mem w → AR r a a' →
    ∃ l' : List Value, l'.length = n ∧ (∀ (j : Nat) v, l'[j]? = some v → w.cell? (a'.add j) = some v) ∧ VRs r l l' ∧ Same s s'
  | 0, a, a', s, s', l, h, hr, ha => by
    obtain ⟨rfl, rfl⟩ := pure_some h
    exact ⟨[], rfl, fun j v e => by simp at e, .nil, .refl _⟩
  | n + 1, a, a', s, s', l, h, hr, ha => by
    have h0 : rdL (n + 1) a = fA a fun a => M.bind (rdV a) fun v => M.bind (rdL n ⟨a.block, Nat.succ a.off, a.spot⟩) fun l => M.pure (v :: l) := rfl
    rw [h0, fA_eq] at h
    obtain ⟨v, s1, h1, h2⟩ := bind_some h
    obtain ⟨l1, s2, h3, h4⟩ := bind_some h2
    obtain ⟨rfl, rfl⟩ := pure_some h4
    obtain ⟨v', g1, g2, g3⟩ := rdV_ok h1 hr ha
    have ha1 : AR r (addA a 1) (a'.add 1) := ha.add 1
    obtain ⟨l', q1, q2, q3, q4⟩ := rdL_ok n (a := addA a 1) (a' := a'.add 1) h3 (by rw [g3.1]; exact hr) ha1
    refine ⟨v' :: l', by simp [q1], ?_, .cons g2 q3, g3.trans q4⟩
    intro j x e
    obtain ⟨b, o, b', d, rfl, rfl, e3⟩ := ha
    cases j with
    | zero => simp at e; subst e; rw [addr_add]; exact g1
    | succ j =>
      have := q2 j x (by simpa using e)
      rw [addr_add, addr_add] at this
      rw [addr_add, show o + d + (j + 1) = o + d + 1 + j by omega]
      exact this
end
theorem wrL_ok {P : Program} {w0 : World} {r : Inj} : ∀ (l l' : List Value) {w : World} {a a' : Addr} {s s' : St} {u : Unit} (i : Nat), wrL l a s = .some u s' → Rel w0 r s.mem w → AR r a (a'.add i) → VRs r l l' →
    ∃ w', (storeCells a' l' i).run P w = .ok () w' ∧ Rel w0 r s'.mem w' ∧ s'.next = s.next ∧ s'.lim = s.lim ∧ s'.cx = s.cx
  | [], l', w, a, a', s, s', u, i, h, hr, ha, hv => by
    obtain ⟨_, rfl⟩ := pure_some h
    rw [hv.inv_nil]
    exact ⟨w, rfl, hr, rfl, rfl, rfl⟩
  | v :: l, m, w, a, a', s, s', u, i, h, hr, ha, hv => by
    obtain ⟨v', l', rfl, hv1, hv2⟩ := hv.inv
    have h0 : wrL (v :: l) a = fA a fun a => M.bind (wrV a v) fun _ => wrL l ⟨a.block, Nat.succ a.off, a.spot⟩ := rfl
    rw [h0, fA_eq] at h
    obtain ⟨u1, s1, h1, h2⟩ := bind_some h
    obtain ⟨g1, g2, g3, g4, g5, _⟩ := wrV_ok (P := P) h1 hr ha hv1
    have ha1 : AR r (addA a 1) (a'.add (i + 1)) := by
      have := ha.add 1
      have e : (a'.add i).add 1 = a'.add (i + 1) := by
        obtain ⟨b, o, b', d, _, e2, _⟩ := ha
        by_cases hi : i = 0
        · subst hi
          unfold Addr.add
          simp
        · unfold Addr.add at e2 ⊢
          rw [if_neg hi] at e2 ⊢
          simp at e2 ⊢
          omega
      rw [e] at this
      exact this
    obtain ⟨w', q1, q2, q3, q4, q5⟩ := wrL_ok (P := P) l l' (i + 1) (a := addA a 1) h2 g2 ha1 hv2
    refine ⟨w', ?_, q2, q3.trans g3, q4.trans g4, q5.trans g5⟩
    simp only [storeCells, Sem.run_bind, g1, Result.andThen_ok, q1]

theorem layL_get (b : Nat) : ∀ (vs : List Value) (loc : Nat) (t : T Cell) (k : Nat) (x : Cell), T.get (layL b vs loc t) k = some x →
    (∃ i v, k = loc + i ∧ vs[i]? = some v ∧ x = .C b v) ∨ T.get t k = some x
  | [], _, _, _, _, h => .inr h
  | v :: vs, loc, t, k, x, h => by
    have h0 : layL b (v :: vs) loc t = fN loc fun loc => layL b vs (Nat.succ loc) (T.set t loc (.C b v)) := rfl
    rw [h0, fN_eq] at h
    rcases layL_get b vs _ _ _ _ h with ⟨i, y, h1, h2, h3⟩ | h1
    · exact .inl ⟨i + 1, y, by omega, by simpa using h2, h3⟩
    · rw [T.get_set] at h1
      split at h1
      · rename_i hk
        cases h1
        exact .inl ⟨0, v, by omega, by simp, rfl⟩
      · exact .inr h1
theorem newL_some {vs : List Value} {s s' : St} {b : Nat} (h : newL vs s = .some b s') : b = s.next ∧ s'.mem = layL s.next vs s.next s.mem ∧ s'.next = s.next + vs.length + 1 ∧ s'.lim = s.lim ∧ s'.cx = s.cx := by
  obtain ⟨mem, next, lim, rd, wr, cx⟩ := s
  have h0 : newL vs ⟨mem, next, lim, rd, wr, cx⟩ = fN next fun b => fN (Nat.succ (Nat.add b vs.length)) fun n => R.some b (St.mk (layL b vs b mem) n lim rd wr cx) := rfl
  rw [h0, fN_eq, fN_eq] at h
  cases h
  exact ⟨rfl, rfl, rfl, rfl, rfl⟩
theorem newO_some {o : AObj} {s s' : St} {b : Nat} (h : newO o s = .some b s') : b = s.next ∧ s'.mem = T.set s.mem s.next (.O o) ∧ s'.next = s.next + 1 ∧ s'.lim = s.lim ∧ s'.cx = s.cx := by
  obtain ⟨mem, next, lim, rd, wr, cx⟩ := s
  have h0 : newO o ⟨mem, next, lim, rd, wr, cx⟩ = fN next fun b => fN (Nat.succ b) fun n => R.some b (St.mk (T.set mem b (.O o)) n lim rd wr cx) := rfl
  rw [h0, fN_eq, fN_eq] at h
  cases h
  exact ⟨rfl, rfl, rfl, rfl, rfl⟩
theorem Goes.add {w0 : World} {r : Inj} {s s' : St} {w' : World} {x : Nat × Nat} (hb : r.blk s.next = none) (hn : s.next < s'.next) (h : Rel w0 (r.add s.next x) s'.mem w') : Goes w0 r s s' (r.add s.next x) w' := by
  refine ⟨Inj.add_le x hb, Nat.le_of_lt hn, fun b hb' => ?_, fun _ h => .inl h, h⟩
  by_cases e : b = s.next
  · exact .inr ⟨Nat.le_of_eq e.symm, by rw [e]; exact hn⟩
  · rw [Inj.add_other _ e] at hb'; exact .inl hb'
/-- A new block: its cells are these; behind them there may be more. -/
theorem newL_ok {w0 w : World} {r : Inj} {vs vs' : List Value} {s s' : St} {b : Nat} (h : newL vs s = .some b s') (hr : Rel w0 r s.mem w) (hf : Fresh r s.next s'.next) (hv : VRs r vs vs') {c : Array Value} (e : TypeId)
    (hc : ∀ (i : Nat) (v : Value), vs'[i]? = some v → c[i]? = some v) :
    b = s.next ∧ Goes w0 r s s' (r.add s.next (w.heap.size, 0)) (w.alloc (.cells c e)) ∧ AR (r.add s.next (w.heap.size, 0)) ⟨s.next, 0, none⟩ ⟨w.heap.size, 0, none⟩ ∧ s'.lim = s.lim ∧ s'.cx = s.cx := by
  obtain ⟨h1, h2, h3, h4, h5⟩ := newL_some h
  have hb := (hf s.next (Nat.le_refl _) (by omega)).1
  refine ⟨h1, Goes.add hb (by omega) ?_, ⟨s.next, 0, w.heap.size, 0, rfl, rfl, Inj.add_self _ _ _⟩, h4, h5⟩
  rw [h2]
  exact hr.newCells hb hv e hc (layL_get _ _ _ _)
end Go.Proofs.YtkgncjlgmnbfoaaGreatDoor.Am
