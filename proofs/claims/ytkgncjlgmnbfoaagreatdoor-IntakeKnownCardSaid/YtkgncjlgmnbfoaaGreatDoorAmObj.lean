/- Objects that are no rows of cells: loops over functions, lists of deferred calls. -/
import Derived.Test.YtkgncjlgmnbfoaaGreatDoorAmApp5
namespace Go.Proofs.YtkgncjlgmnbfoaaGreatDoor.Am
open Go.RowKit

section
variable {w0 w : World} {r : Inj} {mem : T Cell}
def World.setO (w : World) (b : Nat) (o : Obj) : World := { w with heap := w.heap.setIfInBounds b o }
theorem setO_size (b : Nat) (o : Obj) : (World.setO w b o).heap.size = w.heap.size := by simp [World.setO]
theorem setO_self {b : Nat} (h : b < w.heap.size) (o : Obj) : (World.setO w b o).heap[b]? = some o := by simp [World.setO, h]
theorem setO_other {b c : Nat} (h : c ≠ b) (o : Obj) : (World.setO w b o).heap[c]? = w.heap[c]? := by
  simp only [World.setO]
  exact Array.getElem?_setIfInBounds_ne (fun e => h e.symm)
theorem setO_cell {b : Nat} {o : Obj} (a : Addr) (h : a.block ≠ b) : (World.setO w b o).cell? a = w.cell? a := by
  unfold World.cell?
  rw [setO_other h]
theorem setO_frozen {b : Nat} {o : Obj} (a : Addr) (h : a.block ≠ b) : (World.setO w b o).frozen? a = w.frozen? a := by
  unfold World.frozen?
  rw [setO_other h]
theorem OR.not_cells {o : AObj} {o' : Obj} (h : OR r o o') {c : Array Value} {t : TypeId} {f : Nat × Nat} : o' ≠ .cells c t f := by
  intro e
  subst e
  exact h.cells
/-- An object is laid anew. -/
theorem Rel.storeO (h : Rel w0 r mem w) {l l' d : Nat} {o o2 : AObj} {o2' : Obj} (hc : T.get mem l = some (.O o)) (ht : o.isTok = false) (hb : r.blk l = some (l', d)) (ho : OR r o2 o2') (ht2 : o2.isTok = false) :
    Rel w0 r (T.set mem l (.O o2)) (World.setO w l' o2') := by
  obtain ⟨b1, d1, ow, g1, g2, g3⟩ := h.obj _ _ hc ht
  rw [hb] at g1
  cases g1
  have hlt := (h.dom _ _ _ hb).2
  have old : ∀ loc c, T.get (T.set mem l (.O o2)) loc = some c → (loc = l ∧ c = .O o2) ∨ (loc ≠ l ∧ T.get mem loc = some c) := by
    intro loc c e
    rw [T.get_set] at e
    split at e
    · cases e; exact .inl ⟨by assumption, rfl⟩
    · exact .inr ⟨by assumption, e⟩
  have oldC : ∀ loc b v, T.get (T.set mem l (.O o2)) loc = some (.C b v) → T.get mem loc = some (.C b v) := by
    intro loc b v e
    rcases old _ _ e with ⟨_, e⟩ | ⟨_, e⟩
    · cases e
    · exact e
  have oldT : ∀ loc u sz, T.get (T.set mem l (.O o2)) loc = some (.O (.tok u sz)) → T.get mem loc = some (.O (.tok u sz)) := by
    intro loc u sz e
    rcases old _ _ e with ⟨_, e⟩ | ⟨_, e⟩
    · cases e; cases ht2
    · exact e
  have anyO : ∀ loc o1, T.get (T.set mem l (.O o2)) loc = some (.O o1) → o1.isTok = false → ∃ o3, T.get mem loc = some (.O o3) ∧ o3.isTok = false := by
    intro loc o1 e t1
    rcases old _ _ e with ⟨e1, _⟩ | ⟨_, e⟩
    · rw [e1]; exact ⟨o, hc, ht⟩
    · exact ⟨o1, e, t1⟩
  have cellNe : ∀ b' off v, w.cell? ⟨b', off, none⟩ = some v → b' ≠ l' := by
    intro b' off v e hx
    subst hx
    unfold World.cell? at e
    rw [g2] at e
    cases ow with
    | cells c t f => exact g3.cells
    | _ => cases e
  have hnew := h.olds.newO _ _ _ _ hc ht hb
  refine ⟨?_, fun x y z e => by rw [setO_size]; exact h.dom x y z e, ?_, ?_, ?_, ?_, ?_, ?_, h.known, fun x n e => by
    obtain ⟨p, q⟩ := h.szs x n (oldT _ _ _ e)
    refine ⟨p, q.to (Inj.le_refl r) fun b' q1 q2 => ?_⟩
    have hne : b' ≠ l' := by
      intro hx
      subst hx
      obtain ⟨c, e, lo, hi, q3, _⟩ := q2
      rw [g2] at q3
      cases q3
      exact g3.cells
    exact q2.heap (setO_other hne _),
    h.oldsTo (Inj.le_refl r) fun loc c e => by
      rcases old _ _ e with ⟨e1, e⟩ | ⟨_, e⟩
      · exact .inr (.inr (.inr ⟨_, _, _, e, ht2, by rw [e1]; exact hb, hnew⟩))
      · exact .inl e⟩
  · have hlo := hnew
    exact h.below.trans ⟨rfl, rfl, rfl, by rw [setO_size]; exact Nat.le_refl _, fun k hk => setO_other (by omega) _⟩
  · intro loc b v e
    obtain ⟨b2, d2, v2, k1, k2, k3, k4, k5⟩ := h.cell _ _ _ (oldC _ _ _ e)
    have hne := cellNe _ _ _ k3
    exact ⟨b2, d2, v2, k1, k2, by rw [setO_cell _ hne]; exact k3, k4, by rw [setO_frozen _ hne]; exact k5⟩
  · intro l1 l2 b1 v1 b2 v2 bb d1 d2 e1 e2
    exact h.sep _ _ _ _ _ _ _ _ _ (oldC _ _ _ e1) (oldC _ _ _ e2)
  · intro loc ob e t1
    rcases old _ _ e with ⟨e1, e2⟩ | ⟨hne, e⟩
    · cases e2
      subst e1
      exact ⟨l', d, o2', hb, setO_self hlt _, ho⟩
    · obtain ⟨b2, d2, o', k1, k2, k3⟩ := h.obj _ _ e t1
      refine ⟨b2, d2, o', k1, ?_, k3⟩
      rw [setO_other]
      · exact k2
      · intro hx
        subst hx
        exact hne (h.sepO _ _ _ _ _ _ _ e hc t1 ht k1 hb)
  · intro l1 l2 o1 o3 bb d1 d2 e1 e2 t1 t2 r1 r2
    obtain ⟨p1, q1, q2⟩ := anyO _ _ e1 t1
    obtain ⟨p2, q3, q4⟩ := anyO _ _ e2 t2
    exact h.sepO _ _ _ _ _ _ _ q1 q3 q2 q4 r1 r2
  · intro t sz e
    obtain ⟨k, k1, k2, k3, k4, k5, k6⟩ := h.tok _ _ (oldT _ _ _ e)
    refine ⟨k, k1, k2, k3, by rw [setO_size]; exact k4, fun j hj => ?_, fun loc b v d e1 => k6 _ _ _ _ (oldC _ _ _ e1)⟩
    obtain ⟨v', p1, p2⟩ := k5 j hj
    have hne := cellNe _ _ _ p1
    exact ⟨v', by rw [setO_cell _ hne]; exact p1, by rw [setO_frozen _ hne]; exact p2⟩
  · intro t1 t2 s1 s2 k1 k2 e1 e2
    exact h.sepT _ _ _ _ _ _ (oldT _ _ _ e1) (oldT _ _ _ e2)
theorem alloc_self (w : World) (o : Obj) : (w.alloc o).heap[w.heap.size]? = some o := by
  show (w.heap.push o)[w.heap.size]? = some o
  rw [Array.getElem?_push, if_pos rfl]
/-- A new object. -/
theorem Rel.newObj (h : Rel w0 r mem w) {b : Nat} (hb : r.blk b = none) {o : AObj} {o' : Obj} (ht : o.isTok = false) (ho : OR r o o') :
    Rel w0 (r.add b (w.heap.size, 0)) (T.set mem b (.O o)) (w.alloc o') := by
  have hle := Inj.add_le (w.heap.size, 0) hb
  have old : ∀ loc c, T.get (T.set mem b (.O o)) loc = some c → (loc = b ∧ c = .O o) ∨ (loc ≠ b ∧ T.get mem loc = some c) := by
    intro loc c e
    rw [T.get_set] at e
    split at e
    · cases e; exact .inl ⟨by assumption, rfl⟩
    · exact .inr ⟨by assumption, e⟩
  have oldC : ∀ loc b1 v, T.get (T.set mem b (.O o)) loc = some (.C b1 v) → T.get mem loc = some (.C b1 v) := by
    intro loc b1 v e
    rcases old _ _ e with ⟨_, e⟩ | ⟨_, e⟩
    · cases e
    · exact e
  have oldT : ∀ loc u sz, T.get (T.set mem b (.O o)) loc = some (.O (.tok u sz)) → T.get mem loc = some (.O (.tok u sz)) := by
    intro loc u sz e
    rcases old _ _ e with ⟨_, e⟩ | ⟨_, e⟩
    · cases e; cases ht
    · exact e
  have notb : ∀ loc b1 v1, T.get mem loc = some (.C b1 v1) → b1 ≠ b := by
    intro loc b1 v1 e1 heq
    obtain ⟨b2, d2, _, _, g2, _⟩ := h.cell _ _ _ e1
    rw [heq, hb] at g2; cases g2
  have keepC : ∀ b1 o1, b1 < w.heap.size → (w.alloc o').cell? ⟨b1, o1, none⟩ = w.cell? ⟨b1, o1, none⟩ := fun b1 o1 k => World.cell?_alloc_past _ b1 o1 k
  have keepF : ∀ b1 o1, b1 < w.heap.size → (w.alloc o').frozen? ⟨b1, o1, none⟩ = w.frozen? ⟨b1, o1, none⟩ := fun b1 o1 k => World.frozen?_alloc_past _ b1 o1 k
  refine ⟨h.below.alloc h.below.size _, ?_, ?_, ?_, ?_, ?_, ?_, ?_, h.known, fun l n e1 => let ⟨p, q⟩ := h.szs l n (oldT _ _ _ e1); ⟨p, q.to hle fun b' q1 q2 => q2.heap (Below.heap_alloc w _ _ (h.dom _ _ _ q1).2)⟩,
    h.oldsTo hle fun loc c e => by
      rcases old _ _ e with ⟨e1, e⟩ | ⟨_, e⟩
      · exact .inr (.inr (.inr ⟨_, _, _, e, ht, by rw [e1]; exact Inj.add_self _ _ _, h.below.size⟩))
      · exact .inl e⟩
  · intro x b' d e1
    rw [World.size_alloc]
    by_cases hx : x = b
    · rw [hx, Inj.add_self] at e1
      cases e1
      exact ⟨Nat.le_succ_of_le h.below.size, Nat.lt_succ_self _⟩
    · rw [Inj.add_other _ hx] at e1
      exact ⟨Nat.le_succ_of_le (h.dom _ _ _ e1).1, Nat.lt_succ_of_lt (h.dom _ _ _ e1).2⟩
  · intro loc b1 v1 e1
    obtain ⟨b2, d2, v2, g1, g2, g3, g4, g5⟩ := h.cell _ _ _ (oldC _ _ _ e1)
    have hlt := (h.dom _ _ _ g2).2
    exact ⟨b2, d2, v2, g1, hle.1 _ _ g2, by rw [keepC _ _ hlt]; exact g3, g4.mono hle, by rw [keepF _ _ hlt]; exact g5⟩
  · intro l1 l2 b1 v1 b2 v2 b' d1 d2 e1 e2 r1 r2 hh
    have e1 := oldC _ _ _ e1
    have e2 := oldC _ _ _ e2
    rw [Inj.add_other _ (notb _ _ _ e1)] at r1
    rw [Inj.add_other _ (notb _ _ _ e2)] at r2
    exact h.sep _ _ _ _ _ _ _ _ _ e1 e2 r1 r2 hh
  · intro loc ob e1 t1
    rcases old _ _ e1 with ⟨q1, q2⟩ | ⟨hne, e⟩
    · cases q2
      subst q1
      exact ⟨w.heap.size, 0, o', Inj.add_self _ _ _, alloc_self w o', ho.mono hle⟩
    · obtain ⟨b2, d2, ow, g1, g2, g3⟩ := h.obj _ _ e t1
      exact ⟨b2, d2, ow, hle.1 _ _ g1, by rw [Below.heap_alloc w _ _ (h.dom _ _ _ g1).2]; exact g2, g3.mono hle⟩
  · intro l1 l2 o1 o2 b' d1 d2 e1 e2 t1 t2 r1 r2
    rcases old _ _ e1 with ⟨q1, q2⟩ | ⟨n1, q2⟩
    · rw [q1, Inj.add_self] at r1
      cases r1
      rcases old _ _ e2 with ⟨q3, q4⟩ | ⟨n3, q4⟩
      · rw [q1, q3]
      · rw [Inj.add_other _ n3] at r2
        exact absurd (h.dom _ _ _ r2).2 (Nat.lt_irrefl _)
    · rw [Inj.add_other _ n1] at r1
      rcases old _ _ e2 with ⟨q3, q4⟩ | ⟨n3, q4⟩
      · rw [q3, Inj.add_self] at r2
        cases r2
        exact absurd (h.dom _ _ _ r1).2 (Nat.lt_irrefl _)
      · rw [Inj.add_other _ n3] at r2
        exact h.sepO _ _ _ _ _ _ _ q2 q4 t1 t2 r1 r2
  · intro t sz e1
    obtain ⟨k, g1, g2, g3, g4, g5, g6⟩ := h.tok _ _ (oldT _ _ _ e1)
    refine ⟨k, g1, g2, g3, by rw [World.size_alloc]; exact Nat.lt_succ_of_lt g4, fun j hj => by rw [keepC _ _ g4, keepF _ _ g4]; exact g5 j hj, ?_⟩
    intro loc b1 v1 d e2 r1
    have e2 := oldC _ _ _ e2
    rw [Inj.add_other _ (notb _ _ _ e2)] at r1
    exact g6 _ _ _ _ e2 r1
  · intro t1 t2 s1 s2 k1 k2 e1 e2
    exact h.sepT _ _ _ _ _ _ (oldT _ _ _ e1) (oldT _ _ _ e2)
end
theorem newO_ok {w0 w : World} {r : Inj} {o : AObj} {o' : Obj} {s s' : St} {b : Nat} (h : newO o s = .some b s') (hr : Rel w0 r s.mem w) (hf : Fresh r s.next s'.next) (ht : o.isTok = false) (ho : OR r o o') :
    b = s.next ∧ Goes w0 r s s' (r.add s.next (w.heap.size, 0)) (w.alloc o') ∧ (r.add s.next (w.heap.size, 0)).blk b = some (w.heap.size, 0) ∧ s'.lim = s.lim ∧ s'.cx = s.cx := by
  obtain ⟨h1, h2, h3, h4, h5⟩ := newO_some h
  have hb := (hf s.next (Nat.le_refl _) (by omega)).1
  refine ⟨h1, Goes.add hb (by omega) ?_, by rw [h1]; exact Inj.add_self _ _ _, h4, h5⟩
  rw [h2]
  exact hr.newObj hb ht ho
/-- What lies there as an object, and is laid anew. -/
theorem wrO_ok {w0 w : World} {r : Inj} {l l' d : Nat} {o o2 : AObj} {o2' : Obj} {s s' : St} {u : Unit} (h : wrC l (.O o2) s = .some u s') (hr : Rel w0 r s.mem w) (hc : T.get s.mem l = some (.O o)) (ht : o.isTok = false) (hb : r.blk l = some (l', d)) (ho : OR r o2 o2') (ht2 : o2.isTok = false) :
    Goes w0 r s s' r (World.setO w l' o2') ∧ s'.lim = s.lim ∧ s'.cx = s.cx := by
  obtain ⟨h1, h2, h3, h4⟩ := wrC_some h
  exact ⟨.of_rel h2 (by rw [h1]; exact hr.storeO hc ht hb ho ht2), h3, h4⟩
end Go.Proofs.YtkgncjlgmnbfoaaGreatDoor.Am
