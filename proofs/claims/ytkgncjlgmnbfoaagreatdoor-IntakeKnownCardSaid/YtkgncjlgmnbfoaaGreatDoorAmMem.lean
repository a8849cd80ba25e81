/- Abstract memory against a world's heap: what each touch keeps. -/
import Derived.Test.YtkgncjlgmnbfoaaGreatDoorAmRel
namespace Go.Proofs.YtkgncjlgmnbfoaaGreatDoor.Am
open Go.RowKit

/-- Entries of maps, one by one: the keys without addresses. -/
def EsR (r : Inj) (es es' : List MapEntry) : Prop := es.length = es'.length ∧ ∀ (i : Nat) (e e' : MapEntry), es[i]? = some e → es'[i]? = some e' → plain e.key = true ∧ e'.key = e.key ∧ e'.born = e.born ∧ VR r e.val e'.val
theorem EsR.mono {r r' : Inj} (h : r.le r') {es es' : List MapEntry} (k : EsR r es es') : EsR r' es es' := ⟨k.1, fun i e e' a b => let ⟨p, q, s, t⟩ := k.2 i e e' a b; ⟨p, q, s, t.mono h⟩⟩
def OR (r : Inj) : AObj → Obj → Prop
  | .loop st pe f n g tm ps as bd df, .loop l => l.state = st ∧ l.pending = pe ∧ l.fn = f ∧ l.tmps.size = n ∧ (∀ t v, T.get tm t = some v → Nat.testBit g t = true ∧ ∃ v', l.tmps[t]? = some v' ∧ VR r v v') ∧
      l.params.toList = ps ∧ l.assign = as ∧ l.body = bd ∧ ∃ d, r.blk df = some (l.defers, d)
  | .deferred (some []), .deferred (some []) => True
  | .deferred none, .deferred none => True
  | .map es c, .map es' c' => c' = c ∧ EsR r es es'.toList
  | .sit s p, .stringIter s' p' => s' = s ∧ p' = p
  | _, _ => False
theorem OR.mono {r r' : Inj} (h : r.le r') {o : AObj} {o' : Obj} (k : OR r o o') : OR r' o o' := by
  unfold OR at *
  split at k
  · obtain ⟨h1, h2, h3, h4, h5, h6, h7, h8, d, h9⟩ := k
    exact ⟨h1, h2, h3, h4, fun t v e => let ⟨q, v', a, b⟩ := h5 t v e; ⟨q, v', a, b.mono h⟩, h6, h7, h8, d, h.1 _ _ h9⟩
  · trivial
  · trivial
  · exact ⟨k.1, k.2.mono h⟩
  · exact k
  · exact k.elim
def AObj.isTok : AObj → Bool
  | .tok .. => true
  | .old .. => true
  | _ => false
theorem OR.cells {r : Inj} {o : AObj} {c : Array Value} {t : TypeId} {f : Nat × Nat} (k : OR r o (.cells c t f)) : False := by
  unfold OR at k
  split at k <;> first | exact k | (rename_i h; cases h)

/-- A block of the world of just so many cells. -/
def SzW (w : World) (k n : Nat) : Prop := ∃ c e lo hi, w.heap[k]? = some (.cells c e (lo, hi)) ∧ c.size = n ∧ lo ≤ hi
theorem SzW.heap {w w' : World} {k n : Nat} (q : SzW w k n) (h : w'.heap[k]? = w.heap[k]?) : SzW w' k n := by
  obtain ⟨c, e, lo, hi, h1, h2⟩ := q
  exact ⟨c, e, lo, hi, by rw [h, h1], h2⟩
theorem SzW.setCell {w : World} {k n : Nat} (q : SzW w k n) (a : Addr) (v : Value) : SzW (w.setCell a v) k n := by
  by_cases hk : k = a.block
  · obtain ⟨c, e, lo, hi, h1, h2, h3⟩ := q
    refine ⟨if a.spot.isSome then c else c.setIfInBounds a.off v, e, lo, hi, ?_, ?_, h3⟩
    · subst hk
      unfold World.setCell
      simp only [Array.getElem?_modify, if_true, h1]
      rfl
    · split
      · exact h2
      · rw [Array.size_setIfInBounds]; exact h2
  · exact q.heap (Below.heap_setCell w a v k hk)
/-- .. from its first cell on. -/
def SzB (r : Inj) (w : World) (b n : Nat) : Prop := ∃ b', r.blk b = some (b', 0) ∧ SzW w b' n
theorem SzB.to {r r' : Inj} {w w' : World} {b n : Nat} (h : SzB r w b n) (hle : r.le r') (hs : ∀ b', r.blk b = some (b', 0) → SzW w b' n → SzW w' b' n) : SzB r' w' b n := by
  obtain ⟨b', h1, h2⟩ := h
  exact ⟨b', hle.1 _ _ h1, hs _ h1 h2⟩
/-- Of what lay there ahead of the call, and what is new. -/
structure OldR (w0 : World) (r : Inj) (mem : T Cell) : Prop where
  old : ∀ loc b v, T.get mem loc = some (.O (.old b v)) → ∃ b' d v', b ≤ loc ∧ r.blk b = some (b', d) ∧ w0.cell? ⟨b', loc - b + d, none⟩ = some v' ∧ VR r v v'
  newC : ∀ loc b v b' d, T.get mem loc = some (.C b v) → r.blk b = some (b', d) → w0.heap.size ≤ b'
  newO : ∀ loc o b' d, T.get mem loc = some (.O o) → o.isTok = false → r.blk loc = some (b', d) → w0.heap.size ≤ b'
  newS : ∀ l n b' d, T.get mem l = some (.O (.tok true (1024 + n))) → r.blk (l - n) = some (b', d) → w0.heap.size ≤ b'
theorem OldR.less {w0 : World} {r : Inj} {mem mem' : T Cell} (h : OldR w0 r mem) (hm : ∀ loc c, T.get mem' loc = some c → T.get mem loc = some c) : OldR w0 r mem' :=
  ⟨fun l b v e => h.old l b v (hm _ _ e), fun l b v b' d e => h.newC l b v b' d (hm _ _ e), fun l o b' d e => h.newO l o b' d (hm _ _ e), fun l n b' d e => h.newS l n b' d (hm _ _ e)⟩
structure Rel (w0 : World) (r : Inj) (mem : T Cell) (w : World) : Prop where
  below : Below w0.heap.size w0 w
  dom : ∀ b b' d, r.blk b = some (b', d) → w0.heap.size ≤ w.heap.size ∧ b' < w.heap.size
  cell : ∀ loc b v, T.get mem loc = some (.C b v) → ∃ b' d v', b ≤ loc ∧ r.blk b = some (b', d) ∧ w.cell? ⟨b', loc - b + d, none⟩ = some v' ∧ VR r v v' ∧ w.frozen? ⟨b', loc - b + d, none⟩ = false
  sep : ∀ l1 l2 b1 v1 b2 v2 b' d1 d2, T.get mem l1 = some (.C b1 v1) → T.get mem l2 = some (.C b2 v2) → r.blk b1 = some (b', d1) → r.blk b2 = some (b', d2) → l1 - b1 + d1 = l2 - b2 + d2 → l1 = l2
  obj : ∀ loc o, T.get mem loc = some (.O o) → o.isTok = false → ∃ b' d o', r.blk loc = some (b', d) ∧ w.heap[b']? = some o' ∧ OR r o o'
  sepO : ∀ l1 l2 o1 o2 b' d1 d2, T.get mem l1 = some (.O o1) → T.get mem l2 = some (.O o2) → o1.isTok = false → o2.isTok = false → r.blk l1 = some (b', d1) → r.blk l2 = some (b', d2) → l1 = l2
  tok : ∀ t sz, T.get mem t = some (.O (.tok false sz)) → ∃ k, r.ext t = some k ∧ k.sz = sz ∧ w0.heap.size ≤ k.b ∧ k.b < w.heap.size ∧
      (∀ j, j < k.e * sz → ∃ v', w.cell? ⟨k.b, k.p + j, none⟩ = some v' ∧ w.frozen? ⟨k.b, k.p + j, none⟩ = false) ∧
      (∀ loc b v d, T.get mem loc = some (.C b v) → r.blk b = some (k.b, d) → loc - b + d < k.p)
  sepT : ∀ t1 t2 s1 s2 k1 k2, T.get mem t1 = some (.O (.tok false s1)) → T.get mem t2 = some (.O (.tok false s2)) → r.ext t1 = some k1 → r.ext t2 = some k2 → k1.b = k2.b → t1 = t2
  known : r.known.sure w0
  szs : ∀ l n, T.get mem l = some (.O (.tok true (1024 + n))) → n ≤ l ∧ SzB r w (l - n) n
  olds : OldR w0 r mem

section
variable {w0 w : World} {r : Inj} {mem : T Cell}
theorem Rel.oldsTo (h : Rel w0 r mem w) {r' : Inj} (hle : r.le r') {mem' : T Cell} (hm : ∀ loc c, T.get mem' loc = some c → T.get mem loc = some c ∨ (∃ b v b' d, c = .C b v ∧ r'.blk b = some (b', d) ∧ w0.heap.size ≤ b') ∨
    (∃ u z, c = .O (.tok u z) ∧ ∀ n, u = true → z = 1024 + n → ∀ b' d, r'.blk (loc - n) = some (b', d) → w0.heap.size ≤ b') ∨ (∃ o b' d, c = .O o ∧ o.isTok = false ∧ r'.blk loc = some (b', d) ∧ w0.heap.size ≤ b')) : OldR w0 r' mem' where
  old := fun loc b v e => by
    rcases hm _ _ e with e | ⟨_, _, _, _, e, _⟩ | ⟨_, _, e, _⟩ | ⟨o, _, _, e, ht, _⟩
    · obtain ⟨b', d, v', h1, h2, h3, h4⟩ := h.olds.old _ _ _ e
      exact ⟨b', d, v', h1, hle.1 _ _ h2, h3, h4.mono hle⟩
    · cases e
    · cases e
    · cases e; cases ht
  newC := fun loc b v b' d e q => by
    rcases hm _ _ e with e | ⟨_, _, _, _, e, h1, h2⟩ | ⟨_, _, e, _⟩ | ⟨o, _, _, e, ht, _⟩
    · obtain ⟨b2, d2, _, _, g, _⟩ := h.cell _ _ _ e
      rw [hle.1 _ _ g] at q
      cases q
      exact h.olds.newC _ _ _ _ _ e g
    · cases e
      rw [h1] at q
      cases q
      exact h2
    · cases e
    · cases e
  newO := fun loc o b' d e ht q => by
    rcases hm _ _ e with e | ⟨_, _, _, _, e, _⟩ | ⟨_, _, e, _⟩ | ⟨o, _, _, e, _, h1, h2⟩
    · obtain ⟨b2, d2, _, g, _⟩ := h.obj _ _ e ht
      rw [hle.1 _ _ g] at q
      cases q
      exact h.olds.newO _ _ _ _ e ht g
    · cases e
    · cases e; cases ht
    · rw [h1] at q
      cases q
      exact h2
  newS := fun l n b' d e q => by
    rcases hm _ _ e with e | ⟨_, _, _, _, e, _⟩ | ⟨_, _, e, h1⟩ | ⟨o, _, _, e, ht, _⟩
    · obtain ⟨_, b2, g, _⟩ := h.szs _ _ e
      rw [hle.1 _ _ g] at q
      cases q
      exact h.olds.newS _ _ _ _ e g
    · cases e
    · cases e
      exact h1 n rfl rfl _ _ q
    · cases e; cases ht
theorem Rel.oldLt (h : Rel w0 r mem w) {loc b b' d : Nat} {v : Value} (hc : T.get mem loc = some (.O (.old b v))) (hb : r.blk b = some (b', d)) : b' < w0.heap.size := by
  obtain ⟨b1, d1, v', _, h2, h3, _⟩ := h.olds.old _ _ _ hc
  rw [hb] at h2
  cases h2
  exact World.block_lt_of_cell? w0 _ h3
theorem Rel.loadOld (h : Rel w0 r mem w) {b o b' d : Nat} {v : Value} (hc : T.get mem (b + o) = some (.O (.old b v))) (hb : r.blk b = some (b', d)) : ∃ v', w.cell? ⟨b', o + d, none⟩ = some v' ∧ VR r v v' := by
  obtain ⟨b1, d1, v', _, h2, h3, h4⟩ := h.olds.old _ _ _ hc
  rw [hb] at h2
  cases h2
  rw [Nat.add_sub_cancel_left] at h3
  exact ⟨v', (h.below.cell (p := ⟨b', o + d, none⟩) (World.block_lt_of_cell? w0 _ h3)).trans h3, h4⟩

theorem Rel.load (h : Rel w0 r mem w) {b o b' d : Nat} {v : Value} (hc : T.get mem (b + o) = some (.C b v)) (hb : r.blk b = some (b', d)) :
    ∃ v', w.cell? ⟨b', o + d, none⟩ = some v' ∧ VR r v v' ∧ w.frozen? ⟨b', o + d, none⟩ = false := by
  obtain ⟨b1, d1, v', _, h2, h3, h4, h5⟩ := h.cell _ _ _ hc
  rw [hb] at h2
  cases h2
  rw [Nat.add_sub_cancel_left] at h3 h5
  exact ⟨v', h3, h4, h5⟩

theorem setCell_block_other {w : World} {a : Addr} {v : Value} {k : Nat} (h : k ≠ a.block) : (w.setCell a v).heap[k]? = w.heap[k]? := Below.heap_setCell w a v k h

theorem Rel.store (h : Rel w0 r mem w) {b o b' d : Nat} {v u u' : Value} (hc : T.get mem (b + o) = some (.C b v)) (hb : r.blk b = some (b', d)) (hu : VR r u u') :
    Rel w0 r (T.set mem (b + o) (.C b u)) (w.setCell ⟨b', o + d, none⟩ u') := by
  obtain ⟨v', h3, h4, h5⟩ := h.load hc hb
  -- what lies at a place, behind the store
  have old : ∀ loc c, T.get (T.set mem (b + o) (.C b u)) loc = some c → (loc = b + o ∧ c = .C b u) ∨ (loc ≠ b + o ∧ T.get mem loc = some c) := by
    intro loc c e
    rw [T.get_set] at e
    split at e
    · cases e; exact .inl ⟨by assumption, rfl⟩
    · exact .inr ⟨by assumption, e⟩
  have kind : ∀ loc c, T.get (T.set mem (b + o) (.C b u)) loc = some (.O c) → T.get mem loc = some (.O c) := by
    intro loc c e
    rcases old _ _ e with ⟨_, e⟩ | ⟨_, e⟩
    · cases e
    · exact e
  have cellOf : ∀ loc b1 v1, T.get (T.set mem (b + o) (.C b u)) loc = some (.C b1 v1) → ∃ v2, T.get mem loc = some (.C b1 v2) := by
    intro loc b1 v1 e
    rcases old _ _ e with ⟨e1, e2⟩ | ⟨_, e⟩
    · cases e2; exact ⟨v, by rw [e1]; exact hc⟩
    · exact ⟨_, e⟩
  have hnew := h.olds.newC _ _ _ _ _ hc hb
  refine ⟨h.below.setCell hnew _, fun x y z e => by rw [World.size_setCell]; exact h.dom x y z e, ?_, ?_, ?_, ?_, ?_, ?_, h.known, fun l n e => let ⟨p, q⟩ := h.szs l n (kind _ _ e); ⟨p, q.to (Inj.le_refl r) fun b' _ q2 => q2.setCell _ _⟩,
    h.oldsTo (Inj.le_refl r) fun loc c e => by
      rcases old _ _ e with ⟨_, e⟩ | ⟨_, e⟩
      · exact .inr (.inl ⟨_, _, _, _, e, hb, hnew⟩)
      · exact .inl e⟩
  · intro loc b1 v1 e
    rcases old _ _ e with ⟨e1, e2⟩ | ⟨hne, e⟩
    · cases e2
      subst e1
      refine ⟨b', d, u', Nat.le_add_right _ _, hb, ?_, hu, ?_⟩
      · rw [Nat.add_sub_cancel_left]; exact World.cell?_setCell_same _ _ _ h3
      · rw [World.frozen?_setCell, Nat.add_sub_cancel_left]; exact h5
    · obtain ⟨b2, d2, v2, g1, g2, g3, g4, g5⟩ := h.cell _ _ _ e
      refine ⟨b2, d2, v2, g1, g2, ?_, g4, by rw [World.frozen?_setCell]; exact g5⟩
      rw [World.cell?_setCell_other w]
      · exact g3
      · intro heq
        simp only [Addr.mk.injEq, and_true] at heq
        obtain ⟨q1, q2⟩ := heq
        subst q1
        exact hne (h.sep _ _ _ _ _ _ _ _ _ e hc g2 hb (by rw [Nat.add_sub_cancel_left]; exact q2.symm))
  · intro l1 l2 b1 v1 b2 v2 bb d1 d2 e1 e2 r1 r2 hh
    obtain ⟨x1, e1⟩ := cellOf _ _ _ e1
    obtain ⟨x2, e2⟩ := cellOf _ _ _ e2
    exact h.sep _ _ _ _ _ _ _ _ _ e1 e2 r1 r2 hh
  · intro loc ob e ht
    obtain ⟨b2, d2, o', g1, g2, g3⟩ := h.obj _ _ (kind _ _ e) ht
    refine ⟨b2, d2, o', g1, ?_, g3⟩
    rw [setCell_block_other]
    · exact g2
    · intro heq
      have heq' : b2 = b' := heq
      subst heq'
      cases o' with
      | cells c t f => exact g3.cells
      | _ => simp [World.cell?, g2] at h3
  · intro l1 l2 o1 o2 bb d1 d2 e1 e2 t1 t2 r1 r2
    exact h.sepO _ _ _ _ _ _ _ (kind _ _ e1) (kind _ _ e2) t1 t2 r1 r2
  · intro t sz e
    obtain ⟨k, g1, g2, g3, g4, g5, g6⟩ := h.tok _ _ (kind _ _ e)
    refine ⟨k, g1, g2, g3, by rw [World.size_setCell]; exact g4, ?_, ?_⟩
    · intro j hj
      obtain ⟨x, q1, q2⟩ := g5 j hj
      refine ⟨x, ?_, by rw [World.frozen?_setCell]; exact q2⟩
      rw [World.cell?_setCell_other w]
      · exact q1
      · intro heq
        simp only [Addr.mk.injEq, and_true] at heq
        obtain ⟨p1, p2⟩ := heq
        subst p1
        have := g6 _ _ _ _ hc hb
        rw [Nat.add_sub_cancel_left] at this
        omega
    · intro loc b1 v1 d1 e1 r1
      obtain ⟨x, e1⟩ := cellOf _ _ _ e1
      exact g6 _ _ _ _ e1 r1
  · intro t1 t2 s1 s2 k1 k2 e1 e2 r1 r2 hh
    exact h.sepT _ _ _ _ _ _ (kind _ _ e1) (kind _ _ e2) r1 r2 hh

/-- Less memory. -/
theorem Rel.less (h : Rel w0 r mem w) {mem' : T Cell} (hm : ∀ loc c, T.get mem' loc = some c → T.get mem loc = some c) : Rel w0 r mem' w :=
  ⟨h.below, h.dom, fun l b v e => h.cell l b v (hm _ _ e), fun l1 l2 b1 v1 b2 v2 b' d1 d2 e1 e2 => h.sep l1 l2 b1 v1 b2 v2 b' d1 d2 (hm _ _ e1) (hm _ _ e2), fun l o e => h.obj l o (hm _ _ e),
    fun l1 l2 o1 o2 b' d1 d2 e1 e2 => h.sepO l1 l2 o1 o2 b' d1 d2 (hm _ _ e1) (hm _ _ e2),
    fun t sz e => let ⟨k, g1, g2, g3, g4, g5, g6⟩ := h.tok t sz (hm _ _ e); ⟨k, g1, g2, g3, g4, g5, fun l b v d e1 => g6 l b v d (hm _ _ e1)⟩,
    fun t1 t2 s1 s2 k1 k2 e1 e2 => h.sepT t1 t2 s1 s2 k1 k2 (hm _ _ e1) (hm _ _ e2), h.known, fun l n e => h.szs l n (hm _ _ e), h.olds.less hm⟩
theorem Rel.del (h : Rel w0 r mem w) (k : Nat) : Rel w0 r (T.del mem k) w := h.less fun loc c e => by
  rw [T.get_del] at e
  split at e
  · cases e
  · exact e
theorem Rel.drew (h : Rel w0 r mem w) : Rel w0 r mem w.drew :=
  ⟨h.below.drew, h.dom, h.cell, h.sep, h.obj, h.sepO, h.tok, h.sepT, h.known, fun l n e => let ⟨p, q⟩ := h.szs l n e; ⟨p, q.to (Inj.le_refl r) fun _b' _ q2 => q2⟩, h.olds⟩
/-- The world goes on beyond what is known. -/
theorem Rel.beyond (h : Rel w0 r mem w) {w' : World} (hb : Below w.heap.size w w') : Rel w0 r mem w' := by
  have hsz := hb.size
  have cellK : ∀ b o, b < w.heap.size → w'.cell? ⟨b, o, none⟩ = w.cell? ⟨b, o, none⟩ := fun b o k => hb.cell (p := ⟨b, o, none⟩) k
  have frK : ∀ b o, b < w.heap.size → w'.frozen? ⟨b, o, none⟩ = w.frozen? ⟨b, o, none⟩ := fun b o k => hb.frozen (p := ⟨b, o, none⟩) k
  refine ⟨h.below.trans (hb.mono h.below.size), fun x y z e => ⟨Nat.le_trans (h.dom x y z e).1 hsz, Nat.lt_of_lt_of_le (h.dom x y z e).2 hsz⟩, ?_, h.sep, ?_, h.sepO, ?_, h.sepT, h.known, fun l n e => let ⟨p, q⟩ := h.szs l n e; ⟨p, q.to (Inj.le_refl r) fun b' q1 q2 => q2.heap (hb.block b' (h.dom _ _ _ q1).2)⟩, h.olds⟩
  · intro loc b v e
    obtain ⟨b2, d2, v2, g1, g2, g3, g4, g5⟩ := h.cell _ _ _ e
    have := (h.dom _ _ _ g2).2
    exact ⟨b2, d2, v2, g1, g2, by rw [cellK _ _ this]; exact g3, g4, by rw [frK _ _ this]; exact g5⟩
  · intro loc o e ht
    obtain ⟨b2, d2, o', g1, g2, g3⟩ := h.obj _ _ e ht
    exact ⟨b2, d2, o', g1, by rw [hb.block b2 (h.dom _ _ _ g1).2]; exact g2, g3⟩
  · intro t sz e
    obtain ⟨k, g1, g2, g3, g4, g5, g6⟩ := h.tok _ _ e
    exact ⟨k, g1, g2, g3, Nat.lt_of_lt_of_le g4 hsz, fun j hj => by rw [cellK _ _ g4, frK _ _ g4]; exact g5 j hj, g6⟩
theorem alloc_cells (w : World) (c : Array Value) (e : TypeId) (i : Nat) : (w.alloc (.cells c e)).cell? ⟨w.heap.size, i, none⟩ = c[i]? := World.cell?_alloc_at c e w.heap.size i rfl
theorem alloc_frozen (w : World) (c : Array Value) (e : TypeId) (i : Nat) : (w.alloc (.cells c e)).frozen? ⟨w.heap.size, i, none⟩ = false := World.frozen?_alloc_at c e w.heap.size i rfl

def Inj.add (r : Inj) (b : Nat) (x : Nat × Nat) : Inj := ⟨fun y => if y = b then some x else r.blk y, r.ext, r.known⟩
theorem Inj.add_le {r : Inj} {b : Nat} (x : Nat × Nat) (h : r.blk b = none) : r.le (r.add b x) :=
  ⟨fun y z e => by
    show (if y = b then some x else r.blk y) = some z
    by_cases hy : y = b
    · rw [hy, h] at e; cases e
    · rw [if_neg hy]; exact e, fun _ _ e => e, rfl⟩
theorem Inj.add_self (r : Inj) (b : Nat) (x : Nat × Nat) : (r.add b x).blk b = some x := if_pos rfl
theorem Inj.add_other {r : Inj} {b y : Nat} (x : Nat × Nat) (h : y ≠ b) : (r.add b x).blk y = r.blk y := if_neg h
def Inj.mark (r : Inj) (t : Nat) (k : Tok) : Inj := ⟨r.blk, fun y => if y = t then some k else r.ext y, r.known⟩
theorem Inj.mark_le {r : Inj} {t : Nat} (k : Tok) (h : r.ext t = none) : r.le (r.mark t k) :=
  ⟨fun _ _ e => e, fun y z e => by
    show (if y = t then some k else r.ext y) = some z
    by_cases hy : y = t
    · rw [hy, h] at e; cases e
    · rw [if_neg hy]; exact e, rfl⟩
theorem Inj.mark_self (r : Inj) (t : Nat) (k : Tok) : (r.mark t k).ext t = some k := if_pos rfl

/-- Cells laid anew, as a new block of the world; it may have more behind them. -/
theorem Rel.newCells (h : Rel w0 r mem w) {b : Nat} (hb : r.blk b = none) {vs vs' : List Value} (hv : VRs r vs vs') {c : Array Value} (e : TypeId) (hc : ∀ (i : Nat) (v : Value), vs'[i]? = some v → c[i]? = some v) {mem' : T Cell}
    (hm : ∀ loc x, T.get mem' loc = some x → (∃ i v, loc = b + i ∧ vs[i]? = some v ∧ x = .C b v) ∨ T.get mem loc = some x) :
    Rel w0 (r.add b (w.heap.size, 0)) mem' (w.alloc (.cells c e)) := by
  have hle := Inj.add_le (w.heap.size, 0) hb
  have notb : ∀ loc b1 v1, T.get mem loc = some (.C b1 v1) → b1 ≠ b := by
    intro loc b1 v1 e1 heq
    obtain ⟨b2, d2, _, _, g2, _⟩ := h.cell _ _ _ e1
    rw [heq, hb] at g2; cases g2
  have notbO : ∀ loc o, T.get mem loc = some (.O o) → o.isTok = false → loc ≠ b := by
    intro loc o e1 ht heq
    obtain ⟨b2, d2, _, g2, _⟩ := h.obj _ _ e1 ht
    rw [heq, hb] at g2; cases g2
  have oldO : ∀ loc o, T.get mem' loc = some (.O o) → T.get mem loc = some (.O o) := by
    intro loc o e1
    rcases hm _ _ e1 with ⟨i, v, _, _, h3⟩ | h3
    · cases h3
    · exact h3
  have keepC : ∀ b1 o1, b1 < w.heap.size → (w.alloc (.cells c e)).cell? ⟨b1, o1, none⟩ = w.cell? ⟨b1, o1, none⟩ := fun b1 o1 k => World.cell?_alloc_past _ b1 o1 k
  have keepF : ∀ b1 o1, b1 < w.heap.size → (w.alloc (.cells c e)).frozen? ⟨b1, o1, none⟩ = w.frozen? ⟨b1, o1, none⟩ := fun b1 o1 k => World.frozen?_alloc_past _ b1 o1 k
  refine ⟨h.below.alloc h.below.size _, ?_, ?_, ?_, ?_, ?_, ?_, ?_, h.known, fun l n e1 => let ⟨p, q⟩ := h.szs l n (oldO _ _ e1); ⟨p, q.to hle fun b' q1 q2 => q2.heap (Below.heap_alloc w _ _ (h.dom _ _ _ q1).2)⟩,
    h.oldsTo hle fun loc c e => by
      rcases hm _ _ e with ⟨i, v, _, _, h3⟩ | h3
      · exact .inr (.inl ⟨_, _, _, _, h3, Inj.add_self _ _ _, h.below.size⟩)
      · exact .inl h3⟩
  · intro x b' d e1
    rw [World.size_alloc]
    by_cases hx : x = b
    · rw [hx, Inj.add_self] at e1
      cases e1
      exact ⟨Nat.le_succ_of_le h.below.size, Nat.lt_succ_self _⟩
    · rw [Inj.add_other _ hx] at e1
      exact ⟨Nat.le_succ_of_le (h.dom _ _ _ e1).1, Nat.lt_succ_of_lt (h.dom _ _ _ e1).2⟩
  · intro loc b1 v1 e1
    rcases hm _ _ e1 with ⟨i, v, h1, h2, h3⟩ | h3
    · cases h3
      obtain ⟨v', h4, h5⟩ := hv.get h2
      refine ⟨w.heap.size, 0, v', by omega, Inj.add_self _ _ _, ?_, h5.mono hle, alloc_frozen _ _ _ _⟩
      rw [alloc_cells, h1, Nat.add_sub_cancel_left, Nat.add_zero]
      exact hc _ _ h4
    · obtain ⟨b2, d2, v2, g1, g2, g3, g4, g5⟩ := h.cell _ _ _ h3
      have hlt := (h.dom _ _ _ g2).2
      exact ⟨b2, d2, v2, g1, hle.1 _ _ g2, by rw [keepC _ _ hlt]; exact g3, g4.mono hle, by rw [keepF _ _ hlt]; exact g5⟩
  · intro l1 l2 b1 v1 b2 v2 b' d1 d2 e1 e2 r1 r2 hh
    rcases hm _ _ e1 with ⟨i, v, h1, h2, h3⟩ | h3
    · cases h3
      rw [Inj.add_self] at r1
      cases r1
      rcases hm _ _ e2 with ⟨i', v', h1', h2', h3'⟩ | h3'
      · cases h3'
        rw [Inj.add_self] at r2
        cases r2
        omega
      · rw [Inj.add_other _ (notb _ _ _ h3')] at r2
        exact absurd (h.dom _ _ _ r2).2 (Nat.lt_irrefl _)
    · rw [Inj.add_other _ (notb _ _ _ h3)] at r1
      rcases hm _ _ e2 with ⟨i', v', h1', h2', h3'⟩ | h3'
      · cases h3'
        rw [Inj.add_self] at r2
        cases r2
        exact absurd (h.dom _ _ _ r1).2 (Nat.lt_irrefl _)
      · rw [Inj.add_other _ (notb _ _ _ h3')] at r2
        exact h.sep _ _ _ _ _ _ _ _ _ h3 h3' r1 r2 hh
  · intro loc o e1 ht
    obtain ⟨b2, d2, o', g1, g2, g3⟩ := h.obj _ _ (oldO _ _ e1) ht
    exact ⟨b2, d2, o', hle.1 _ _ g1, by rw [Below.heap_alloc w _ _ (h.dom _ _ _ g1).2]; exact g2, g3.mono hle⟩
  · intro l1 l2 o1 o2 b' d1 d2 e1 e2 t1 t2 r1 r2
    rw [Inj.add_other _ (notbO _ _ (oldO _ _ e1) t1)] at r1
    rw [Inj.add_other _ (notbO _ _ (oldO _ _ e2) t2)] at r2
    exact h.sepO _ _ _ _ _ _ _ (oldO _ _ e1) (oldO _ _ e2) t1 t2 r1 r2
  · intro t sz e1
    obtain ⟨k, g1, g2, g3, g4, g5, g6⟩ := h.tok _ _ (oldO _ _ e1)
    refine ⟨k, g1, g2, g3, by rw [World.size_alloc]; exact Nat.lt_succ_of_lt g4, fun j hj => by rw [keepC _ _ g4, keepF _ _ g4]; exact g5 j hj, ?_⟩
    intro loc b1 v1 d e2 r1
    rcases hm _ _ e2 with ⟨i, v, h1, h2, h3⟩ | h3
    · cases h3
      rw [Inj.add_self] at r1
      simp only [Option.some.injEq, Prod.mk.injEq] at r1
      omega
    · rw [Inj.add_other _ (notb _ _ _ h3)] at r1
      exact g6 _ _ _ _ h3 r1
  · intro t1 t2 s1 s2 k1 k2 e1 e2
    exact h.sepT _ _ _ _ _ _ (oldO _ _ e1) (oldO _ _ e2)

/-- A mark of how many cells a block has. -/
theorem Rel.markSz (h : Rel w0 r mem w) {b n : Nat} (hs : SzB r w b n) (hnew : ∀ b' d, r.blk b = some (b', d) → w0.heap.size ≤ b') : Rel w0 r (T.set mem (b + n) (.O (.tok true (1024 + n)))) w := by
  have old : ∀ loc x, T.get (T.set mem (b + n) (.O (.tok true (1024 + n)))) loc = some x → (loc = b + n ∧ x = .O (.tok true (1024 + n))) ∨ T.get mem loc = some x := by
    intro loc c e
    rw [T.get_set] at e
    split at e
    · cases e; exact .inl ⟨by assumption, rfl⟩
    · exact .inr e
  have oldC : ∀ loc b1 v, T.get (T.set mem (b + n) (.O (.tok true (1024 + n)))) loc = some (.C b1 v) → T.get mem loc = some (.C b1 v) := by
    intro loc b1 v e
    rcases old _ _ e with ⟨_, e⟩ | e
    · cases e
    · exact e
  have oldO : ∀ loc o, o.isTok = false → T.get (T.set mem (b + n) (.O (.tok true (1024 + n)))) loc = some (.O o) → T.get mem loc = some (.O o) := by
    intro loc b1 ht e
    rcases old _ _ e with ⟨_, e⟩ | e
    · cases e; cases ht
    · exact e
  have oldT : ∀ loc sz, T.get (T.set mem (b + n) (.O (.tok true (1024 + n)))) loc = some (.O (.tok false sz)) → T.get mem loc = some (.O (.tok false sz)) := by
    intro loc sz e
    rcases old _ _ e with ⟨_, e⟩ | e
    · cases e
    · exact e
  exact ⟨h.below, h.dom, fun l b1 v e => h.cell l b1 v (oldC _ _ _ e), fun l1 l2 b1 v1 b2 v2 b' d1 d2 e1 e2 => h.sep l1 l2 b1 v1 b2 v2 b' d1 d2 (oldC _ _ _ e1) (oldC _ _ _ e2), fun l o e ht => h.obj l o (oldO _ _ ht e) ht,
    fun l1 l2 o1 o2 b' d1 d2 e1 e2 t1 t2 => h.sepO l1 l2 o1 o2 b' d1 d2 (oldO _ _ t1 e1) (oldO _ _ t2 e2) t1 t2,
    fun t sz e => let ⟨k, g1, g2, g3, g4, g5, g6⟩ := h.tok t sz (oldT _ _ e); ⟨k, g1, g2, g3, g4, g5, fun l b1 v d e1 => g6 l b1 v d (oldC _ _ _ e1)⟩,
    fun t1 t2 s1 s2 k1 k2 e1 e2 => h.sepT t1 t2 s1 s2 k1 k2 (oldT _ _ e1) (oldT _ _ e2), h.known, fun l m e => by
      rcases old _ _ e with ⟨e1, e2⟩ | e
      · have hm : m = n := by
          simp only [Cell.O.injEq, AObj.tok.injEq, true_and] at e2
          omega
        subst hm
        subst e1
        exact ⟨Nat.le_add_left _ _, by rw [Nat.add_sub_cancel]; exact hs⟩
      · exact h.szs l m e,
    h.oldsTo (Inj.le_refl r) fun loc c e => by
      rcases old _ _ e with ⟨e1, e2⟩ | e
      · refine .inr (.inr (.inl ⟨_, _, e2, fun m _ hm b' d q => hnew b' d ?_⟩))
        have hm' : m = n := by omega
        rw [e1, hm', Nat.add_sub_cancel] at q
        exact q
      · exact .inl e⟩

/-- A mark for the spare room of a block that no other mark speaks of. -/
theorem Rel.newTok (h : Rel w0 r mem w) {t sz : Nat} (ht : r.ext t = none) {k : Tok} (hk : k.sz = sz) (h1 : w0.heap.size ≤ k.b) (h2 : k.b < w.heap.size)
    (h3 : ∀ j, j < k.e * sz → ∃ v', w.cell? ⟨k.b, k.p + j, none⟩ = some v' ∧ w.frozen? ⟨k.b, k.p + j, none⟩ = false)
    (h4 : ∀ loc b v d, T.get mem loc = some (.C b v) → r.blk b = some (k.b, d) → loc - b + d < k.p)
    (h5 : ∀ t2 s2 k2, T.get mem t2 = some (.O (.tok false s2)) → r.ext t2 = some k2 → k2.b ≠ k.b) : Rel w0 (r.mark t k) (T.set mem t (.O (.tok false sz))) w := by
  have hle := Inj.mark_le k ht
  have old : ∀ loc x, T.get (T.set mem t (.O (.tok false sz))) loc = some x → (loc = t ∧ x = .O (.tok false sz)) ∨ (loc ≠ t ∧ T.get mem loc = some x) := by
    intro loc c e
    rw [T.get_set] at e
    split at e
    · cases e; exact .inl ⟨by assumption, rfl⟩
    · exact .inr ⟨by assumption, e⟩
  have oldC : ∀ loc b v, T.get (T.set mem t (.O (.tok false sz))) loc = some (.C b v) → T.get mem loc = some (.C b v) := by
    intro loc b v e
    rcases old _ _ e with ⟨_, e⟩ | ⟨_, e⟩
    · cases e
    · exact e
  have oldO : ∀ loc o, o.isTok = false → T.get (T.set mem t (.O (.tok false sz))) loc = some (.O o) → T.get mem loc = some (.O o) := by
    intro loc b ht e
    rcases old _ _ e with ⟨_, e⟩ | ⟨_, e⟩
    · cases e; cases ht
    · exact e
  refine ⟨h.below, h.dom, ?_, ?_, ?_, ?_, ?_, ?_, h.known, fun l n e => by
    rcases old _ _ e with ⟨_, e⟩ | ⟨_, e⟩
    · cases e
    · obtain ⟨p, q⟩ := h.szs l n e
      exact ⟨p, q.to hle fun b' q1 q2 => q2⟩,
    h.oldsTo hle fun loc c e => by
      rcases old _ _ e with ⟨_, e⟩ | ⟨_, e⟩
      · exact .inr (.inr (.inl ⟨_, _, e, fun n hu => by cases hu⟩))
      · exact .inl e⟩
  · intro loc b v e
    obtain ⟨b2, d2, v2, g1, g2, g3, g4, g5⟩ := h.cell _ _ _ (oldC _ _ _ e)
    exact ⟨b2, d2, v2, g1, g2, g3, g4.mono hle, g5⟩
  · intro l1 l2 b1 v1 b2 v2 b' d1 d2 e1 e2
    exact h.sep _ _ _ _ _ _ _ _ _ (oldC _ _ _ e1) (oldC _ _ _ e2)
  · intro loc o e hto
    obtain ⟨b2, d2, o', g1, g2, g3⟩ := h.obj _ _ (oldO _ _ hto e) hto
    exact ⟨b2, d2, o', g1, g2, g3.mono hle⟩
  · intro l1 l2 o1 o2 b' d1 d2 e1 e2 t1 t2
    exact h.sepO _ _ _ _ _ _ _ (oldO _ _ t1 e1) (oldO _ _ t2 e2) t1 t2
  · intro t2 s2 e
    rcases old _ _ e with ⟨e1, e2⟩ | ⟨hne, e⟩
    · cases e2
      subst e1
      exact ⟨k, Inj.mark_self _ _ _, hk, h1, h2, h3, fun loc b v d e3 => h4 _ _ _ _ (oldC _ _ _ e3)⟩
    · obtain ⟨k2, g1, g2, g3, g4, g5, g6⟩ := h.tok _ _ e
      exact ⟨k2, hle.2 _ _ g1, g2, g3, g4, g5, fun loc b v d e3 => g6 _ _ _ _ (oldC _ _ _ e3)⟩
  · intro t1 t2 s1 s2 k1 k2 e1 e2 r1 r2 hh
    rcases old _ _ e1 with ⟨q1, q2⟩ | ⟨n1, q2⟩
    · rcases old _ _ e2 with ⟨q3, q4⟩ | ⟨n3, q4⟩
      · rw [q1, q3]
      · exfalso
        rw [q1, Inj.mark_self] at r1
        cases r1
        obtain ⟨k3, g1, _⟩ := h.tok _ _ q4
        rw [hle.2 _ _ g1] at r2
        cases r2
        exact h5 _ _ _ q4 g1 hh.symm
    · rcases old _ _ e2 with ⟨q3, q4⟩ | ⟨n3, q4⟩
      · exfalso
        rw [q3, Inj.mark_self] at r2
        cases r2
        obtain ⟨k3, g1, _⟩ := h.tok _ _ q2
        rw [hle.2 _ _ g1] at r1
        cases r1
        exact h5 _ _ _ q2 g1 hh
      · obtain ⟨k3, g1, _⟩ := h.tok _ _ q2
        obtain ⟨k4, g2, _⟩ := h.tok _ _ q4
        rw [hle.2 _ _ g1] at r1
        rw [hle.2 _ _ g2] at r2
        cases r1; cases r2
        exact h.sepT _ _ _ _ _ _ q2 q4 g1 g2 hh
end
end Go.Proofs.YtkgncjlgmnbfoaaGreatDoor.Am
