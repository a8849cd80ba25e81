/- The model's append, run: what it asks, what it gives. -/
import Derived.Test.YtnhmbhpkebjjaaaAmApp
namespace Go.Proofs.Ytnhmbhpkebjjaaa.Am
open Go.RowKit

section
variable {w0 w : World} {r : Inj} {mem : T Cell}
theorem Rel.setFree (h : Rel w0 r mem w) {bb p : Nat} (hb1 : w0.heap.size ≤ bb) (hc : (w.cell? ⟨bb, p, none⟩).isSome = true)
    (hno : ∀ loc b v d, T.get mem loc = some (.C b v) → r.blk b = some (bb, d) → loc - b + d ≠ p)
    (htk : ∀ t2 s2 k2, T.get mem t2 = some (.O (.tok false s2)) → r.ext t2 = some k2 → k2.b ≠ bb) (u : Value) : Rel w0 r mem (w.setCell ⟨bb, p, none⟩ u) := by
  refine ⟨h.below.setCell hb1 _, fun x y z e => by rw [World.size_setCell]; exact h.dom x y z e, ?_, h.sep, ?_, h.sepO, ?_, h.sepT, h.known, fun l n e => let ⟨p, q⟩ := h.szs l n e; ⟨p, q.to (Inj.le_refl r) fun b' _ q2 => q2.setCell _ _⟩⟩
  · intro loc b1 v1 e
    obtain ⟨b2, d2, v2, g1, g2, g3, g4, g5⟩ := h.cell _ _ _ e
    refine ⟨b2, d2, v2, g1, g2, ?_, g4, by rw [World.frozen?_setCell]; exact g5⟩
    rw [World.cell?_setCell_other w]
    · exact g3
    · intro heq
      simp only [Addr.mk.injEq, and_true] at heq
      obtain ⟨q1, q2⟩ := heq
      subst q1
      exact hno _ _ _ _ e g2 q2.symm
  · intro loc ob e ht
    obtain ⟨b2, d2, o', g1, g2, g3⟩ := h.obj _ _ e ht
    refine ⟨b2, d2, o', g1, ?_, g3⟩
    rw [setCell_block_other]
    · exact g2
    · intro heq
      have heq' : b2 = bb := heq
      subst heq'
      cases o' with
      | cells c t f => exact g3.cells
      | _ => simp [World.cell?, g2] at hc
  · intro t sz e
    obtain ⟨k, g1, g2, g3, g4, g5, g6⟩ := h.tok _ _ e
    refine ⟨k, g1, g2, g3, by rw [World.size_setCell]; exact g4, ?_, g6⟩
    intro j hj
    obtain ⟨x, q1, q2⟩ := g5 j hj
    refine ⟨x, ?_, by rw [World.frozen?_setCell]; exact q2⟩
    rw [World.cell?_setCell_other w]
    · exact q1
    · intro heq
      simp only [Addr.mk.injEq, and_true] at heq
      exact htk _ _ _ e g1 heq.1.symm
theorem Rel.setFrees {bb : Nat} (hb1 : w0.heap.size ≤ bb) (htk : ∀ t2 s2 k2, T.get mem t2 = some (.O (.tok false s2)) → r.ext t2 = some k2 → k2.b ≠ bb) : ∀ (vs : List Value) (p : Nat) {w : World}, Rel w0 r mem w →
    (∀ j, j < vs.length → (w.cell? ⟨bb, p + j, none⟩).isSome = true) → (∀ loc b v d, T.get mem loc = some (.C b v) → r.blk b = some (bb, d) → loc - b + d < p) → Rel w0 r mem (w.setCells bb p vs)
  | [], _, _, h, _, _ => h
  | v :: vs, p, w, h, hc, hno => by
    have h1 := h.setFree hb1 (hc 0 (by simp)) (fun loc b v d e1 e2 => by have := hno _ _ _ _ e1 e2; omega) htk v
    refine Rel.setFrees hb1 htk vs (p + 1) h1 (fun j hj => ?_) (fun loc b v d e1 e2 => by have := hno _ _ _ _ e1 e2; omega)
    rw [World.cell?_setCell_other _ _ _ _ (by simp; omega)]
    have := hc (j + 1) (by simp; omega)
    rwa [show p + (j + 1) = p + 1 + j by omega] at this
end

/-- What an append is to append. -/
def SrcOK (P : Program) (w : World) (u2 : TypeDesc) (x : Value) (n size bytes : Nat) (z : Value) (news : List Value) : Prop :=
  (isIntD u2 = false ∧ (Builtin.lenOf x).run P w = .ok n w ∧ ∀ w1, (w1 = w ∨ w1 = w.drew) → (Builtin.firstCells size n x).run P w1 = .ok news.toArray w1) ∨
  (isIntD u2 = true ∧ x = .int .i64 n ∧ n ≤ 16777216 ∧ n * bytes ≤ 16777216 ∧ ((n * size = 0 ∧ news = []) ∨ (n * size ≠ 0 ∧ news.toArray = Builtin.zeroCells z.cells n)))

section
variable {P : Program} {w w' : World} {t t2 e : TypeId} {u2 : TypeDesc} {i : TypeInfo} {z : Value} {ts : Array TypeId} {ty : TypeId} {len c n : Nat} {x : Value} {news : List Value}
theorem wrap_small {n : Nat} (h : n ≤ 16777216) : IntKind.i64.wrap (n : Int) = n := by rw [IntKind.wrap_i64]; omega
theorem notInt {u : TypeDesc} (h : isIntD u = false) : ∀ k, u = .int k → False := by
  intro k e
  subst e
  cases h
theorem isInt {u : TypeDesc} (h : isIntD u = true) : ∃ k, u = .int k := by
  unfold isIntD at h
  split at h
  · exact ⟨_, rfl⟩
  · cases h
theorem run_app_room (hts0 : ts[0]? = some t) (hts1 : ts[1]? = some t2) (ht : P.underlying t = some (.slice e)) (ht2 : P.underlying t2 = some u2) (hi : P.info? e = some i) (hz : i.zero = some z)
    (hs : SrcOK P w u2 x n i.size i.bytes z news) {a : Addr} (hroom : len + n ≤ c) (hst : (storeCells (a.add (len * i.size)) news).run P w = .ok () w') :
    (Builtin.append_ ts ty #[.slice (some a) len c, x]).run P w = .ok (.slice (some a) (len + n) c) w' := by
  rcases hs with ⟨h1, h2, h3⟩ | ⟨h1, rfl, h2, h3, h4⟩
  · have h3 := h3 w (.inl rfl)
    have hne := notInt h1
    simp [Builtin.append_, hts0, hts1, run_underlying ht, run_underlying ht2, sizeOf, typeInfo, hi, h2, h3, hroom, hst, hne]
  · obtain ⟨k, rfl⟩ := isInt h1
    have hw := wrap_small h2
    have h7 : ¬ ((n : Int) < 0) := by omega
    have h6 : ¬ (281474976710656 < (n : Int) * (i.bytes : Int)) := by
      have : (n : Int) * (i.bytes : Int) = ((n * i.bytes : Nat) : Int) := by rw [Int.natCast_mul]
      omega
    rcases h4 with ⟨h4, rfl⟩ | ⟨h4, h5⟩
    · simp [Builtin.append_, hts0, hts1, run_underlying ht, run_underlying ht2, sizeOf, typeInfo, hi, hroom, hst, asInt, asIntOf, hw, h6, h7, h4]
    · simp [Builtin.append_, hts0, hts1, run_underlying ht, run_underlying ht2, sizeOf, typeInfo, zeroValue, hi, hz, hroom, hst, asInt, asIntOf, hw, h6, h7, h4, ← h5]
theorem run_app_none (hts0 : ts[0]? = some t) (hts1 : ts[1]? = some t2) (ht : P.underlying t = some (.slice e)) (ht2 : P.underlying t2 = some u2) (hi : P.info? e = some i)
    (hs : SrcOK P w u2 x 0 i.size i.bytes z news) :
    (Builtin.append_ ts ty #[.slice none 0 0, x]).run P w = .ok (.slice none 0 0) w := by
  rcases hs with ⟨h1, h2, h3⟩ | ⟨h1, rfl, h2, h3, h4⟩
  · have h3 := h3 w (.inl rfl)
    have hne := notInt h1
    simp [Builtin.append_, hts0, hts1, run_underlying ht, run_underlying ht2, sizeOf, typeInfo, hi, h2, h3, hne]
  · obtain ⟨k, rfl⟩ := isInt h1
    have hw0 : IntKind.i64.wrap 0 = 0 := by rw [IntKind.wrap_i64]; omega
    simp [Builtin.append_, hts0, hts1, run_underlying ht, run_underlying ht2, sizeOf, typeInfo, hi, asInt, asIntOf, hw0]
theorem run_app_grow (hts0 : ts[0]? = some t) (hts1 : ts[1]? = some t2) (ht : P.underlying t = some (.slice e)) (ht2 : P.underlying t2 = some u2) (hi : P.info? e = some i) (hz : i.zero = some z)
    (hs : SrcOK P w u2 x n i.size i.bytes z news) {base : Option Addr} {olds : List Value} (hold : (Builtin.firstCells i.size len (.slice base len c)).run P w.drew = .ok olds.toArray w.drew) (hg : c < len + n) (hb : (len + n) * (i.bytes + 1) ≤ 16777216) :
    (Builtin.append_ ts ty #[.slice base len c, x]).run P w =
      .ok (.slice (some ⟨w.heap.size, 0, none⟩) (len + n) (grownCap w (len + n) c e)) (w.drew.alloc (.cells (olds.toArray ++ news.toArray ++ (Builtin.zeroCells z.cells (grownCap w (len + n) c e - (len + n)))) e)) := by
  have hm : (len + n) * (i.bytes + 1) = (len + n) * i.bytes + (len + n) := Nat.mul_succ _ _
  have hn : ¬ (len + n ≤ c) := by omega
  have h63' : ¬ (9223372036854775807 < ((len : Int) + (n : Int))) := by omega
  have h48' : ¬ (281474976710656 < Builtin.nextslicecap (len + n) c * i.bytes) := by
    have := growslice_fits (bytes := i.bytes) hg (by omega)
    omega
  generalize hA : olds.toArray = A at hold ⊢
  rcases hs with ⟨h1, h2, h3⟩ | ⟨h1, rfl, h2, h3, h4⟩
  · have h3 := h3 w.drew (.inr rfl)
    generalize news.toArray = B at h3 ⊢
    have hne := notInt h1
    simp [Builtin.append_, hts0, hts1, run_underlying ht, run_underlying ht2, sizeOf, typeInfo, zeroValue, hi, hz, h2, h3, hn, h63', h48', Question.forced, hold, newRow, grownCap, hne]
  · obtain ⟨k, rfl⟩ := isInt h1
    have hw := wrap_small h2
    have h7 : ¬ ((n : Int) < 0) := by omega
    have h6 : ¬ (281474976710656 < (n : Int) * (i.bytes : Int)) := by
      have : (n : Int) * (i.bytes : Int) = ((n * i.bytes : Nat) : Int) := by rw [Int.natCast_mul]
      omega
    rcases h4 with ⟨h4, rfl⟩ | ⟨h4, h5⟩
    · simp [Builtin.append_, hts0, hts1, run_underlying ht, run_underlying ht2, sizeOf, typeInfo, zeroValue, hi, hz, hn, h63', h48', Question.forced, hold, newRow, grownCap, asInt, asIntOf, hw, h6, h7, h4]
    · rw [h5]
      simp [Builtin.append_, hts0, hts1, run_underlying ht, run_underlying ht2, sizeOf, typeInfo, zeroValue, hi, hz, hn, h63', h48', Question.forced, hold, newRow, grownCap, asInt, asIntOf, hw, h6, h7, h4]
end
end Go.Proofs.Ytnhmbhpkebjjaaa.Am
