/- The evaluator's append against the model's own. -/
import Derived.Test.YtnhmbhpkebjjaaaAmApp4
namespace Go.Proofs.Ytnhmbhpkebjjaaa.Am
open Go.RowKit

section
variable {E : Env} {w0 w : World} {r : Inj} {t t2 : Nat}
theorem Yields.before {s s1 s' : St} {v : Value} {m : Sem Value} (hs : Same s s1) (h : Yields E w0 r s1 s' v w m) : Yields E w0 r s s' v w m := by
  obtain ⟨v', w', r', h1, h2, h3, h4, h5⟩ := h
  exact ⟨v', w', r', h1, ⟨h2.le, by rw [← hs.2.1]; exact h2.nxt, fun b h => by rw [← hs.2.1]; exact h2.domB b h, fun b h => by rw [← hs.2.1]; exact h2.domE b h, h2.rel⟩, h3, h4.trans hs.2.2.1, h5.trans hs.2.2.2⟩
theorem aAppend_ok {ts : Array TypeId} {ty : TypeId} {x x' y y' v : Value} {s s' : St} (hts0 : ts[0]? = some t) (hts1 : ts[1]? = some t2) (he : EnvTy E) (h : aAppend E t t2 y x s = .some v s') (hr : Rel w0 r s.mem w) (hf : Fresh r s.next s'.next) (hy : VR r y y') (hx : VR r x x') :
    Yields E w0 r s s' v w (Builtin.append_ ts ty #[y', x']) := by
  obtain ⟨i, s1, h1, h2⟩ := bind_some h
  obtain ⟨hi, rfl⟩ := ti_some h1 he
  obtain ⟨i2, s1, h3, h4⟩ := bind_some h2
  obtain ⟨hi2, rfl⟩ := ti_some h3 he
  have ht := hi.und
  have ht2 := hi2.und
  generalize i.u = u at h4 ht
  split at h4
  · rename_i e base len c
    obtain ⟨ie, s1, h5, h6⟩ := bind_some h4
    obtain ⟨hie, rfl⟩ := ti_some h5 he
    obtain ⟨n, s1, h7, h8⟩ := bind_some h6
    obtain ⟨news, s2, h9, h10⟩ := bind_some h8
    obtain ⟨ni, q1, q2, q3, z, q4, q5⟩ := hie.info
    obtain ⟨g1, g2, news', g3, g4⟩ := src_ok (E := E) h7 h9 hr hx hie q5
    have hzs : z.cells.size = ni.size := by rw [← Array.length_toList, q5, hie.len, q2]
    rw [← q2, ← q3] at g4
    rw [if_eq] at h10
    have hr2 : Rel w0 r s2.mem w := by rw [g1.1]; exact hr
    refine Yields.before g1 ?_
    by_cases hle : Nat.ble (Nat.add len n) (Nat.mod c capU) = true
    · rw [if_pos hle, ← q2] at h10
      exact inRoom_ok hts0 hts1 ht ht2 q1 q4 g4 g3 g2 hy h10 (Nat.le_of_ble_eq_true hle) hr2
    · rw [if_neg hle, ← q2, ← q3] at h10
      exact grow_ok hts0 hts1 ht ht2 q1 q4 hzs g4 g3 hy h10 (fun hh => hle (Nat.ble_eq_true_of_le hh)) hr2 (by rw [g1.2.1]; exact hf)
  · cases h4
end
end Go.Proofs.Ytnhmbhpkebjjaaa.Am
