/- Ways that fork at what is not known: both are gone, and what comes of them is joined. -/
import Derived.Test.YtnhmbhpkebjjaaaAmOrc
namespace Go.Proofs.Ytnhmbhpkebjjaaa.Am
open Go.RowKit

noncomputable def delL (ls : List Nat) (t : T Cell) : T Cell := List.rec (motive := fun _ => T Cell) t (fun l _ ih => T.del ih l) ls
noncomputable def delR (n : Nat) : Nat → T Cell → T Cell := Nat.rec (motive := fun _ => Nat → T Cell → T Cell) (fun _ t => t) (fun _ ih l t => ih (Nat.succ l) (T.del t l)) n
noncomputable def maxN (a b : Nat) : Nat := Bool.rec (motive := fun _ => Nat) a b (Nat.ble a b)
noncomputable def lowL (lim : Nat) (ls : List Nat) : List Nat := List.rec (motive := fun _ => List Nat) [] (fun l _ ih => Bool.rec (motive := fun _ => List Nat) ih (l :: ih) (Nat.blt l lim)) ls
noncomputable def joinV (a b : Value) : Option Value :=
  match a, b with
  | .bool x, .bool y => some (Bool.rec (motive := fun _ => Value) topB (.bool x) (x == y))
  | .bool _, .complex _ 2 _ => some topB
  | .complex _ 2 _, .bool _ => some topB
  | .complex _ 2 _, .complex _ 2 _ => some topB
  | .int k n, .int k' m => Bool.rec (motive := fun _ => Option Value) none (some (.int k n)) (Nat.beq (kNum k) (kNum k') && eqI n m)
  | _, _ => none
/-- Where both ways begin: each touch of what is there is noted. -/
def St.fork (s : St) : St := ⟨s.mem, s.next, s.next, [], [], s.cx⟩
/-- Where both ways end: what either has written is not known any more, nor is what either has made. -/
noncomputable def St.joined (s s1 s2 : St) : St :=
  ⟨delR (Nat.sub (maxN s1.next s2.next) s.next) s.next (delL (lowL s.next (s1.wr ++ s2.wr)) s.mem), maxN s1.next s2.next, s.lim,
    lowL s.lim (s1.rd ++ s2.rd ++ (s1.wr ++ s2.wr)) ++ s.rd, lowL s.lim (s1.wr ++ s2.wr) ++ s.wr, s.cx⟩
noncomputable def alt (m1 m2 : M (Value × FrameMode)) : M (Value × FrameMode) := fun s =>
  match m1 s.fork, m2 s.fork with
  | .some p s1, .some q s2 => (match joinV p.1 q.1 with | some v => .some (v, .run) (s.joined s1 s2) | none => .none)
  | _, _ => .none

theorem get_delL : ∀ (ls : List Nat) (t : T Cell) (j : Nat), T.get (delL ls t) j = if j ∈ ls then none else T.get t j
  | [], t, j => by simp [delL]
  | l :: ls, t, j => by
    show T.get (T.del (delL ls t) l) j = _
    rw [T.get_del, get_delL ls t j]
    by_cases h : j = l
    · simp [h]
    · simp [h]
theorem get_delR : ∀ (n l : Nat) (t : T Cell) (j : Nat), T.get (delR n l t) j = if l ≤ j ∧ j < l + n then none else T.get t j
  | 0, l, t, j => by
    rw [if_neg (by omega)]
    rfl
  | n + 1, l, t, j => by
    show T.get (delR n (l + 1) (T.del t l)) j = _
    rw [get_delR n (l + 1), T.get_del]
    by_cases h : j = l
    · rw [if_pos h, if_pos (show l ≤ j ∧ j < l + (n + 1) by omega)]
      split <;> rfl
    · rw [if_neg h]
      by_cases h2 : l + 1 ≤ j ∧ j < l + 1 + n
      · rw [if_pos h2, if_pos (by omega)]
      · rw [if_neg h2, if_neg (by omega)]
theorem maxN_eq (a b : Nat) : maxN a b = max a b := by
  unfold maxN
  cases h : Nat.ble a b with
  | true => exact (Nat.max_eq_right (Nat.le_of_ble_eq_true h)).symm
  | false =>
    have : ¬ a ≤ b := fun e => by rw [Nat.ble_eq_true_of_le e] at h; cases h
    exact (Nat.max_eq_left (Nat.le_of_lt (Nat.lt_of_not_le this))).symm
theorem mem_lowL {lim l : Nat} : ∀ {ls : List Nat}, l ∈ lowL lim ls ↔ l ∈ ls ∧ l < lim
  | [] => by simp [lowL]
  | a :: ls => by
    have ih := mem_lowL (lim := lim) (l := l) (ls := ls)
    show l ∈ (Bool.rec (lowL lim ls) (a :: lowL lim ls) (Nat.blt a lim) : List Nat) ↔ _
    cases h : Nat.blt a lim with
    | true =>
      have := blt_lt h
      simp only [List.mem_cons, ih]
      constructor
      · rintro (rfl | ⟨h1, h2⟩)
        · exact ⟨.inl rfl, this⟩
        · exact ⟨.inr h1, h2⟩
      · rintro ⟨rfl | h1, h2⟩
        · exact .inl rfl
        · exact .inr ⟨h1, h2⟩
    | false =>
      have : ¬ a < lim := fun e => by
        have : Nat.blt a lim = true := by simpa [Nat.blt] using Nat.ble_eq_true_of_le e
        rw [this] at h
        cases h
      simp only [List.mem_cons, ih]
      constructor
      · rintro ⟨h1, h2⟩
        exact ⟨.inr h1, h2⟩
      · rintro ⟨rfl | h1, h2⟩
        · exact absurd h2 this
        · exact ⟨h1, h2⟩
theorem get_joined (s s1 s2 : St) (h1 : s.next ≤ s1.next) (j : Nat) : T.get (s.joined s1 s2).mem j =
    if (s.next ≤ j ∧ j < max s1.next s2.next) ∨ (j ∈ s1.wr ++ s2.wr ∧ j < s.next) then none else T.get s.mem j := by
  show T.get (delR (Nat.sub (maxN s1.next s2.next) s.next) s.next _) j = _
  rw [get_delR, get_delL, maxN_eq]
  have e : s.next + Nat.sub (max s1.next s2.next) s.next = max s1.next s2.next := by
    show s.next + (max s1.next s2.next - s.next) = _
    omega
  rw [e]
  simp only [mem_lowL]
  by_cases h : s.next ≤ j ∧ j < max s1.next s2.next
  · rw [if_pos h, if_pos (.inl h)]
  · rw [if_neg h]
    by_cases h2 : j ∈ s1.wr ++ s2.wr ∧ j < s.next
    · rw [if_pos h2, if_pos (.inr h2)]
    · rw [if_neg h2, if_neg (by rintro (h3 | h3); exact h h3; exact h2 h3)]
theorem alt_rOf {m1 m2 : M (Value × FrameMode)} {s s' : St} {o : Out (Value × FrameMode)} (h : alt m1 m2 s = rOf o s') :
    ∃ p s1 q s2 v, m1 s.fork = .some p s1 ∧ m2 s.fork = .some q s2 ∧ joinV p.1 q.1 = some v ∧ o = .inl (v, .run) ∧ s' = s.joined s1 s2 := by
  unfold alt at h
  split at h
  · rename_i p s1 q s2 e1 e2
    split at h
    · rename_i v e3
      obtain ⟨rfl, rfl⟩ := rOf_inl h
      exact ⟨p, s1, q, s2, v, e1, e2, e3, rfl, rfl⟩
    · exact (rOf_none h).elim
  · exact (rOf_none h).elim
theorem lo_alt {m1 m2 : M (Value × FrameMode)} (h1 : Loc m1) (h2 : Loc m2) : Loc (alt m1 m2) := ⟨fun s o s' h hb => by
  obtain ⟨p, s1, q, s2, v, e1, e2, e3, rfl, rfl⟩ := alt_rOf h
  obtain ⟨R1, W1, r1, w1, g1, i1, j1⟩ := h1.at' s.fork (.inl p) s1 e1 (Nat.le_refl _)
  obtain ⟨R2, W2, r2, w2, g2, i2, j2⟩ := h2.at' s.fork (.inl q) s2 e2 (Nat.le_refl _)
  have n1 : s.next ≤ s1.next := g1.nxt
  have n2 : s.next ≤ s2.next := g2.nxt
  have x1 : s1.rd = r1 := by rw [g1.rd]; exact List.append_nil _
  have x2 : s2.rd = r2 := by rw [g2.rd]; exact List.append_nil _
  have y1 : s1.wr = w1 := by rw [g1.wr]; exact List.append_nil _
  have y2 : s2.wr = w2 := by rw [g2.wr]; exact List.append_nil _
  have hnx : (s.joined s1 s2).next = max s1.next s2.next := maxN_eq _ _
  refine ⟨fun l => (R1 l ∨ W1 l) ∨ (R2 l ∨ W2 l), fun l => (s.next ≤ l ∧ l < max s1.next s2.next) ∨ (l ∈ s1.wr ++ s2.wr ∧ l < s.next),
    lowL s.lim (s1.rd ++ s2.rd ++ (s1.wr ++ s2.wr)), lowL s.lim (s1.wr ++ s2.wr), ⟨rfl, rfl, ?_, rfl, ?_, ?_, ?_, ?_, ?_⟩, ?_, ?_⟩
  · rw [hnx]; omega
  · show s.lim ≤ _
    rw [hnx]
    have : s.lim ≤ s.next := hb
    omega
  · intro l e
    rw [hnx]
    rcases e with (e | e) | (e | e)
    · have := g1.rlt l e; omega
    · have := g1.wlt l e; omega
    · have := g2.rlt l e; omega
    · have := g2.wlt l e; omega
  · intro l e
    rw [hnx]
    rcases e with e | e <;> omega
  · intro l e
    rw [get_joined s s1 s2 n1, if_neg e]
  · intro t a1 a2 a3 a4
    obtain ⟨t1, b1, b2, _, _, b5, b6, _⟩ := g1.any t.fork a1 a1 a3 fun l e => a4 l (.inl (.inl e))
    obtain ⟨t2, c1, c2, _, _, c5, c6, _⟩ := g2.any t.fork a1 a1 a3 fun l e => a4 l (.inl (.inr e))
    have b1' : m1 t.fork = .some p t1 := b1
    have c1' : m2 t.fork = .some q t2 := c1
    have z1 : t1.rd = s1.rd := by rw [b5, x1]; exact List.append_nil _
    have z2 : t2.rd = s2.rd := by rw [c5, x2]; exact List.append_nil _
    have u1 : t1.wr = s1.wr := by rw [b6, y1]; exact List.append_nil _
    have u2 : t2.wr = s2.wr := by rw [c6, y2]; exact List.append_nil _
    refine ⟨t.joined t1 t2, ?_, ?_, a2, a3, ?_, ?_, ?_, ?_⟩
    · unfold alt
      rw [b1', c1']
      simp only [e3]
      rfl
    · show maxN t1.next t2.next = maxN s1.next s2.next
      rw [b2, c2]
    · show lowL t.lim (t1.rd ++ t2.rd ++ (t1.wr ++ t2.wr)) ++ t.rd = _
      rw [z1, z2, u1, u2, a2]
    · show lowL t.lim (t1.wr ++ t2.wr) ++ t.wr = _
      rw [u1, u2, a2]
    · intro l e
      rw [get_joined s s1 s2 n1, get_joined t t1 t2 (by rw [a1, b2]; exact n1), if_pos e, if_pos (by rw [a1, b2, c2, u1, u2]; exact e)]
    · intro l e
      rw [get_joined t t1 t2 (by rw [a1, b2]; exact n1), if_neg (by rw [a1, b2, c2, u1, u2]; exact e)]
  · intro l e hl
    have hl2 : l < s.next := Nat.lt_of_lt_of_le hl hb
    rw [mem_lowL]
    refine ⟨?_, hl⟩
    rw [x1, x2, y1, y2]
    rcases e with (e | e) | (e | e)
    · simp [i1 l e hl2]
    · simp [j1 l e hl2]
    · simp [i2 l e hl2]
    · simp [j2 l e hl2]
  · intro l e hl
    have hl2 : l < s.next := Nat.lt_of_lt_of_le hl hb
    rw [mem_lowL]
    rcases e with e | e
    · omega
    · exact ⟨e.1, hl⟩⟩
/-- Less known of the memory. -/
theorem Rel.sub {w0 w : World} {r : Inj} {mem mem' : T Cell} (h : Rel w0 r mem w) (hs : ∀ l c, T.get mem' l = some c → T.get mem l = some c) : Rel w0 r mem' w where
  below := h.below
  dom := h.dom
  cell := fun l b v e => h.cell l b v (hs _ _ e)
  sep := fun l1 l2 b1 v1 b2 v2 b' d1 d2 e1 e2 => h.sep l1 l2 b1 v1 b2 v2 b' d1 d2 (hs _ _ e1) (hs _ _ e2)
  obj := fun l o e => h.obj l o (hs _ _ e)
  sepO := fun l1 l2 o1 o2 b' d1 d2 e1 e2 => h.sepO l1 l2 o1 o2 b' d1 d2 (hs _ _ e1) (hs _ _ e2)
  tok := fun t sz e => by
    obtain ⟨k, q1, q2, q3, q4, q5, q6⟩ := h.tok t sz (hs _ _ e)
    exact ⟨k, q1, q2, q3, q4, q5, fun l b v d e => q6 l b v d (hs _ _ e)⟩
  sepT := fun t1 t2 s1 s2 k1 k2 e1 e2 => h.sepT t1 t2 s1 s2 k1 k2 (hs _ _ e1) (hs _ _ e2)
  known := h.known
  szs := fun l n e => h.szs l n (hs _ _ e)
theorem VR.top_bool {r : Inj} {k : FloatKind} {b : Nat} {x : Value} (h : VR r (.complex k 2 b) x) : VR r topB x := by
  cases h with
  | complex h => exact .complex h
theorem VR.bool_top {r : Inj} {b : Bool} {x : Value} (h : VR r (.bool b) x) : VR r topB x := by
  cases h
  exact .complex ⟨b, rfl⟩
theorem joinV_vr {r : Inj} {a b v : Value} (h : joinV a b = some v) : (∀ x, VR r a x → VR r v x) ∧ (∀ x, VR r b x → VR r v x) := by
  unfold joinV at h
  split at h
  · rename_i x y
    cases h
    cases hb : x == y with
    | false => exact ⟨fun _ e => e.bool_top, fun _ e => e.bool_top⟩
    | true =>
      have := eq_of_beq hb
      subst this
      exact ⟨fun _ e => e, fun _ e => e⟩
  · cases h; exact ⟨fun _ e => e.bool_top, fun _ e => e.top_bool⟩
  · cases h; exact ⟨fun _ e => e.top_bool, fun _ e => e.bool_top⟩
  · cases h; exact ⟨fun _ e => e.top_bool, fun _ e => e.top_bool⟩
  · rename_i k n k' m
    cases hb : Nat.beq (kNum k) (kNum k') && eqI n m with
    | false => rw [hb] at h; cases h
    | true =>
      rw [hb] at h
      cases h
      rw [Bool.and_eq_true] at hb
      have e1 := kNum_inj hb.1
      have e2 : n = m := by have := hb.2; rw [eqI_eq] at this; exact of_decide_eq_true this
      subst e1
      subst e2
      exact ⟨fun _ e => e, fun _ e => e⟩
  · cases h
/-- Of one of the two ways: what holds behind it holds behind both. -/
theorem Goes.joined {w0 w' : World} {r r' : Inj} {s s1 s2 si : St} {m : M (Value × FrameMode)} {o : Out (Value × FrameMode)} (hm : Loc m) (e : m s.fork = rOf o si) (hsi : si = s1 ∨ si = s2) (n1 : s.next ≤ s1.next) (h : Goes w0 r s.fork si r' w') :
    Goes w0 r s (s.joined s1 s2) r' w' := by
  obtain ⟨R1, W1, d1, w1, g1, _, j1⟩ := hm.at' s.fork o si e (Nat.le_refl _)
  have hnx : (s.joined s1 s2).next = max s1.next s2.next := maxN_eq _ _
  have hle : si.next ≤ max s1.next s2.next := by rcases hsi with rfl | rfl <;> omega
  have hw : si.wr = w1 := by rw [g1.wr]; exact List.append_nil _
  refine ⟨h.le, by rw [hnx]; omega, fun b q => (h.domB b q).imp id fun x => ⟨x.1, ?_⟩, fun b q => (h.domE b q).imp id fun x => ⟨x.1, ?_⟩, h.rel.sub fun l c q => ?_⟩
  · rw [hnx]; have := x.2; omega
  · rw [hnx]; have := x.2; omega
  · rw [get_joined s s1 s2 n1] at q
    split at q
    · cases q
    · rename_i hn
      rw [← q]
      refine g1.old l fun hW => hn ?_
      have hl := g1.wlt l hW
      rcases Nat.lt_or_ge l s.next with h1 | h1
      · have := j1 l hW h1
        rw [← hw] at this
        refine .inr ⟨List.mem_append.2 ?_, h1⟩
        rcases hsi with rfl | rfl
        · exact .inl this
        · exact .inr this
      · exact .inl ⟨h1, by omega⟩
end Go.Proofs.Ytnhmbhpkebjjaaa.Am
