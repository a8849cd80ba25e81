/- Runs of the evaluator said of all states: slices made, cut, appended to, copied. -/
import Derived.Test.YtofanlcjeohcjaaMn07
import Derived.ChangeKeysEq
import Derived.Laws.Strings
import GoSem.Op.String
import GoSem.ClaimWide
import Derived.Carry
import Derived.ChangeSame
namespace Go.Proofs.Ytofanlcjeohcjaa.Am

/-- Of an append's types: an element's cells, its bytes, whether so many zeros are meant, its zero. -/
noncomputable def appT (E : Env) (t t2 : Nat) : Option (Nat × Nat × Bool × List Value) := match T.get E.ty t, T.get E.ty t2 with
  | some i, some i2 => (match i.u with | .slice e => (match T.get E.ty e with | some ie => some (ie.size, ie.bytes, isIntD i2.u, ie.zero) | none => none) | _ => none)
  | _, _ => none
/-- Of a slice's type: its element's cells, bytes, zero. -/
noncomputable def elT (E : Env) (t : Nat) : Option (Nat × Nat × List Value) := match T.get E.ty t with
  | some i => (match i.u with | .slice e => (match T.get E.ty e with | some ie => some (ie.size, ie.bytes, ie.zero) | none => none) | _ => none)
  | none => none
section
variable {α β : Type} {s : St} {E : Env} {t t2 : Nat}
theorem appT_inv {sz by' : Nat} {g : Bool} {z : List Value} (h : appT E t t2 = some (sz, by', g, z)) : ∃ i i2 e ie, T.get E.ty t = some i ∧ T.get E.ty t2 = some i2 ∧ i.u = .slice e ∧ T.get E.ty e = some ie ∧ ie.size = sz ∧ ie.bytes = by' ∧ isIntD i2.u = g ∧ ie.zero = z := by
  unfold appT at h
  split at h
  · rename_i i i2 h1 h2
    split at h
    · rename_i e hu
      split at h
      · rename_i ie he
        cases h
        exact ⟨i, i2, e, ie, h1, h2, hu, he, rfl, rfl, rfl, rfl⟩
      · cases h
    · cases h
  · cases h
theorem elT_inv {sz by' : Nat} {z : List Value} (h : elT E t = some (sz, by', z)) : ∃ i e ie, T.get E.ty t = some i ∧ i.u = .slice e ∧ T.get E.ty e = some ie ∧ ie.size = sz ∧ ie.bytes = by' ∧ ie.zero = z := by
  unfold elT at h
  split at h
  · rename_i i h1
    split at h
    · rename_i e hu
      split at h
      · rename_i ie he
        cases h
        exact ⟨i, e, ie, h1, hu, he, rfl, rfl, rfl⟩
      · cases h
    · cases h
  · cases h
/-- What is read of a source. -/
def Src (s : St) (sz : Nat) (x : Value) (n : Nat) (l : List Value) (F : Nat → Prop) : Prop :=
  (∃ p c, x = .slice p n c) ∧ ∃ s1, srcL sz x n s = .some l s1 ∧ s1.mem = s.mem ∧ s1.next = s.next ∧ Ext F Non s s1
theorem src_row {b o n c sz : Nat} {l : List Value} (h : Row s b o l) (hl : l.length = n * sz) : Src s sz (.slice (some ⟨b, o, none⟩) n c) n l (In b o (n * sz)) := by
  refine ⟨⟨_, _, rfl⟩, ?_⟩
  obtain ⟨a, s1, e, rfl, h1, h2, h3⟩ := W.rdL (Q := fun a s1 => a = l ∧ s1.mem = s.mem ∧ s1.next = s.next ∧ Ext (fun x => b + o ≤ x ∧ x < b + o + l.length) Non s s1) h fun s1 e1 e2 e3 => ⟨rfl, e1, e2, e3⟩
  refine ⟨s1, ?_, h1, h2, ?_⟩
  · show rdL (n * sz) ⟨b, o, none⟩ s = _
    rw [← hl]
    exact e
  · rw [hl] at h3
    exact h3
theorem src_nil {sz : Nat} : Src s sz (.slice none 0 0) 0 [] Non := ⟨⟨_, _, rfl⟩, s, rfl, rfl, rfl, Ext.refl s⟩
/-- What is appended: elements of a source, or so many zeros. -/
def SrcG (s : St) (sz by' : Nat) (g : Bool) (z : List Value) (x : Value) (n : Nat) (l : List Value) (F : Nat → Prop) : Prop :=
  ∀ ie : TI, ie.size = sz → ie.bytes = by' → ie.zero = z → (∀ s' : St, appN g ie.bytes x s' = .some n s') ∧ ∃ s1, appL g ie x n s = .some l s1 ∧ s1.mem = s.mem ∧ s1.next = s.next ∧ Ext F Non s s1
theorem Src.g {sz by' n : Nat} {z l : List Value} {x : Value} {F : Nat → Prop} (h : Src s sz x n l F) : SrcG s sz by' false z x n l F := fun ie h1 _ _ => by
  obtain ⟨⟨p, c, rfl⟩, s1, e, m1, n1, x1⟩ := h
  subst h1
  exact ⟨fun _ => rfl, s1, e, m1, n1, x1⟩
theorem src_zeros {sz by' n : Nat} {z : List Value} (h : n * (by' + 1) ≤ 16777216) : SrcG s sz by' true z (.int .i64 (n : Nat)) n (rep n z) Non := fun ie _ h2 h3 => by
  subst h2; subst h3
  refine ⟨fun s' => ?_, s, rfl, rfl, rfl, Ext.refl s⟩
  show M.chk (Nat.ble (n * (ie.bytes + 1)) 16777216) (M.pure n) s' = _
  rw [Nat.ble_eq_true_of_le h]
  rfl
/-- An append within the room that there is. -/
theorem W.appIn {sz by' len n b o c : Nat} {z l : List Value} {x : Value} {F : Nat → Prop} {Q : Value → St → Prop} {g : Bool} (ht : appT E t t2 = some (sz, by', g, z)) (hx : SrcG s sz by' g z x n l F) (hr : len + n ≤ c % capU) (hl : l.length = n * sz) (h1 : l.all oneCell = true)
    (own : ∀ i, i < n * sz → ∃ u, Own s b (o + len * sz + i) u)
    (q : ∀ s2, s2.next = s.next → Ext (fun x => F x ∨ In b (o + len * sz) (n * sz) x) (In b (o + len * sz) (n * sz)) s s2 → OwnRow s2 b (o + len * sz) l → Q (.slice (some ⟨b, o, none⟩) (len + n) c) s2) : W (aAppend E t t2 (.slice (some ⟨b, o, none⟩) len c) x) s Q := by
  obtain ⟨i, i2, e, ie, g1, g2, g3, g4, g5, g6, g7, g8⟩ := appT_inv ht
  obtain ⟨hN, s1, e1, m1, n1, x1⟩ := hx ie g5 g6 g8
  subst g5
  refine W.bind (W.ti g1 (W.bind (W.ti g2 ?_)))
  rw [g3, g7]
  refine W.bind (W.ti g4 (W.bind (W.of (hN s) (W.bind ?_))))
  refine W.of e1 ?_
  show W (M.if (Nat.ble (Nat.add len n) (Nat.mod c capU)) _ _) s1 Q
  rw [show Nat.ble (Nat.add len n) (Nat.mod c capU) = true from Nat.ble_eq_true_of_le hr]
  have own1 : ∀ i, i < l.length → ∃ u, Own s1 b (o + len * ie.size + i) u := fun i hi => by
    obtain ⟨u, hu⟩ := own i (by rw [← hl]; exact hi)
    exact ⟨u, hu.same m1 n1⟩
  refine W.bind (m := Am.wrL l (addA ⟨b, o, none⟩ (Nat.mul len ie.size))) (W.wrL own1 h1 fun s2 n2 x2 r2 => ?_)
  show W (Am.fA (⟨b, o, none⟩ : Addr) fun a => Am.fN (Nat.add len n) fun l => Am.fN c fun c => M.pure (.slice (some a) l c)) s2 Q
  refine W.fA (W.fN (W.fN (W.pure (q s2 (n2.trans n1) ?_ r2))))
  rw [hl] at x2
  obtain ⟨d1, p1, p2⟩ := x1.rd
  obtain ⟨d2, p3, p4⟩ := x2.rd
  obtain ⟨d3, p5, p6⟩ := x1.wr
  obtain ⟨d4, p7, p8⟩ := x2.wr
  refine ⟨Nat.le_of_eq (n2.trans n1).symm, x2.lim.trans x1.lim, x2.cx.trans x1.cx, fun y q1 q2 => by rw [x2.mem y (by rw [n1]; exact q1) q2, m1], ⟨d2 ++ d1, by rw [p3, p1, List.append_assoc], fun y hy => ?_⟩, ⟨d4 ++ d3, by rw [p7, p5, List.append_assoc], fun y hy => ?_⟩⟩
  · rcases List.mem_append.1 hy with hy | hy
    · have := p4 y hy
      rw [x1.lim] at this
      exact ⟨this.1, .inr this.2⟩
    · exact ⟨(p2 y hy).1, .inl (p2 y hy).2⟩
  · rcases List.mem_append.1 hy with hy | hy
    · have := p8 y hy
      rw [x1.lim] at this
      exact this
    · exact (p6 y hy).2.elim
/-- What an append lays anew: a block of its own, with a mark of its room. -/
structure Fresh1 (s s' : St) (sz n : Nat) (l : List Value) (v : Value) (b : Nat) : Prop where
  val : v = .slice (some ⟨b, 0, none⟩) n (capU * ((b + n * sz) * 1024 + sz) + n)
  new : s.next ≤ b
  own : OwnRow s' b 0 l
  len : l.length = n * sz
  tok : T.get s'.mem (b + n * sz) = some (.O (.tok false sz))
  lt : b + n * sz < s'.next
/-- An append to nothing that has room: a new block. -/
theorem W.appNil (hbd : s.lim ≤ s.next) {sz by' n : Nat} {z l : List Value} {x : Value} {F : Nat → Prop} {Q : Value → St → Prop} {g : Bool} (ht : appT E t t2 = some (sz, by', g, z)) (hx : SrcG s sz by' g z x n l F) (hn : 0 < n) (hs0 : 0 < sz) (hs1 : sz < 1024) (hb : n * (by' + 1) ≤ 16777216) (hl : l.length = n * sz) (h1 : l.all oneCell = true)
    (q : ∀ s2 v b, Fresh1 s s2 sz n l v b → Ext F Non s s2 → Q v s2) : W (aAppend E t t2 (.slice none 0 0) x) s Q := by
  obtain ⟨i, i2, e, ie, g1, g2, g3, g4, g5, g6, g7, g8⟩ := appT_inv ht
  obtain ⟨hN, s1, e1, m1, n1, x1⟩ := hx ie g5 g6 g8
  subst g5; subst g6
  refine W.bind (W.ti g1 (W.bind (W.ti g2 ?_)))
  rw [g3, g7]
  refine W.bind (W.ti g4 (W.bind (W.of (hN s) (W.bind ?_))))
  refine W.of e1 ?_
  show W (M.if (Nat.ble (Nat.add 0 n) (Nat.mod 0 capU)) _ _) s1 Q
  have hz : Nat.ble (Nat.add 0 n) (Nat.mod 0 capU) = false := by
    cases hq : Nat.ble (Nat.add 0 n) (Nat.mod 0 capU) with
    | false => rfl
    | true =>
      have h2 := Nat.le_of_ble_eq_true hq
      have h3 : Nat.mod 0 capU = 0 := Nat.zero_mod _
      rw [h3] at h2
      have h4 : Nat.add 0 n = n := Nat.zero_add n
      rw [h4] at h2
      omega
  rw [hz]
  show W (grow ie.size ie.bytes none 0 0 n l) s1 Q
  unfold grow
  refine W.chk ?_ (W.bind (W.pure (W.bind ?_)))
  · rw [h1, hl, Nat.zero_add]
    simp only [Bool.and_true, Bool.and_eq_true, Bool.or_eq_true]
    refine ⟨⟨⟨⟨Nat.ble_eq_true_of_le hb, blt_t hs0⟩, blt_t hs1⟩, .inr rfl⟩, Nat.beq_refl _⟩
  · show W (useUp ie.size none (Nat.mod 0 capU) (Nat.div 0 capU)) s1 _
    have hd : Nat.div 0 capU = 0 := Nat.zero_div _
    rw [hd]
    show W (M.pure ()) s1 _
    refine W.pure (W.bind (W.newL fun s2 n2 x2 r2 => W.fN (W.bind (W.wrC ?_ ?_))))
    · rw [n2, n1]
      simp only [Nat.add_eq, Nat.mul_eq, Nat.zero_mul, List.take_zero, List.nil_append, hl, Nat.zero_add]
      omega
    · show W (Am.fA (⟨s1.next, 0, none⟩ : Addr) fun a => Am.fN (Nat.add 0 n) fun l => Am.fN _ fun c => M.pure (.slice (some a) l c)) _ Q
      have hlen : ([].take (Nat.mul 0 ie.size) ++ l : List Value) = l := by simp
      rw [hlen] at n2 r2
      have hadd : Nat.add 0 n = n := Nat.zero_add n
      refine W.fA (W.fN (W.fN (W.pure (q _ _ s1.next ⟨?_, Nat.le_of_eq n1.symm, ?_, hl, ?_, ?_⟩ ?_))))
      · rw [hadd]
        rfl
      · intro k v hk
        have hk' := (List.getElem?_eq_some_iff.1 hk).1
        have := r2 k v hk
        refine ⟨this.1, ?_⟩
        show T.get (T.set s2.mem _ _) _ = _
        rw [T.get_set, if_neg]
        · exact this.2
        · rw [hadd]
          show s1.next + (0 + k) ≠ s1.next + n * ie.size
          omega
      · show T.get (T.set s2.mem (Nat.add s1.next (Nat.mul (Nat.add 0 n) ie.size)) _) _ = _
        rw [hadd, T.get_set]
        exact if_pos rfl
      · show s1.next + n * ie.size < s2.next
        rw [n2, hl]
        omega
      · obtain ⟨d1, p1, p2⟩ := x1.rd
        obtain ⟨d2, p3, p4⟩ := x2.rd
        obtain ⟨d3, p5, p6⟩ := x1.wr
        obtain ⟨d4, p7, p8⟩ := x2.wr
        obtain ⟨d5, p9, p10⟩ := notes_ext (Nat.add s1.next (Nat.mul (Nat.add 0 n) ie.size)) s2.lim s2.wr
        refine ⟨?_, x2.lim.trans x1.lim, x2.cx.trans x1.cx, fun y q1 q2 => ?_, ⟨d2 ++ d1, ?_, ?_⟩, ⟨[], ?_, fun _ h => by cases h⟩⟩
        · show s.next ≤ s2.next
          rw [n2, n1]; omega
        · show T.get (T.set s2.mem _ _) y = _
          rw [T.get_set, if_neg, x2.mem y (by rw [n1]; exact q1) id, m1]
          rw [hadd]
          show y ≠ s1.next + n * ie.size
          rw [n1]; omega
        · show s2.rd = _
          rw [p3, p1, List.append_assoc]
        · intro y hy
          rcases List.mem_append.1 hy with hy | hy
          · exact (p4 y hy).2.elim
          · exact p2 y hy
        · show notes _ s2.lim s2.wr = s.wr
          have e1 : s2.wr = s.wr := by
            have h5 : d3 = [] := by
              cases d3 with
              | nil => rfl
              | cons y l => exact (p6 y (by simp)).2.elim
            have h7 : d4 = [] := by
              cases d4 with
              | nil => rfl
              | cons y l => exact (p8 y (by simp)).2.elim
            rw [p7, p5, h5, h7]; rfl
          unfold notes
          rw [blt_f, e1]
          show s2.lim ≤ s1.next + Nat.mul (Nat.add 0 n) ie.size
          rw [x2.lim, x1.lim, n1]
          omega
/-- An append to a slice of no element that has no room: a new block. -/
theorem W.appEmp (hbd : s.lim ≤ s.next) {sz by' n b0 o0 : Nat} {z l : List Value} {x : Value} {F : Nat → Prop} {Q : Value → St → Prop} {g : Bool} (ht : appT E t t2 = some (sz, by', g, z)) (hx : SrcG s sz by' g z x n l F) (hn : 0 < n) (hs0 : 0 < sz) (hs1 : sz < 1024) (hb : n * (by' + 1) ≤ 16777216) (hl : l.length = n * sz) (h1 : l.all oneCell = true)
    (q : ∀ s2 v b, Fresh1 s s2 sz n l v b → Ext F Non s s2 → Q v s2) : W (aAppend E t t2 (.slice (some ⟨b0, o0, none⟩) 0 0) x) s Q := by
  obtain ⟨i, i2, e, ie, g1, g2, g3, g4, g5, g6, g7, g8⟩ := appT_inv ht
  obtain ⟨hN, s1, e1, m1, n1, x1⟩ := hx ie g5 g6 g8
  subst g5; subst g6
  refine W.bind (W.ti g1 (W.bind (W.ti g2 ?_)))
  rw [g3, g7]
  refine W.bind (W.ti g4 (W.bind (W.of (hN s) (W.bind ?_))))
  refine W.of e1 ?_
  show W (M.if (Nat.ble (Nat.add 0 n) (Nat.mod 0 capU)) _ _) s1 Q
  have hz : Nat.ble (Nat.add 0 n) (Nat.mod 0 capU) = false := by
    cases hq : Nat.ble (Nat.add 0 n) (Nat.mod 0 capU) with
    | false => rfl
    | true =>
      have h2 := Nat.le_of_ble_eq_true hq
      have h3 : Nat.mod 0 capU = 0 := Nat.zero_mod _
      rw [h3] at h2
      have h4 : Nat.add 0 n = n := Nat.zero_add n
      rw [h4] at h2
      omega
  rw [hz]
  show W (grow ie.size ie.bytes (some ⟨b0, o0, none⟩) 0 0 n l) s1 Q
  unfold grow
  have hold : oldL ie.size (some ⟨b0, o0, none⟩) (Bool.rec (motive := fun _ => Nat) (Nat.mod 0 capU) 0 (Nat.beq (Nat.div 0 capU) 0)) s1 = .some [] s1 := by
    have hd : Nat.div 0 capU = 0 := Nat.zero_div _
    rw [hd]
    show Am.rdL (0 * ie.size) ⟨b0, o0, none⟩ s1 = _
    rw [Nat.zero_mul]
    rfl
  refine W.chk ?_ (W.bind (W.of hold (W.bind ?_)))
  · rw [h1, hl, Nat.zero_add]
    simp only [Bool.and_true, Bool.and_eq_true, Bool.or_eq_true]
    refine ⟨⟨⟨⟨Nat.ble_eq_true_of_le hb, blt_t hs0⟩, blt_t hs1⟩, .inr rfl⟩, Nat.beq_refl _⟩
  · show W (useUp ie.size (some ⟨b0, o0, none⟩) (Nat.mod 0 capU) (Nat.div 0 capU)) s1 _
    have hd : Nat.div 0 capU = 0 := Nat.zero_div _
    rw [hd]
    show W (M.pure ()) s1 _
    refine W.pure (W.bind (W.newL fun s2 n2 x2 r2 => W.fN (W.bind (W.wrC ?_ ?_))))
    · rw [n2, n1]
      simp only [Nat.add_eq, Nat.mul_eq, Nat.zero_mul, List.take_zero, List.nil_append, hl, Nat.zero_add]
      omega
    · show W (Am.fA (⟨s1.next, 0, none⟩ : Addr) fun a => Am.fN (Nat.add 0 n) fun l => Am.fN _ fun c => M.pure (.slice (some a) l c)) _ Q
      have hlen : ([].take (Nat.mul 0 ie.size) ++ l : List Value) = l := by simp
      rw [hlen] at n2 r2
      have hadd : Nat.add 0 n = n := Nat.zero_add n
      refine W.fA (W.fN (W.fN (W.pure (q _ _ s1.next ⟨?_, Nat.le_of_eq n1.symm, ?_, hl, ?_, ?_⟩ ?_))))
      · rw [hadd]
        rfl
      · intro k v hk
        have hk' := (List.getElem?_eq_some_iff.1 hk).1
        have := r2 k v hk
        refine ⟨this.1, ?_⟩
        show T.get (T.set s2.mem _ _) _ = _
        rw [T.get_set, if_neg]
        · exact this.2
        · rw [hadd]
          show s1.next + (0 + k) ≠ s1.next + n * ie.size
          omega
      · show T.get (T.set s2.mem (Nat.add s1.next (Nat.mul (Nat.add 0 n) ie.size)) _) _ = _
        rw [hadd, T.get_set]
        exact if_pos rfl
      · show s1.next + n * ie.size < s2.next
        rw [n2, hl]
        omega
      · obtain ⟨d1, p1, p2⟩ := x1.rd
        obtain ⟨d2, p3, p4⟩ := x2.rd
        obtain ⟨d3, p5, p6⟩ := x1.wr
        obtain ⟨d4, p7, p8⟩ := x2.wr
        obtain ⟨d5, p9, p10⟩ := notes_ext (Nat.add s1.next (Nat.mul (Nat.add 0 n) ie.size)) s2.lim s2.wr
        refine ⟨?_, x2.lim.trans x1.lim, x2.cx.trans x1.cx, fun y q1 q2 => ?_, ⟨d2 ++ d1, ?_, ?_⟩, ⟨[], ?_, fun _ h => by cases h⟩⟩
        · show s.next ≤ s2.next
          rw [n2, n1]; omega
        · show T.get (T.set s2.mem _ _) y = _
          rw [T.get_set, if_neg, x2.mem y (by rw [n1]; exact q1) id, m1]
          rw [hadd]
          show y ≠ s1.next + n * ie.size
          rw [n1]; omega
        · show s2.rd = _
          rw [p3, p1, List.append_assoc]
        · intro y hy
          rcases List.mem_append.1 hy with hy | hy
          · exact (p4 y hy).2.elim
          · exact p2 y hy
        · show notes _ s2.lim s2.wr = s.wr
          have e1 : s2.wr = s.wr := by
            have h5 : d3 = [] := by
              cases d3 with
              | nil => rfl
              | cons y l => exact (p6 y (by simp)).2.elim
            have h7 : d4 = [] := by
              cases d4 with
              | nil => rfl
              | cons y l => exact (p8 y (by simp)).2.elim
            rw [p7, p5, h5, h7]; rfl
          unfold notes
          rw [blt_f, e1]
          show s2.lim ≤ s1.next + Nat.mul (Nat.add 0 n) ie.size
          rw [x2.lim, x1.lim, n1]
          omega
end
end Go.Proofs.Ytofanlcjeohcjaa.Am
/- Runs of the evaluator said of all states: slices cut, built, made, copied. -/
namespace Go.Proofs.Ytofanlcjeohcjaa.Am

def bndV (o : Option Value) (d : Nat) : Option Nat := match o with
  | none => some d
  | some (.int _ (.ofNat n)) => some n
  | _ => none
section
variable {α β : Type} {s : St} {E : Env} {t t2 : Nat}
theorem bnd_run {o : Option Value} {top d n : Nat} (h : bndV o d = some n) (ht : n ≤ top) : bnd o top d s = .some n s := by
  unfold bndV at h
  split at h
  · cases h; rfl
  · cases h
    show M.chk (Nat.ble n top) (M.pure n) s = _
    rw [Nat.ble_eq_true_of_le ht]
    rfl
  · cases h
theorem W_slSl {sz len c b o l h : Nat} {lo hi : Option Value} (ht : slN E t = some sz) (hlo : bndV lo 0 = some l) (hhi : bndV hi len = some h) (hl : l ≤ h) (hc : h ≤ c % capU) (hs : sizeOk c sz = true) (Q : Value → St → Prop) :
    W (aSlice E t (.slice (some ⟨b, o, none⟩) len c) lo hi) s Q = Q (.slice (some ⟨b, if l < c % capU then o + l * sz else o, none⟩) (h - l) (c - l)) s := by
  obtain ⟨i, e, ie, h1, h2, h3, h4⟩ := slN_inv ht
  subst h4
  refine W_run ?_
  unfold aSlice
  rw [bind_run (show ti E t s = .some i s by unfold ti; rw [h1]; rfl)]
  simp only [h2]
  rw [bind_run (show ti E e s = .some ie s by unfold ti; rw [h3]; rfl)]
  unfold slSl
  show M.bind (bnd hi (c % capU) len) _ s = _
  rw [bind_run (bnd_run hhi hc), bind_run (bnd_run hlo hl), hs]
  show pSl _ _ _ s = _
  unfold pSl
  rw [fA_eq, fN_eq, fN_eq]
  show R.some _ s = _
  by_cases hq : l < c % capU
  · rw [if_pos hq, show Nat.blt l (Nat.mod c capU) = true from blt_t hq]
    rfl
  · rw [if_neg hq, show Nat.blt l (Nat.mod c capU) = false from blt_f (Nat.le_of_not_lt hq)]
    rfl
theorem W_slArr {n sz b o l h : Nat} {lo hi : Option Value} (ht : arrN E t = some (n, sz)) (hn : n < capU) (hlo : bndV lo 0 = some l) (hhi : bndV hi n = some h) (hl : l ≤ h) (hc : h ≤ n) (Q : Value → St → Prop) :
    W (aSlice E t (.pointer (some ⟨b, o, none⟩)) lo hi) s Q = Q (.slice (some ⟨b, if n = l then o else o + l * sz, none⟩) (h - l) (n - l)) s := by
  obtain ⟨i, e, ie, h1, h2, h3, h4⟩ := arrN_inv ht
  subst h4
  refine W_run ?_
  unfold aSlice
  rw [bind_run (show ti E t s = .some i s by unfold ti; rw [h1]; rfl)]
  simp only [h2]
  rw [bind_run (show ti E e s = .some ie s by unfold ti; rw [h3]; rfl)]
  unfold slArr
  rw [blt_t hn]
  show M.bind (bnd hi n n) _ s = _
  rw [bind_run (bnd_run hhi hc), bind_run (bnd_run hlo hl)]
  unfold pSl
  rw [fA_eq, fN_eq, fN_eq]
  show R.some _ s = _
  by_cases hq : n = l
  · rw [if_pos hq, show Nat.beq n l = true by rw [hq]; exact Nat.beq_refl l]
    rfl
  · rw [if_neg hq, show Nat.beq n l = false by
      cases e : Nat.beq n l with
      | false => rfl
      | true => exact absurd (Nat.eq_of_beq_eq_true e) hq]
    rfl
theorem sizeOk_sub {c l sz : Nat} (h : l ≤ c % capU) (hs : sizeOk c sz = true) : sizeOk (c - l) sz = true := by
  unfold sizeOk at *
  show Bool.rec (motive := fun _ => Bool) (Nat.beq (Nat.mod ((c - l) / capU) 1024) sz) true (Nat.beq ((c - l) / capU) 0) = true
  rw [(cap_sub h).1]
  exact hs
theorem sizeOk_exact {c sz : Nat} (h : c < capU) : sizeOk c sz = true := by
  unfold sizeOk
  show Bool.rec (motive := fun _ => Bool) (Nat.beq (Nat.mod (c / capU) 1024) sz) true (Nat.beq (c / capU) 0) = true
  rw [Nat.div_eq_of_lt h]
  rfl
/-- A part of a slice of bytes. -/
theorem Bs.sub' {b o c i j : Nat} {l : List Nat} (hij : i ≤ j) (hj : j ≤ l.length) (h1 : l.length ≤ c % capU) (h2 : sizeOk c 1 = true) (h3 : Row s b o (u8l l)) :
    ∃ o', (.slice (some ⟨b, if i < c % capU then o + i * 1 else o, none⟩) (j - i) (c - i) : Value) = .slice (some ⟨b, o', none⟩) ((l.take j).drop i).length (c - i) ∧ ((l.take j).drop i).length ≤ (c - i) % capU ∧ sizeOk (c - i) 1 = true ∧ Row s b o' (u8l ((l.take j).drop i)) ∧ (o' = o + i ∨ ((l.take j).drop i).length = 0) := by
  have hlen : ((l.take j).drop i).length = j - i := by rw [List.length_drop, List.length_take]; omega
  refine ⟨_, by rw [hlen], ?_, sizeOk_sub (by omega) h2, ?_, ?_⟩
  · rw [hlen, (cap_sub (by omega)).2]
    omega
  · by_cases hq : i < c % capU
    · rw [if_pos hq, Nat.mul_one]
      have := (h3.take (n := j)).drop (n := i)
      rw [← List.map_take, ← List.map_drop] at this
      exact this
    · have h0 : (l.take j).drop i = [] := List.eq_nil_of_length_eq_zero (by rw [hlen]; omega)
      rw [h0]
      intro k v e
      simp at e
  · by_cases hq : i < c % capU
    · left; rw [if_pos hq, Nat.mul_one]
    · right; rw [hlen]; omega
/-- A literal of elements, all told. -/
theorem W.buildS (hbd : s.lim ≤ s.next) {sz by' len : Nat} {z r : List Value} {ps : List (Nat × Value)} {Q : Value → St → Prop} (ht : elT E t = some (sz, by', z)) (h1 : len * sz ≤ 16777216) (hr : fillAll (fun k => some (k * sz, sz)) ps (rep len z) = some r) (h2 : len < capU)
    (q : ∀ s2, s2.next = s.next + r.length + 1 → Ext Non Non s s2 → OwnRow s2 s.next 0 r → Q (.slice (some ⟨s.next, 0, none⟩) len len) s2) : W (aBuildS E t len ps) s Q := by
  obtain ⟨i, e, ie, g1, g2, g3, g4, g5, g6⟩ := elT_inv ht
  subst g4; subst g6
  refine W.bind (W.ti g1 ?_)
  rw [g2]
  refine W.bind (W.ti g3 (W.chk ?_ (W.bind (W.ofOpt hr (W.bind (W.newL fun s2 n2 x2 r2 => W.bind (W.wrC ?_ (W.pure (q _ n2 ?_ ?_)))))))))
  · rw [Bool.and_eq_true]
    exact ⟨Nat.ble_eq_true_of_le h1, blt_t h2⟩
  · show s.next + r.length < s2.next
    omega
  · obtain ⟨d2, p3, p4⟩ := x2.rd
    obtain ⟨d4, p7, p8⟩ := x2.wr
    refine ⟨x2.nxt, x2.lim, x2.cx, fun y q1 q2 => ?_, ⟨d2, p3, p4⟩, ⟨d4, ?_, p8⟩⟩
    · show T.get (T.set s2.mem _ _) y = _
      rw [T.get_set, if_neg, x2.mem y q1 q2]
      show y ≠ s.next + r.length
      omega
    · show notes _ s2.lim s2.wr = _
      unfold notes
      rw [blt_f]
      · exact p7
      · show s2.lim ≤ s.next + r.length
        rw [x2.lim]; omega
  · intro k v hk
    have hk' := (List.getElem?_eq_some_iff.1 hk).1
    have := r2 k v hk
    refine ⟨this.1, ?_⟩
    show T.get (T.set s2.mem _ _) _ = _
    rw [T.get_set, if_neg]
    · exact this.2
    · show s.next + (0 + k) ≠ s.next + r.length
      omega
theorem W.mkSl {sz by' l c : Nat} {k1 k2 : IntKind} {z : List Value} {Q : Value → St → Prop} (ht : elT E t = some (sz, by', z)) (h1 : l ≤ c) (h2 : c * (by' + 1) ≤ 16777216)
    (q : ∀ s2, s2.next = s.next + (rep c z).length + 1 → Ext Non Non s s2 → OwnRow s2 s.next 0 (rep c z) → Q (.slice (some ⟨s.next, 0, none⟩) l c) s2) : W (kMkSl E t (.int k1 (l : Nat)) (.int k2 (c : Nat))) s Q := by
  obtain ⟨i, e, ie, g1, g2, g3, g4, g5, g6⟩ := elT_inv ht
  subst g5; subst g6
  refine W.bind (W.ti g1 (W.bind (W.pure (W.bind (W.pure ?_)))))
  unfold Am.mkSl
  rw [g2]
  refine W.bind (W.ti g3 (W.chk ?_ (W.bind (W.newL fun s2 n2 x2 r2 => W.pure (q _ n2 x2 r2)))))
  rw [Bool.and_eq_true]
  exact ⟨Nat.ble_eq_true_of_le h1, Nat.ble_eq_true_of_le h2⟩
theorem W.copy {sz by' b o n c m k : Nat} {z l : List Value} {p : Option Addr} {c2 : Nat} {F : Nat → Prop} {Q : Value → St → Prop} (ht : elT E t = some (sz, by', z)) (hk : k = Nat.min n m)
    (hx : ∃ s1, srcL sz (.slice p m c2) k s = .some l s1 ∧ s1.mem = s.mem ∧ s1.next = s.next ∧ Ext F Non s s1) (hl : l.length = k * sz) (h1 : l.all oneCell = true) (own : ∀ i, i < k * sz → ∃ u, Own s b (o + i) u)
    (q : ∀ s2, s2.next = s.next → Ext (fun x => F x ∨ In b o (k * sz) x) (In b o (k * sz)) s s2 → OwnRow s2 b o l → Q (.int .i64 (k : Nat)) s2) : W (aBuiltin E .copy [t, t2] [.slice (some ⟨b, o, none⟩) n c, .slice p m c2]) s Q := by
  obtain ⟨i, e, ie, g1, g2, g3, g4, g5, g6⟩ := elT_inv ht
  obtain ⟨s1, e1, m1, n1, x1⟩ := hx
  subst g4
  show W (aCopy E t (some ⟨b, o, none⟩) n (.slice p m c2)) s Q
  refine W.bind (W.ti g1 ?_)
  rw [g2]
  refine W.bind (W.ti g3 (W.bind (W.pure ?_)))
  refine W.fN ?_
  rw [← hk]
  refine W.bind (W.of e1 ?_)
  have own1 : ∀ i, i < l.length → ∃ u, Own s1 b (o + i) u := fun i hi => by
    obtain ⟨u, hu⟩ := own i (by rw [← hl]; exact hi)
    exact ⟨u, hu.same m1 n1⟩
  refine W.bind (m := Am.wrL l ⟨b, o, none⟩) (W.wrL own1 h1 fun s2 n2 x2 r2 => ?_)
  show W (Am.fN k fun n => M.pure (.int .i64 (.ofNat n))) s2 Q
  refine W.fN (W.pure (q s2 (n2.trans n1) ?_ r2))
  rw [hl] at x2
  obtain ⟨d1, p1, p2⟩ := x1.rd
  obtain ⟨d2, p3, p4⟩ := x2.rd
  obtain ⟨d3, p5, p6⟩ := x1.wr
  obtain ⟨d4, p7, p8⟩ := x2.wr
  refine ⟨Nat.le_of_eq (n2.trans n1).symm, x2.lim.trans x1.lim, x2.cx.trans x1.cx, fun y q1 q2 => by rw [x2.mem y (by rw [n1]; exact q1) q2, m1], ⟨d2 ++ d1, by rw [p3, p1, List.append_assoc], fun y hy => ?_⟩, ⟨d4 ++ d3, by rw [p7, p5, List.append_assoc], fun y hy => ?_⟩⟩
  · rcases List.mem_append.1 hy with hy | hy
    · have := p4 y hy
      rw [x1.lim] at this
      exact ⟨this.1, .inr this.2⟩
    · exact ⟨(p2 y hy).1, .inl (p2 y hy).2⟩
  · rcases List.mem_append.1 hy with hy | hy
    · have := p8 y hy
      rw [x1.lim] at this
      exact this
    · exact (p6 y hy).2.elim
theorem W_slNil {sz : Nat} {lo hi : Option Value} (ht : slN E t = some sz) (hlo : bndV lo 0 = some 0) (hhi : bndV hi 0 = some 0) (Q : Value → St → Prop) : W (aSlice E t (.slice none 0 0) lo hi) s Q = Q (.slice none 0 0) s := by
  obtain ⟨i, e, ie, h1, h2, h3, h4⟩ := slN_inv ht
  refine W_run ?_
  unfold aSlice
  rw [bind_run (show ti E t s = .some i s by unfold ti; rw [h1]; rfl)]
  simp only [h2]
  rw [bind_run (show ti E e s = .some ie s by unfold ti; rw [h3]; rfl), bind_run (bnd_run hhi (Nat.le_refl 0)), bind_run (bnd_run hlo (Nat.le_refl 0))]
  rfl
/-- A room with a mark. -/
theorem mark_mod {q N : Nat} (h : N < capU) : (capU * q + N) % capU = N := (enc (q := q) h).2
theorem mark_ok {m sz N : Nat} (h : N < capU) (h1 : sz < 1024) : sizeOk (capU * (m * 1024 + sz) + N) sz = true := by
  unfold sizeOk
  show Bool.rec (motive := fun _ => Bool) (Nat.beq (Nat.mod ((capU * (m * 1024 + sz) + N) / capU) 1024) sz) true (Nat.beq ((capU * (m * 1024 + sz) + N) / capU) 0) = true
  rw [(enc h).1]
  have : Nat.mod (m * 1024 + sz) 1024 = sz := by show (m * 1024 + sz) % 1024 = sz; omega
  rw [this, Nat.beq_refl]
  cases Nat.beq (m * 1024 + sz) 0 <;> rfl
theorem W_app {v x : Value} (Q : Value → St → Prop) : W (aBuiltin E .append [t, t2] [v, x]) s Q = W (aAppend E t t2 v x) s Q := propext Iff.rfl
/-- On, where what is turned is new. -/
theorem Ext.step {F F' G' : Nat → Prop} {s s1 s2 : St} (h : Ext F Non s s1) (k : Ext F' G' s1 s2) (hb : s.lim ≤ s.next) (hF : ∀ l, l < s.lim → F' l → F l) (hG : ∀ l, G' l → s.next ≤ l) : Ext F Non s s2 :=
  h.trans k hb hF fun l hl hg => absurd (hG l hg) (Nat.not_le_of_lt hl)
theorem OwnRow.append {b o : Nat} {l l' : List Value} (h : OwnRow s b o l) (k : OwnRow s b (o + l.length) l') : OwnRow s b o (l ++ l') := fun i v e => by
  by_cases hi : i < l.length
  · rw [List.getElem?_append_left hi] at e
    exact h i v e
  · rw [List.getElem?_append_right (by omega)] at e
    have := k _ v e
    rw [show o + l.length + (i - l.length) = o + i by omega] at this
    exact this
/-- So many places of one's own. -/
def Owned (s : St) (b o n : Nat) : Prop := ∀ j, j < n → ∃ u, Own s b (o + j) u
theorem OwnRow.owned {b o : Nat} {l : List Value} (h : OwnRow s b o l) : Owned s b o l.length := fun j hj => ⟨l[j], h j _ (List.getElem?_eq_getElem hj)⟩
theorem Owned.ext {F : Nat → Prop} {b o n a : Nat} {l : List Value} {s2 : St} (h : Owned s b o n) (e : Ext F (In b a l.length) s s2) (k : OwnRow s2 b a l) : Owned s2 b o n := fun j hj => by
  by_cases hq : In b a l.length (b + (o + j))
  · obtain ⟨h1, h2⟩ := hq
    have hi : o + j - a < l.length := by omega
    refine ⟨l[o + j - a], ?_⟩
    have := k (o + j - a) (l[o + j - a]) (List.getElem?_eq_getElem hi)
    rw [show a + (o + j - a) = o + j by omega] at this
    exact this
  · obtain ⟨u, hu⟩ := h j hj
    exact ⟨u, hu.ext e hq⟩
theorem Bs.src {v : Value} {l : List Nat} (h : Bs s v l) : Src s 1 v l.length (u8l l) (BsF v) := by
  rcases h with ⟨rfl, rfl⟩ | ⟨b, o, c, rfl, _, _, h3⟩
  · exact src_nil
  · have := src_row (s := s) (sz := 1) (n := l.length) (c := c) h3 (by rw [u8l_length, Nat.mul_one])
    rw [Nat.mul_one] at this
    exact this
theorem u8l_one (l : List Nat) : (u8l l).all oneCell = true := by
  rw [List.all_eq_true]
  intro x hx
  obtain ⟨n, _, rfl⟩ := List.mem_map.1 hx
  rfl
theorem shr_run (k kk : IntKind) (m n : Nat) (hn : n ≤ btOf k) (xo yo : Operand) : Cl.get (aBin E .shr t xo yo) (.int k (m : Nat)) (.int kk (n : Nat)) s = .some (.int k (m >>> n : Nat)) s := by
  show int3 shrK (binSlow E .shr t xo yo) (.int k (.ofNat m)) (.int kk (.ofNat n)) s = _
  show Option.rec (motive := fun _ => R Value) _ (fun v => .some v s) (shrK k kk m n) = _
  have : shrK k kk m n = some (.int k (m >>> n : Nat)) := by
    unfold shrK
    rw [Nat.ble_eq_true_of_le hn]
    show mkI k (Nat.shiftRight m n) = _
    unfold mkI
    rw [fN_eq]
    rfl
  rw [this]
theorem W_shr {k kk : IntKind} {m n : Nat} {xo yo : Operand} (hn : n ≤ btOf k) (Q : Value → St → Prop) : W (Cl.get (aBin E .shr t xo yo) (.int k (m : Nat)) (.int kk (n : Nat))) s Q = Q (.int k (m >>> n : Nat)) s := W_run (shr_run k kk m n hn xo yo)
theorem W_shr8 {k kk : IntKind} {m : Nat} {xo yo : Operand} (hn : 8 ≤ btOf k) (Q : Value → St → Prop) : W (Cl.get (aBin E .shr t xo yo) (.int k (m : Nat)) (.int kk 8)) s Q = Q (.int k (m >>> 8 : Nat)) s := W_shr (n := 8) hn Q
theorem W_shr16 {k kk : IntKind} {m : Nat} {xo yo : Operand} (hn : 16 ≤ btOf k) (Q : Value → St → Prop) : W (Cl.get (aBin E .shr t xo yo) (.int k (m : Nat)) (.int kk 16)) s Q = Q (.int k (m >>> 16 : Nat)) s := W_shr (n := 16) hn Q
theorem W_shr24 {k kk : IntKind} {m : Nat} {xo yo : Operand} (hn : 24 ≤ btOf k) (Q : Value → St → Prop) : W (Cl.get (aBin E .shr t xo yo) (.int k (m : Nat)) (.int kk 24)) s Q = Q (.int k (m >>> 24 : Nat)) s := W_shr (n := 24) hn Q
theorem bt_u32 : btOf .u32 = 32 := rfl
theorem wrap_u8 (n : Nat) : IntKind.u8.wrap (n : Int) = ((n % 256 : Nat) : Int) := by
  have e : IntKind.u8.wrap (n : Int) = (n : Int) % 256 := by unfold IntKind.wrap; simp [IntKind.bits, IntKind.signed]
  rw [e]
  omega
/-- Bytes just built. -/
theorem OwnRow.bn {b : Nat} {l : List Nat} (h : OwnRow s b 0 (u8l l)) (hl : l.length < capU) : Bs s (.slice (some ⟨b, 0, none⟩) l.length l.length) l :=
  .inr ⟨b, 0, l.length, rfl, by rw [Nat.mod_eq_of_lt hl]; exact Nat.le_refl _, sizeOk_exact hl, h.row⟩
/-! Within a region that draws -/
theorem oS_some {γ : Type} (a : α) (f : α → M γ) : oS (some a) f = f a := rfl
theorem on_some' {γ : Type} (a : α) (f : α → M γ) : M.on (some a) f = f a := rfl
theorem run_of_W {m : M α} {v : α} (h : ∀ (s : St) (Q : α → St → Prop), W m s Q = Q v s) (s : St) : m s = .some v s := by
  have : W m s fun a s' => a = v ∧ s' = s := by rw [h]; exact ⟨rfl, rfl⟩
  obtain ⟨a, s', e, rfl, rfl⟩ := this
  exact e
/-- An operation that leaves all as it is. -/
theorem W_dq {γ : Type} {m : M α} {v : α} {f : α × OpLog → M γ} {mem : T Cell} {next : Nat} {Q : γ → St → Prop} (h : ∀ (s : St) (Q : α → St → Prop), W m s Q = Q v s) : W (M.bind (apartO m) f) (dSt mem next) Q = W (f (v, ⟨next, next, [], []⟩)) (dSt mem next) Q := by
  rw [W_bind]
  refine W_run ?_
  show Am.apartO m ⟨mem, next, 0, [], [], .no⟩ = _
  unfold Am.apartO
  have e := run_of_W h ⟨mem, next, next, [], [], .no⟩
  simp only [e]
  rfl
theorem W_dpure {γ : Type} (v : α) (f : α × OpLog → M γ) (mem : T Cell) (next : Nat) (Q : γ → St → Prop) : W (M.bind (apartO (M.pure v)) f) (dSt mem next) Q = W (f (v, ⟨next, next, [], []⟩)) (dSt mem next) Q := W_dq fun _ _ => W_pure _ _
/-- A load. -/
theorem W.dload {γ : Type} {b o : Nat} {v : Value} {f : Value × OpLog → M γ} {mem : T Cell} {next : Nat} {Q : γ → St → Prop} (ht : tyS E t = some (1, false)) (h : At (dSt mem next) b o v)
    (k : ∀ rd : List Nat, (∀ x ∈ rd, x = b + o) → W (f (v, ⟨next, next, rd, []⟩)) (dSt mem next) Q) : W (M.bind (apartO (kLoad E t (.pointer (some ⟨b, o, none⟩)))) f) (dSt mem next) Q := by
  refine W.dop (W.load1 ht (h.same rfl rfl) ⟨fun x => x = b + o, Ext.rdN _ _ fun _ => rfl, fun rd hr => k rd fun x hx => (hr x hx).2⟩)
/-- Operations that make nothing and turn nothing. -/
theorem apartM_q {n0 : Nat} {l : List OpLog} {bef : List Nat} (hl : l.length ≤ bef.length) (h : ∀ m ∈ l, m.wr = [] ∧ m.lo = m.hi) : apartM n0 l bef = true :=
  apartM_ok hl (fun k m b e1 _ => ⟨(h m (List.mem_of_getElem? e1)).1, fun i a _ e3 => .inr fun x _ _ hx => by have := (h a (List.mem_of_getElem? e3)).2; omega⟩) fun m hm => (h m hm).1
theorem neqU (k : IntKind) (hk : isI64 k = false) (m n : Nat) (xo yo : Operand) : Cl.get (aBin E .neq t xo yo) (.int k (m : Nat)) (.int k (n : Nat)) s = .some (.bool (!decide (m = n))) s := by
  show int2 _ (int3 (cmpK fun m n => !Nat.beq m n) (binSlow E .neq t xo yo)) (.int k (.ofNat m)) (.int k (.ofNat n)) s = _
  unfold int2
  simp only [caseI, hk]
  show Option.rec (motive := fun _ => R Value) _ (fun v => .some v s) (cmpK (fun m n => !Nat.beq m n) k k m n) = _
  have : cmpK (fun m n => !Nat.beq m n) k k m n = some (.bool (!decide (m = n))) := by
    unfold cmpK sameK
    rw [Nat.beq_refl]
    show mkB (!Nat.beq m n) = _
    by_cases h : m = n
    · rw [h, Nat.beq_refl]; simp; rfl
    · have : Nat.beq m n = false := by
        cases e : Nat.beq m n with
        | false => rfl
        | true => exact absurd (Nat.eq_of_beq_eq_true e) h
      rw [this]; simp [h]; rfl
  rw [this]
theorem W_neqU8 {m n : Nat} {xo yo : Operand} (Q : Value → St → Prop) : W (Cl.get (aBin E .neq t xo yo) (.int .u8 (m : Nat)) (.int .u8 (n : Nat))) s Q = Q (.bool (!decide (m = n))) s := W_run (neqU .u8 rfl m n xo yo)
/-- Is a slice nil? -/
theorem eqNil {sz n b o c : Nat} {xo yo : Operand} (h : slN E t = some sz) : Cl.get (aBin E .eql t xo yo) (.slice (some ⟨b, o, none⟩) n c) (.slice none 0 0) s = .some (.bool false) s := by
  obtain ⟨i, e, ie, h1, h2, h3, h4⟩ := slN_inv h
  show refEq E .eql t (.slice (some ⟨b, o, none⟩) n c) (.slice none 0 0) s = _
  unfold refEq
  rw [bind_run (show ti E t s = .some i s by unfold ti; rw [h1]; rfl), h2]
  rfl
theorem W_eqNil {sz n b o c : Nat} {xo yo : Operand} (h : slN E t = some sz) (Q : Value → St → Prop) : W (Cl.get (aBin E .eql t xo yo) (.slice (some ⟨b, o, none⟩) n c) (.slice none 0 0)) s Q = Q (.bool false) s := W_run (eqNil h)
theorem W_not (b : Bool) (P : Program) (Q : Value → St → Prop) : W (kUn P .not (.bool b)) s Q = Q (.bool (!b)) s := W_run (by show rB (!b) s = _; exact rB_eq _ _)
noncomputable def ptrT (E : Env) (t : Nat) : Bool := match T.get E.ty t with | some i => (match i.u with | .pointer _ => true | _ => false) | none => false
theorem eqNilP {a : Addr} {xo yo : Operand} (h : ptrT E t = true) : Cl.get (aBin E .eql t xo yo) (.pointer (some a)) (.pointer none) s = .some (.bool false) s := by
  unfold ptrT at h
  split at h
  · rename_i i hi
    split at h
    · rename_i e hu
      show refEq E .eql t (.pointer (some a)) (.pointer none) s = _
      unfold refEq
      rw [bind_run (show ti E t s = .some i s by unfold ti; rw [hi]; rfl), hu]
      rfl
    · cases h
  · cases h
theorem W_eqNilP {a : Addr} {xo yo : Operand} (h : ptrT E t = true) (Q : Value → St → Prop) : W (Cl.get (aBin E .eql t xo yo) (.pointer (some a)) (.pointer none)) s Q = Q (.bool false) s := W_run (eqNilP h)
theorem rem_run (m n : Nat) (hn : 1 ≤ n) (xo yo : Operand) : Cl.get (aBin E .rem t xo yo) (.int .i64 (m : Nat)) (.int .i64 (n : Nat)) s = .some (.int .i64 (m % n : Nat)) s := by
  show int3 remK (binSlow E .rem t xo yo) (.int .i64 (.ofNat m)) (.int .i64 (.ofNat n)) s = _
  show Option.rec (motive := fun _ => R Value) _ (fun v => .some v s) (remK .i64 .i64 m n) = _
  have : remK .i64 .i64 m n = some (.int .i64 (m % n : Nat)) := by
    unfold remK sameK
    rw [Nat.beq_refl, Nat.ble_eq_true_of_le hn]
    show mkI .i64 (Nat.mod m n) = _
    unfold mkI
    rw [fN_eq]
    rfl
  rw [this]
theorem W_rem {m n : Nat} {xo yo : Operand} (hn : 1 ≤ n) (Q : Value → St → Prop) : W (Cl.get (aBin E .rem t xo yo) (.int .i64 (m : Nat)) (.int .i64 (n : Nat))) s Q = Q (.int .i64 (m % n : Nat)) s := W_run (rem_run m n hn xo yo)
theorem W_rem64' {m : Nat} {xo yo : Operand} (Q : Value → St → Prop) : W (Cl.get (aBin E .rem t xo yo) (.int .i64 (m : Nat)) (.int .i64 64)) s Q = Q (.int .i64 (m % 64 : Nat)) s := W_rem (n := 64) (by decide) Q
/-- Values in a row, loaded as one. -/
theorem W.dloadA {γ : Type} {b o n : Nat} {l : List Value} {f : Value × OpLog → M γ} {mem : T Cell} {next : Nat} {Q : γ → St → Prop} (ht : tyS E t = some (n, true)) (h : Row (dSt mem next) b o l) (hl : l.length = n)
    (k : ∀ (mem1 : T Cell) (rd : List Nat), mem1 = mem → (∀ x ∈ rd, In b o n x) → W (f (.agg l.toArray, ⟨next, next, rd, []⟩)) (dSt mem1 next) Q) : W (M.bind (apartO (kLoad E t (.pointer (some ⟨b, o, none⟩)))) f) (dSt mem next) Q := by
  refine W.dop (W.loadA ht (fun i v e => (h i v e).same rfl rfl) hl fun s1 m1 n1 x1 => ⟨In b o n, x1, fun rd hr => ?_⟩)
  rw [show s1.next = next from n1]
  exact k s1.mem rd m1 fun x hx => (hr x hx).2
theorem capU_gt {n : Nat} (h : n ≤ 1073741824) : n < capU := by unfold capU; omega
theorem W_capNil {sz : Nat} (h : slN E t = some sz) (Q : Value → St → Prop) : W (aBuiltin E .cap [t] [.slice none 0 0]) s Q = Q (.int .i64 ((0 : Nat) : Int)) s := by
  obtain ⟨i, e, ie, h1, h2, h3, h4⟩ := slN_inv h
  refine W_run ?_
  show aCap E t (.slice none 0 0) s = _
  unfold aCap
  rw [bind_run (show ti E t s = .some i s by unfold ti; rw [h1]; rfl)]
  simp only [h2]
  rw [blt_t capU_pos]
  rfl
end
end Go.Proofs.Ytofanlcjeohcjaa.Am
/- Results that lie in cells; structs and arrays built. -/
namespace Go.Proofs.Ytofanlcjeohcjaa.Am
open Go.RowKit
section
variable {E : Env} {s : St} {t : Nat}
/-- The end of a frame whose one result lies in a cell. -/
theorem W.endC {n f nt g r : Nat} {tm : T Value} {todo P : List Item} {ki : CallKind} {fn : Func} {a : Addr} {up : Option FrameMode} {Q : Value × FrameMode → St → Prop} (ht : skim 64 todo = P) (hP : (∃ k, P = .code .ret :: k) ∨ P = []) (hn : 2 ≤ n)
    (hf : E.fn.get f = some fn) (hr : fn.results.toList = [.cell r t]) (hc : s.cx = .cx up (some [])) (hv : Am.T.get tm r = some (.pointer (some a))) (q : W (kLoad E t (.pointer (some a))) s fun v s1 => Q (v, up.getD .run) s1) : W (runF E n ⟨f, nt, g, tm, todo, .run, ki, none⟩) s Q := by
  obtain ⟨m, rfl⟩ : ∃ m, n = m + 2 := ⟨n - 2, by omega⟩
  subst ht
  have h1 : W (runF E (m + 1) ⟨f, nt, g, tm, skim 64 todo, .returning, ki, none⟩) s Q := by
    refine W.run ?_
    show W (unwindF E (deferW E (runF E m)) ⟨f, nt, g, tm, skim 64 todo, .returning, ki, none⟩) s _
    refine W.bind (W.of (a := s.cx) (s' := s) (by obtain ⟨mem, next, lim, rd, wr, cx⟩ := s; rfl) ?_)
    rw [hc]
    show W (outF E ⟨f, nt, g, tm, skim 64 todo, .returning, ki, none⟩ up) s _
    refine W.on hf (W.bind ?_)
    show W (M.bind (resL E tm fn.results.toList) fun l => M.pure (tupV l)) s _
    rw [hr]
    refine W.bind ?_
    show W (M.bind (M.on (Am.T.get tm r) fun a => M.bind (asA a) fun a => aLoad E t a) fun v => M.bind (M.pure []) fun l => M.pure (v :: l)) s _
    rw [hv]
    refine W.bind ?_
    show W (kLoad E t (.pointer (some a))) s _
    refine q.mono fun v s1 q => ?_
    exact W.bind (W.pure (W.pure (W.pure (W.pure (W.pure q)))))
  rcases hP with ⟨k, ht⟩ | ht
  · refine W.code ht ?_
    rw [ht] at h1
    exact W.pure h1
  · refine W.run ?_
    show W (noP (runItems E (callW E (runF E (m + 1))) (roundW (runF E (m + 1))) ⟨f, nt, g, tm, skim 64 todo, .run, ki, none⟩ (skim 64 todo))) s _
    rw [ht] at h1 ⊢
    exact W.np (W.pure h1)
/-- A struct, an array of given parts. -/
noncomputable def buildN (E : Env) (t : Nat) (ps : List (Nat × Value)) : Option (List Value) :=
  match T.get E.ty t with
  | some i => (match i.u with
    | .struct fs => fillAll (placeS E fs) ps i.zero
    | .array _ e => (match T.get E.ty e with
      | some ie => fillAll (fun k => some (k * ie.size, ie.size)) ps i.zero
      | none => none)
    | _ => none)
  | none => none
theorem W_build {ps : List (Nat × Value)} {r : List Value} (h : buildN E t ps = some r) (Q : Value → St → Prop) : W (aBuild E t ps) s Q = Q (.agg r.toArray) s := by
  unfold buildN at h
  split at h
  · rename_i i hi
    split at h
    · rename_i fs hu
      refine W_run ?_
      unfold aBuild
      rw [bind_run (show ti E t s = .some i s by unfold ti; rw [hi]; rfl)]
      rw [hu]
      simp only [h]
      rfl
    · rename_i e hu
      split at h
      · rename_i ie he
        refine W_run ?_
        unfold aBuild
        rw [bind_run (show ti E t s = .some i s by unfold ti; rw [hi]; rfl)]
        rw [hu]
        simp only
        rw [bind_run (show ti E _ s = .some ie s by unfold ti; rw [he]; rfl), h]
        rfl
      · cases h
    · cases h
  · cases h
end
end Go.Proofs.Ytofanlcjeohcjaa.Am
/- Products; elements of an array that is a value. -/
namespace Go.Proofs.Ytofanlcjeohcjaa.Am
open Go.RowKit
section
variable {E : Env} {s : St} {t : Nat}
theorem mul_run (m n : Nat) (hn : m * n ≤ 9223372036854775807) (xo yo : Operand) : Cl.get (aBin E .mul t xo yo) (.int .i64 (m : Nat)) (.int .i64 (n : Nat)) s = .some (.int .i64 (m * n : Nat)) s := by
  show int3 mulK (binSlow E .mul t xo yo) (.int .i64 (.ofNat m)) (.int .i64 (.ofNat n)) s = _
  show Option.rec (motive := fun _ => R Value) _ (fun v => .some v s) (mulK .i64 .i64 m n) = _
  have : mulK .i64 .i64 m n = some (.int .i64 (m * n : Nat)) := by
    unfold mulK sameK fitI
    rw [Nat.beq_refl]
    show (Bool.rec (motive := fun _ => Option Value) _ (mkI .i64 (m * n)) (Nat.ble (m * n) (mxOf .i64)) : Option Value) = _
    rw [Nat.ble_eq_true_of_le (show m * n ≤ mxOf .i64 from hn)]
    show mkI .i64 (m * n) = _
    unfold mkI
    rw [fN_eq]
    rfl
  rw [this]
theorem W_mul {m n : Nat} {xo yo : Operand} (hn : m * n ≤ 9223372036854775807) (Q : Value → St → Prop) : W (Cl.get (aBin E .mul t xo yo) (.int .i64 (m : Nat)) (.int .i64 (n : Nat))) s Q = Q (.int .i64 (m * n : Nat)) s := W_run (mul_run m n hn xo yo)
theorem W_mul4 {n : Nat} {xo yo : Operand} (hn : 4 * n ≤ 9223372036854775807) (Q : Value → St → Prop) : W (Cl.get (aBin E .mul t xo yo) (.int .i64 4) (.int .i64 (n : Nat))) s Q = Q (.int .i64 (4 * n : Nat)) s := W_mul (m := 4) hn Q
theorem W_mul8 {n : Nat} {xo yo : Operand} (hn : 8 * n ≤ 9223372036854775807) (Q : Value → St → Prop) : W (Cl.get (aBin E .mul t xo yo) (.int .i64 8) (.int .i64 (n : Nat))) s Q = Q (.int .i64 (8 * n : Nat)) s := W_mul (m := 8) hn Q
/-- An array of one-cell elements. -/
noncomputable def arrU (E : Env) (t : Nat) : Option Nat := match T.get E.ty t with
  | some i => (match i.u with | .array n e => (match T.get E.ty e with | some ie => bif Nat.beq ie.size 1 && !ie.agg then some n else none | none => none) | _ => none)
  | none => none
theorem arrU_inv {n : Nat} (h : arrU E t = some n) : ∃ i e ie, T.get E.ty t = some i ∧ i.u = .array n e ∧ T.get E.ty e = some ie ∧ ie.size = 1 ∧ ie.agg = false := by
  unfold arrU at h
  split at h
  · rename_i i e
    split at h
    · rename_i n2 e2 q
      split at h
      · rename_i ie q2
        cases hc : (Nat.beq ie.size 1 && !ie.agg)
        · rw [hc] at h
          cases h
        · rw [hc] at h
          cases h
          rw [Bool.and_eq_true] at hc
          exact ⟨i, e2, ie, e, q, q2, Nat.eq_of_beq_eq_true hc.1, by simpa using hc.2⟩
      · cases h
    · cases h
  · cases h
theorem W_idxV {n k : Nat} {kd : IntKind} {cs : Array Value} {v : Value} (h : arrU E t = some n) (hk : k < n) (hv : cs.toList[k]? = some v) (Q : Value → St → Prop) : W (kIdx E t (.agg cs) (.int kd (k : Nat))) s Q = Q v s := by
  obtain ⟨i, e, ie, h1, h2, h3, h4, h5⟩ := arrU_inv h
  refine W_run ?_
  unfold kIdx
  rw [bind_run (show ti E t s = .some i s by unfold ti; rw [h1]; rfl), bind_run (show asN (.int kd (k : Nat)) s = .some k s from rfl)]
  unfold idxV
  rw [h2]
  simp only
  rw [bind_run (show ti E e s = .some ie s by unfold ti; rw [h3]; rfl), blt_t hk]
  show partV E e cs.toList (k * ie.size) s = _
  refine partV_run (n := 1) (g := false) (by unfold tyS; rw [h3]; simp [h4, h5]) (.inl ⟨rfl, ?_⟩)
  rw [h4, Nat.mul_one]
  exact hv
end
end Go.Proofs.Ytofanlcjeohcjaa.Am
/- Ends of frames with results of both kinds. -/
namespace Go.Proofs.Ytofanlcjeohcjaa.Am
open Go.RowKit
section
variable {E : Env} {s : St} {t : Nat}
theorem W.resNil {tm : T Value} {Q : List Value → St → Prop} (q : Q [] s) : W (resL E tm []) s Q := W.pure q
theorem W.resTmp {tm : T Value} {r : Nat} {v : Value} {rs : List ResultVar} {Q : List Value → St → Prop} (h : Am.T.get tm r = some v) (q : W (resL E tm rs) s fun l s1 => Q (v :: l) s1) : W (resL E tm (.tmp r :: rs)) s Q := by
  show W (M.bind (M.ofOpt (Am.T.get tm r)) fun v => M.bind (resL E tm rs) fun l => M.pure (v :: l)) s Q
  rw [h]
  exact W.bind (W.pure (W.bind (q.mono fun l s1 q => W.pure q)))
theorem W.resCell {tm : T Value} {r : Nat} {a : Addr} {rs : List ResultVar} {Q : List Value → St → Prop} (h : Am.T.get tm r = some (.pointer (some a))) (q : W (kLoad E t (.pointer (some a))) s fun v s1 => W (resL E tm rs) s1 fun l s2 => Q (v :: l) s2) : W (resL E tm (.cell r t :: rs)) s Q := by
  show W (M.bind (M.on (Am.T.get tm r) fun a => M.bind (asA a) fun a => aLoad E t a) fun v => M.bind (resL E tm rs) fun l => M.pure (v :: l)) s Q
  rw [h]
  refine W.bind ?_
  show W (kLoad E t (.pointer (some a))) s _
  exact q.mono fun v s1 q => W.bind (q.mono fun l s2 q => W.pure q)
/-- The end of a frame that no deferred call keeps, whatever its results. -/
theorem W.endG {n f nt g : Nat} {tm : T Value} {todo P : List Item} {ki : CallKind} {fn : Func} {rs : List ResultVar} {up : Option FrameMode} {Q : Value × FrameMode → St → Prop} (ht : skim 64 todo = P) (hP : (∃ k, P = .code .ret :: k) ∨ P = []) (hn : 2 ≤ n)
    (hf : E.fn.get f = some fn) (hr : fn.results.toList = rs) (hc : s.cx = .cx up (some [])) (q : W (resL E tm rs) s fun l s1 => Q (tupV l, up.getD .run) s1) : W (runF E n ⟨f, nt, g, tm, todo, .run, ki, none⟩) s Q := by
  obtain ⟨m, rfl⟩ : ∃ m, n = m + 2 := ⟨n - 2, by omega⟩
  subst ht
  have h1 : W (runF E (m + 1) ⟨f, nt, g, tm, skim 64 todo, .returning, ki, none⟩) s Q := by
    refine W.run ?_
    show W (unwindF E (deferW E (runF E m)) ⟨f, nt, g, tm, skim 64 todo, .returning, ki, none⟩) s _
    refine W.bind (W.of (a := s.cx) (s' := s) (by obtain ⟨mem, next, lim, rd, wr, cx⟩ := s; rfl) ?_)
    rw [hc]
    show W (outF E ⟨f, nt, g, tm, skim 64 todo, .returning, ki, none⟩ up) s _
    refine W.on hf (W.bind ?_)
    show W (M.bind (resL E tm fn.results.toList) fun l => M.pure (tupV l)) s _
    rw [hr]
    exact W.bind (q.mono fun l s1 q => W.pure (W.pure (W.pure q)))
  rcases hP with ⟨k, ht⟩ | ht
  · refine W.code ht ?_
    rw [ht] at h1
    exact W.pure h1
  · refine W.run ?_
    show W (noP (runItems E (callW E (runF E (m + 1))) (roundW (runF E (m + 1))) ⟨f, nt, g, tm, skim 64 todo, .run, ki, none⟩ (skim 64 todo))) s _
    rw [ht] at h1 ⊢
    exact W.np (W.pure h1)
end
end Go.Proofs.Ytofanlcjeohcjaa.Am
/- A range over a function: the loop, its rounds, its end; the end of a frame that had one. -/
namespace Go.Proofs.Ytofanlcjeohcjaa.Am
open Go.RowKit
section
variable {E : Env} {s : St} {t : Nat}
/-- A place that holds something that is no value. -/
def Obj (s : St) (l : Nat) (o : AObj) : Prop := l < s.next ∧ T.get s.mem l = some (.O o)
theorem Obj.ext {F G : Nat → Prop} {s s' : St} {l : Nat} {o : AObj} (h : Obj s l o) (e : Ext F G s s') (hG : ¬ G l) : Obj s' l o := ⟨Nat.lt_of_lt_of_le h.1 e.nxt, by rw [e.mem _ h.1 hG]; exact h.2⟩
theorem Obj.same {s s' : St} {l : Nat} {o : AObj} (h : Obj s l o) (hm : s'.mem = s.mem) (hn : s'.next = s.next) : Obj s' l o := by
  unfold Obj at *
  rw [hm, hn]
  exact h
theorem W.newO {o : AObj} {Q : Nat → St → Prop} (q : ∀ s1, s1.next = s.next + 1 → Ext Non Non s s1 → Obj s1 s.next o → Q s.next s1) : W (newO o) s Q := by
  obtain ⟨mem, next, lim, rd, wr, cx⟩ := s
  refine ⟨next, ⟨T.set mem next (.O o), next + 1, lim, rd, wr, cx⟩, ?_, q _ rfl ⟨by simp only; omega, rfl, rfl, fun l hl _ => ?_, ⟨[], rfl, fun _ h => by cases h⟩, ⟨[], rfl, fun _ h => by cases h⟩⟩ ⟨by simp only; omega, ?_⟩⟩
  · show Am.fN next (fun b => Am.fN (Nat.succ b) fun n => R.some b (St.mk (T.set mem b (.O o)) n lim rd wr cx)) = _
    rw [fN_eq, fN_eq]
  · simp only at hl ⊢
    rw [T.get_set, if_neg (by omega)]
  · simp only
    rw [T.get_set, if_pos rfl]
theorem W.getCx {Q : Ctx → St → Prop} (q : Q s.cx s) : W getCx s Q := by
  obtain ⟨mem, next, lim, rd, wr, cx⟩ := s
  exact ⟨cx, _, rfl, q⟩
theorem W.putCx {c : Ctx} {Q : Unit → St → Prop} (q : Q () (s.cxN c)) : W (putCx c) s Q := by
  obtain ⟨mem, next, lim, rd, wr, cx⟩ := s
  exact ⟨(), _, rfl, q⟩
abbrev collD (d : Nat) : Deferred := { target := .collected d, args := #[] }
noncomputable def rfP (l : List Item) : Option (Nat × List Nat × Code × Code) := match l with | .code (.rangeFunc (.tmp t) ps as bd) :: _ => some (t, ps.toList, as, bd) | _ => none
noncomputable def asC (l : List Item) : Code := match l with | .code (.rangeFunc _ _ as _) :: _ => as | _ => .skip
noncomputable def bdC (l : List Item) : Code := match l with | .code (.rangeFunc _ _ _ bd) :: _ => bd | _ => .skip
noncomputable def roundI (l : List Item) : List Item := match l with | .code (.rangeFunc _ _ as bd) :: _ => [.code as, .beginRound, .code bd] | _ => []
theorem rfP_inv {P : List Item} {t : Nat} {ps : List Nat} {as bd : Code} (h : rfP P = some (t, ps, as, bd)) : ∃ pa : Array Nat, P = .code (.rangeFunc (.tmp t) pa as bd) :: P.tail ∧ pa.toList = ps := by
  unfold rfP at h
  split at h
  · cases h
    exact ⟨_, rfl, rfl⟩
  · cases h
/-- A range over a function, from which no round goes away. -/
theorem W.rangeFunc {n f nt g f2 : Nat} {tm : T Value} {T P : List Item} {ki : CallKind} {first cap : Array Value} {up : Option FrameMode} {dfs : List Deferred} {ps : List Nat} {as bd : Code} {Q : Value × FrameMode → St → Prop} (ht : skim 64 T = P) (hP : rfP P = some (t, ps, as, bd)) (hv : Am.T.get tm t = some (.func (.func f2) first cap)) (hx : E.ext.get f2 = none)
    (hc : s.cx = .cx up (some dfs)) (hn : 0 < n)
    (h : ∀ s1, s1.next = s.next + 2 → Ext Non Non s s1 → Obj s1 s.next (.deferred (some [])) → Obj s1 (s.next + 1) (.loop .ready none f nt g tm ps as bd s.next) →
      W (callW E (runF E (n - 1)) f2 (first.toList ++ (.func (.yield (s.next + 1)) #[] #[] :: cap.toList))) (s1.cxN (.cx up (some (collD s.next :: dfs)))) fun _ s2 => Obj s2 (s.next + 1) (.loop .ready none f nt g tm ps as bd s.next) ∧
        W (runF E (n - 1) ⟨f, nt, g, tm, P.tail, .run, ki, none⟩) ((s2.rdN (s.next + 1)).wrN (s.next + 1) (.O (.loop .exhausted none f nt g tm ps as bd s.next))) Q) : W (runF E n ⟨f, nt, g, tm, T, .run, ki, none⟩) s Q := by
  obtain ⟨m, rfl⟩ : ∃ m, n = m + 1 := ⟨n - 1, by omega⟩
  rw [Nat.add_sub_cancel] at h
  obtain ⟨pa, hP2, rfl⟩ := rfP_inv hP
  rw [hP2] at ht
  refine W.code ht ?_
  show W (M.on (Am.T.get tm t) fun fv => rangeF E (callW E (runF E m)) ⟨f, nt, g, tm, .code (.rangeFunc (.tmp t) pa as bd) :: P.tail, .run, ki, none⟩ fv pa as bd P.tail) s _
  refine W.on hv (W.bind (W.bind (W.newO fun sa na xa oa => W.bind (W.getCx ?_))))
  have hca : sa.cx = .cx up (some dfs) := by rw [xa.cx]; exact hc
  rw [hca]
  refine W.bind (W.putCx (W.pure (W.bind (W.newO fun sb nb xb ob => ?_))))
  have hb : W (callW E (runF E m) f2 (first.toList ++ (.func (.yield (s.next + 1)) #[] #[] :: cap.toList))) sb fun _ s2 => Obj s2 (s.next + 1) (.loop .ready none f nt g tm pa.toList as bd s.next) ∧
        W (runF E m ⟨f, nt, g, tm, P.tail, .run, ki, none⟩) ((s2.rdN (s.next + 1)).wrN (s.next + 1) (.O (.loop .exhausted none f nt g tm pa.toList as bd s.next))) Q := by
    have hn1 : (sa.cxN (.cx up (some (collD s.next :: dfs)))).next = s.next + 1 := na
    rw [hn1] at ob nb
    have hcb : sb.cx = .cx up (some (collD s.next :: dfs)) := xb.cx
    have x : Ext Non Non s (sb.cxN s.cx) := by
      refine ⟨?_, ?_, rfl, fun l hl hg => ?_, ?_, ?_⟩
      · show s.next ≤ sb.next
        omega
      · exact xb.lim.trans xa.lim
      · exact (xb.mem l (show l < sa.next by omega) hg).trans (xa.mem l hl hg)
      · obtain ⟨d1, p1, p2⟩ := xa.rd
        obtain ⟨d2, p3, p4⟩ := xb.rd
        refine ⟨d2 ++ d1, ?_, fun l hl => ?_⟩
        · rw [List.append_assoc, ← p1]; exact p3
        · rcases List.mem_append.1 hl with hl | hl
          · exact (p4 l hl).2.elim
          · exact (p2 l hl).2.elim
      · obtain ⟨d1, p1, p2⟩ := xa.wr
        obtain ⟨d2, p3, p4⟩ := xb.wr
        refine ⟨d2 ++ d1, ?_, fun l hl => ?_⟩
        · rw [List.append_assoc, ← p1]; exact p3
        · rcases List.mem_append.1 hl with hl | hl
          · exact (p4 l hl).2.elim
          · exact (p2 l hl).2.elim
    have := h (sb.cxN s.cx) (by show sb.next = _; omega) x (by
      have h1 : Obj (sa.cxN (.cx up (some (collD s.next :: dfs)))) s.next (.deferred (some [])) := oa.same rfl rfl
      exact (h1.ext xb id).same rfl rfl) (ob.same rfl rfl)
    rw [show (sb.cxN s.cx).cxN (.cx up (some (collD s.next :: dfs))) = sb by
      rw [← hcb]; rfl] at this
    exact this
  have hn1 : (sa.cxN (.cx up (some (collD s.next :: dfs)))).next = s.next + 1 := na
  rw [hn1]
  refine W.bind (W.np ?_)
  show W (M.chk (E.ext.get f2).isNone (callW E (runF E m) f2 (first.toList ++ (.func (.yield (s.next + 1)) #[] #[] :: cap.toList)))) sb _
  refine W.chk (by rw [hx]; rfl) (hb.mono fun _ s2 q => ?_)
  obtain ⟨q1, q2⟩ := q
  show W (M.bind (Am.rdC (s.next + 1)) _) s2 _
  refine W.bind (W.rdC q1.2 q1.1 ?_)
  exact W.bind (W.wrC q1.1 (W.pure q2))
theorem W.yield {call round : CallT} {l : Nat} {args : List Value} {Q : Value → St → Prop} (h : W (round l args) s Q) : W (callV call round (.func (.yield l) #[] #[]) args) s Q := h
/-- A round. -/
theorem W.round {n l f nt g d : Nat} {tm : T Value} {ps : List Nat} {as bd : Code} {st : LoopState} {pe : Option Code} {args : List Value} {Q : Value → St → Prop} (hO : Obj s l (.loop st pe f nt g tm ps as bd d)) (ha : args.length = ps.length) (hps : ps.all (fun p => Nat.blt p nt) = true)
    (h : W (runF E n ⟨f, nt, g, setPs g ps args tm, [.code as, .beginRound, .code bd], .run, .normal, some l⟩) ((s.rdN l).cxN cxR) fun p s1 => Q p.1 (s1.cxN s.cx)) : W (roundW (runF E n) l args) s Q := by
  refine W.np (W.within (W.bind (W.bind ?_)))
  refine W.bind (W.rdC (s := s.cxN cxR) hO.2 hO.1 ?_)
  show W (M.chk (Nat.beq args.length ps.length && ps.all fun p => Nat.blt p nt) _) _ _
  refine W.chk (by rw [ha, hps, Nat.beq_refl]; rfl) (W.pure ?_)
  exact h.mono fun p s1 q => W.pure q
theorem W.begR {n l f nt g f' nt' g' d : Nat} {tm tm' : T Value} {T k : List Item} {ki : CallKind} {ps : List Nat} {as bd : Code} {pe : Option Code} {Q : Value × FrameMode → St → Prop} (ht : skim 64 T = .beginRound :: k) (hO : Obj s l (.loop .ready pe f' nt' g' tm' ps as bd d)) (hn : 0 < n)
    (h : W (runF E (n - 1) ⟨f, nt, g, tm, k, .run, ki, some l⟩) ((s.rdN l).wrN l (.O (.loop .busy pe f' nt' g' tm' ps as bd d))) Q) : W (runF E n ⟨f, nt, g, tm, T, .run, ki, some l⟩) s Q := by
  obtain ⟨m, rfl⟩ : ∃ m, n = m + 1 := ⟨n - 1, by omega⟩
  rw [Nat.add_sub_cancel] at h
  refine W.run ?_
  show W (noP (runItems E (callW E (runF E m)) (roundW (runF E m)) ⟨f, nt, g, tm, skim 64 T, .run, ki, some l⟩ (skim 64 T))) s _
  rw [ht]
  refine W.np ?_
  show W (M.bind (Am.rdC l) _) s _
  exact W.bind (W.rdC hO.2 hO.1 (W.bind (W.wrC hO.1 (W.pure h))))
/-- A round's end: on with the next one. -/
theorem W.endR {n l f nt g f' nt' g' d : Nat} {tm tm' : T Value} {T : List Item} {ki : CallKind} {ps : List Nat} {as bd : Code} {st : LoopState} {pe : Option Code} {Q : Value × FrameMode → St → Prop} (ht : skim 64 T = []) (hO : Obj s l (.loop st pe f' nt' g' tm' ps as bd d)) (hn : 0 < n)
    (q : Q (.bool true, .run) ((s.rdN l).wrN l (.O (.loop .ready none f' nt' g' tm' ps as bd d)))) : W (runF E n ⟨f, nt, g, tm, T, .run, ki, some l⟩) s Q := by
  obtain ⟨m, rfl⟩ : ∃ m, n = m + 1 := ⟨n - 1, by omega⟩
  refine W.run ?_
  show W (noP (runItems E (callW E (runF E m)) (roundW (runF E m)) ⟨f, nt, g, tm, skim 64 T, .run, ki, some l⟩ (skim 64 T))) s _
  rw [ht]
  refine W.np ?_
  show W (M.bind (Am.rdC l) _) s _
  exact W.bind (W.rdC hO.2 hO.1 (W.bind (W.wrC hO.1 (W.pure (W.pure q)))))
/-- The end of a frame that a range over a function has left a mark in. -/
theorem W.endK {n f nt g d : Nat} {tm : T Value} {todo P : List Item} {ki : CallKind} {fn : Func} {rs : List ResultVar} {up : Option FrameMode} {Q : Value × FrameMode → St → Prop} (ht : skim 64 todo = P) (hP : (∃ k, P = .code .ret :: k) ∨ P = []) (hn : 3 ≤ n)
    (hf : E.fn.get f = some fn) (hr : fn.results.toList = rs) (hc : s.cx = .cx up (some [collD d])) (hO : Obj s d (.deferred (some []))) (q : W (resL E tm rs) (((s.cxN (.cx up (some []))).rdN d).wrN d (.O (.deferred none))) fun l s1 => Q (tupV l, up.getD .run) s1) : W (runF E n ⟨f, nt, g, tm, todo, .run, ki, none⟩) s Q := by
  obtain ⟨m, rfl⟩ : ∃ m, n = m + 3 := ⟨n - 3, by omega⟩
  subst ht
  have h1 : W (runF E (m + 2) ⟨f, nt, g, tm, skim 64 todo, .returning, ki, none⟩) s Q := by
    refine W.run ?_
    show W (unwindF E (deferW E (runF E (m + 1))) ⟨f, nt, g, tm, skim 64 todo, .returning, ki, none⟩) s _
    refine W.bind (W.getCx ?_)
    rw [hc]
    show W (noP (M.bind (Am.putCx (.cx up (some []))) fun _ => runD (deferW E (runF E (m + 1))) ⟨f, nt, g, tm, skim 64 todo, .returning, ki, none⟩ (collD d))) s _
    refine W.np (W.bind (W.putCx ?_))
    show W (M.bind (Am.rdC d) _) _ _
    refine W.bind (W.rdC (s := s.cxN (.cx up (some []))) hO.2 hO.1 (W.bind (W.wrC hO.1 (W.pure ?_))))
    refine W.run ?_
    show W (unwindF E (deferW E (runF E m)) ⟨f, nt, g, tm, skim 64 todo, .returning, ki, none⟩) _ _
    refine W.bind (W.getCx ?_)
    show W (outF E ⟨f, nt, g, tm, skim 64 todo, .returning, ki, none⟩ up) _ _
    refine W.on hf (W.bind ?_)
    show W (M.bind (resL E tm fn.results.toList) fun l => M.pure (tupV l)) _ _
    rw [hr]
    exact W.bind (q.mono fun l s1 q => W.pure (W.pure (W.pure q)))
  rcases hP with ⟨k, ht⟩ | ht
  · refine W.code ht ?_
    rw [ht] at h1
    exact W.pure h1
  · refine W.run ?_
    show W (noP (runItems E (callW E (runF E (m + 2))) (roundW (runF E (m + 2))) ⟨f, nt, g, tm, skim 64 todo, .run, ki, none⟩ (skim 64 todo))) s _
    rw [ht] at h1 ⊢
    exact W.np (W.pure h1)
end
end Go.Proofs.Ytofanlcjeohcjaa.Am
/- Shifts to the left, 'or' of bits. -/
namespace Go.Proofs.Ytofanlcjeohcjaa.Am
open Go.RowKit
section
variable {E : Env} {s : St} {t : Nat}
theorem fit64 {m : Nat} (h : m ≤ 9223372036854775807) : fitI .i64 m = some (.int .i64 (m : Nat)) := by
  unfold fitI
  rw [Nat.ble_eq_true_of_le (show m ≤ mxOf .i64 from h)]
  show mkI .i64 m = _
  unfold mkI
  rw [fN_eq]
  rfl
theorem shl_run {kk : IntKind} (m n : Nat) (hn : n ≤ 64) (hm : m <<< n ≤ 9223372036854775807) (xo yo : Operand) : Cl.get (aBin E .shl t xo yo) (.int .i64 (m : Nat)) (.int kk (n : Nat)) s = .some (.int .i64 (m <<< n : Nat)) s := by
  show int3 shlK (binSlow E .shl t xo yo) (.int .i64 (.ofNat m)) (.int kk (.ofNat n)) s = _
  show Option.rec (motive := fun _ => R Value) _ (fun v => .some v s) (shlK .i64 kk m n) = _
  have : shlK .i64 kk m n = some (.int .i64 (m <<< n : Nat)) := by
    unfold shlK
    rw [Nat.ble_eq_true_of_le (show n ≤ btOf .i64 from hn)]
    exact fit64 hm
  rw [this]
theorem W_shl {kk : IntKind} {m n : Nat} {xo yo : Operand} (hn : n ≤ 64) (hm : m <<< n ≤ 9223372036854775807) (Q : Value → St → Prop) : W (Cl.get (aBin E .shl t xo yo) (.int .i64 (m : Nat)) (.int kk (n : Nat))) s Q = Q (.int .i64 (m <<< n : Nat)) s := W_run (shl_run m n hn hm xo yo)
theorem W_shl8 {kk : IntKind} {m : Nat} {xo yo : Operand} (hm : m <<< 8 ≤ 9223372036854775807) (Q : Value → St → Prop) : W (Cl.get (aBin E .shl t xo yo) (.int .i64 (m : Nat)) (.int kk 8)) s Q = Q (.int .i64 (m <<< 8 : Nat)) s := W_shl (n := 8) (by decide) hm Q
theorem or_run (m n : Nat) (hm : m ||| n ≤ 9223372036854775807) (xo yo : Operand) : Cl.get (aBin E .or t xo yo) (.int .i64 (m : Nat)) (.int .i64 (n : Nat)) s = .some (.int .i64 (m ||| n : Nat)) s := by
  show int3 orK (binSlow E .or t xo yo) (.int .i64 (.ofNat m)) (.int .i64 (.ofNat n)) s = _
  show Option.rec (motive := fun _ => R Value) _ (fun v => .some v s) (orK .i64 .i64 m n) = _
  have : orK .i64 .i64 m n = some (.int .i64 (m ||| n : Nat)) := by
    unfold orK sameK
    rw [Nat.beq_refl]
    exact fit64 hm
  rw [this]
theorem W_or {m n : Nat} {xo yo : Operand} (hm : m ||| n ≤ 9223372036854775807) (Q : Value → St → Prop) : W (Cl.get (aBin E .or t xo yo) (.int .i64 (m : Nat)) (.int .i64 (n : Nat))) s Q = Q (.int .i64 (m ||| n : Nat)) s := W_run (or_run m n hm xo yo)
end
end Go.Proofs.Ytofanlcjeohcjaa.Am
/- Arrays of bytes held against each other. -/
namespace Go.Proofs.Ytofanlcjeohcjaa.Am
open Go.RowKit
section
variable {P : Program} {E : Env} {s : St} {t : Nat}
theorem semP_typeInfo {i : TypeInfo} (h : P.info? t = some i) : semP P (typeInfo t) = some i := by
  unfold typeInfo program
  show semP P ((match P.info? t with | some i => pure i | none => _) : Sem TypeInfo) = _
  rw [h]
  rfl
theorem semP_sizeOf {i : TypeInfo} (h : P.info? t = some i) : semP P (sizeOf t) = some i.size := by
  unfold sizeOf
  rw [semP_bind, semP_typeInfo h]
  rfl
theorem semP_part8 {cs : Array Value} {off : Nat} {v : Value} {k : IntKind} (hu : P.underlying t = some (.int k)) (h : cs[off]? = some v) : semP P (part t cs off) = some v := by
  unfold part isAgg
  rw [semP_bind, semP_bind, semP_underlying hu]
  simp only [Option.bind_some, semP_pure, Bool.false_eq_true, if_false, h]
theorem semP_eqInt {k : IntKind} {d : Nat} {a b : Int} (hu : P.underlying t = some (.int k)) : semP P (Op.equalIn (d + 1) t (.int .u8 a) (.int .u8 b)) = some (a == b) := by
  simp only [Op.equalIn, semP_bind, semP_underlying hu, Option.bind_some, if_true, semP_pure]
theorem u8l_arr (l : List Nat) {j : Nat} (h : j < l.length) : (u8l l).toArray[j * 1]? = some (.int .u8 (l.getD j 0 : Nat)) := by
  rw [Nat.mul_one, List.getElem?_toArray, List.getElem?_map, List.getElem?_eq_getElem h, List.getD_eq_getElem?_getD, List.getElem?_eq_getElem h]
  rfl
theorem getD_all (l m : List Nat) (h : l.length = m.length) : (List.range' 0 l.length).all (fun j => l.getD j 0 == m.getD j 0) = decide (l = m) := by
  rw [Bool.eq_iff_iff, List.all_eq_true, decide_eq_true_eq]
  constructor
  · intro q
    refine List.ext_getElem h fun j h1 h2 => ?_
    have := q j (by simp; exact h1)
    rw [beq_iff_eq, List.getD_eq_getElem?_getD, List.getD_eq_getElem?_getD, List.getElem?_eq_getElem h1, List.getElem?_eq_getElem h2] at this
    exact this
  · rintro rfl j _
    exact beq_self_eq_true _
theorem semP_eqArr (d : Nat) {e n : Nat} {i : TypeInfo} (l m : List Nat) (hu : P.underlying t = some (.array n e)) (hi : P.info? e = some i) (hz : i.size = 1) (he : P.underlying e = some (.int .u8)) (hl : l.length = n) (hm : m.length = n) :
    semP P (Op.equalIn (d + 2) t (.agg (u8l l).toArray) (.agg (u8l m).toArray)) = some (decide (l = m)) := by
  rw [← getD_all l m (by rw [hl, hm]), hl]
  rw [show d + 2 = (d + 1) + 1 from rfl]
  unfold Op.equalIn
  simp only [semP_bind, semP_underlying hu, Option.bind_some, semP_sizeOf hi, hz]
  simp only [Std.Legacy.Range.forIn_eq_forIn_range', Std.Legacy.Range.size, Nat.sub_zero, Nat.add_one_sub_one, Nat.div_one]
  have hr : ∀ j ∈ List.range' 0 n, j < n := fun j hj => by simpa using hj
  generalize List.range' 0 n = is at hr
  induction is with
  | nil => rfl
  | cons j is ih =>
    have hj := hr j (by simp)
    have ih := ih fun k hk => hr k (by simp [hk])
    simp only [List.forIn_cons, semP_bind, semP_part8 he (u8l_arr l (show j < l.length by rw [hl]; exact hj)), semP_part8 he (u8l_arr m (show j < m.length by rw [hm]; exact hj)), Option.bind_some, semP_eqInt he, List.all_cons]
    by_cases hq : l.getD j 0 = m.getD j 0
    · rw [hq] at *
      simp only [beq_self_eq_true, Bool.true_and, Bool.not_true, Bool.false_eq_true, if_false, semP_pure, Option.bind_some]
      exact ih
    · have h1 : ((l.getD j 0 : Nat) : Int) ≠ ((m.getD j 0 : Nat) : Int) := fun h => hq (by exact_mod_cast h)
      have h2 : (((l.getD j 0 : Nat) : Int) == ((m.getD j 0 : Nat) : Int)) = false := by simpa using h1
      have h3 : (l.getD j 0 == m.getD j 0) = false := by simpa using hq
      rw [h2, h3]
      simp [semP_pure]
/-- An array of bytes, that is held against another one. -/
noncomputable def arrB (P : Program) (t : Nat) : Option Nat := match P.underlying t with
  | some (.array n e) => (match P.info? e, P.underlying e with
    | some i, some (.int .u8) => bif Nat.beq i.size 1 && !P.eqGuardType P.depth t then some n else none
    | _, _ => none)
  | _ => none
theorem arrB_inv {n : Nat} (h : arrB P t = some n) : ∃ e i, P.underlying t = some (.array n e) ∧ P.info? e = some i ∧ P.underlying e = some (.int .u8) ∧ i.size = 1 ∧ P.eqGuardType P.depth t = false := by
  unfold arrB at h
  split at h
  · rename_i n2 e hu
    split at h
    · rename_i i hi he
      cases hc : (Nat.beq i.size 1 && !P.eqGuardType P.depth t)
      · rw [hc] at h
        cases h
      · rw [hc] at h
        cases h
        rw [Bool.and_eq_true] at hc
        exact ⟨e, i, hu, hi, he, Nat.eq_of_beq_eq_true hc.1, by simpa using hc.2⟩
    · cases h
  · cases h
theorem plain_u8 (l : List Nat) : plain (.agg (u8l l).toArray) = true := by
  show (u8l l).toArray.toList.all (plainD 3) = true
  rw [List.all_eq_true]
  intro v hv
  simp only [List.mem_map] at hv
  obtain ⟨n, _, rfl⟩ := hv
  rfl
theorem semP_guardArr {xo yo : Operand} {op : BinOp} {l m : List Nat} (hop : op = .eql ∨ op = .neq) (hg : P.eqGuardType P.depth t = false) : semP P (eqGuard op t xo yo (.agg (u8l l).toArray) (.agg (u8l m).toArray)) = some () := by
  have hp : semP P program = some P := rfl
  rcases hop with rfl | rfl <;> (unfold eqGuard; simp only [Bool.not_true, Bool.not_false, Bool.false_eq_true, if_false, if_true, semP_bind, hp, Option.bind_some, hg, semP_pure])
theorem eqArr_run {n : Nat} {l m : List Nat} {xo yo : Operand} (h : arrB E.P t = some n) (hl : l.length = n) (hm : m.length = n) :
    Cl.get (aBin E .eql t xo yo) (.agg (u8l l).toArray) (.agg (u8l m).toArray) s = .some (.bool (decide (l = m))) s := by
  obtain ⟨e, i, h1, h2, h3, h4, h5⟩ := arrB_inv h
  show binSlow E .eql t xo yo (.agg (u8l l).toArray) (.agg (u8l m).toArray) s = _
  unfold binSlow
  rw [plain_u8, plain_u8]
  show M.on (semP E.P (do eqGuard .eql t xo yo (.agg (u8l l).toArray) (.agg (u8l m).toArray); binOp .eql t (.agg (u8l l).toArray) (.agg (u8l m).toArray))) pV s = _
  rw [semP_bind, semP_guardArr (.inl rfl) h5]
  show M.on (semP E.P (do pure (.bool (← Op.equalIn (9998 + 2) t (.agg (u8l l).toArray) (.agg (u8l m).toArray))))) pV s = _
  rw [semP_bind, semP_eqArr 9998 l m h1 h2 h4 h3 hl hm]
  rfl
theorem neArr_run {n : Nat} {l m : List Nat} {xo yo : Operand} (h : arrB E.P t = some n) (hl : l.length = n) (hm : m.length = n) :
    Cl.get (aBin E .neq t xo yo) (.agg (u8l l).toArray) (.agg (u8l m).toArray) s = .some (.bool (!decide (l = m))) s := by
  obtain ⟨e, i, h1, h2, h3, h4, h5⟩ := arrB_inv h
  show binSlow E .neq t xo yo (.agg (u8l l).toArray) (.agg (u8l m).toArray) s = _
  unfold binSlow
  rw [plain_u8, plain_u8]
  show M.on (semP E.P (do eqGuard .neq t xo yo (.agg (u8l l).toArray) (.agg (u8l m).toArray); binOp .neq t (.agg (u8l l).toArray) (.agg (u8l m).toArray))) pV s = _
  rw [semP_bind, semP_guardArr (.inr rfl) h5]
  show M.on (semP E.P (do pure (.bool (!(← Op.equalIn (9998 + 2) t (.agg (u8l l).toArray) (.agg (u8l m).toArray)))))) pV s = _
  rw [semP_bind, semP_eqArr 9998 l m h1 h2 h4 h3 hl hm]
  rfl
theorem W_eqArr {n : Nat} {l m : List Nat} {xo yo : Operand} (h : arrB E.P t = some n) (hl : l.length = n) (hm : m.length = n) (Q : Value → St → Prop) : W (Cl.get (aBin E .eql t xo yo) (.agg (u8l l).toArray) (.agg (u8l m).toArray)) s Q = Q (.bool (decide (l = m))) s := W_run (eqArr_run h hl hm)
theorem W_neArr {n : Nat} {l m : List Nat} {xo yo : Operand} (h : arrB E.P t = some n) (hl : l.length = n) (hm : m.length = n) (Q : Value → St → Prop) : W (Cl.get (aBin E .neq t xo yo) (.agg (u8l l).toArray) (.agg (u8l m).toArray)) s Q = Q (.bool (!decide (l = m))) s := W_run (neArr_run h hl hm)

/-! ### Texts -/
theorem bin_str {op : BinOp} {xo yo : Operand} {a b : ByteArray} {v : Value} (hc : ∀ s, Cl.get (aBin E op t xo yo) (.string a) (.string b) s = binSlow E op t xo yo (.string a) (.string b) s) (hg : semP E.P (eqGuard op t xo yo (.string a) (.string b)) = some ()) (hb : semP E.P (binOp op t (.string a) (.string b)) = some v) (hv : ∀ s : St, pV v s = .some v s) :
    Cl.get (aBin E op t xo yo) (.string a) (.string b) s = .some v s := by
  rw [hc]
  unfold binSlow
  show M.on (semP E.P (do eqGuard op t xo yo (.string a) (.string b); binOp op t (.string a) (.string b))) pV s = _
  rw [semP_bind, hg]
  show M.on (semP E.P (binOp op t (.string a) (.string b))) pV s = _
  rw [hb]
  exact hv s
theorem W_eqS {xo yo : Operand} (a b : ByteArray) (Q : Value → St → Prop) : W (Cl.get (aBin E .eql t xo yo) (.string a) (.string b)) s Q = Q (.bool (a.data.toList == b.data.toList)) s :=
  W_run (bin_str (fun _ => rfl) rfl (by rw [← ByteArray.toList_eq, ← ByteArray.toList_eq]; rfl) fun _ => rfl)
theorem W_neS {xo yo : Operand} (a b : ByteArray) (Q : Value → St → Prop) : W (Cl.get (aBin E .neq t xo yo) (.string a) (.string b)) s Q = Q (.bool (!(a.data.toList == b.data.toList))) s :=
  W_run (bin_str (fun _ => rfl) rfl (by rw [← ByteArray.toList_eq, ← ByteArray.toList_eq]; rfl) fun _ => rfl)
theorem W_geS {xo yo : Operand} (a b : ByteArray) (Q : Value → St → Prop) : W (Cl.get (aBin E .geq t xo yo) (.string a) (.string b)) s Q = Q (.bool (!Op.bytesLess a.data.toList b.data.toList)) s :=
  W_run (bin_str (fun _ => rfl) rfl (by rw [← ByteArray.toList_eq, ← ByteArray.toList_eq]; rfl) fun _ => rfl)
theorem W_addS {xo yo : Operand} {a b : ByteArray} (h : a.size + b.size ≤ 9223372036854775807) (Q : Value → St → Prop) : W (Cl.get (aBin E .add t xo yo) (.string a) (.string b)) s Q = Q (.string (a ++ b)) s :=
  W_run (bin_str (fun _ => rfl) rfl (by
    show semP E.P (if ((a.size + b.size : Nat) : Int) > IntKind.i64.max then _ else _) = _
    rw [if_neg (by show ¬ ((a.size + b.size : Nat) : Int) > 9223372036854775807; omega)]
    rfl) fun _ => rfl)
theorem isStrT_inv (h : isStrT E t = true) : ∃ i, T.get E.ty t = some i ∧ i.u = .string := by
  unfold isStrT at h
  split at h
  · rename_i i hi
    split at h
    · rename_i hs
      exact ⟨i, hi, hs⟩
    · cases h
  · cases h
theorem W_lenS (h : isStrT E t = true) (a : ByteArray) (Q : Value → St → Prop) : W (aBuiltin E .len [t] [.string a]) s Q = Q (.int .i64 (a.size : Nat)) s := by
  obtain ⟨i, h1, h2⟩ := isStrT_inv h
  refine W_run ?_
  show aLen E t (.string a) s = _
  unfold aLen
  rw [bind_run (show ti E t s = .some i s by unfold ti; rw [h1]; rfl), h2]
  show pN a.size s = _
  unfold pN
  rw [fN_eq]
  rfl
theorem W_idxS {kd : IntKind} {k : Nat} {a : ByteArray} {b : UInt8} (h : isStrT E t = true) (hb : a.data.toList[k]? = some b) (Q : Value → St → Prop) : W (kIdx E t (.string a) (.int kd (k : Nat))) s Q = Q (.int .u8 (b.toNat : Nat)) s := by
  obtain ⟨i, h1, h2⟩ := isStrT_inv h
  refine W_run ?_
  unfold kIdx
  rw [bind_run (show ti E t s = .some i s by unfold ti; rw [h1]; rfl), bind_run (show asN (.int kd (k : Nat)) s = .some k s from rfl)]
  unfold idxV
  rw [h2]
  show M.on (a.data.toList[k]?) _ s = _
  rw [hb]
  rfl
theorem W_slS {a : ByteArray} {lo hi : Option Value} {l h : Nat} (ht : isStrT E t = true) (hlo : bndV lo 0 = some l) (hhi : bndV hi a.size = some h) (hl : l ≤ h) (hc : h ≤ a.size) (Q : Value → St → Prop) : W (aSlice E t (.string a) lo hi) s Q = Q (.string (a.extract l h)) s := by
  obtain ⟨i, h1, h2⟩ := isStrT_inv ht
  refine W_run ?_
  unfold aSlice
  rw [bind_run (show ti E t s = .some i s by unfold ti; rw [h1]; rfl), h2]
  show slStr a lo hi s = _
  unfold slStr
  rw [bind_run (bnd_run hhi hc), bind_run (bnd_run hlo hl)]
  rfl
end
end Go.Proofs.Ytofanlcjeohcjaa.Am
/- Numbers' names and what names say: plain, with no program in sight. -/
namespace Go.Proofs.Ytofanlcjeohcjaa.Am

def preL : List UInt8 := [112, 97, 99, 107, 47]
def dig6 (n : Nat) : List Nat := [48 + n / 100000 % 10, 48 + n / 10000 % 10, 48 + n / 1000 % 10, 48 + n / 100 % 10, 48 + n / 10 % 10, 48 + n % 10]
def nameL (n : Int) : List UInt8 := if 1 ≤ n ∧ n ≤ 999999 then preL ++ (dig6 n.toNat).map UInt8.ofNat else []
def isDig (c : UInt8) : Bool := decide (48 ≤ c.toNat) && decide (c.toNat ≤ 57)
def val6 (a : Nat) (l : List UInt8) : Nat := l.foldl (fun a c => 10 * a + (c.toNat - 48)) a
def parseL (d : List UInt8) : Nat × Bool :=
  if d.take 5 = preL ∧ d.length = 11 ∧ (d.drop 5).all isDig = true then (val6 0 (d.drop 5), decide (0 < val6 0 (d.drop 5))) else (0, false)
theorem ofNat_toNat {k : Nat} (h : k < 256) : (UInt8.ofNat k).toNat = k := by simp; omega
theorem digs_all (n : Nat) : ((dig6 n).map UInt8.ofNat).all isDig = true := by
  simp only [dig6, List.map_cons, List.map_nil, List.all_cons, List.all_nil, Bool.and_true, isDig, Bool.and_eq_true, decide_eq_true_eq]
  have h : ∀ k, k < 10 → 48 ≤ (UInt8.ofNat (48 + k)).toNat ∧ (UInt8.ofNat (48 + k)).toNat ≤ 57 := fun k hk => by rw [ofNat_toNat (by omega)]; omega
  exact ⟨h _ (by omega), h _ (by omega), h _ (by omega), h _ (by omega), h _ (by omega), h _ (by omega)⟩
theorem val_digs {n : Nat} (h : n ≤ 999999) : val6 0 ((dig6 n).map UInt8.ofNat) = n := by
  simp only [dig6, List.map_cons, List.map_nil, val6, List.foldl_cons, List.foldl_nil]
  rw [ofNat_toNat (by omega), ofNat_toNat (by omega), ofNat_toNat (by omega), ofNat_toNat (by omega), ofNat_toNat (by omega), ofNat_toNat (by omega)]
  omega
/-- What is parsed of a name. -/
theorem parse_name (n : Int) : parseL (nameL n) = if 1 ≤ n ∧ n ≤ 999999 then (n.toNat, true) else (0, false) := by
  unfold nameL
  by_cases h : 1 ≤ n ∧ n ≤ 999999
  · rw [if_pos h, if_pos h]
    have hd : (preL ++ (dig6 n.toNat).map UInt8.ofNat).drop 5 = (dig6 n.toNat).map UInt8.ofNat := rfl
    unfold parseL
    rw [hd, digs_all, val_digs (by omega), if_pos ⟨rfl, rfl, rfl⟩]
    rw [decide_eq_true (by omega)]
  · rw [if_neg h, if_neg h]
    rfl
theorem dig_of (c : UInt8) (h : isDig c = true) : UInt8.ofNat (48 + (c.toNat - 48)) = c := by
  simp only [isDig, Bool.and_eq_true, decide_eq_true_eq] at h
  rw [show 48 + (c.toNat - 48) = c.toNat by omega]
  simp
/-- What is parsed has this name. -/
theorem name_parse (d : List UInt8) : ((parseL d).2 = true → nameL (parseL d).1 = d ∧ 1 ≤ (parseL d).1 ∧ (parseL d).1 ≤ 999999) ∧ ((parseL d).2 = false → (parseL d).1 = 0) := by
  unfold parseL
  by_cases h : d.take 5 = preL ∧ d.length = 11 ∧ (d.drop 5).all isDig = true
  · rw [if_pos h]
    obtain ⟨h1, h2, h3⟩ := h
    have hlen : (d.drop 5).length = 6 := by rw [List.length_drop, h2]
    have hd : d = preL ++ d.drop 5 := by rw [← h1, List.take_append_drop]
    obtain ⟨v, hv⟩ : ∃ v, v = val6 0 (d.drop 5) := ⟨_, rfl⟩
    rw [← hv]
    generalize d.drop 5 = e at *
    subst hd
    match e, hlen with
    | [a, b, c, x, y, z], _ =>
      simp only [List.all_cons, List.all_nil, Bool.and_true, Bool.and_eq_true] at h3
      obtain ⟨p1, p2, p3, p4, p5, p6⟩ := h3
      have q : ∀ c : UInt8, isDig c = true → 48 ≤ c.toNat ∧ c.toNat ≤ 57 := fun c h => by
        simpa only [isDig, Bool.and_eq_true, decide_eq_true_eq] using h
      have q1 := q _ p1; have q2 := q _ p2; have q3 := q _ p3; have q4 := q _ p4; have q5 := q _ p5; have q6 := q _ p6
      simp only [val6, List.foldl_cons, List.foldl_nil] at hv
      refine ⟨fun h => ?_, fun h => ?_⟩
      · have h0 : 0 < v := by simpa using h
        have h9 : v ≤ 999999 := by omega
        refine ⟨?_, h0, h9⟩
        show nameL ((v : Nat) : Int) = preL ++ [a, b, c, x, y, z]
        unfold nameL
        rw [if_pos ⟨by omega, by omega⟩]
        congr 1
        rw [show ((v : Nat) : Int).toNat = v from rfl]
        simp only [dig6, List.map_cons, List.map_nil]
        rw [show v / 100000 % 10 = a.toNat - 48 by omega, show v / 10000 % 10 = b.toNat - 48 by omega, show v / 1000 % 10 = c.toNat - 48 by omega, show v / 100 % 10 = x.toNat - 48 by omega, show v / 10 % 10 = y.toNat - 48 by omega, show v % 10 = z.toNat - 48 by omega]
        rw [dig_of _ p1, dig_of _ p2, dig_of _ p3, dig_of _ p4, dig_of _ p5, dig_of _ p6]
      · have : ¬ 0 < v := by simpa using h
        show v = 0
        omega
  · rw [if_neg h]
    exact ⟨fun h => (by cases h), fun _ => rfl⟩
def natLess : List Nat → List Nat → Bool
  | _, [] => false
  | [], _ :: _ => true
  | a :: x, b :: y => decide (a < b) || (decide (a = b) && natLess x y)
theorem less_nat : ∀ (l m : List Nat), (∀ x ∈ l, x < 256) → (∀ x ∈ m, x < 256) → Op.bytesLess (l.map UInt8.ofNat) (m.map UInt8.ofNat) = natLess l m
  | [], [], _, _ => rfl
  | _ :: _, [], _, _ => rfl
  | [], _ :: _, _, _ => rfl
  | a :: l, b :: m, h1, h2 => by
    have ha : a < 256 := h1 a (by simp)
    have hb : b < 256 := h2 b (by simp)
    simp only [List.map_cons, Op.bytesLess, natLess]
    rw [less_nat l m (fun x hx => h1 x (by simp [hx])) (fun x hx => h2 x (by simp [hx]))]
    have e1 : decide (UInt8.ofNat a < UInt8.ofNat b) = decide (a < b) := by
      rw [decide_eq_decide, UInt8.lt_iff_toNat_lt, ofNat_toNat ha, ofNat_toNat hb]
    have e2 : (UInt8.ofNat a == UInt8.ofNat b) = decide (a = b) := by
      rw [Bool.eq_iff_iff, beq_iff_eq, decide_eq_true_eq, ← UInt8.toNat_inj, ofNat_toNat ha, ofNat_toNat hb]
    rw [e1, e2]
theorem less_pre : ∀ (p x y : List UInt8), Op.bytesLess (p ++ x) (p ++ y) = Op.bytesLess x y
  | [], _, _ => rfl
  | a :: p, x, y => by
    show (decide (a < a) || (a == a && Op.bytesLess (p ++ x) (p ++ y))) = _
    rw [less_pre p x y]
    simp
/-- Names rise with their numbers. -/
theorem name_less {n m : Int} (h1 : 1 ≤ n) (h : n < m) (h2 : m ≤ 999999) : Op.bytesLess (nameL n) (nameL m) = true := by
  unfold nameL
  rw [if_pos ⟨h1, by omega⟩, if_pos ⟨by omega, h2⟩, less_pre, less_nat]
  · have h' : n.toNat < m.toNat := by omega
    have h9 : m.toNat ≤ 999999 := by omega
    generalize n.toNat = a at *
    generalize m.toNat = b at *
    simp only [dig6, natLess, Bool.or_eq_true, Bool.and_eq_true, decide_eq_true_eq, Bool.and_false, Bool.or_false]
    rcases Nat.lt_or_ge (a / 100000) (b / 100000) with g1 | g1
    · left; omega
    right; refine ⟨by omega, ?_⟩
    have e1 : a / 100000 = b / 100000 := by omega
    rcases Nat.lt_or_ge (a / 10000) (b / 10000) with g2 | g2
    · left; omega
    right; refine ⟨by omega, ?_⟩
    have e2 : a / 10000 = b / 10000 := by omega
    rcases Nat.lt_or_ge (a / 1000) (b / 1000) with g3 | g3
    · left; omega
    right; refine ⟨by omega, ?_⟩
    have e3 : a / 1000 = b / 1000 := by omega
    rcases Nat.lt_or_ge (a / 100) (b / 100) with g4 | g4
    · left; omega
    right; refine ⟨by omega, ?_⟩
    have e4 : a / 100 = b / 100 := by omega
    rcases Nat.lt_or_ge (a / 10) (b / 10) with g5 | g5
    · left; omega
    right; refine ⟨by omega, ?_⟩
    have e5 : a / 10 = b / 10 := by omega
    omega
  · intro x hx
    simp only [dig6, List.mem_cons, List.not_mem_nil, or_false] at hx
    omega
  · intro x hx
    simp only [dig6, List.mem_cons, List.not_mem_nil, or_false] at hx
    omega
end Go.Proofs.Ytofanlcjeohcjaa.Am
/- From what is said of all states of the evaluator to contracts: arguments that lay there ahead of the call. -/
namespace Go.Proofs.Ytofanlcjeohcjaa.Am
open Go.RowKit

/-- A memory of nothing but what lay there ahead of the call. -/
theorem Rel.ofOld {w : World} {r : Inj} {mem : T Cell} (hk : r.known.sure w) (hd : ∀ b b' d, r.blk b = some (b', d) → b' < w.heap.size)
    (ho : ∀ loc c, T.get mem loc = some c → ∃ b v, c = .O (.old b v) ∧ ∃ b' d v', b ≤ loc ∧ r.blk b = some (b', d) ∧ w.cell? ⟨b', loc - b + d, none⟩ = some v' ∧ VR r v v') : Rel w r mem w where
  below := .refl _ _
  dom := fun b b' d e => ⟨Nat.le_refl _, hd b b' d e⟩
  cell := fun l b v e => by obtain ⟨_, _, e2, _⟩ := ho _ _ e; cases e2
  sep := fun l1 l2 b1 v1 b2 v2 b' d1 d2 e => by obtain ⟨_, _, e2, _⟩ := ho _ _ e; cases e2
  obj := fun l o e ht => by obtain ⟨_, _, e2, _⟩ := ho _ _ e; cases e2; cases ht
  sepO := fun l1 l2 o1 o2 b' d1 d2 e _ ht => by obtain ⟨_, _, e2, _⟩ := ho _ _ e; cases e2; cases ht
  tok := fun t sz e => by obtain ⟨_, _, e2, _⟩ := ho _ _ e; cases e2
  sepT := fun t1 t2 s1 s2 k1 k2 e => by obtain ⟨_, _, e2, _⟩ := ho _ _ e; cases e2
  known := hk
  szs := fun l n e => by obtain ⟨_, _, e2, _⟩ := ho _ _ e; cases e2
  olds := {
    old := fun l b v e => by obtain ⟨_, _, e2, h⟩ := ho _ _ e; cases e2; exact h
    newC := fun l b v b' d e => by obtain ⟨_, _, e2, _⟩ := ho _ _ e; cases e2
    newO := fun l o b' d e ht => by obtain ⟨_, _, e2, _⟩ := ho _ _ e; cases e2; cases ht
    newS := fun l n b' d e => by obtain ⟨_, _, e2, _⟩ := ho _ _ e; cases e2 }
/-- A call of given arguments, from any world that has them: it returns what is said, if that has no address in it; nothing that was there is touched. -/
theorem calls_sym {E : Env} (he : EnvOK E) {fuel f : Nat} {args : List Value} {args' : Array Value} {v : Value} {s0 : St} {r : Inj} (ho : E.orc.get f = none) (hx : E.ext.get f = none) (h : W (callW E (runF E fuel) f args) s0 fun u _ => u = v) (hp : plain v = true) {w : World} (ha : VRs r args args'.toList) (hr : Rel w r s0.mem w) (hb : Bnd s0)
    (hf : ∀ b, s0.next ≤ b → r.blk b = none ∧ r.ext b = none) : Calls E.P f args' w fun e w' => e = .returned v ∧ Below w.heap.size w w' := by
  intro cs
  obtain ⟨_, s', h, rfl⟩ := h
  unfold callW at h
  rw [ho, hx] at h
  obtain ⟨s2, e1, rfl⟩ := within_rOf (o := .inl _) (show within cxN (M.bind (M.bind (enterF E f args .normal) (runF E fuel)) fstV) s0 = rOf (.inl _) s' from h)
  obtain ⟨af, s1, o, e2, e3, e4⟩ := fst_rOf (np_enterF _ _ _) e1
  obtain ⟨_, hF, rfl⟩ := enter_ok (r := r) (base := ([], cs)) (cx := cxN) he e2 ha (cs := cs) ⟨⟨rfl, rfl⟩, rfl, .nil⟩
  obtain ⟨w', r', k1, k2, cs', k3, k4⟩ := (runF_ok he fuel).ok e3 hF hr hb (fun b h1 _ => hf b h1)
  cases o with
  | inr c => cases e4
  | inl p =>
    cases e4
    obtain ⟨v', q1, q2, q3⟩ := k4
    obtain ⟨fr', x1, x2, x3⟩ := q3 rfl rfl
    have hcs : cs' = cs := by
      rcases k3 with k3 | ⟨_, _, _, _, _, k, _⟩
      · exact k3.2
      · cases k
    subst hcs
    exact ⟨.returned v', w', fr', ⟨by rw [q1.eq_of_plain hp], k1.rel.below⟩, x3, x1, x2⟩
/-- .. of arguments that have no address in them. -/
theorem VRs.plains {r : Inj} : ∀ {l : List Value}, (∀ v ∈ l, plain v = true) → VRs r l l
  | [], _ => .nil
  | v :: l, h => .cons (.of_plain (h v (by simp))) (VRs.plains fun u hu => h u (by simp [hu]))
theorem calls_plain {E : Env} (he : EnvOK E) {fuel f : Nat} {args : Array Value} {v : Value} (ho : E.orc.get f = none) (hx : E.ext.get f = none) (h : W (callW E (runF E fuel) f args.toList) st0 fun u _ => u = v) (hp : plain v = true) (ha : ∀ v ∈ args.toList, plain v = true) (w : World) :
    Calls E.P f args w fun e w' => e = .returned v ∧ Below w.heap.size w w' :=
  calls_sym he ho hx h hp (VRs.plains ha) (Rel.empty w (Know.no_sure w)) (Nat.le_refl _) fun _ _ => ⟨rfl, rfl⟩

/-! ### What arguments of these types are -/
theorem ok_int {P : Program} {w : World} {rc : Reach} {base : Nat} {t : TypeId} {v : Value} {k : IntKind} (hu : P.underlying t = some (.int k)) (h : Value.okWide P w rc base t v) : ∃ n, v = .int k n ∧ k.min ≤ n ∧ n ≤ k.max := by
  unfold Value.okWide at h
  rw [hu] at h
  simp only at h
  unfold Cell.okWide Cell.ok at h
  rw [hu] at h
  cases v <;> simp at h
  rename_i k' n
  obtain ⟨rfl, h1, h2⟩ := h
  exact ⟨n, rfl, h1, h2⟩
theorem ok_str {P : Program} {w : World} {rc : Reach} {base : Nat} {t : TypeId} {v : Value} (hu : P.underlying t = some .string) (h : Value.okWide P w rc base t v) : ∃ s, v = .string s ∧ s.size ≤ 9223372036854775807 := by
  unfold Value.okWide at h
  rw [hu] at h
  simp only at h
  unfold Cell.okWide Cell.ok at h
  rw [hu] at h
  cases v <;> simp at h
  rename_i s
  refine ⟨s, rfl, ?_⟩
  have : (s.size : Int) ≤ 9223372036854775807 := h
  omega
/-! ### A row of bytes that lay there -/
noncomputable def layT (b : Nat) : List Value → Nat → T Cell → T Cell
  | [], _, t => t
  | v :: l, i, t => layT b l (i + 1) (T.set t i (.O (.old b v)))
theorem layT_get (b : Nat) : ∀ (l : List Value) (i : Nat) (t : T Cell) (j : Nat), T.get (layT b l i t) j = if i ≤ j ∧ j < i + l.length then (l[j - i]?).map (fun v => .O (.old b v)) else T.get t j
  | [], i, t, j => by
    rw [if_neg (by simp only [List.length_nil]; omega)]
    rfl
  | v :: l, i, t, j => by
    show T.get (layT b l (i + 1) (T.set t i (.O (.old b v)))) j = _
    rw [layT_get b l (i + 1), T.get_set]
    simp only [List.length_cons]
    by_cases h1 : j = i
    · subst h1
      rw [if_neg (by omega), if_pos rfl, if_pos (by omega), Nat.sub_self]
      rfl
    · rw [if_neg h1]
      by_cases h2 : i + 1 ≤ j ∧ j < i + 1 + l.length
      · rw [if_pos h2, if_pos (by omega), show j - i = (j - (i + 1)) + 1 by omega]
        rfl
      · rw [if_neg h2, if_neg (by omega)]
/-- A state in which this row lies, from its first place on. -/
noncomputable def stRow (l : List Value) : St := ⟨layT 0 l 0 .E, l.length + 1, 0, [], [], .no⟩
theorem stRow_row (l : List Value) : Row (stRow l) 0 0 l := fun i v e => by
  have hi := (List.getElem?_eq_some_iff.1 e).1
  refine ⟨?_, .inr ?_⟩
  · show 0 + (0 + i) < l.length + 1
    omega
  · show T.get (layT 0 l 0 .E) (0 + (0 + i)) = _
    rw [layT_get, if_pos (by omega), show 0 + (0 + i) - 0 = i by omega, e]
    rfl
/-- Where it lies; a mark for the room behind it. -/
def injRow (b' d : Nat) (k : Tok) : Inj := ⟨fun b => if b = 0 then some (b', d) else none, fun t => if t = 0 then some k else none, .no⟩
theorem stRow_rel {w : World} {l : List Value} {b' d : Nat} {k : Tok} (hb : b' < w.heap.size) (hl : ∀ i v, l[i]? = some v → plain v = true ∧ w.cell? ⟨b', i + d, none⟩ = some v) : Rel w (injRow b' d k) (stRow l).mem w := by
  refine Rel.ofOld (Know.no_sure w) (fun b b2 d2 e => ?_) fun loc c e => ?_
  · simp only [injRow] at e
    split at e
    · cases e; exact hb
    · cases e
  · have e' : T.get (layT 0 l 0 .E) loc = some c := e
    rw [layT_get] at e'
    split at e'
    · rename_i h
      rw [Option.map_eq_some_iff] at e'
      obtain ⟨v, e1, rfl⟩ := e'
      obtain ⟨h1, h2⟩ := hl _ _ e1
      exact ⟨0, v, rfl, b', d, v, Nat.zero_le _, by simp [injRow], h2, .of_plain h1⟩
    · cases e'
/-- A slice of these cells, as the evaluator has it. -/
noncomputable def slRow (n c : Nat) : Value := .slice (some ⟨0, 0, none⟩) n (if c < capU then c else capU + n)
theorem slRow_vr {b' d n c : Nat} (hn : n ≤ c) (hc : n < capU) : VR (injRow b' d ⟨c - n, b', d + n, 1⟩) (slRow n c) (.slice (some ⟨b', d, none⟩) n c) := by
  have h : VR (injRow b' d ⟨c - n, b', d + n, 1⟩) (.slice (some ⟨0, 0, none⟩) n (if c < capU then c else capU + n)) (.slice (some ⟨b', 0 + d, none⟩) n c) := by
    by_cases h : c < capU
    · rw [if_pos h]
      exact .sl (by simp [injRow]) (.inl ⟨Nat.div_eq_of_lt h, rfl⟩) (by rw [Nat.mod_eq_of_lt h]; exact hn)
    · rw [if_neg h]
      have hd : (capU + n) / capU = 1 := by
        rw [Nat.add_div_left _ (by decide), Nat.div_eq_of_lt hc]
      have hm : (capU + n) % capU = n := by
        rw [Nat.add_mod_left, Nat.mod_eq_of_lt hc]
      refine .sl (by simp [injRow]) (.inr ⟨by rw [hd]; decide, ⟨c - n, b', d + n, 1⟩, ?_, ?_, ?_, rfl, ?_⟩) (by rw [hm]; exact Nat.le_refl _)
      · rw [hd]; rfl
      · rw [hd]
      · rw [hm]; simp only; omega
      · rw [hm]; simp only; omega
  rw [Nat.zero_add] at h
  exact h
end Go.Proofs.Ytofanlcjeohcjaa.Am
/- Arguments that read behind the call as before. -/
namespace Go.Proofs.Ytofanlcjeohcjaa.Am
open Go.RowKit Go.ChangeShapes

/-- A type's zero. -/
noncomputable def zeroT (P : Program) (t : Nat) : Value := ((P.info? t).bind (·.zero)).getD .nilFunc
section
variable {H : Type} {enc : TypeId × Value → H} {P : Program} {W W' : World}
/-- Arguments read behind the call as they did before it. -/
theorem below_all (hl : laidOutB P = true) (hb : Below W.heap.size W W') {sp : Nat → Bool} : ∀ {ts : List TypeId} {vs : List Value} {ds : List (DataW H)} {ps : List MemPlace}, (ts.all fun t => P.readableRec t && decide (t < P.types.size)) = true → DataW.TrodAll enc P W 0 (fun _ => true) true ts vs ds ps → (∀ x ∈ ps, x.block < W.heap.size) → (∀ x ∈ ps, sp x.block = true) →
    DataW.TrodAll enc P W' 0 sp true ts vs ds ps
  | [], _, _, _, _, h, _, _ => by
    obtain ⟨rfl, rfl, rfl⟩ := trodAll_nil h
    exact trodAll_mk0
  | t :: ts, _, _, _, hr, h, hlt, hsp => by
    obtain ⟨v, vs, d, ds, p, q, rfl, rfl, rfl, h1, h2⟩ := trodAll_cons h
    rw [List.all_cons, Bool.and_eq_true, Bool.and_eq_true] at hr
    refine ⟨p, q, WideElems.Trod_stays hl hr.1.1 (of_decide_eq_true hr.1.2) h1 (fun x hx => hb.same (hlt x (List.mem_append_left _ hx))) (fun x hx => hsp x (List.mem_append_left _ hx)), ?_, rfl⟩
    exact below_all hl hb hr.2 h2 (fun x hx => hlt x (List.mem_append_right _ hx)) (fun x hx => hsp x (List.mem_append_right _ hx))
end
end Go.Proofs.Ytofanlcjeohcjaa.Am
