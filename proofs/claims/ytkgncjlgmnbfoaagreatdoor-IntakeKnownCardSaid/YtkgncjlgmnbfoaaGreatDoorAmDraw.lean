/- A region whose order is open, in whatever order it is drawn. -/
import Derived.Test.YtkgncjlgmnbfoaaGreatDoorAmOrd
namespace Go.Proofs.YtkgncjlgmnbfoaaGreatDoor.Am
open Go.RowKit

/-! ### The checks -/
theorem newsL_mem {n0 x : Nat} : ∀ {l acc : List Nat}, (x ∈ l ∧ n0 ≤ x) ∨ x ∈ acc → x ∈ newsL n0 l acc
  | [], acc, h => h.elim (fun h => by cases h.1) id
  | a :: l, acc, h => by
    show x ∈ Bool.rec (motive := fun _ => List Nat) (newsL n0 l acc) (a :: newsL n0 l acc) (Nat.ble n0 a)
    cases hb : Nat.ble n0 a with
    | true =>
      rcases h with ⟨h, h'⟩ | h
      · rcases List.mem_cons.1 h with rfl | h
        · exact List.mem_cons_self
        · exact List.mem_cons_of_mem _ (newsL_mem (.inl ⟨h, h'⟩))
      · exact List.mem_cons_of_mem _ (newsL_mem (.inr h))
    | false =>
      rcases h with ⟨h, h'⟩ | h
      · rcases List.mem_cons.1 h with rfl | h
        · rw [Nat.ble_eq_true_of_le h'] at hb; cases hb
        · exact newsL_mem (.inl ⟨h, h'⟩)
      · exact newsL_mem (.inr h)
theorem hitsI_no {lo hi : Nat} : ∀ {l : List Nat}, hitsI lo hi l = false → ∀ x ∈ l, ¬ (lo ≤ x ∧ x < hi)
  | [], _, x, hx => by cases hx
  | a :: l, h, x, hx => by
    replace h : Bool.rec (motive := fun _ => Bool) (hitsI lo hi l) (Bool.rec (motive := fun _ => Bool) (hitsI lo hi l) true (Nat.blt a hi)) (Nat.ble lo a) = false := h
    intro ⟨h1, h2⟩
    rcases List.mem_cons.1 hx with rfl | hx
    · rw [Nat.ble_eq_true_of_le h1, show Nat.blt x hi = true from Nat.ble_eq_true_of_le h2] at h
      cases h
    · refine hitsI_no (l := l) ?_ x hx ⟨h1, h2⟩
      cases hb : Nat.ble lo a with
      | false => rw [hb] at h; exact h
      | true =>
        cases hb2 : Nat.blt a hi with
        | false => rw [hb, hb2] at h; exact h
        | true => rw [hb, hb2] at h; cases h
theorem freshJ_spec {bj : Nat} {news : List Nat} : ∀ {acc : List OpLog} {i : Nat}, freshJ bj news acc i = true → ∀ q a, acc[q]? = some a → bj.testBit (i + q) = false → hitsI a.lo a.hi news = false
  | [], i, _, q, a, hq, _ => by simp at hq
  | m :: acc, i, h, q, a, hq, hb => by
    replace h : ((bj.testBit i || !hitsI m.lo m.hi news) && freshJ bj news acc (Nat.succ i)) = true := h
    rw [Bool.and_eq_true, Bool.or_eq_true] at h
    cases q with
    | zero =>
      simp at hq
      subst hq
      rw [Nat.add_zero] at hb
      rcases h.1 with h1 | h1
      · rw [hb] at h1; cases h1
      · simpa using h1
    | succ q => exact freshJ_spec h.2 q a (by simpa using hq) (by rw [← hb]; congr 1; omega)
theorem freshL_spec {n0 : Nat} {all : List OpLog} : ∀ {l : List OpLog} {bef : List Nat} {j : Nat}, freshL n0 all l bef j = true → ∀ q m b, l[q]? = some m → bef[q]? = some b →
    ∀ i a, (all.take (j + q))[i]? = some a → b.testBit i = false → ∀ x, (x ∈ m.rd ∨ x ∈ m.wr) → n0 ≤ x → ¬ (a.lo ≤ x ∧ x < a.hi)
  | [], bef, j, _, q, m, b, hq, _ => by simp at hq
  | m' :: l, [], j, _, q, m, b, _, hb => by simp at hb
  | m' :: l, b' :: bef, j, h, q, m, b, hq, hb => by
    replace h : (freshN b' (newsL n0 m'.rd (newsL n0 m'.wr [])) (all.take j) && freshL n0 all l bef (Nat.succ j)) = true := h
    rw [Bool.and_eq_true] at h
    cases q with
    | zero =>
      simp at hq hb
      subst hq
      subst hb
      intro i a ha hbit x hx hn
      have hmem : x ∈ newsL n0 m'.rd (newsL n0 m'.wr []) := newsL_mem (hx.elim (fun e => .inl ⟨e, hn⟩) (fun e => .inr (newsL_mem (.inl ⟨e, hn⟩))))
      have h1 := h.1
      generalize newsL n0 m'.rd (newsL n0 m'.wr []) = news at h1 hmem
      cases news with
      | nil => cases hmem
      | cons y ys =>
        have h2 : freshJ b' (y :: ys) (all.take j) 0 = true := h1
        exact hitsI_no (freshJ_spec h2 i a ha (by rw [Nat.zero_add]; exact hbit)) x hmem
    | succ q =>
      intro i a ha
      exact freshL_spec h.2 q m b (by simpa using hq) (by simpa using hb) i a (by rw [← ha]; congr 2; omega)
theorem maskL_bit {x : Nat} : ∀ {l : List Nat} {m : Nat}, (x ∈ l ∨ m.testBit x = true) → (maskL l m).testBit x = true
  | [], m, h => h.elim (fun h => by cases h) id
  | a :: l, m, h => by
    show (fN (Nat.lor m (Nat.shiftLeft (nat_lit 1) a)) (maskL l)).testBit x = true
    rw [fN_eq]
    have e : Nat.lor m (Nat.shiftLeft (nat_lit 1) a) = m ||| 2 ^ a := by
      show m ||| (1 <<< a) = _
      rw [Nat.one_shiftLeft]
    rw [e]
    refine maskL_bit ?_
    rw [Nat.testBit_or, testBit_pow]
    rcases h with h | h
    · rcases List.mem_cons.1 h with rfl | h
      · right; simp
      · exact .inl h
    · right; simp [h]
theorem masks_eq (m : OpLog) : masks m = (maskL m.rd 0, maskL m.wr 0) := by
  obtain ⟨lo, hi, rd, wr⟩ := m
  show fN (maskL rd 0) (fun r => fN (maskL wr 0) fun w => (r, w)) = _
  rw [fN_eq, fN_eq]
theorem masksL_eq : ∀ (l : List OpLog), masksL l = l.map masks
  | [] => rfl
  | m :: l => by
    have h : ∀ p : Nat × Nat, Prod.rec (motive := fun _ => List (Nat × Nat)) (fun r w => (r, w) :: masksL l) p = p :: l.map masks := by
      intro p
      rw [masksL_eq l]
    exact h (masks m)
theorem land_zero {a b x : Nat} (h : Nat.beq (Nat.land a b) (nat_lit 0) = true) (h1 : a.testBit x = true) (h2 : b.testBit x = true) : False := by
  have e : a &&& b = 0 := Nat.eq_of_beq_eq_true h
  have := congrArg (fun n => n.testBit x) e
  simp only [Nat.testBit_and, h1, h2, Nat.zero_testBit] at this
  cases this
theorem apart2_spec {a m : OpLog} (h : apart2 (masks a) (masks m) = true) (x : Nat) : ¬ (x ∈ a.wr ∧ (x ∈ m.rd ∨ x ∈ m.wr)) ∧ ¬ (x ∈ m.wr ∧ x ∈ a.rd) := by
  unfold apart2 at h
  rw [Bool.and_eq_true, masks_eq, masks_eq] at h
  refine ⟨fun ⟨h1, h2⟩ => land_zero h.1 (maskL_bit (.inl h1)) ?_, fun ⟨h1, h2⟩ => land_zero h.2 (maskL_bit (.inl h1)) (maskL_bit (.inl h2))⟩
  show (maskL m.rd 0 ||| maskL m.wr 0).testBit x = true
  rw [Nat.testBit_or]
  rcases h2 with h2 | h2
  · rw [maskL_bit (.inl h2)]; rfl
  · rw [maskL_bit (m := 0) (l := m.wr) (.inl h2), Bool.or_true]
theorem apartJ_spec {bj : Nat} {m : Nat × Nat} : ∀ {acc : List (Nat × Nat)} {i : Nat}, apartJ bj m acc i = true → ∀ q a, acc[q]? = some a → bj.testBit (i + q) = false → apart2 a m = true
  | [], i, _, q, a, hq, _ => by simp at hq
  | m' :: acc, i, h, q, a, hq, hb => by
    replace h : ((bj.testBit i || apart2 m' m) && apartJ bj m acc (Nat.succ i)) = true := h
    rw [Bool.and_eq_true, Bool.or_eq_true] at h
    cases q with
    | zero =>
      simp at hq
      subst hq
      rw [Nat.add_zero] at hb
      rcases h.1 with h1 | h1
      · rw [hb] at h1; cases h1
      · exact h1
    | succ q => exact apartJ_spec h.2 q a (by simpa using hq) (by rw [← hb]; congr 1; omega)
theorem apartL_spec {all : List (Nat × Nat)} : ∀ {l : List (Nat × Nat)} {bef : List Nat} {j : Nat}, apartL all l bef j = true → ∀ q m b, l[q]? = some m → bef[q]? = some b →
    ∀ i a, (all.take (j + q))[i]? = some a → b.testBit i = false → apart2 a m = true
  | [], bef, j, _, q, m, b, hq, _ => by simp at hq
  | m' :: l, [], j, _, q, m, b, _, hb => by simp at hb
  | m' :: l, b' :: bef, j, h, q, m, b, hq, hb => by
    replace h : (apartJ b' m' (all.take j) 0 && apartL all l bef (Nat.succ j)) = true := h
    rw [Bool.and_eq_true] at h
    cases q with
    | zero =>
      simp at hq hb
      subst hq
      subst hb
      intro i a ha hbit
      exact apartJ_spec h.1 i a ha (by rw [Nat.zero_add]; exact hbit)
    | succ q =>
      intro i a ha
      exact apartL_spec h.2 q m b (by simpa using hq) (by simpa using hb) i a (by rw [← ha]; congr 2; omega)
theorem apartM_spec {n0 : Nat} {l : List OpLog} {bef : List Nat} (h : apartM n0 l bef = true) {i j : Nat} {a m : OpLog} {b : Nat} (hij : i < j) (ha : l[i]? = some a) (hm : l[j]? = some m) (hb : bef[j]? = some b) (hbit : b.testBit i = false) :
    (∀ x, (x ∈ m.rd ∨ x ∈ m.wr) → n0 ≤ x → ¬ (a.lo ≤ x ∧ x < a.hi)) ∧ (∀ x, ¬ (x ∈ a.wr ∧ (x ∈ m.rd ∨ x ∈ m.wr)) ∧ ¬ (x ∈ m.wr ∧ x ∈ a.rd)) := by
  unfold apartM at h
  rw [Bool.and_eq_true, Bool.or_eq_true] at h
  have hat : (l.take (0 + j))[i]? = some a := by rw [Nat.zero_add, List.getElem?_take, if_pos hij]; exact ha
  refine ⟨freshL_spec h.1 j m b hm hb i a hat hbit, ?_⟩
  rcases h.2 with h2 | h2
  · have q : ∀ {g : OpLog} {k : Nat}, l[k]? = some g → g.wr = [] := by
      intro g k hk
      have := List.all_eq_true.1 h2 g (List.mem_of_getElem? hk)
      simpa using this
    intro x
    rw [q ha, q hm]
    exact ⟨fun e => (by cases e.1), fun e => (by cases e.1)⟩
  · rw [masksL_eq] at h2
    refine apart2_spec (apartL_spec h2 j (masks m) b (by rw [List.getElem?_map, hm]; rfl) hb i (masks a) ?_ hbit)
    rw [← List.map_take, List.getElem?_map, hat]
    rfl
theorem edgesB_spec : ∀ {ops : List Oper} {j : Nat}, edgesB ops j = true → ∀ q o, ops[q]? = some o → ∀ e ∈ o.after, Region.binds .any e = true → e.on < j + q
  | [], j, _, q, o, hq => by simp at hq
  | p :: ops, j, h, q, o, hq => by
    replace h : ((p.after.toList.all fun e => !Region.binds .any e || Nat.blt e.on j) && edgesB ops (Nat.succ j)) = true := h
    rw [Bool.and_eq_true] at h
    cases q with
    | zero =>
      simp at hq
      subst hq
      intro e he hb
      have := List.all_eq_true.1 h.1 e (by simpa using he)
      rw [hb] at this
      exact blt_lt (by simpa using this)
    | succ q =>
      intro e he hb
      have := edgesB_spec h.2 q o (by simpa using hq) e he hb
      omega
theorem tmpsJ_spec {bef : List Nat} {j : Nat} {looks : List Nat} : ∀ {l : List Oper} {i : Nat}, tmpsJ bef j looks l i = true → ∀ q o d, l[q]? = some o → o.dst = some d → d ∈ looks → i + q ≠ j → ∃ b, bef[max (i + q) j]? = some b ∧ b.testBit (min (i + q) j) = true
  | [], i, _, q, o, d, hq, _, _, _ => by simp at hq
  | p :: l, i, h, q, o, d, hq, hd, hl, hn => by
    replace h : ((match p.dst with
     | some d => Nat.beq i j || !(looks.any fun t => Nat.beq t d) || (match bef[Nat.max i j]? with | some b => b.testBit (Nat.min i j) | none => false)
     | none => true) && tmpsJ bef j looks l (Nat.succ i)) = true := h
    rw [Bool.and_eq_true] at h
    cases q with
    | zero =>
      simp at hq
      subst hq
      rw [Nat.add_zero] at hn ⊢
      have h1 := h.1
      rw [hd] at h1
      simp only [Bool.or_eq_true] at h1
      rcases h1 with (h1 | h1) | h1
      · exact absurd (Nat.eq_of_beq_eq_true h1) hn
      · rw [Bool.not_eq_true'] at h1
        have := List.any_eq_false.1 h1 d hl
        exact absurd (Nat.beq_refl d) this
      · change (match bef[max i j]? with | some b => b.testBit (min i j) | none => false) = true at h1
        cases hb : bef[max i j]? with
        | none => rw [hb] at h1; cases h1
        | some b => rw [hb] at h1; exact ⟨b, rfl, h1⟩
    | succ q =>
      have := tmpsJ_spec h.2 q o d (by simpa using hq) hd hl (by omega)
      rw [show Nat.succ i + q = i + (q + 1) by omega] at this
      exact this
theorem tmpsB_spec {all : List Oper} {bef : List Nat} : ∀ {l : List Oper} {j : Nat}, tmpsB all bef l j = true → ∀ q o, l[q]? = some o → tmpsJ bef (j + q) (looksL all o) all 0 = true
  | [], j, _, q, o, hq => by simp at hq
  | p :: l, j, h, q, o, hq => by
    replace h : (tmpsJ bef j (looksL all p) all 0 && tmpsB all bef l (Nat.succ j)) = true := h
    rw [Bool.and_eq_true] at h
    cases q with
    | zero => simp at hq; subst hq; exact h.1
    | succ q =>
      have := tmpsB_spec h.2 q o (by simpa using hq)
      rw [show Nat.succ j + q = j + (q + 1) by omega] at this
      exact this

/-! ### What holds of the run by number -/
section
variable {E : Env} {glob N : Nat} {ops : Array Oper} {call round : CallT} {cops : List COp} {x : Tra} {m : Nat}
noncomputable def dsAt (ops : List Oper) (i : Nat) : List Nat := (ops.take i).foldl (fun ds o => consD o.dst ds) []
theorem compOps_at : ∀ (l : List Oper) (pre : List Oper) (cs : List COp), compOps E glob N ops.toList l (pre.foldl (fun ds o => consD o.dst ds) []) = some cs → cs.length = l.length ∧
    ∀ i o, l[i]? = some o → ∃ g f, cs[i]? = some ⟨g, o.dst, keepD o.dst glob, f⟩ ∧ compG ops.toList (dsAt (pre ++ l) (pre.length + i)) o.guard = some g ∧ newD o.dst N (dsAt (pre ++ l) (pre.length + i)) = true ∧ compOp E (dsAt (pre ++ l) (pre.length + i)) o.op = .mk f
  | [], pre, cs, h => by cases h; exact ⟨rfl, fun i o hi => by simp at hi⟩
  | o :: l, pre, cs, h => by
    obtain ⟨g, f, r, rfl, h1, h2, h3, h4⟩ := compOps_cons h
    have hp : (pre ++ [o]).foldl (fun ds o => consD o.dst ds) [] = consD o.dst (pre.foldl (fun ds o => consD o.dst ds) []) := by rw [List.foldl_append]; rfl
    obtain ⟨k1, k2⟩ := compOps_at l (pre ++ [o]) r (by rw [hp]; exact h4)
    refine ⟨by simp [k1], fun i x hi => ?_⟩
    cases i with
    | zero =>
      simp at hi
      subst hi
      have e : dsAt (pre ++ o :: l) (pre.length + 0) = pre.foldl (fun ds o => consD o.dst ds) [] := by unfold dsAt; simp
      rw [e]
      exact ⟨g, f, rfl, h1, h2, h3⟩
    | succ i =>
      obtain ⟨g', f', q1, q2, q3, q4⟩ := k2 i x (by simpa using hi)
      have e : dsAt (pre ++ [o] ++ l) ((pre ++ [o]).length + i) = dsAt (pre ++ o :: l) (pre.length + (i + 1)) := by
        rw [List.append_assoc]
        simp only [List.length_append, List.length_cons, List.length_nil, List.singleton_append]
        congr 1
        omega
      rw [e] at q2 q3 q4
      exact ⟨g', f', by simpa using q1, q2, q3, q4⟩
theorem dsAt_succ {l : List Oper} {i : Nat} {o : Oper} (h : l[i]? = some o) : dsAt l (i + 1) = consD o.dst (dsAt l i) := by
  unfold dsAt
  rw [List.take_succ_eq_append_getElem (List.getElem?_eq_some_iff.1 h).1, List.foldl_append, (List.getElem?_eq_some_iff.1 h).2]
  rfl
/-- All that is known before an order is drawn. -/
structure Pre (E : Env) (glob N : Nat) (ops : Array Oper) (call round : CallT) (cops : List COp) (x : Tra) (m : Nat) : Prop where
  comp : ∀ i o, ops[i]? = some o → ∃ g f, cops[i]? = some ⟨g, o.dst, keepD o.dst glob, f⟩ ∧ compG ops.toList (dsAt ops.toList i) o.guard = some g ∧ newD o.dst N (dsAt ops.toList i) = true ∧ compOp E (dsAt ops.toList i) o.op = .mk f
  len : m ≤ ops.size
  few : ops.size ≤ m + 1
  last : ∀ j, m ≤ j → j < ops.size → ∀ i, i < m → Bf ops j i
  tra : TraOK call round (cops.take m) x
  rh0 : x.Rh 0 = []
  draw : drawOk ops.toList (Region.before ops).toList = true
  apart : apartM (x.Nx 0) ((List.range m).map x.log) (Region.before ops).toList = true
variable (H : Pre E glob N ops call round cops x m)
include H
theorem Pre.op {i : Nat} (hi : i < m) : ∃ o g f, ops[i]? = some o ∧ compG ops.toList (dsAt ops.toList i) o.guard = some g ∧ newD o.dst N (dsAt ops.toList i) = true ∧ compOp E (dsAt ops.toList i) o.op = .mk f ∧
    TrAt (wantG g (x.Rh i) (f call round (x.Rh i) (x.Tm i))) (x.Mm i) (x.Nx i) (x.V i) (x.Mm (i + 1)) (x.Nx (i + 1)) (x.Rd i) (x.Wr i) (x.lr i) (x.lw i) ∧
    x.Rh (i + 1) = pushV o.dst (x.V i) (x.Rh i) ∧ x.Tm (i + 1) = keepT o.dst (keepD o.dst glob) (x.V i) (x.Tm i) := by
  have hi' : i < ops.size := Nat.lt_of_lt_of_le hi H.len
  obtain ⟨g, f, h1, h2, h3, h4⟩ := H.comp i ops[i] (Array.getElem?_eq_getElem hi')
  obtain ⟨k1, k2, k3⟩ := H.tra.at' i _ (by rw [List.getElem?_take, if_pos hi]; exact h1)
  exact ⟨ops[i], g, f, Array.getElem?_eq_getElem hi', h2, h3, h4, k1, k2, k3⟩
theorem Pre.nx1 {i : Nat} (hi : i < m) : x.Nx i ≤ x.Nx (i + 1) := let ⟨_, _, _, _, _, _, _, k, _⟩ := H.op hi; k.run.nxt
theorem Pre.nx {i : Nat} : ∀ {j : Nat}, i ≤ j → j ≤ m → x.Nx i ≤ x.Nx j
  | 0, h, _ => by rw [Nat.le_zero.1 h]; exact Nat.le_refl _
  | j + 1, h, hj => by
    rcases Nat.lt_or_ge j i with h1 | h1
    · rw [show i = j + 1 by omega]; exact Nat.le_refl _
    · exact Nat.le_trans (Pre.nx (j := j) h1 (by omega)) (H.nx1 (by omega))
theorem Pre.old {i : Nat} (hi : i < m) {l : Nat} (h : ¬ x.Wr i l) : T.get (x.Mm (i + 1)) l = T.get (x.Mm i) l := let ⟨_, _, _, _, _, _, _, k, _⟩ := H.op hi; k.run.old l h
theorem Pre.sep {i j : Nat} (hij : i < j) (hj : j < m) (hb : ¬ Bf ops j i) : (∀ l, ¬ (x.Wr i l ∧ (x.Rd j l ∨ x.Wr j l))) ∧ (∀ l, ¬ (x.Wr j l ∧ x.Rd i l)) := by
  obtain ⟨_, _, _, _, _, _, _, ki, _⟩ := H.op (i := i) (by omega)
  obtain ⟨_, _, _, _, _, _, _, kj, _⟩ := H.op hj
  have hbl : ((Region.before ops).toList).length = ops.size := befL_size ops
  have hb0 : (Region.before ops).toList[j]? = some ((Region.before ops).toList[j]'(by rw [hbl]; exact Nat.lt_of_lt_of_le hj H.len)) := List.getElem?_eq_getElem _
  have hbit : ((Region.before ops).toList[j]'(by rw [hbl]; exact Nat.lt_of_lt_of_le hj H.len)).testBit i = false := by
    cases h : ((Region.before ops).toList[j]'(by rw [hbl]; exact Nat.lt_of_lt_of_le hj H.len)).testBit i with
    | false => rfl
    | true => exact absurd ⟨_, by rw [← Array.getElem?_toList]; exact hb0, h⟩ hb
  have hli : ((List.range m).map x.log)[i]? = some (x.log i) := by rw [List.getElem?_map, List.getElem?_range (by omega)]; rfl
  have hlj : ((List.range m).map x.log)[j]? = some (x.log j) := by rw [List.getElem?_map, List.getElem?_range (by omega)]; rfl
  obtain ⟨s1, s2⟩ := apartM_spec H.apart hij hli hlj hb0 hbit
  have n1 : x.Nx (i + 1) ≤ x.Nx j := H.nx (by omega) (by omega)
  have n0 : x.Nx 0 ≤ x.Nx i := H.nx (by omega) (by omega)
  constructor
  · intro l ⟨h1, h2⟩
    have hl : l < x.Nx (i + 1) := ki.run.wlt l h1
    have hlog : l ∈ x.lr j ∨ l ∈ x.lw j := h2.elim (fun e => .inl (kj.ird l e (by omega))) (fun e => .inr (kj.iwr l e (by omega)))
    rcases Nat.lt_or_ge l (x.Nx i) with h3 | h3
    · exact (s2 l).1 ⟨ki.iwr l h1 h3, hlog⟩
    · exact s1 l hlog (by omega) ⟨h3, hl⟩
  · intro l ⟨h1, h2⟩
    have hl : l < x.Nx (i + 1) := ki.run.rlt l h2
    have hlog : l ∈ x.lw j := kj.iwr l h1 (by omega)
    rcases Nat.lt_or_ge l (x.Nx i) with h3 | h3
    · exact (s2 l).2 ⟨hlog, ki.ird l h2 h3⟩
    · exact s1 l (.inr hlog) (by omega) ⟨h3, hl⟩
theorem Pre.edge {j : Nat} {o : Oper} (ho : ops[j]? = some o) {e : Edge} (he : e ∈ o.after) (hb : Region.binds .any e = true) : e.on < j := by
  have h := H.draw
  unfold drawOk at h
  rw [Bool.and_eq_true, Bool.and_eq_true] at h
  have := edgesB_spec h.1.2 j o (by rw [Array.getElem?_toList]; exact ho) e he hb
  omega
theorem Pre.looks {j i : Nat} {o p : Oper} {d : Nat} (ho : ops[j]? = some o) (hp : ops[i]? = some p) (hd : p.dst = some d) (hl : d ∈ looksL ops.toList o) (hne : i ≠ j) : Bf ops (max i j) (min i j) := by
  have h := H.draw
  unfold drawOk at h
  rw [Bool.and_eq_true, Bool.and_eq_true] at h
  have h1 := tmpsB_spec h.2 j o (by rw [Array.getElem?_toList]; exact ho)
  rw [Nat.zero_add] at h1
  obtain ⟨b, q1, q2⟩ := tmpsJ_spec h1 i p d (by rw [Array.getElem?_toList]; exact hp) hd hl (by rw [Nat.zero_add]; exact hne)
  rw [Nat.zero_add] at q1 q2
  exact ⟨b, by rw [← Array.getElem?_toList]; exact q1, q2⟩
theorem Pre.ds {j : Nat} (hj : j ≤ m) : (x.Rh j).length = (dsAt ops.toList j).length ∧
    (∀ (p d : Nat), (dsAt ops.toList j)[p]? = some d → ∃ (q : Nat) (o : Oper), q < j ∧ ops[q]? = some o ∧ o.dst = some d ∧ (x.Rh j : List Value)[p]? = some (x.V q)) ∧ (∀ (q : Nat) o d, q < j → ops[q]? = some o → o.dst = some d → d ∈ dsAt ops.toList j) := by
  induction j with
  | zero => exact ⟨by rw [H.rh0]; rfl, fun p d h => by simp [dsAt] at h, fun q o d h => absurd h (Nat.not_lt_zero _)⟩
  | succ j ih =>
    obtain ⟨i1, i2, i3⟩ := ih (by omega)
    obtain ⟨o, g, f, ho, _, _, _, _, k2, _⟩ := H.op (i := j) (by omega)
    rw [dsAt_succ (o := o) (by rw [Array.getElem?_toList]; exact ho), k2]
    cases hd : o.dst with
    | none =>
      refine ⟨i1, fun p d h => ?_, fun q o' d hq ho' hd' => ?_⟩
      · obtain ⟨q, o', a, b⟩ := i2 p d h
        exact ⟨q, o', by omega, b⟩
      · rcases Nat.lt_or_ge q j with h | h
        · exact i3 q o' d h ho' hd'
        · rw [show q = j by omega, ho] at ho'
          cases ho'
          rw [hd] at hd'
          cases hd'
    | some d0 =>
      refine ⟨by simp [pushV, consD, i1], fun p d h => ?_, fun q o' d hq ho' hd' => ?_⟩
      · replace h : (d0 :: dsAt ops.toList j)[p]? = some d := h
        cases p with
        | zero =>
          simp at h
          subst h
          exact ⟨j, o, by omega, ho, hd, rfl⟩
        | succ p =>
          obtain ⟨q, o', a, b1, b2, b3⟩ := i2 p d (by simpa using h)
          exact ⟨q, o', by omega, b1, b2, by show (x.V j :: x.Rh j)[p + 1]? = _; simpa using b3⟩
      · rcases Nat.lt_or_ge q j with h | h
        · exact List.mem_cons_of_mem _ (i3 q o' d h ho' hd')
        · rw [show q = j by omega, ho] at ho'
          cases ho'
          rw [hd] at hd'
          cases hd'
          exact List.mem_cons_self
theorem Pre.dst_ne {q j : Nat} {o p : Oper} {d e : Nat} (hq : q < j) (ho : ops[q]? = some o) (hp : ops[j]? = some p) (hd : o.dst = some d) (he : p.dst = some e) : d ≠ e := by
  have hj : j < ops.size := (Array.getElem?_eq_some_iff.1 hp).1
  obtain ⟨g, f, _, _, h3, _⟩ := H.comp j p hp
  rw [he] at h3
  intro hx
  subst hx
  exact (newD_some h3).2 ((H.ds (j := j) (by have := H.few; omega)).2.2 q o d hq ho hd)
theorem Pre.dst_inj {q j : Nat} {o p : Oper} {d : Nat} (ho : ops[q]? = some o) (hp : ops[j]? = some p) (hd : o.dst = some d) (he : p.dst = some d) : q = j := by
  rcases Nat.lt_trichotomy q j with h | h | h
  · exact absurd rfl (H.dst_ne h ho hp hd he)
  · exact h
  · exact absurd rfl (H.dst_ne h hp ho he hd)
theorem Pre.dst_lt {j : Nat} {p : Oper} {d : Nat} (hp : ops[j]? = some p) (hd : p.dst = some d) : d < N := by
  obtain ⟨g, f, _, _, h3, _⟩ := H.comp j p hp
  rw [hd] at h3
  exact (newD_some h3).1
theorem Pre.tm {j : Nat} (hj : j ≤ m) {y : Nat} {v : Value} (h : T.get (x.Tm j) y = some v) :
    (∃ q o, q < j ∧ ops[q]? = some o ∧ o.dst = some y ∧ Nat.testBit glob y = true ∧ v = x.V q) ∨ (T.get (x.Tm 0) y = some v ∧ ∀ q o, q < j → ops[q]? = some o → o.dst = some y → Nat.testBit glob y = false) := by
  induction j with
  | zero => exact .inr ⟨h, fun q o h => absurd h (Nat.not_lt_zero _)⟩
  | succ j ih =>
    obtain ⟨o, g, f, ho, _, _, _, _, _, k3⟩ := H.op (i := j) (by omega)
    rw [k3] at h
    have rest : T.get (x.Tm j) y = some v → (o.dst = some y → Nat.testBit glob y = false) → (∃ q o, q < j + 1 ∧ ops[q]? = some o ∧ o.dst = some y ∧ Nat.testBit glob y = true ∧ v = x.V q) ∨ (T.get (x.Tm 0) y = some v ∧ ∀ q o, q < j + 1 → ops[q]? = some o → o.dst = some y → Nat.testBit glob y = false) := by
      intro h1 h2
      rcases ih (by omega) h1 with ⟨q, o', a, b⟩ | ⟨a, b⟩
      · exact .inl ⟨q, o', by omega, b⟩
      · refine .inr ⟨a, fun q o' hq ho' hd' => ?_⟩
        rcases Nat.lt_or_ge q j with h | h
        · exact b q o' h ho' hd'
        · rw [show q = j by omega, ho] at ho'
          cases ho'
          exact h2 hd'
    cases hd : o.dst with
    | none =>
      rw [hd] at h rest
      exact rest h (fun e => by cases e)
    | some d =>
      rw [hd] at h rest
      unfold keepT at h
      cases hk : keepD (some d) glob with
      | false =>
        rw [hk] at h
        exact rest h (fun e => by cases e; exact hk)
      | true =>
        rw [hk] at h
        simp only [T.get_set] at h
        split at h
        · rename_i hy
          cases h
          subst hy
          exact .inl ⟨j, o, by omega, ho, hd, hk, rfl⟩
        · rename_i hy
          exact rest h (fun e => by cases e; exact absurd rfl hy)
end

/-! ### Memory behind some of them -/
open Classical in
noncomputable def memD (x : Tra) (D : Nat → Bool) : Nat → Nat → Option Cell
  | 0, l => T.get (x.Mm 0) l
  | k + 1, l => if D k = true ∧ x.Wr k l then T.get (x.Mm (k + 1)) l else memD x D k l
theorem memD_yes {x : Tra} {D : Nat → Bool} {k l : Nat} (h : D k = true) (h' : x.Wr k l) : memD x D (k + 1) l = T.get (x.Mm (k + 1)) l := if_pos ⟨h, h'⟩
theorem memD_no {x : Tra} {D : Nat → Bool} {k l : Nat} (h : ¬ (D k = true ∧ x.Wr k l)) : memD x D (k + 1) l = memD x D k l := if_neg h
section
variable {E : Env} {glob N : Nat} {ops : Array Oper} {call round : CallT} {cops : List COp} {x : Tra} {m : Nat} (H : Pre E glob N ops call round cops x m)
include H
theorem memD_low {D : Nat → Bool} {l : Nat} : ∀ {j : Nat}, j ≤ m → (∀ i, i < j → x.Wr i l → D i = true) → memD x D j l = T.get (x.Mm j) l
  | 0, _, _ => rfl
  | j + 1, hj, h => by
    by_cases hw : x.Wr j l
    · exact memD_yes (h j (by omega) hw) hw
    · rw [memD_no (fun e => hw e.2), H.old (by omega) hw]
      exact memD_low (by omega) fun i hi => h i (by omega)
omit H in
theorem memD_high {D : Nat → Bool} {l j : Nat} : ∀ {m : Nat}, j ≤ m → (∀ i, j ≤ i → i < m → D i = true → ¬ x.Wr i l) → memD x D m l = memD x D j l
  | 0, hm, _ => by rw [Nat.le_zero.1 hm]
  | m + 1, hm, h => by
    rcases Nat.lt_or_ge m j with h1 | h1
    · rw [show j = m + 1 by omega]
    · rw [memD_no (fun e => h m h1 (by omega) e.1 e.2)]
      exact memD_high h1 fun i a b => h i a (by omega)
omit H in
theorem memD_add {D D' : Nat → Bool} {j l : Nat} (hD : D j = false) (hD' : D' j = true) (hne : ∀ i, i ≠ j → D' i = D i) : ∀ {m : Nat}, j < m → (∀ i, j < i → i < m → D i = true → ¬ (x.Wr i l ∧ x.Wr j l)) →
    (x.Wr j l → memD x D' m l = T.get (x.Mm (j + 1)) l) ∧ (¬ x.Wr j l → memD x D' m l = memD x D m l)
  | 0, hm, _ => absurd hm (Nat.not_lt_zero _)
  | m + 1, hm, h => by
    have low : ∀ {k : Nat}, k ≤ j → memD x D' k l = memD x D k l := by
      intro k
      induction k with
      | zero => exact fun _ => rfl
      | succ k ih =>
        intro hk
        have hk' : D' k = D k := hne k (by omega)
        by_cases hw : D k = true ∧ x.Wr k l
        · rw [memD_yes hw.1 hw.2, memD_yes (by rw [hk']; exact hw.1) hw.2]
        · rw [memD_no hw, memD_no (by rw [hk']; exact hw), ih (by omega)]
    by_cases e : m = j
    · subst e
      constructor
      · intro hw; exact memD_yes hD' hw
      · intro hw
        rw [memD_no (fun e => hw e.2), memD_no (fun e => hw e.2), low (Nat.le_refl _)]
    · obtain ⟨i1, i2⟩ := memD_add hD hD' hne (m := m) (by omega) fun i a b => h i a (by omega)
      have hm' : D' m = D m := hne m e
      constructor
      · intro hw
        rw [memD_no (fun q => h m (by omega) (by omega) (by rw [← hm']; exact q.1) ⟨q.2, hw⟩)]
        exact i1 hw
      · intro hw
        by_cases q : D m = true ∧ x.Wr m l
        · rw [memD_yes q.1 q.2, memD_yes (by rw [hm']; exact q.1) q.2]
        · rw [memD_no q, memD_no (by rw [hm']; exact q)]
          exact i2 hw
end
end Go.Proofs.YtkgncjlgmnbfoaaGreatDoor.Am
