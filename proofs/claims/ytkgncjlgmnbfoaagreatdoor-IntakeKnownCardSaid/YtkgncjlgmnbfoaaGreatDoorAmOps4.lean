/- The evaluator's operations, each against the model's own: arithmetic, comparisons, conversions, lengths. -/
import Derived.Test.YtkgncjlgmnbfoaaGreatDoorAmOps3
import Derived.Laws.BitsLemmas
import Derived.Laws.Bits64
namespace Go.Proofs.YtkgncjlgmnbfoaaGreatDoor.Am
open Go.RowKit

theorem wrap64_eq (n : Int) : wrap64 n = IntKind.i64.wrap n := by
  cases n with
  | ofNat m =>
    show wrapS .i64 (.ofNat m) m (.ofNat m) = _
    unfold wrapS
    cases e : Nat.ble m 9223372036854775807 with
    | false => rfl
    | true =>
      have := Nat.le_of_ble_eq_true e
      show (Int.ofNat m) = _
      rw [IntKind.wrap_i64]
      simp only [Int.ofNat_eq_natCast]
      omega
  | negSucc m =>
    show wrapS .i64 (.negSucc m) m (.negSucc m) = _
    unfold wrapS
    cases e : Nat.ble m 9223372036854775807 with
    | false => rfl
    | true =>
      have := Nat.le_of_ble_eq_true e
      show (Int.negSucc m) = _
      rw [IntKind.wrap_i64]
      omega
theorem wrapU_eq (k : IntKind) (q : Nat) (hk : ∀ n : Int, k.wrap n = n % (q : Int)) (n : Int) : wrapU k q n = k.wrap n := by
  cases n with
  | ofNat m => rw [hk]; rfl
  | negSucc m => rfl
theorem wrapF_eq (k : IntKind) (n : Int) : wrapF k n = k.wrap n := by
  unfold wrapF
  split
  · exact wrap64_eq n
  · exact wrapU_eq _ _ (fun n => by rw [IntKind.wrap_u32]; rfl) n
  · exact wrapU_eq _ _ (fun n => by rw [IntKind.wrap_u8]; rfl) n
  · exact wrapU_eq _ _ (fun n => by rw [IntKind.wrap_u64]; rfl) n
  · rfl
theorem addI_eq (a b : Int) : addI a b = a + b := by
  cases a <;> cases b <;> rfl
theorem subI_eq (a b : Int) : subI a b = a - b := by
  cases a with
  | ofNat m =>
    cases b with
    | ofNat n =>
      show Bool.rec (motive := fun _ => Int) (Int.ofNat m - Int.ofNat n) (Int.ofNat (m - n)) (Nat.ble n m) = _
      cases e : Nat.ble n m with
      | false => rfl
      | true =>
        have := Nat.le_of_ble_eq_true e
        show Int.ofNat (m - n) = _
        simp only [Int.ofNat_eq_natCast]
        omega
    | negSucc n => rfl
  | negSucc m => cases b <;> rfl
theorem blt_eq (a b : Nat) : Nat.blt a b = decide (a < b) := by
  cases e : Nat.blt a b with
  | true => exact (decide_eq_true (blt_lt e)).symm
  | false =>
    refine (decide_eq_false fun h => ?_).symm
    have : Nat.blt a b = true := Nat.ble_eq_true_of_le h
    rw [e] at this; cases this
theorem nbeq_eq (a b : Nat) : Nat.beq a b = decide (a = b) := by
  cases e : Nat.beq a b with
  | true => exact (decide_eq_true (Nat.eq_of_beq_eq_true e)).symm
  | false => exact (decide_eq_false (Nat.ne_of_beq_eq_false e)).symm
theorem ltI_eq (a b : Int) : ltI a b = decide (a < b) := by
  cases a with
  | ofNat m =>
    cases b with
    | ofNat n => show Nat.blt m n = _; rw [blt_eq]; simp only [Int.ofNat_eq_natCast, decide_eq_decide]; omega
    | negSucc n => show false = _; simp only [Int.ofNat_eq_natCast]; rw [decide_eq_false]; omega
  | negSucc m =>
    cases b with
    | ofNat n => show true = _; simp only [Int.ofNat_eq_natCast]; rw [decide_eq_true]; omega
    | negSucc n => show Nat.blt n m = _; rw [blt_eq]; simp only [decide_eq_decide]; omega
theorem eqI_eq (a b : Int) : eqI a b = decide (a = b) := by
  cases a with
  | ofNat m =>
    cases b with
    | ofNat n => show Nat.beq m n = _; rw [nbeq_eq]; simp only [Int.ofNat_eq_natCast, decide_eq_decide]; omega
    | negSucc n => show false = _; simp only [Int.ofNat_eq_natCast]; rw [decide_eq_false]; omega
  | negSucc m =>
    cases b with
    | ofNat n => show false = _; simp only [Int.ofNat_eq_natCast]; rw [decide_eq_false]; omega
    | negSucc n => show Nat.beq m n = _; rw [nbeq_eq]; simp only [decide_eq_decide]; omega

theorem rI_some {n : Int} {s s' : St} {v : Value} (h : rI n s = .some v s') : v = .int .i64 (IntKind.i64.wrap n) ∧ s = s' := by
  unfold rI at h
  rw [fI_eq, wrap64_eq] at h
  cases h
  exact ⟨rfl, rfl⟩
theorem rB_some {b : Bool} {s s' : St} {v : Value} (h : rB b s = .some v s') : v = .bool b ∧ s = s' := by
  cases b <;> cases h <;> exact ⟨rfl, rfl⟩
theorem isI64_some {k : IntKind} (h : isI64 k = true) : k = .i64 := by cases k <;> first | rfl | cases h

theorem kNum_inj {k k' : IntKind} (h : Nat.beq (kNum k) (kNum k') = true) : k = k' := by
  have := Nat.eq_of_beq_eq_true h
  cases k <;> cases k' <;> first | rfl | (exfalso; revert this; decide)
section
variable {E : Env} {w0 w : World} {r : Inj} {t : Nat}

theorem refB_ok {i : TI} {op : BinOp} {x x' y y' : Value} {b : Bool} (hi : TyOK E.P t i) (h : refB i.u x y = some b) (hx : VR r x x') (hy : VR r y y') (xo yo : Operand) (hop : op = .eql ∨ op = .neq) :
    (do eqGuard op t xo yo x' y'; binOp op t x' y').run E.P w = .ok (.bool (if op = .eql then b else !b)) w := by
  have hund := hi.run_und (w := w)
  generalize i.u = u at h hund
  have key : ∀ d, (Op.equalIn (d + 1) t x' y').run E.P w = .ok b w := by
    intro d
    unfold refB at h
    split at h
    all_goals first | cases h | skip
    all_goals cases hx
    all_goals cases hy
    all_goals first
      | (simp [Op.equalIn, hund]; done)
      | skip
    rename_i p _ q _ _ _ _ _
    cases e : Nat.beq p q with
    | true => rw [e] at h; cases h
    | false =>
      rw [e] at h
      cases h
      have := Nat.ne_of_beq_eq_false e
      simp [Op.equalIn, hund, this]
  have key2 : (Op.equal t x' y').run E.P w = .ok b w := key 9999
  unfold refB at h
  split at h
  all_goals first | cases h | skip
  all_goals cases hx
  all_goals cases hy
  all_goals rcases hop with rfl | rfl
  all_goals first
    | (simp [eqGuard, binOp, key2]; done)
    | skip
theorem kOf_some {x x' : Value} {a : Nat} (h : kOf x = some a) (hx : VR r x x') : ∃ k n, x' = .int k n ∧ kNum k = a := by
  unfold kOf at h
  split at h
  · cases h; cases hx; exact ⟨_, _, rfl, rfl⟩
  · cases h
    cases hx with
    | complex h => exact h
  · cases h
theorem unkBin_ok {op : BinOp} {x x' y y' v : Value} {xo yo : Operand} {s s' : St} (h : unkBin op x y s = .some v s') (hr : Rel w0 r s.mem w) (hx : VR r x x') (hy : VR r y y') :
    Yields E w0 r s s' v w (do eqGuard op t xo yo x' y'; binOp op t x' y') := by
  obtain ⟨a, h1, h⟩ := on_some h
  obtain ⟨b, h2, h⟩ := on_some h
  obtain ⟨h3, h⟩ := chk_some h
  obtain ⟨k, n, rfl, e1⟩ := kOf_some h1 hx
  obtain ⟨k', m, rfl, e2⟩ := kOf_some h2 hy
  have hk : k = k' := kNum_inj (by rw [e1, e2]; exact h3)
  subst hk
  have hb : ∀ b : Bool, VR r topB (.bool b) := fun b => .complex ⟨b, rfl⟩
  have hi : ∀ n, VR r (.complex .f32 1 a) (.int k n) := fun n => .complex ⟨k, n, rfl, e1⟩
  have hg : ∀ op, eqGuard op t xo yo (.int k n) (.int k m) = pure () := fun op => by cases op <;> rfl
  have hrun : ∀ u, (binOp op t (.int k n) (.int k m)).run E.P w = .ok u w → (do eqGuard op t xo yo (.int k n) (.int k m); binOp op t (.int k n) (.int k m)).run E.P w = .ok u w := by
    intro u e
    rw [hg]
    simpa using e
  have cb : ∀ op, (match op with | .eql | .neq | .lss | .leq | .gtr | .geq => true | _ => false) = true → ∃ b, (binOp op t (.int k n) (.int k m)).run E.P w = .ok (.bool b) w := by
    intro op ho
    cases op <;> first | (exact absurd ho (by decide)) | exact ⟨_, by simp only [binOp, Op.intCmp, ne_eq, not_true_eq_false, if_false, Sem.run_pure]; rfl⟩
  have ci : ∀ op, (match op with | .add | .sub | .mul | .and | .or | .xor => true | _ => false) = true → ∃ u, (binOp op t (.int k n) (.int k m)).run E.P w = .ok (.int k u) w := by
    intro op ho
    cases op <;> first | (exact absurd ho (by decide)) | exact ⟨_, by simp only [binOp, Op.intArith, Op.intBits, ne_eq, not_true_eq_false, if_false, Sem.run_pure]; rfl⟩
  unfold unkOp at h
  cases op <;> simp only at h <;> first
    | (obtain ⟨rfl, rfl⟩ := pure_some h; exact have ⟨u, hu⟩ := cb _ rfl; .pure (hrun _ hu) hr (hb u))
    | (obtain ⟨rfl, rfl⟩ := pure_some h; exact have ⟨u, hu⟩ := ci _ rfl; .pure (hrun _ hu) hr (hi u))
    | cases h
theorem binSlow_ok {op : BinOp} {x x' y y' v : Value} {xo yo : Operand} {s s' : St} (he : EnvTy E) (h : binSlow E op t xo yo x y s = .some v s') (hr : Rel w0 r s.mem w) (hx : VR r x x') (hy : VR r y y') :
    Yields E w0 r s s' v w (do eqGuard op t xo yo x' y'; binOp op t x' y') := by
  unfold binSlow at h
  rw [if_eq] at h
  by_cases hp : (plain x && plain y) = true
  · rw [if_pos hp] at h
    rw [Bool.and_eq_true] at hp
    obtain ⟨rfl, h2, h3⟩ := onP_ok (w := w) h
    rw [hx.eq_of_plain hp.1, hy.eq_of_plain hp.2]
    exact .pure h2 hr (.of_plain h3)
  · rw [if_neg hp] at h
    rw [if_eq] at h
    by_cases hu : (isU x || isU y) = true
    · rw [if_pos hu] at h
      exact unkBin_ok h hr hx hy
    rw [if_neg hu] at h
    obtain ⟨i, s1, h1, h2⟩ := bind_some h
    obtain ⟨hi, rfl⟩ := ti_some h1 he
    obtain ⟨b, h3, h4⟩ := on_some h2
    split at h4
    · obtain ⟨rfl, rfl⟩ := pure_some h4
      exact .pure (by simpa using refB_ok (w := w) hi h3 hx hy xo yo (.inl rfl)) hr (.bool _)
    · obtain ⟨rfl, rfl⟩ := pure_some h4
      exact .pure (by simpa using refB_ok (w := w) hi h3 hx hy xo yo (.inr rfl)) hr (.bool _)
    · cases h4
theorem int2_ok {f : Int → Int → St → R Value} {slow : Value → Value → M Value} {x y v : Value} {s s' : St} (h : int2 f slow x y s = .some v s') : (∃ a b, x = .int .i64 a ∧ y = .int .i64 b ∧ f a b s = .some v s') ∨ slow x y s = .some v s' := by
  unfold int2 caseI at h
  cases x <;> simp only at h
  case int k a =>
    cases y <;> simp only at h
    case int k' b =>
      cases e1 : isI64 k with
      | false => rw [e1] at h; exact .inr h
      | true =>
        cases e2 : isI64 k' with
        | false => rw [e1, e2] at h; exact .inr h
        | true =>
          rw [e1, e2] at h
          rw [isI64_some e1, isI64_some e2]
          exact .inl ⟨a, b, rfl, rfl, h⟩
    all_goals exact .inr h
  all_goals exact .inr h
theorem int3_ok {f : FastT} {slow : Value → Value → M Value} {x y v : Value} {s s' : St} (h : int3 f slow x y s = .some v s') : (∃ (k k' : IntKind) (m n : Nat), x = .int k m ∧ y = .int k' n ∧ f k k' m n = some v ∧ s = s') ∨ slow x y s = .some v s' := by
  unfold int3 caseI at h
  cases x <;> simp only at h
  case int k a =>
    cases y <;> simp only at h
    case int k' b =>
      cases a with
      | negSucc m => exact .inr h
      | ofNat m =>
        cases b with
        | negSucc n => exact .inr h
        | ofNat n =>
          simp only at h
          cases e : f k k' m n with
          | none => rw [e] at h; exact .inr h
          | some u => rw [e] at h; cases h; exact .inl ⟨k, k', m, n, rfl, rfl, e, rfl⟩
    all_goals exact .inr h
  all_goals exact .inr h
theorem sameK_some {k k' : IntKind} {x : Option Value} {v : Value} (h : sameK k k' x = some v) : k = k' ∧ x = some v := by
  unfold sameK at h
  cases e : Nat.beq (kNum k) (kNum k') with
  | false => rw [e] at h; cases h
  | true => rw [e] at h; exact ⟨kNum_inj e, h⟩
theorem sOpt_some {b : Bool} {x : Option Value} {v : Value} (h : sOpt b x = some v) : b = true ∧ x = some v := by
  cases b with
  | false => cases h
  | true => exact ⟨rfl, h⟩
theorem mkI_some {k : IntKind} {r : Nat} {v : Value} (h : mkI k r = some v) : v = .int k r := by
  unfold mkI at h
  rw [fN_eq] at h
  cases h
  rfl
theorem wrap_mx (k : IntKind) {r : Nat} (h : r ≤ mxOf k) : k.wrap (r : Int) = r := by
  cases k <;> simp only [mxOf] at h <;> simp only [IntKind.wrap, IntKind.bits, IntKind.signed] <;> simp <;> omega
theorem wrap_q (k : IntKind) (hq : qOf k ≠ 0) (n : Int) : k.wrap n = n % (qOf k : Int) := by
  cases k <;> first | exact absurd rfl hq | (simp [IntKind.wrap, IntKind.bits, IntKind.signed, qOf])
theorem fitI_some {k : IntKind} {r : Nat} {v : Value} (h : fitI k r = some v) : v = .int k (k.wrap (r : Int)) := by
  unfold fitI at h
  cases e : Nat.ble r (mxOf k) with
  | true =>
    rw [e] at h
    rw [wrap_mx k (Nat.le_of_ble_eq_true e)]
    exact mkI_some h
  | false =>
    rw [e] at h
    cases e2 : Nat.beq (qOf k) (nat_lit 0) with
    | true => rw [e2] at h; cases h
    | false =>
      rw [e2] at h
      have hq : qOf k ≠ 0 := fun e => by rw [e] at e2; cases e2
      rw [wrap_q k hq]
      exact mkI_some h
theorem bits_pow (k : IntKind) : qOf k = 0 ∨ qOf k = 2 ^ k.bits := by cases k <;> first | exact .inl rfl | exact .inr rfl
theorem wrap_mod (k : IntKind) (n : Int) : k.wrap (n % (2 ^ k.bits : Int)) = k.wrap n := by
  unfold IntKind.wrap
  rw [Int.emod_emod_of_dvd _ (Int.dvd_refl _)]
theorem bv_toNat (n m : Nat) : (BitVec.ofInt n (m : Int)).toNat = m % 2 ^ n := by
  rw [BitVec.toNat_ofInt]
  norm_cast
theorem wrap_land (k : IntKind) (m n : Nat) : k.wrap ((BitVec.ofInt k.bits (m : Int) &&& BitVec.ofInt k.bits (n : Int)).toNat : Int) = k.wrap ((m &&& n : Nat) : Int) := by
  rw [BitVec.toNat_and, bv_toNat, bv_toNat, ← Nat.and_mod_two_pow, ← wrap_mod k ((m &&& n : Nat) : Int)]
  norm_cast
theorem wrap_lor (k : IntKind) (m n : Nat) : k.wrap ((BitVec.ofInt k.bits (m : Int) ||| BitVec.ofInt k.bits (n : Int)).toNat : Int) = k.wrap ((m ||| n : Nat) : Int) := by
  rw [BitVec.toNat_or, bv_toNat, bv_toNat, ← Nat.or_mod_two_pow, ← wrap_mod k ((m ||| n : Nat) : Int)]
  norm_cast
theorem wrap_xor (k : IntKind) (m n : Nat) : k.wrap ((BitVec.ofInt k.bits (m : Int) ^^^ BitVec.ofInt k.bits (n : Int)).toNat : Int) = k.wrap ((m ^^^ n : Nat) : Int) := by
  rw [BitVec.toNat_xor, bv_toNat, bv_toNat, ← Nat.xor_mod_two_pow, ← wrap_mod k ((m ^^^ n : Nat) : Int)]
  norm_cast
theorem btOf_eq (k : IntKind) : btOf k = k.bits := by cases k <;> rfl
theorem mkB_some {b : Bool} {v : Value} (h : mkB b = some v) : v = .bool b := by cases b <;> cases h <;> rfl
theorem fast_add {k k' : IntKind} {m n : Nat} {v : Value} (h : addK k k' m n = some v) : (binOp .add t (.int k m) (.int k' n)).run E.P w = .ok v w := by
  have hq0 := sameK_some h
  clear h
  obtain ⟨rfl, h⟩ := hq0
  rw [fitI_some h]
  simp [binOp, Op.intArith]
theorem fast_mul {k k' : IntKind} {m n : Nat} {v : Value} (h : mulK k k' m n = some v) : (binOp .mul t (.int k m) (.int k' n)).run E.P w = .ok v w := by
  have hq0 := sameK_some h
  clear h
  obtain ⟨rfl, h⟩ := hq0
  rw [fitI_some h]
  simp [binOp, Op.intArith]
theorem fast_and {k k' : IntKind} {m n : Nat} {v : Value} (h : andK k k' m n = some v) : (binOp .and t (.int k m) (.int k' n)).run E.P w = .ok v w := by
  have hq0 := sameK_some h
  clear h
  obtain ⟨rfl, h⟩ := hq0
  rw [fitI_some h]
  have := wrap_land k m n
  simp only [binOp, Op.intBits, ne_eq, not_true_eq_false, if_false, this, Sem.run_pure]
  rfl
theorem fast_or {k k' : IntKind} {m n : Nat} {v : Value} (h : orK k k' m n = some v) : (binOp .or t (.int k m) (.int k' n)).run E.P w = .ok v w := by
  have hq0 := sameK_some h
  clear h
  obtain ⟨rfl, h⟩ := hq0
  rw [fitI_some h]
  have := wrap_lor k m n
  simp only [binOp, Op.intBits, ne_eq, not_true_eq_false, if_false, this, Sem.run_pure]
  rfl
theorem fast_xor {k k' : IntKind} {m n : Nat} {v : Value} (h : xorK k k' m n = some v) : (binOp .xor t (.int k m) (.int k' n)).run E.P w = .ok v w := by
  have hq0 := sameK_some h
  clear h
  obtain ⟨rfl, h⟩ := hq0
  rw [fitI_some h]
  have := wrap_xor k m n
  simp only [binOp, Op.intBits, ne_eq, not_true_eq_false, if_false, this, Sem.run_pure]
  rfl
theorem fast_sub {k k' : IntKind} {m n : Nat} {v : Value} (h : subK k k' m n = some v) : (binOp .sub t (.int k m) (.int k' n)).run E.P w = .ok v w := by
  have hq0 := sameK_some h
  clear h
  obtain ⟨rfl, h⟩ := hq0
  have e : v = .int k (k.wrap ((m : Int) - n)) := by
    cases hb : Nat.ble n m with
    | true =>
      rw [hb] at h
      rw [fitI_some h]
      have := Nat.le_of_ble_eq_true hb
      have e1 : ((Nat.sub m n : Nat) : Int) = (m : Int) - n := by show ((m - n : Nat) : Int) = _; omega
      rw [e1]
    | false =>
      rw [hb] at h
      obtain ⟨h1, h2⟩ := sOpt_some h
      rw [fitI_some h2]
      have hq : qOf k ≠ 0 := by have : 1 ≤ qOf k := Nat.le_of_ble_eq_true h1; omega
      have hlt : m < n := by
        rcases Nat.lt_or_ge m n with h | h
        · exact h
        · rw [Nat.ble_eq_true_of_le h] at hb; cases hb
      rw [wrap_q k hq, wrap_q k hq]
      congr 1
      show (((qOf k - (n - m) % qOf k : Nat)) : Int) % (qOf k : Int) = _
      generalize hQ : qOf k = q at hq
      have h3 : (n - m) % q < q := Nat.mod_lt _ (by omega)
      have h4 : ((q - (n - m) % q : Nat) : Int) = (q : Int) - (((n - m) % q : Nat) : Int) := by omega
      have h5 : (m : Int) - n = - ((n - m : Nat) : Int) := by omega
      have h6 : (((n - m) % q : Nat) : Int) = ((n - m : Nat) : Int) % (q : Int) := by norm_cast
      have h7 := Int.emod_add_mul_ediv ((n - m : Nat) : Int) (q : Int)
      rw [h4, h5, h6]
      rw [show ((q : Int) - ((n - m : Nat) : Int) % q) = -((n - m : Nat) : Int) + q * (1 + ((n - m : Nat) : Int) / q) by rw [Int.mul_add, Int.mul_one]; omega]
      rw [Int.add_mul_emod_self_left]
  rw [e]
  simp [binOp, Op.intArith]
theorem fast_quo {k k' : IntKind} {m n : Nat} {v : Value} (h : quoK k k' m n = some v) : (binOp .quo t (.int k m) (.int k' n)).run E.P w = .ok v w := by
  have hq0 := sameK_some h
  clear h
  obtain ⟨rfl, h⟩ := hq0
  obtain ⟨h1, h⟩ := sOpt_some h
  rw [fitI_some h]
  have hn0 : n ≠ 0 := by have : 1 ≤ n := Nat.le_of_ble_eq_true h1; omega
  simp [binOp, Op.intDiv, hn0]
  show k.wrap ((m : Int) / n) = k.wrap ((m / n : Nat) : Int)
  rw [Int.natCast_ediv]
theorem fast_rem {k k' : IntKind} {m n : Nat} {v : Value} (h : remK k k' m n = some v) : (binOp .rem t (.int k m) (.int k' n)).run E.P w = .ok v w := by
  have hq0 := sameK_some h
  clear h
  obtain ⟨rfl, h⟩ := hq0
  obtain ⟨h1, h⟩ := sOpt_some h
  rw [mkI_some h]
  have hn0 : n ≠ 0 := by have : 1 ≤ n := Nat.le_of_ble_eq_true h1; omega
  simp [binOp, Op.intDiv, hn0]
  show (m : Int).tmod n = ((m % n : Nat) : Int)
  rw [Int.natCast_emod]
  exact Int.tmod_eq_emod_of_nonneg (by omega)
theorem fast_shl {k k' : IntKind} {m n : Nat} {v : Value} (h : shlK k k' m n = some v) : (binOp .shl t (.int k m) (.int k' n)).run E.P w = .ok v w := by
  obtain ⟨h1, h⟩ := sOpt_some h
  rw [fitI_some h]
  have hn : n ≤ k.bits := by rw [← btOf_eq]; exact Nat.le_of_ble_eq_true h1
  have e : ((Nat.shiftLeft m n : Nat) : Int) = (m : Int) * 2 ^ n := by
    show ((m <<< n : Nat) : Int) = _
    rw [Nat.shiftLeft_eq]
    norm_cast
  rw [e]
  simp [binOp, Op.shift, Nat.min_eq_left hn]
  intro hneg
  omega
theorem fast_shr {k k' : IntKind} {m n : Nat} {v : Value} (h : shrK k k' m n = some v) : (binOp .shr t (.int k m) (.int k' n)).run E.P w = .ok v w := by
  obtain ⟨h1, h⟩ := sOpt_some h
  rw [mkI_some h]
  have hn : n ≤ k.bits := by rw [← btOf_eq]; exact Nat.le_of_ble_eq_true h1
  have e : ((Nat.shiftRight m n : Nat) : Int) = (m : Int).fdiv (2 ^ n) := by
    show ((m >>> n : Nat) : Int) = _
    rw [Nat.shiftRight_eq_div_pow]
    rw [Int.fdiv_eq_ediv_of_nonneg _ (Int.le_of_lt (Int.pow_pos (by omega)))]
    norm_cast
  rw [e]
  simp [binOp, Op.shift, Nat.min_eq_left hn]
  intro hneg
  omega
theorem fast_cmp {op : BinOp} {c : Nat → Nat → Bool} {k k' : IntKind} {m n : Nat} {v : Value} (h : cmpK c k k' m n = some v) (hc : (Op.intCmp op (m : Int) (n : Int)).run E.P w = .ok (.bool (c m n)) w)
    (ho : op = .lss ∨ op = .gtr ∨ op = .leq ∨ op = .geq ∨ op = .eql ∨ op = .neq) : (binOp op t (.int k m) (.int k' n)).run E.P w = .ok v w := by
  have hq0 := sameK_some h
  clear h
  obtain ⟨rfl, h⟩ := hq0
  rw [mkB_some h, ← hc]
  rcases ho with rfl | rfl | rfl | rfl | rfl | rfl <;> simp [binOp]
theorem eqGuard_int {op : BinOp} {k k' : IntKind} {m n : Int} {xo yo : Operand} : (eqGuard op t xo yo (.int k m) (.int k' n)).run E.P w = .ok () w := by
  cases op <;> simp [eqGuard]
theorem fast_ok {op : BinOp} {f : FastT} {slow : Value → Value → M Value} {x x' y y' v : Value} {xo yo : Operand} {s s' : St} (h : int3 f slow x y s = .some v s') (hf : ∀ {k k' : IntKind} {m n : Nat} {v : Value}, f k k' m n = some v → (binOp op t (.int k m) (.int k' n)).run E.P w = .ok v w)
    (hp : ∀ {k k' : IntKind} {m n : Nat} {v : Value}, f k k' m n = some v → plain v = true)
    (hs : slow x y s = .some v s' → Yields E w0 r s s' v w (do eqGuard op t xo yo x' y'; binOp op t x' y')) (hr : Rel w0 r s.mem w) (hx : VR r x x') (hy : VR r y y') : Yields E w0 r s s' v w (do eqGuard op t xo yo x' y'; binOp op t x' y') := by
  rcases int3_ok h with ⟨k, k', m, n, rfl, rfl, h1, rfl⟩ | h1
  · have e1 := hx.int_inv
    have e2 := hy.int_inv
    subst e1; subst e2
    refine .pure ?_ hr (.of_plain (hp h1))
    simp only [Sem.run_bind, eqGuard_int, Result.andThen_ok, hf h1]
  · exact hs h1
theorem plain_fit {k : IntKind} {r : Nat} {v : Value} (h : fitI k r = some v) : plain v = true := by rw [fitI_some h]; rfl
theorem plain_mk {k : IntKind} {r : Nat} {v : Value} (h : mkI k r = some v) : plain v = true := by rw [mkI_some h]; rfl
theorem plain_sub {k k' : IntKind} {m n : Nat} {v : Value} (h : subK k k' m n = some v) : plain v = true := by
  have hq0 := sameK_some h
  clear h
  obtain ⟨rfl, h⟩ := hq0
  cases hb : Nat.ble n m with
  | true => rw [hb] at h; exact plain_fit h
  | false => rw [hb] at h; exact plain_fit (sOpt_some h).2
theorem aBin_ok {op : BinOp} {x x' y y' v : Value} {xo yo : Operand} {s s' : St} {f : Value → Value → M Value} (hc : aBin E op t xo yo = .mk f) (he : EnvTy E) (h : f x y s = .some v s') (hr : Rel w0 r s.mem w) (hx : VR r x x') (hy : VR r y y') :
    Yields E w0 r s s' v w (do eqGuard op t xo yo x' y'; binOp op t x' y') := by
  have slow : ∀ {op : BinOp}, binSlow E op t xo yo x y s = .some v s' → Yields E w0 r s s' v w (do eqGuard op t xo yo x' y'; binOp op t x' y') := fun h => binSlow_ok he h hr hx hy
  have cmp : ∀ {op : BinOp} {c : Nat → Nat → Bool}, int3 (cmpK c) (binSlow E op t xo yo) x y s = .some v s' → (op = .lss ∨ op = .gtr ∨ op = .leq ∨ op = .geq ∨ op = .eql ∨ op = .neq) → (∀ m n : Nat, (Op.intCmp op (m : Int) (n : Int)).run E.P w = .ok (.bool (c m n)) w) →
      Yields E w0 r s s' v w (do eqGuard op t xo yo x' y'; binOp op t x' y') := fun h ho hc =>
    fast_ok h (fun e => fast_cmp e (hc _ _) ho) (fun e => by rw [mkB_some (sameK_some e).2]; rfl) slow hr hx hy
  cases op
  all_goals
    cases hc
    first
    | exact slow h
    | exact fast_ok h fast_mul (fun e => plain_fit (sameK_some e).2) slow hr hx hy
    | exact fast_ok h fast_quo (fun e => plain_fit (sOpt_some (sameK_some e).2).2) slow hr hx hy
    | exact fast_ok h fast_rem (fun e => plain_mk (sOpt_some (sameK_some e).2).2) slow hr hx hy
    | exact fast_ok h fast_and (fun e => plain_fit (sameK_some e).2) slow hr hx hy
    | exact fast_ok h fast_or (fun e => plain_fit (sameK_some e).2) slow hr hx hy
    | exact fast_ok h fast_xor (fun e => plain_fit (sameK_some e).2) slow hr hx hy
    | exact fast_ok h fast_shl (fun e => plain_fit (sOpt_some e).2) slow hr hx hy
    | exact fast_ok h fast_shr (fun e => plain_mk (sOpt_some e).2) slow hr hx hy
    | rcases int2_ok h with ⟨a, b, rfl, rfl, h2⟩ | h2
      · have e1 := hx.int_inv
        have e2 := hy.int_inv
        subst e1; subst e2
        first
        | obtain ⟨rfl, rfl⟩ := rI_some h2
          refine .pure ?_ hr (.int _ _)
          simp [eqGuard, binOp, Op.intArith, addI_eq, subI_eq]
        | obtain ⟨rfl, rfl⟩ := rB_some h2
          refine .pure ?_ hr (.bool _)
          simp only [ltI_eq, eqI_eq, ← decide_not, Int.not_lt]
          first
          | simp [eqGuard, binOp, Op.intCmp]; done
          | simp [eqGuard, binOp, Op.intCmp, bne]; rw [Bool.eq_iff_iff]; simp
      · first
        | exact fast_ok h2 fast_add (fun e => plain_fit (sameK_some e).2) slow hr hx hy
        | exact fast_ok h2 fast_sub (fun e => plain_sub e) slow hr hx hy
        | refine cmp h2 (by simp) fun m n => ?_
          simp only [Op.intCmp, Sem.run_pure, blt_eq, nbeq_eq]
          congr 2
          rw [Bool.eq_iff_iff]
          simp <;> omega
end
end Go.Proofs.YtkgncjlgmnbfoaaGreatDoor.Am
