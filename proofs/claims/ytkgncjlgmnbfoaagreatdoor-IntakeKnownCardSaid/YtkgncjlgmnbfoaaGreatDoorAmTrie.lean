/- The evaluator's tries, its forcing, its small steps: what they come to. -/
import Derived.Test.YtkgncjlgmnbfoaaGreatDoorAmCore
namespace Go.Proofs.YtkgncjlgmnbfoaaGreatDoor.Am

theorem T.get_E {α : Type} (k : Nat) : T.get (T.E : T α) k = none := rfl
theorem T.get_zero {α : Type} (v : Option α) (l r : T α) : T.get (T.N v l r) 0 = v := rfl
theorem beq_mod (k : Nat) : Nat.beq (Nat.mod k (nat_lit 2)) (nat_lit 0) = decide (k % 2 = 0) := by
  show Nat.beq (k % 2) 0 = _
  by_cases h : k % 2 = 0
  · rw [h]; rfl
  · have h1 : k % 2 = 1 := by omega
    rw [h1]; rfl
theorem T.get_succ {α : Type} (v : Option α) (l r : T α) (k : Nat) : T.get (T.N v l r) (k + 1) = if k % 2 = 0 then T.get l (k / 2) else T.get r (k / 2) := by
  show Bool.rec (motive := fun _ => Nat → Option α) (T.get r) (T.get l) (Nat.beq (Nat.mod k (nat_lit 2)) (nat_lit 0)) (Nat.div k (nat_lit 2)) = _
  rw [beq_mod]
  by_cases h : k % 2 = 0 <;> simp only [h, decide_true, decide_false, if_true, if_false] <;> rfl

theorem T.one_N {α : Type} (x : Option α) : ∀ (fuel k : Nat), k < fuel → ∃ v l r, T.one x fuel k = T.N v l r ∧ ∀ j, T.get (T.N v l r) j = if j = k then x else none
  | 0, k, h => absurd h (Nat.not_lt_zero _)
  | n + 1, 0, _ => ⟨x, .E, .E, rfl, fun j => by
      cases j with
      | zero => rfl
      | succ j => rw [T.get_succ]; simp [T.get_E]⟩
  | n + 1, k + 1, h => by
    obtain ⟨v, l, r, e, hg⟩ := T.one_N x n (k / 2) (by omega)
    have e1 : T.one x (n + 1) (k + 1) = if k % 2 = 0 then T.N none (T.N v l r) .E else T.N none .E (T.N v l r) := by
      show T.rec (motive := fun _ => T α) .E (fun a b c _ _ => Bool.rec (motive := fun _ => T α) (.N none .E (.N a b c)) (.N none (.N a b c) .E) (Nat.beq (Nat.mod k (nat_lit 2)) (nat_lit 0))) (T.one x n (Nat.div k (nat_lit 2))) = _
      rw [show T.one x n (Nat.div k (nat_lit 2)) = T.N v l r from e, beq_mod]
      by_cases h2 : k % 2 = 0 <;> simp only [h2, decide_true, decide_false, if_true, if_false]
    by_cases h2 : k % 2 = 0
    · rw [e1, if_pos h2]
      refine ⟨_, _, _, rfl, fun j => ?_⟩
      cases j with
      | zero => rw [T.get_zero, if_neg (by omega)]
      | succ j =>
        rw [T.get_succ]
        by_cases h3 : j % 2 = 0
        · rw [if_pos h3, hg]; simp only [show (j / 2 = k / 2) ↔ (j + 1 = k + 1) by omega]
        · rw [if_neg h3, T.get_E, if_neg (by omega)]
    · rw [e1, if_neg h2]
      refine ⟨_, _, _, rfl, fun j => ?_⟩
      cases j with
      | zero => rw [T.get_zero, if_neg (by omega)]
      | succ j =>
        rw [T.get_succ]
        by_cases h3 : j % 2 = 0
        · rw [if_pos h3, T.get_E, if_neg (by omega)]
        · rw [if_neg h3, hg]; simp only [show (j / 2 = k / 2) ↔ (j + 1 = k + 1) by omega]

theorem T.setO_N {α : Type} (x : Option α) : ∀ (t : T α) (k : Nat), ∃ v l r, T.setO x t k = T.N v l r ∧ ∀ j, T.get (T.N v l r) j = if j = k then x else T.get t j
  | .E, k => by
    obtain ⟨v, l, r, e, hg⟩ := T.one_N x (k + 1) k (by omega)
    exact ⟨v, l, r, e, fun j => by rw [hg, T.get_E]⟩
  | .N v l r, 0 => ⟨x, l, r, rfl, fun j => by
      cases j with
      | zero => rfl
      | succ j => rw [T.get_succ, T.get_succ, if_neg (show ¬ j + 1 = 0 by omega)]⟩
  | .N v l r, k + 1 => by
    obtain ⟨a, b, c, e, hg⟩ := T.setO_N x l (k / 2)
    obtain ⟨a', b', c', e', hg'⟩ := T.setO_N x r (k / 2)
    have e1 : T.setO x (T.N v l r) (k + 1) = if k % 2 = 0 then T.N v (T.N a b c) r else T.N v l (T.N a' b' c') := by
      show Bool.rec (motive := fun _ => Nat → T α) (fun k => T.rec (motive := fun _ => T α) .E (fun a b c _ _ => .N v l (.N a b c)) (T.setO x r k)) (fun k => T.rec (motive := fun _ => T α) .E (fun a b c _ _ => .N v (.N a b c) r) (T.setO x l k)) (Nat.beq (Nat.mod k (nat_lit 2)) (nat_lit 0)) (Nat.div k (nat_lit 2)) = _
      rw [beq_mod]
      by_cases h2 : k % 2 = 0
      · simp only [h2, decide_true, if_true]
        rw [show T.setO x l (Nat.div k (nat_lit 2)) = T.N a b c from e]
      · simp only [h2, decide_false, if_false]
        rw [show T.setO x r (Nat.div k (nat_lit 2)) = T.N a' b' c' from e']
    by_cases h2 : k % 2 = 0
    · rw [e1, if_pos h2]
      refine ⟨_, _, _, rfl, fun j => ?_⟩
      cases j with
      | zero => rw [T.get_zero, T.get_zero, if_neg (by omega)]
      | succ j =>
        rw [T.get_succ, T.get_succ]
        by_cases h3 : j % 2 = 0
        · rw [if_pos h3, if_pos h3, hg]; simp only [show (j / 2 = k / 2) ↔ (j + 1 = k + 1) by omega]
        · rw [if_neg h3, if_neg h3, if_neg (by omega)]
    · rw [e1, if_neg h2]
      refine ⟨_, _, _, rfl, fun j => ?_⟩
      cases j with
      | zero => rw [T.get_zero, T.get_zero, if_neg (by omega)]
      | succ j =>
        rw [T.get_succ, T.get_succ]
        by_cases h3 : j % 2 = 0
        · rw [if_pos h3, if_pos h3, if_neg (by omega)]
        · rw [if_neg h3, if_neg h3, hg']; simp only [show (j / 2 = k / 2) ↔ (j + 1 = k + 1) by omega]
theorem T.get_set {α : Type} (t : T α) (k : Nat) (x : α) (j : Nat) : T.get (T.set t k x) j = if j = k then some x else T.get t j := by
  obtain ⟨v, l, r, e, hg⟩ := T.setO_N (some x) t k
  show T.get (T.setO (some x) t k) j = _
  rw [e, hg]
theorem T.get_del {α : Type} (t : T α) (k : Nat) (j : Nat) : T.get (T.del t k) j = if j = k then none else T.get t j := by
  obtain ⟨v, l, r, e, hg⟩ := T.setO_N none t k
  show T.get (T.setO none t k) j = _
  rw [e, hg]
theorem T.set_N {α : Type} (t : T α) (k : Nat) (x : α) : ∃ v l r, T.set t k x = T.N v l r := let ⟨v, l, r, e, _⟩ := T.setO_N (some x) t k; ⟨v, l, r, e⟩

/-! ### Forcing does nothing -/
theorem fN_eq {β : Type} (n : Nat) (K : Nat → β) : fN n K = K n := by cases n <;> rfl
theorem fI_eq {β : Type} (n : Int) (K : Int → β) : fI n K = K n := by
  cases n with
  | ofNat m => show fN m (fun m => K (.ofNat m)) = _; rw [fN_eq]
  | negSucc m => show fN m (fun m => K (.negSucc m)) = _; rw [fN_eq]
theorem fS_eq {β : Type} (s : Option Nat) (K : Option Nat → β) : fS s K = K s := by cases s <;> rfl
theorem fA_eq {β : Type} (a : Addr) (K : Addr → β) : fA a K = K a := by
  obtain ⟨b, o, s⟩ := a
  show fN b (fun b => fN o fun o => fS s fun s => K ⟨b, o, s⟩) = _
  rw [fN_eq, fN_eq, fS_eq]
theorem fB_eq {β : Type} (b : Bool) (K : Bool → β) : fB b K = K b := by cases b <;> rfl

/-! ### The steps of the monad -/
theorem bind_some {α β : Type} {m : M α} {f : α → M β} {s : St} {b : β} {s' : St} (h : M.bind m f s = .some b s') : ∃ a s1, m s = .some a s1 ∧ f a s1 = .some b s' := by
  unfold M.bind at h
  cases e : m s with
  | none => rw [e] at h; cases h
  | some a s1 => rw [e] at h; exact ⟨a, s1, rfl, h⟩
  | pan c s1 => rw [e] at h; cases h
theorem bind_pan {α β : Type} {m : M α} {f : α → M β} {s : St} {c : List PanicEntry} {s' : St} (h : M.bind m f s = .pan c s') : m s = .pan c s' ∨ ∃ a s1, m s = .some a s1 ∧ f a s1 = .pan c s' := by
  unfold M.bind at h
  cases e : m s with
  | none => rw [e] at h; cases h
  | some a s1 => rw [e] at h; exact .inr ⟨a, s1, rfl, h⟩
  | pan c1 s1 => rw [e] at h; left; simpa using h
theorem pure_some {α : Type} {a b : α} {s s' : St} (h : M.pure a s = .some b s') : a = b ∧ s = s' := by cases h; exact ⟨rfl, rfl⟩
theorem ofOpt_some {α : Type} {x : Option α} {b : α} {s s' : St} (h : M.ofOpt x s = .some b s') : x = some b ∧ s = s' := by
  cases x with
  | none => cases h
  | some a => cases h; exact ⟨rfl, rfl⟩
theorem on_some {α β : Type} {x : Option α} {f : α → M β} {b : β} {s s' : St} (h : M.on x f s = .some b s') : ∃ a, x = some a ∧ f a s = .some b s' := by
  cases x with
  | none => cases h
  | some a => exact ⟨a, rfl, h⟩
theorem chk_some {α : Type} {b : Bool} {m : M α} {x : α} {s s' : St} (h : M.chk b m s = .some x s') : b = true ∧ m s = .some x s' := by
  cases b with
  | false => cases h
  | true => exact ⟨rfl, h⟩
theorem if_eq {α : Type} (b : Bool) (m n : M α) : M.if b m n = if b then m else n := by cases b <;> rfl
end Go.Proofs.YtkgncjlgmnbfoaaGreatDoor.Am
