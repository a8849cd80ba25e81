/- The evaluator's tables, out of any program. -/
import Derived.Test.YtkgncjlgmnbfoaaGreatDoorAmRun
namespace Go.Proofs.YtkgncjlgmnbfoaaGreatDoor.Am
open Go.RowKit

/-- A table of what a function says of the numbers a, a + s, a + 2 s ..: each looked at when it is asked for. -/
noncomputable def T.tab {α : Type} (f : Nat → Option α) (fuel : Nat) : Nat → Nat → T α :=
  Nat.rec (motive := fun _ => Nat → Nat → T α) (fun _ _ => .E) (fun _ ih a s => fN (Nat.add a s) fun b => fN (Nat.add b s) fun c => fN (Nat.add s s) fun d => .N (f a) (ih b d) (ih c d)) fuel
theorem T.tab_succ {α : Type} (f : Nat → Option α) (n a s : Nat) : T.tab f (n + 1) a s = .N (f a) (T.tab f n (a + s) (s + s)) (T.tab f n (a + s + s) (s + s)) := by
  show fN (Nat.add a s) (fun b => fN (Nat.add b s) fun c => fN (Nat.add s s) fun d => T.N (f a) (T.tab f n b d) (T.tab f n c d)) = _
  rw [fN_eq, fN_eq, fN_eq]
  rfl
theorem T.tab_some {α : Type} (f : Nat → Option α) : ∀ (n a s k : Nat) {x : α}, T.get (T.tab f n a s) k = some x → f (a + s * k) = some x
  | 0, _, _, _, _, h => by cases h
  | n + 1, a, s, 0, x, h => by
    rw [T.tab_succ, T.get_zero] at h
    simpa using h
  | n + 1, a, s, k + 1, x, h => by
    rw [T.tab_succ, T.get_succ] at h
    split at h
    · rename_i hk
      have := T.tab_some f n _ _ _ h
      rw [← this]
      congr 1
      have e : k = 2 * (k / 2) := by omega
      rw [Nat.add_mul, Nat.mul_add, ← Nat.two_mul, Nat.mul_left_comm, ← e]
      omega
    · rename_i hk
      have := T.tab_some f n _ _ _ h
      rw [← this]
      congr 1
      have e : k = 2 * (k / 2) + 1 := by omega
      have e2 : s * (k + 1) = s * (2 * (k / 2)) + s + s := by rw [e]; rw [show 2 * ((2 * (k / 2) + 1) / 2) = 2 * (k / 2) by omega]; rw [Nat.mul_add, Nat.mul_add]; omega
      rw [e2, Nat.add_mul, ← Nat.two_mul, Nat.mul_left_comm]
      omega
theorem T.tab_get {α : Type} (f : Nat → Option α) : ∀ (n a s k : Nat), k + 1 < 2 ^ n → T.get (T.tab f n a s) k = f (a + s * k)
  | 0, _, _, k, h => by simp at h
  | n + 1, a, s, 0, _ => by rw [T.tab_succ]; rfl
  | n + 1, a, s, k + 1, h => by
    rw [T.tab_succ, T.get_succ]
    split
    · rename_i hk
      rw [T.tab_get f n _ _ _ (by rw [Nat.pow_succ] at h; omega)]
      congr 1
      have e : k = 2 * (k / 2) := by omega
      rw [Nat.add_mul, Nat.mul_add, ← Nat.two_mul, Nat.mul_left_comm, ← e]
      omega
    · rename_i hk
      rw [T.tab_get f n _ _ _ (by rw [Nat.pow_succ] at h; omega)]
      congr 1
      have e : k = 2 * (k / 2) + 1 := by omega
      have e2 : s * (k + 1) = s * (2 * (k / 2)) + s + s := by rw [e]; rw [show 2 * ((2 * (k / 2) + 1) / 2) = 2 * (k / 2) by omega]; rw [Nat.mul_add, Nat.mul_add]; omega
      rw [e2, Nat.add_mul, ← Nat.two_mul, Nat.mul_left_comm]
      omega

/-- A type, as the evaluator reads it. -/
noncomputable def ti0 (P : Program) (t : Nat) : Option TI :=
  match P.info? t, P.underlying t with
  | some n, some u => (match n.zero with
    | some z => Bool.rec (motive := fun _ => Option TI) none (some ⟨u, n.size, aggD u, z.cells.toList, n.bytes⟩) (Nat.beq z.cells.toList.length n.size && z.cells.toList.all plain && (aggV z == aggD u))
    | none => none)
  | _, _ => none
noncomputable def fldsB (ok : Nat → Bool) (u : TypeDesc) : Bool :=
  match u with
  | .struct fs => fs.toList.all fun f => ok f.type
  | _ => true
noncomputable def tyB (P : Program) (n : Nat) : Nat → Bool :=
  Nat.rec (motive := fun _ => Nat → Bool) (fun _ => false) (fun _ ih t => Nat.blt t 4095 && Option.rec (motive := fun _ => Bool) false (fun i => fldsB ih i.u) (ti0 P t)) n
noncomputable def tyAt (P : Program) (t : Nat) : Option TI := Bool.rec (motive := fun _ => Option TI) none (ti0 P t) (tyB P 8 t)
noncomputable def fnAt (P : Program) (f : Nat) : Option Func :=
  match P.funcs[f]? with
  | some fn => Bool.rec (motive := fun _ => Option Func) (some fn) none (fn.name == "runtime.NumGoroutine")
  | none => none
noncomputable def envOf (P : Program) (orc ext : T (List Value → M Value)) : Env := ⟨P, T.tab (tyAt P) 12 0 1, T.tab (fnAt P) 12 0 1, orc, ext⟩

theorem ti0_ok {P : Program} {t : Nat} {i : TI} (h : ti0 P t = some i) : TyOK P t i := by
  unfold ti0 at h
  split at h
  · rename_i n u h1 h2
    split at h
    · rename_i z h3
      cases hb : (Nat.beq z.cells.toList.length n.size && z.cells.toList.all plain && (aggV z == aggD u)) with
      | false => rw [hb] at h; cases h
      | true =>
        rw [hb] at h
        cases h
        rw [Bool.and_eq_true, Bool.and_eq_true] at hb
        refine ⟨⟨n, h1, rfl, rfl, z, h3, rfl⟩, h2, rfl, Nat.eq_of_beq_eq_true hb.1.1, fun v hv => List.all_eq_true.1 hb.1.2 v hv, fun n' z' e1 e2 => ?_⟩
        rw [h1] at e1
        cases e1
        rw [h3] at e2
        cases e2
        exact eq_of_beq hb.2
    · cases h
  · cases h
theorem tyB_succ {P : Program} {n t : Nat} : tyB P (n + 1) t = (Nat.blt t 4095 && Option.rec (motive := fun _ => Bool) false (fun i => fldsB (tyB P n) i.u) (ti0 P t)) := rfl
theorem tyB_mono {P : Program} : ∀ {n t : Nat}, tyB P n t = true → tyB P (n + 1) t = true
  | 0, _, h => by cases h
  | n + 1, t, h => by
    rw [tyB_succ, Bool.and_eq_true] at h ⊢
    refine ⟨h.1, ?_⟩
    have h2 := h.2
    cases e : ti0 P t with
    | none => rw [e] at h2; cases h2
    | some i =>
      rw [e] at h2
      replace h2 : fldsB (tyB P n) i.u = true := h2
      show fldsB (tyB P (n + 1)) i.u = true
      unfold fldsB at h2 ⊢
      cases hu : i.u with
      | struct fs =>
        rw [hu] at h2
        simp only at h2 ⊢
        exact List.all_eq_true.2 fun f hf => tyB_mono (List.all_eq_true.1 h2 f hf)
      | _ => rfl
theorem tyAt_some {P : Program} {t : Nat} {i : TI} (h : tyAt P t = some i) : tyB P 8 t = true ∧ ti0 P t = some i := by
  unfold tyAt at h
  cases e : tyB P 8 t with
  | false => rw [e] at h; cases h
  | true => rw [e] at h; exact ⟨rfl, h⟩
theorem envOf_ty (P : Program) (orc ext : T (List Value → M Value)) : EnvTy (envOf P orc ext) where
  ok := fun t i h => by
    have h1 := T.tab_some (tyAt P) 12 0 1 t h
    rw [Nat.zero_add, Nat.one_mul] at h1
    exact ti0_ok (tyAt_some h1).2
  flds := fun t i fs h hu f hf => by
    have h1 := T.tab_some (tyAt P) 12 0 1 t h
    rw [Nat.zero_add, Nat.one_mul] at h1
    obtain ⟨h2, h3⟩ := tyAt_some h1
    rw [show (8 : Nat) = 7 + 1 from rfl, tyB_succ, Bool.and_eq_true, h3] at h2
    have h4 : fldsB (tyB P 7) i.u = true := h2.2
    unfold fldsB at h4
    rw [hu] at h4
    have h5 : tyB P 7 f.type = true := List.all_eq_true.1 h4 f (by simpa using hf)
    have h6 := tyB_mono h5
    have h7 := h6
    rw [tyB_succ, Bool.and_eq_true] at h7
    have h8 : f.type < 4095 := blt_lt h7.1
    have h9 : T.get (envOf P orc ext).ty f.type = tyAt P f.type := by
      have := T.tab_get (tyAt P) 12 0 1 f.type (Nat.succ_lt_succ h8)
      rw [Nat.zero_add, Nat.one_mul] at this
      exact this
    rw [h9]
    unfold tyAt
    rw [h6]
    cases e : ti0 P f.type with
    | none => rw [e] at h7; cases h7.2
    | some fi => exact ⟨fi, rfl⟩
theorem envOf_fn (P : Program) (orc ext : T (List Value → M Value)) (f : Nat) (fn : Func) (h : T.get (envOf P orc ext).fn f = some fn) : P.funcs[f]? = some fn ∧ fn.name ≠ "runtime.NumGoroutine" := by
  have h1 := T.tab_some (fnAt P) 12 0 1 f h
  rw [Nat.zero_add, Nat.one_mul] at h1
  unfold fnAt at h1
  split at h1
  · rename_i fn' h2
    cases hb : (fn'.name == "runtime.NumGoroutine") with
    | true => rw [hb] at h1; cases h1
    | false =>
      rw [hb] at h1
      cases h1
      exact ⟨h2, fun e => by rw [e] at hb; simp at hb⟩
  · cases h1
/-- The evaluator with no contracts of others in it. -/
theorem envOf_ok (P : Program) (h : P.follows .mixedOrders = true) : EnvOK (envOf P .E .E) :=
  ⟨envOf_ty P .E .E, envOf_fn P .E .E, h, (fun f m e => by cases e), (fun e => by cases e), (fun f m e => by cases e), (fun e => by cases e)⟩
end Go.Proofs.YtkgncjlgmnbfoaaGreatDoor.Am
