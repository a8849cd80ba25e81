/- Contracts of the kit's kind, as contracts within the evaluator; new rows. -/
import Derived.Test.YtapojfiplajfaaaGreatDoorWnn09
import Derived.Laws.AppendOwn
import Derived.CallsIn
import Derived.Test.YtapojfiplajfaaaGreatDoorWnn11
namespace Go.Proofs.YtapojfiplajfaaaGreatDoor.Am
open Go.RowKit

section
variable {P : Program} {w0 w : World} {r : Inj}
/-- A function with a body is entered. -/
theorem enters_body {f : Nat} {fn : Func} (hf : P.funcs[f]? = some fn) (h1 : (fn.name == "runtime.NumGoroutine") = false) (h2 : fn.body.isNone = false) (args : Array Value) (w : World) : (callFunc f args).run P w = .ok (.enter f args) w := by
  have h1' : ¬fn.name = "runtime.NumGoroutine" := by simpa using h1
  have h2' : ¬fn.body = none := fun e => by rw [e] at h2; cases h2
  unfold callFunc
  simp [run_program, Sem.run_bind, hf, h1', h2']
/-- What a contract owes: whatever the evaluator's word says of the call is so. -/
def Owed (P : Program) (f : Nat) (w0 w : World) (r : Inj) (args' : List Value) (s : St) (v : Value) (s' : St) : Prop :=
  ∃ Q, Calls P f args'.toArray w Q ∧ ∀ e w', Q e w' → ∃ v' r', e = .returned v' ∧ VR r' v v' ∧ Goes w0 r s s' r' w' ∧ s'.lim = s.lim ∧ s'.cx = s.cx
theorem orc_con {f : Nat} {fn : Func} {m : List Value → M Value} (hf : P.funcs[f]? = some fn) (h1 : (fn.name == "runtime.NumGoroutine") = false) (h2 : fn.body.isNone = false) (hl : ∀ args, Loc (m args)) (hn : ∀ args, NoPan (m args))
    (h : ∀ {w0 w : World} {r : Inj} {args args' : List Value} {s s' : St} {v : Value}, m args s = .some v s' → Rel w0 r s.mem w → Fresh r s.next s'.next → VRs r args args' → Owed P f w0 w r args' s v s') : OrcOK P f m where
  loc := hl
  ok := by
    intro w0 w r args args' s out s' e hr hb hfr ha
    cases out with
    | inr c => exact ((hn args).no _ _ _ e).elim
    | inl v =>
      refine ⟨fun w => enters_body hf h1 h2 _ w, fun c cs => ?_⟩
      obtain ⟨Q, hc, hq⟩ := h (show m args s = .some v s' from e) hr hfr ha
      obtain ⟨e, w', fr, hQ, hs, _, hl⟩ := hc (c :: cs)
      obtain ⟨v', r', rfl, hv, hg, k1, k2⟩ := hq e w' hQ
      exact ⟨w', r', hg, k1, k2, v', hv, hs.trans (.one (step_leave_returned hl))⟩

/-- A new row of one-cell elements. -/
noncomputable def rowM (vs : List Value) : M Value :=
  List.rec (motive := fun _ => M Value) (M.pure (.slice none 0 0)) (fun _ _ _ => fN vs.length fun n => rowN vs n) vs
theorem lo_rowM (vs : List Value) : Loc (rowM vs) := by
  cases vs with
  | nil => exact lo_pure _
  | cons v l => exact (show Loc (fN (v :: l).length fun n => rowN (v :: l) n) from lo_fN _ fun n => lo_rowN _ n)
theorem np_rowM (vs : List Value) : NoPan (rowM vs) := by
  cases vs with
  | nil => exact np_pure _
  | cons v l => exact (show NoPan (fN (v :: l).length fun n => rowN (v :: l) n) from np_fN _ fun n => np_rowN _ n)
theorem rowM_ok {vs vs' : List Value} {s s' : St} {v v' : Value} {w' : World} {e : TypeId} (h : rowM vs s = .some v s') (hr : Rel w0 r s.mem w) (hf : Fresh r s.next s'.next) (hv : VRs r vs vs') (hb : Below w.heap.size w w') (ho : w'.ownsRow w.heap.size e 1 v' vs'.length vs') (hnil : v' = .slice none 0 0 ↔ vs' = []) :
    ∃ r', VR r' v v' ∧ Goes w0 r s s' r' w' ∧ s'.lim = s.lim ∧ s'.cx = s.cx := by
  cases vs with
  | nil =>
    obtain ⟨rfl, rfl⟩ := pure_some (show M.pure (Value.slice none 0 0) s = .some v s' from h)
    have := hv.inv_nil
    subst this
    rw [hnil.2 rfl]
    exact ⟨r, .slNil, .same (.refl _) (hr.beyond hb), rfl, rfl⟩
  | cons a l =>
    replace h : fN (a :: l).length (fun n => rowN (a :: l) n) s = .some v s' := h
    rw [fN_eq] at h
    unfold rowN at h
    obtain ⟨hlt, h⟩ := chk_some h
    obtain ⟨b, s1, e1, h⟩ := bind_some h
    obtain ⟨u, s2, e2, h⟩ := bind_some h
    have hlen : vs'.length = (a :: l).length := hv.1.symm
    rcases ho.2 with ⟨rfl, h0⟩ | ⟨g, cap, cur, rfl, hbase, hg, q1, q2, q3, q4⟩
    · have : vs' = [] := hnil.1 rfl
      rw [this] at hlen
      cases hlen
    · have hz : g < w'.heap.size := by
        rcases Nat.lt_or_ge g w'.heap.size with h | h
        · exact h
        · rw [Array.getElem?_eq_none h] at hg; cases hg
      have hr' := hr.beyond hb
      have cellat : ∀ j, j < cap → w'.cell? ⟨g, 0 + j, none⟩ = cur[j]? := fun j _ => by
        rw [Nat.zero_add]
        simp [World.cell?, hg]
      obtain ⟨r', k1, k2, k3, k4⟩ := finIn (need := (a :: l).length) (size := 1) (cap' := cap) (bb := g) (o := 0) hr' e1 e2 rfl h hf hv (by rw [Nat.mul_one]) (by decide) (by decide) (blt_lt hlt) (by rw [← hlen]; exact q1) (Nat.le_trans hr.below.size hbase) hz
        (fun i x hx => by
          have hi : i < vs'.length := (List.getElem?_eq_some_iff.1 hx).1
          rw [cellat i (by omega)]
          rw [← q4, Nat.mul_one, List.getElem?_take_of_lt hi] at hx
          simpa using hx)
        (fun j hj => by
          rw [Nat.mul_one] at hj
          have hj' : j < cur.size := by rw [q3, Nat.mul_one]; exact hj
          refine ⟨cur[j], by rw [cellat j hj]; exact Array.getElem?_eq_getElem hj', ?_⟩
          rw [Nat.zero_add]
          simp [World.frozen?, hg])
        (fun loc b v d e1 e2 => absurd (hr.dom _ _ _ e2).2 (Nat.not_lt_of_le hbase))
        (fun t2 sz k2 e1 e2 hk => by
          obtain ⟨k, g1, _, _, g2, _⟩ := hr.tok _ _ e1
          rw [g1] at e2
          cases e2
          rw [hk] at g2
          exact absurd g2 (Nat.not_lt_of_le hbase))
        (fun h => absurd h (by decide))
      refine ⟨r', ?_, k1, k3, k4⟩
      rw [hlen]
      exact k2
end
end Go.Proofs.YtapojfiplajfaaaGreatDoor.Am
