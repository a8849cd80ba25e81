/- One operation of the evaluator against the model's: those that give a value at once. -/
import Derived.Test.YtnhmbhpkebjjaaaAmPan
namespace Go.Proofs.Ytnhmbhpkebjjaaa.Am
open Go.RowKit

/-- An operation that gives a value, or nothing, at once, and never panics. -/
def OpV (E : Env) (o : Oper) (c : Cl OpT) (ds : List Nat) : Prop :=
  ∃ f, c = .mk f ∧ (∀ call round rho tm, NoPan (f call round rho tm)) ∧
    ∀ call round (w0 w : World) (r : Inj) (U : Nat → Prop) rho tm (a : Act) s v s', SlR r U ds rho tm a.tmps → (∀ t, Operand.tmp t ∈ o.op.operands.toList → U t) → Rel w0 r s.mem w → f call round rho tm s = .some v s' → Fresh r s.next s'.next →
      ∃ v' w' r', ((execOp a.eval o).run E.P w = .ok (.value v') w' ∨ ((execOp a.eval o).run E.P w = .ok .skip w' ∧ v' = undef)) ∧ Goes w0 r s s' r' w' ∧ VR r' v v' ∧ s'.lim = s.lim ∧ s'.cx = s.cx

section
variable {E : Env} {ds : List Nat} {o : Oper}
def valOf (m : Sem Value) : Sem Next := do pure (.value (← m))
theorem Yields.val {w0 w : World} {r : Inj} {s s' : St} {v : Value} {m : Sem Value} (h : Yields E w0 r s s' v w m) {n : Sem Next} (hn : n = valOf m) :
    ∃ v' w' r', (n.run E.P w = .ok (.value v') w' ∨ (n.run E.P w = .ok .skip w' ∧ v' = undef)) ∧ Goes w0 r s s' r' w' ∧ VR r' v v' ∧ s'.lim = s.lim ∧ s'.cx = s.cx := by
  obtain ⟨v', w', r', h1, h2, h3, h4, h5⟩ := h
  exact ⟨v', w', r', .inl (by rw [hn]; simp [valOf, h1]), h2, h3, h4, h5⟩
theorem optRec_some {α : Type} {x : Option α} {f : α → St → R Value} {s s' : St} {v : Value} (h : Option.rec (motive := fun _ => R Value) .none (fun a => f a s) x = .some v s') : ∃ a, x = some a ∧ f a s = .some v s' := by
  cases x with
  | none => cases h
  | some a => exact ⟨a, rfl, h⟩
theorem np_rec {α : Type} {g : Option α} {f : α → M Value} (h : ∀ a, NoPan (f a)) : NoPan (fun s => Option.rec (motive := fun _ => R Value) .none (fun a => f a s) g) := ⟨fun s c s' e => by
  cases g with
  | none => cases e
  | some a => exact (h a).no _ _ _ e⟩

theorem with0_ok {x : Operand} (hx : o.op.operands.toList = [x]) (ho : ∀ a : Act, execOp a.eval o = pure (.value (a.eval x))) : OpV E o (with0 ds x) ds := by
  obtain ⟨g, h1, h2⟩ := compO_ok ds x
  refine ⟨_, by unfold with0; rw [h1], fun _ _ rho tm => np_rec (f := fun a s => .some a s) (g := g rho tm) fun a => np_pure a, ?_⟩
  intro call round w0 w r U rho tm a s v s' hs hu hr h hf
  obtain ⟨y, e1, e2⟩ := optRec_some (f := fun a s => .some a s) h
  cases e2
  exact ⟨_, w, r, .inl (by rw [ho]; rfl), .of_rel rfl hr, h2 _ _ _ _ _ _ hs (fun t q => hu t (by first | (rw [hx]; simp at q ⊢; simp [q]) | exact hx _ q)) e1, rfl, rfl⟩
theorem with1_ok {x : Operand} {k : Value → M Value} {m : Value → Sem Value} (hx : o.op.operands.toList = [x]) (ho : ∀ a : Act, execOp a.eval o = valOf (m (a.eval x))) (np : ∀ y, NoPan (k y))
    (hk : ∀ {w0 w : World} {r : Inj} {y y' : Value} {s v s'}, k y s = .some v s' → Rel w0 r s.mem w → Fresh r s.next s'.next → VR r y y' → Yields E w0 r s s' v w (m y')) : OpV E o (with1 ds x k) ds := by
  obtain ⟨g, h1, h2⟩ := compO_ok ds x
  refine ⟨_, by unfold with1; rw [h1], fun _ _ rho tm => np_rec (g := g rho tm) np, ?_⟩
  intro call round w0 w r U rho tm a s v s' hs hu hr h hf
  obtain ⟨y, e1, e2⟩ := optRec_some h
  exact (hk e2 hr hf (h2 _ _ _ _ _ _ hs (fun t q => hu t (by first | (rw [hx]; simp at q ⊢; simp [q]) | exact hx _ q)) e1)).val (ho a)
theorem with2_ok {x y : Operand} {k : Value → Value → M Value} {m : Value → Value → Sem Value} (hx : o.op.operands.toList = [x, y]) (ho : ∀ a : Act, execOp a.eval o = valOf (m (a.eval x) (a.eval y))) (np : ∀ y z, NoPan (k y z))
    (hk : ∀ {w0 w : World} {r : Inj} {y y' z z' : Value} {s v s'}, k y z s = .some v s' → Rel w0 r s.mem w → Fresh r s.next s'.next → VR r y y' → VR r z z' → Yields E w0 r s s' v w (m y' z')) : OpV E o (with2 ds x y k) ds := by
  obtain ⟨g, h1, h2⟩ := compO_ok ds x
  obtain ⟨g', h3, h4⟩ := compO_ok ds y
  refine ⟨_, by unfold with2; rw [h1, h3], fun _ _ rho tm => np_rec (g := g rho tm) (f := fun a s => Option.rec (motive := fun _ => R Value) .none (fun b => k a b s) (g' rho tm)) fun a => np_rec (np a), ?_⟩
  intro call round w0 w r U rho tm a s v s' hs hu hr h hf
  obtain ⟨y, e1, e2⟩ := optRec_some (f := fun a s => Option.rec (motive := fun _ => R Value) .none (fun b => k a b s) (g' rho tm)) h
  obtain ⟨z, e3, e4⟩ := optRec_some e2
  exact (hk e4 hr hf (h2 _ _ _ _ _ _ hs (fun t q => hu t (by first | (rw [hx]; simp at q ⊢; simp [q]) | exact hx _ q)) e1) (h4 _ _ _ _ _ _ hs (fun t q => hu t (by rw [hx]; simp at q ⊢; simp [q])) e3)).val (ho a)
theorem withP_ok {l : List (Nat × Operand)} {k : List (Nat × Value) → M Value} {m : List (Nat × Value) → Sem Value} (hx : o.op.operands.toList = l.map (·.2)) (ho : ∀ a : Act, execOp a.eval o = valOf (m (l.map fun p => (p.1, a.eval p.2)))) (np : ∀ y, NoPan (k y))
    (hk : ∀ {w0 w : World} {r : Inj} {y y' : List (Nat × Value)} {s v s'}, k y s = .some v s' → Rel w0 r s.mem w → Fresh r s.next s'.next → PRs r y y' → Yields E w0 r s s' v w (m y')) : OpV E o (withP ds l k) ds := by
  obtain ⟨g, h1, h2⟩ := compP_ok ds l
  refine ⟨_, by unfold withP; rw [h1], fun _ _ rho tm => np_rec (g := g rho tm) np, ?_⟩
  intro call round w0 w r U rho tm a s v s' hs hu hr h hf
  obtain ⟨y, e1, e2⟩ := optRec_some h
  exact (hk e2 hr hf (h2 _ _ _ _ _ _ hs (fun t q => hu t (by first | (rw [hx]; simp at q ⊢; simp [q]) | exact hx _ q)) e1)).val (ho a)
theorem withL_ok {l : List Operand} {k : List Value → M Value} {m : List Value → Sem Value} (hx : ∀ x ∈ l, x ∈ o.op.operands.toList) (ho : ∀ a : Act, execOp a.eval o = valOf (m (l.map a.eval))) (np : ∀ y, NoPan (k y))
    (hk : ∀ {w0 w : World} {r : Inj} {y y' : List Value} {s v s'}, k y s = .some v s' → Rel w0 r s.mem w → Fresh r s.next s'.next → VRs r y y' → Yields E w0 r s s' v w (m y')) : OpV E o (withL ds l k) ds := by
  obtain ⟨g, h1, h2⟩ := compL_ok ds l
  refine ⟨_, by unfold withL; rw [h1], fun _ _ rho tm => np_rec (g := g rho tm) np, ?_⟩
  intro call round w0 w r U rho tm a s v s' hs hu hr h hf
  obtain ⟨y, e1, e2⟩ := optRec_some h
  exact (hk e2 hr hf (h2 _ _ _ _ _ _ hs (fun t q => hu t (by first | (rw [hx]; simp at q ⊢; simp [q]) | exact hx _ q)) e1)).val (ho a)
end
end Go.Proofs.Ytnhmbhpkebjjaaa.Am
