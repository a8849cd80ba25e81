/- One operation of the evaluator against the model's: those that give a value at once. -/
import Derived.Test.YtkgncjlgmnbfoaaGreatDoorAmPan
namespace Go.Proofs.YtkgncjlgmnbfoaaGreatDoor.Am
open Go.RowKit

/-- An operation that gives a value, or nothing, at once, and never panics. -/
def OpV (E : Env) (o : Oper) (c : Cl OpT) (ds : List Nat) : Prop :=
  ∃ f, c = .mk f ∧ (∀ call round rho tm, NoPan (f call round rho tm)) ∧
    ∀ call round (w0 w : World) (r : Inj) (U : Nat → Prop) rho tm (a : Act) s v s', SlR r U ds rho tm a.tmps → (∀ t, Operand.tmp t ∈ o.op.operands.toList → U t) → Rel w0 r s.mem w → f call round rho tm s = .some v s' → Fresh r s.next s'.next →
      ∃ v' w' r', ((execOp a.eval o).run E.P w = .ok (.value v') w' ∨ ((execOp a.eval o).run E.P w = .ok .skip w' ∧ v' = undef)) ∧ Goes w0 r s s' r' w' ∧ VR r' v v' ∧ s'.lim = s.lim ∧ s'.cx = s.cx

section
variable {E : Env} {ds : List Nat} {o : Oper}
def valOf (m : Sem Value) : Sem Next := do pure (.value (← m))
theorem Yields.val {w0 w : World} {r : Inj} {s s' : St} {v : Value} {m : Sem Value} (h : Yields E w0 r s s' v w m) {n : Sem Next} (hn : n = valOf m) :
    ∃ v' w' r', (n.run E.P w = .ok (.value v') w' ∨ (n.run E.P w = .ok .skip w' ∧ v' = undef)) ∧ Goes w0 r s s' r' w' ∧ VR r' v v' ∧ s'.lim = s.lim ∧ s'.cx = s.cx := by
  obtain ⟨v', w', r', h1, h2, h3, h4, h5⟩ := h
  exact ⟨v', w', r', .inl (by rw [hn]; simp [valOf, h1]), h2, h3, h4, h5⟩
theorem optRec_some {α : Type} {x : Option α} {f : α → St → R Value} {s s' : St} {v : Value} (h : Option.rec (motive := fun _ => R Value) .none (fun a => f a s) x = .some v s') : ∃ a, x = some a ∧ f a s = .some v s' := by
  cases x with
  | none => cases h
  | some a => exact ⟨a, rfl, h⟩
theorem np_rec {α : Type} {g : Option α} {f : α → M Value} (h : ∀ a, NoPan (f a)) : NoPan (fun s => Option.rec (motive := fun _ => R Value) .none (fun a => f a s) g) := ⟨fun s c s' e => by
  cases g with
  | none => cases e
  | some a => exact (h a).no _ _ _ e⟩

theorem with0_ok {x : Operand} (hx : o.op.operands.toList = [x]) (ho : ∀ a : Act, execOp a.eval o = pure (.value (a.eval x))) : OpV E o (with0 ds x) ds := by
  obtain ⟨g, h1, h2⟩ := compO_ok ds x
  refine ⟨_, by unfold with0; rw [h1], fun _ _ rho tm => np_rec (f := fun a s => .some a s) (g := g rho tm) fun a => np_pure a, ?_⟩
  intro call round w0 w r U rho tm a s v s' hs hu hr h hf
  obtain ⟨y, e1, e2⟩ := optRec_some (f := fun a s => .some a s) h
  cases e2
  exact ⟨_, w, r, .inl (by rw [ho]; rfl), .of_rel rfl hr, h2 _ _ _ _ _ _ hs (fun t q => hu t (by first | (rw [hx]; simp at q ⊢; simp [q]) | exact hx _ q)) e1, rfl, rfl⟩
theorem with1_ok {x : Operand} {k : Value → M Value} {m : Value → Sem Value} (hx : o.op.operands.toList = [x]) (ho : ∀ a : Act, execOp a.eval o = valOf (m (a.eval x))) (np : ∀ y, NoPan (k y))
    (hk : ∀ {w0 w : World} {r : Inj} {y y' : Value} {s v s'}, k y s = .some v s' → Rel w0 r s.mem w → Fresh r s.next s'.next → VR r y y' → Yields E w0 r s s' v w (m y')) : OpV E o (with1 ds x k) ds := by
  obtain ⟨g, h1, h2⟩ := compO_ok ds x
  refine ⟨_, by unfold with1; rw [h1], fun _ _ rho tm => np_rec (g := g rho tm) np, ?_⟩
  intro call round w0 w r U rho tm a s v s' hs hu hr h hf
  obtain ⟨y, e1, e2⟩ := optRec_some h
  exact (hk e2 hr hf (h2 _ _ _ _ _ _ hs (fun t q => hu t (by first | (rw [hx]; simp at q ⊢; simp [q]) | exact hx _ q)) e1)).val (ho a)
theorem with2_ok {x y : Operand} {k : Value → Value → M Value} {m : Value → Value → Sem Value} (hx : o.op.operands.toList = [x, y]) (ho : ∀ a : Act, execOp a.eval o = valOf (m (a.eval x) (a.eval y))) (np : ∀ y z, NoPan (k y z))
    (hk : ∀ {w0 w : World} {r : Inj} {y y' z z' : Value} {s v s'}, k y z s = .some v s' → Rel w0 r s.mem w → Fresh r s.next s'.next → VR r y y' → VR r z z' → Yields E w0 r s s' v w (m y' z')) : OpV E o (with2 ds x y k) ds := by
  obtain ⟨g, h1, h2⟩ := compO_ok ds x
  obtain ⟨g', h3, h4⟩ := compO_ok ds y
  refine ⟨_, by unfold with2; rw [h1, h3], fun _ _ rho tm => np_rec (g := g rho tm) (f := fun a s => Option.rec (motive := fun _ => R Value) .none (fun b => k a b s) (g' rho tm)) fun a => np_rec (np a), ?_⟩
  intro call round w0 w r U rho tm a s v s' hs hu hr h hf
  obtain ⟨y, e1, e2⟩ := optRec_some (f := fun a s => Option.rec (motive := fun _ => R Value) .none (fun b => k a b s) (g' rho tm)) h
  obtain ⟨z, e3, e4⟩ := optRec_some e2
  exact (hk e4 hr hf (h2 _ _ _ _ _ _ hs (fun t q => hu t (by first | (rw [hx]; simp at q ⊢; simp [q]) | exact hx _ q)) e1) (h4 _ _ _ _ _ _ hs (fun t q => hu t (by rw [hx]; simp at q ⊢; simp [q])) e3)).val (ho a)
theorem withP_ok {l : List (Nat × Operand)} {k : List (Nat × Value) → M Value} {m : List (Nat × Value) → Sem Value} (hx : o.op.operands.toList = l.map (·.2)) (ho : ∀ a : Act, execOp a.eval o = valOf (m (l.map fun p => (p.1, a.eval p.2)))) (np : ∀ y, NoPan (k y))
    (hk : ∀ {w0 w : World} {r : Inj} {y y' : List (Nat × Value)} {s v s'}, k y s = .some v s' → Rel w0 r s.mem w → Fresh r s.next s'.next → PRs r y y' → Yields E w0 r s s' v w (m y')) : OpV E o (withP ds l k) ds := by
  obtain ⟨g, h1, h2⟩ := compP_ok ds l
  refine ⟨_, by unfold withP; rw [h1], fun _ _ rho tm => np_rec (g := g rho tm) np, ?_⟩
  intro call round w0 w r U rho tm a s v s' hs hu hr h hf
  obtain ⟨y, e1, e2⟩ := optRec_some h
  exact (hk e2 hr hf (h2 _ _ _ _ _ _ hs (fun t q => hu t (by first | (rw [hx]; simp at q ⊢; simp [q]) | exact hx _ q)) e1)).val (ho a)
theorem withL_ok {l : List Operand} {k : List Value → M Value} {m : List Value → Sem Value} (hx : ∀ x ∈ l, x ∈ o.op.operands.toList) (ho : ∀ a : Act, execOp a.eval o = valOf (m (l.map a.eval))) (np : ∀ y, NoPan (k y))
    (hk : ∀ {w0 w : World} {r : Inj} {y y' : List Value} {s v s'}, k y s = .some v s' → Rel w0 r s.mem w → Fresh r s.next s'.next → VRs r y y' → Yields E w0 r s s' v w (m y')) : OpV E o (withL ds l k) ds := by
  obtain ⟨g, h1, h2⟩ := compL_ok ds l
  refine ⟨_, by unfold withL; rw [h1], fun _ _ rho tm => np_rec (g := g rho tm) np, ?_⟩
  intro call round w0 w r U rho tm a s v s' hs hu hr h hf
  obtain ⟨y, e1, e2⟩ := optRec_some h
  exact (hk e2 hr hf (h2 _ _ _ _ _ _ hs (fun t q => hu t (by first | (rw [hx]; simp at q ⊢; simp [q]) | exact hx _ q)) e1)).val (ho a)
end
end Go.Proofs.YtkgncjlgmnbfoaaGreatDoor.Am
namespace Go.Proofs.YtkgncjlgmnbfoaaGreatDoor.Am
open Go.RowKit

section
variable {E : Env} {ds : List Nat} {o : Oper}
theorem op_move {x : Operand} (ho : o.op = .move x) : OpV E o (with0 ds x) ds := with0_ok (by simp [ho, Op.operands]) fun a => by simp only [execOp, ho]
theorem op_assign {x : Operand} (ho : o.op = .assign x) : OpV E o (with0 ds x) ds := with0_ok (by simp [ho, Op.operands]) fun a => by simp only [execOp, ho]
theorem op_alloc {e : Nat} (ho : o.op = .alloc e) (he : EnvTy E) : OpV E o (.mk fun _ _ _ _ => kAlloc E e) ds := by
  refine ⟨_, rfl, fun _ _ _ _ => np_kAlloc _ _, ?_⟩
  intro call round w0 w r U rho tm a s v s' hs hu hr h hf
  exact (kAlloc_ok he h hr hf).val (by simp only [execOp, ho]; rfl)
theorem op_box {e : Nat} {x : Operand} (ho : o.op = .box e x) : OpV E o (with1 ds x kBox) ds :=
  with1_ok (m := Instr.box e) (by simp [ho, Op.operands]) (fun a => by simp only [execOp, ho]; rfl) np_kBox fun h hr hf hx => kBox_ok h hr hf hx
theorem op_build {t : Nat} {ps : Array (Nat × Operand)} (ho : o.op = .build t ps) (he : EnvTy E) : OpV E o (withP ds ps.toList (aBuild E t)) ds :=
  withP_ok (m := fun l => Instr.build t l.toArray) (by simp [ho, Op.operands]) (fun a => by simp only [execOp, ho]; rw [← List.map_toArray]; rfl) (np_aBuild _ _) fun h hr hf hx => aBuild_ok he h hr (by simpa using hx)
theorem op_buildSlice {t n : Nat} {ps : Array (Nat × Operand)} (ho : o.op = .buildSlice t n ps) (he : EnvTy E) : OpV E o (withP ds ps.toList (aBuildS E t n)) ds :=
  withP_ok (m := fun l => Instr.buildSlice t n l.toArray) (by simp [ho, Op.operands]) (fun a => by simp only [execOp, ho]; rw [← List.map_toArray]; rfl) (np_aBuildS _ _ _) fun h hr hf hx => aBuildS_ok he h hr hf (by simpa using hx)
theorem op_load {t : Nat} {x : Operand} (ho : o.op = .load t x) (he : EnvTy E) : OpV E o (with1 ds x (kLoad E t)) ds :=
  with1_ok (m := Instr.loadAt t) (by simp [ho, Op.operands]) (fun a => by simp only [execOp, ho]; rfl) (np_kLoad _ _) fun h hr hf hx => kLoad_ok he h hr hx
theorem op_store {t : Nat} {x y : Operand} (ho : o.op = .store t x y) (he : EnvTy E) : OpV E o (with2 ds x y (kStore E t)) ds := by
  obtain ⟨g, h1, h2⟩ := compO_ok ds x
  obtain ⟨g', h3, h4⟩ := compO_ok ds y
  refine ⟨_, by unfold with2; rw [h1, h3], fun _ _ rho tm => np_rec (g := g rho tm) (f := fun a s => Option.rec (motive := fun _ => R Value) .none (fun b => kStore E t a b s) (g' rho tm)) fun a => np_rec (np_kStore _ _ a), ?_⟩
  intro call round w0 w r U rho tm a s v s' hs hu hr h hf
  obtain ⟨y, e1, e2⟩ := optRec_some (f := fun a s => Option.rec (motive := fun _ => R Value) .none (fun b => kStore E t a b s) (g' rho tm)) h
  obtain ⟨z, e3, e4⟩ := optRec_some e2
  obtain ⟨rfl, w', k1, k2, k3, k4, k5⟩ := kStore_ok he e4 hr (h2 _ _ _ _ _ _ hs (fun t q => hu t (by simp [ho, Op.operands] at q ⊢; simp [q])) e1) (h4 _ _ _ _ _ _ hs (fun t q => hu t (by simp [ho, Op.operands] at q ⊢; simp [q])) e3)
  refine ⟨undef, w', r, .inr ⟨?_, rfl⟩, .of_rel k3 k2, .tuple rfl (fun i v v' e => by simp at e), k4, k5⟩
  simp [execOp, ho, k1]
theorem op_nil {x : Operand} (ho : o.op = .nilCheck x) : OpV E o (with1 ds x kNil) ds := by
  obtain ⟨g, h1, h2⟩ := compO_ok ds x
  refine ⟨_, by unfold with1; rw [h1], fun _ _ rho tm => np_rec (g := g rho tm) np_kNil, ?_⟩
  intro call round w0 w r U rho tm a s v s' hs hu hr h hf
  obtain ⟨y, e1, e2⟩ := optRec_some h
  have hx := h2 _ _ _ _ _ _ hs (fun t q => hu t (by simp [ho, Op.operands] at q ⊢; simp [q])) e1
  obtain ⟨rfl, rfl, e3⟩ := kNil_ok (P := E.P) (w := w) (a := a) ho rfl e2 hx
  exact ⟨_, w, r, .inl e3, .of_rel rfl hr, hx, rfl, rfl⟩
theorem op_bin {op : BinOp} {t yt : Nat} {x y : Operand} (ho : o.op = .binOp op t x y yt) (he : EnvTy E) : OpV E o (Cl.rec (motive := fun _ => Cl OpT) (fun f => with2 ds x y f) (aBin E op t x y)) ds := by
  generalize hc : aBin E op t x y = c
  obtain ⟨f⟩ := c
  refine with2_ok (m := fun y' z' => do eqGuard op t x y y' z'; binOp op t y' z') (by simp [ho, Op.operands]) (fun a => by simp only [execOp, ho]; rfl) (fun y' z' => ?_) fun h hr hf hx hy => aBin_ok hc he h hr hx hy
  have slow : ∀ op, NoPan (binSlow E op t x y y' z') := fun op => np_binSlow _ _ _ _ _ _ _
  have fast3 : ∀ (k : FastT) op, NoPan (int3 k (binSlow E op t x y) y' z') := fun k op => ⟨fun s c s' e => by
    unfold int3 caseI at e
    cases y' <;> simp only at e
    case int k1 a =>
      cases z' <;> simp only at e
      case int k2 b =>
        cases a with
        | negSucc m => exact (slow op).no _ _ _ e
        | ofNat m =>
          cases b with
          | negSucc m => exact (slow op).no _ _ _ e
          | ofNat n =>
            simp only at e
            cases e1 : k k1 k2 m n with
            | none => rw [e1] at e; exact (slow op).no _ _ _ e
            | some u => rw [e1] at e; cases e
      all_goals exact (slow op).no _ _ _ e
    all_goals exact (slow op).no _ _ _ e⟩
  have fast2 : ∀ (k : Int → Int → St → R Value) (k3 : FastT) op, (∀ a b, NoPan (k a b)) → NoPan (int2 k (int3 k3 (binSlow E op t x y)) y' z') := fun k k3 op hk => ⟨fun s c s' e => by
    have f3 := fast3 k3 op
    unfold int2 caseI at e
    cases y' <;> simp only at e
    case int k1 a =>
      cases z' <;> simp only at e
      case int k2 b =>
        cases e1 : isI64 k1 with
        | false => rw [e1] at e; exact f3.no _ _ _ e
        | true =>
          cases e2 : isI64 k2 with
          | false => rw [e1, e2] at e; exact f3.no _ _ _ e
          | true => rw [e1, e2] at e; exact (hk a b).no _ _ _ e
      all_goals exact f3.no _ _ _ e
    all_goals exact f3.no _ _ _ e⟩
  have rI' : ∀ n, NoPan (rI n) := fun n => ⟨fun s c s' e => by unfold rI at e; rw [fI_eq] at e; cases e⟩
  have rB' : ∀ b, NoPan (rB b) := fun b => ⟨fun s c s' e => by cases b <;> cases e⟩
  cases op <;> cases hc <;> first | exact slow _ | exact fast3 _ _ | exact fast2 _ _ _ fun a b => rI' _ | exact fast2 _ _ _ fun a b => rB' _
theorem op_un {op : UnOp} {t : Nat} {x : Operand} (ho : o.op = .unOp op t x) : OpV E o (with1 ds x (kUn E.P op)) ds :=
  with1_ok (m := Op.unary op) (by simp [ho, Op.operands]) (fun a => by simp only [execOp, ho]; rfl) (np_kUn _ _) fun h hr hf hx => kUn_ok h hr hx
theorem op_conv {s d : Nat} {x : Operand} (ho : o.op = .convert s d x) (he : EnvTy E) : OpV E o (with1 ds x (kConvB E s d)) ds :=
  with1_ok (m := convert s d) (by simp [ho, Op.operands]) (fun a => by simp only [execOp, ho]; rfl) (np_kConvB _ _ _) fun h hr hf hx => kConvB_ok he h hr hf hx
theorem op_slArr {t : Nat} {x : Operand} (ho : o.op = .sliceToArrayPointer t x) (he : EnvTy E) : OpV E o (with1 ds x (kSlArr E t)) ds :=
  with1_ok (m := Instr.arrayAt t) (by simp [ho, Op.operands]) (fun a => by simp only [execOp, ho]; rfl) (np_kSlArr _ _) fun h hr hf hx => kSlArr_ok he h hr hx
theorem op_iface {t : Nat} {x : Operand} (ho : o.op = .makeInterface t x) (he : EnvTy E) : OpV E o (with1 ds x (kIface E t)) ds :=
  with1_ok (m := Instr.makeInterface t) (by simp [ho, Op.operands]) (fun a => by simp only [execOp, ho]; rfl) (np_kIface _ _) fun h hr hf hx => kIface_ok he h hr hx
theorem op_makeSlice {t : Nat} {x y : Operand} (ho : o.op = .makeSlice t x y) (he : EnvTy E) : OpV E o (with2 ds x y (kMkSl E t)) ds :=
  with2_ok (m := Instr.makeSlice t) (by simp [ho, Op.operands]) (fun a => by simp only [execOp, ho]; rfl) (np_kMkSl _ _) fun h hr hf hx hy => kMkSl_ok he h hr hf hx hy
theorem op_fieldAddr {t f : Nat} {x : Operand} (ho : o.op = .fieldAddr t x f) (he : EnvTy E) : OpV E o (with1 ds x fun a => kFld E t a f) ds :=
  with1_ok (m := fun x => Instr.fieldAt t x f) (by simp [ho, Op.operands]) (fun a => by simp only [execOp, ho]; rfl) (fun y => np_kFld _ _ y _) fun h hr hf hx => kFld_ok he h hr hx
theorem op_field {t f : Nat} {x : Operand} (ho : o.op = .field t x f) (he : EnvTy E) : OpV E o (with1 ds x fun a => kField E t a f) ds :=
  with1_ok (m := fun x => Instr.field t x f) (by simp [ho, Op.operands]) (fun a => by simp only [execOp, ho]; rfl) (fun y => np_kField _ _ y _) fun h hr hf hx => kField_ok he h hr hx
theorem op_indexAddr {t : Nat} {x y : Operand} (ho : o.op = .indexAddr t x y) (he : EnvTy E) : OpV E o (with2 ds x y (kIdxA E t)) ds :=
  with2_ok (m := Instr.indexAt t) (by simp [ho, Op.operands]) (fun a => by simp only [execOp, ho]; rfl) (np_kIdxA _ _) fun h hr hf hx hy => kIdxA_ok he h hr hx hy
theorem op_index {t : Nat} {x y : Operand} (ho : o.op = .index t x y) (he : EnvTy E) : OpV E o (with2 ds x y (kIdx E t)) ds :=
  with2_ok (m := Instr.index t) (by simp [ho, Op.operands]) (fun a => by simp only [execOp, ho]; rfl) (np_kIdx _ _) fun h hr hf hx hy => kIdx_ok he h hr hx hy
theorem op_extract {k : Nat} {x : Operand} (ho : o.op = .extract x k) : OpV E o (with1 ds x (kExt k)) ds :=
  with1_ok (m := fun x => Instr.extract x k) (by simp [ho, Op.operands]) (fun a => by simp only [execOp, ho]; rfl) (np_kExt _) fun h hr hf hx => kExt_ok h hr hx
theorem op_assert {xt t : Nat} {c : Bool} {x : Operand} (ho : o.op = .typeAssert x xt t c) (he : EnvTy E) : OpV E o (with1 ds x (kAssert E t c)) ds :=
  with1_ok (m := fun x => Instr.typeAssert x xt t c) (by simp [ho, Op.operands]) (fun a => by simp only [execOp, ho]; rfl) (np_kAssert _ _ _) fun h hr hf hx => kAssert_ok he h hr hx
end
end Go.Proofs.YtkgncjlgmnbfoaaGreatDoor.Am
namespace Go.Proofs.YtkgncjlgmnbfoaaGreatDoor.Am
open Go.RowKit

section
variable {E : Env} {ds : List Nat} {o : Oper}
theorem op_pick {x y z : Operand} (ho : o.op = .pick x y z) : OpV E o (with3 ds x y z kPick) ds := by
  obtain ⟨g, h1, h2⟩ := compO_ok ds x
  obtain ⟨g', h3, h4⟩ := compO_ok ds y
  obtain ⟨g2, h5, h6⟩ := compO_ok ds z
  refine ⟨_, by unfold with3; rw [h1, h3, h5], fun _ _ rho tm => np_on _ fun a => np_on _ fun b => np_on _ fun c => np_kPick _ _ _, ?_⟩
  intro call round w0 w r U rho tm a s v s' hs hu hr h hf
  obtain ⟨x', e1, h⟩ := on_some h
  obtain ⟨y', e2, h⟩ := on_some h
  obtain ⟨z', e3, h⟩ := on_some h
  obtain ⟨rfl, t, k1, k2⟩ := kPick_ok h (h2 _ _ _ _ _ _ hs (fun t q => hu t (by simp [ho, Op.operands] at q ⊢; simp [q])) e1) (h4 _ _ _ _ _ _ hs (fun t q => hu t (by simp [ho, Op.operands] at q ⊢; simp [q])) e2) (h6 _ _ _ _ _ _ hs (fun t q => hu t (by simp [ho, Op.operands] at q ⊢; simp [q])) e3)
  refine ⟨_, w, r, .inl ?_, .of_rel rfl hr, k2, rfl, rfl⟩
  simp only [execOp, ho, k1]
  cases t <;> simp [asBool]
theorem op_slice {t : Nat} {x : Operand} {lo hi mx : Option Operand} (ho : o.op = .slice t x lo hi mx) (he : EnvTy E) : OpV E o (compSl E ds t x lo hi mx) ds := by
  cases mx with
  | some m =>
    exact ⟨_, rfl, fun _ _ _ _ => np_fail, fun call round w0 w r U rho tm a s v s' hs hu hr h hf => by cases h⟩
  | none =>
    obtain ⟨g, h1, h2⟩ := compO_ok ds x
    obtain ⟨g', h3, h4⟩ := compM_ok ds lo
    obtain ⟨g2, h5, h6⟩ := compM_ok ds hi
    refine ⟨fun _ _ rho tm => M.on (g rho tm) fun a => M.on (g' rho tm) fun b => M.on (g2 rho tm) fun c => aSlice E t a b c, by unfold compSl withS; simp only [h1, h3, h5], fun _ _ rho tm => np_on _ fun a => np_on _ fun b => np_on _ fun c => np_aSlice _ _ _ _ _, ?_⟩
    intro call round w0 w r U rho tm a s v s' hs hu hr h hf
    obtain ⟨x', e1, h⟩ := on_some h
    obtain ⟨y', e2, h⟩ := on_some h
    obtain ⟨z', e3, h⟩ := on_some h
    exact (aSlice_ok he h hr (h2 _ _ _ _ _ _ hs (fun t q => hu t (by simp [ho, Op.operands] at q ⊢; simp [q])) e1) (h4 _ _ _ _ _ _ hs (fun t q => hu t (by simp [ho, Op.operands] at q ⊢; simp [q])) e2) (h6 _ _ _ _ _ _ hs (fun t q => hu t (by simp [ho, Op.operands] at q ⊢; simp [q])) e3)).val (by simp only [execOp, ho]; rfl)
theorem op_mkMap {t : Nat} (ho : o.op = .makeMap t none) : OpV E o (.mk fun _ _ _ _ => kMkMap) ds := by
  refine ⟨_, rfl, fun _ _ _ _ => np_kMkMap, ?_⟩
  intro call round w0 w r U rho tm a s v s' hs hu hr h hf
  exact (kMkMap_ok h hr hf).val (by simp only [execOp, ho]; rfl)
theorem op_mkMapR {t : Nat} {x : Operand} (ho : o.op = .makeMap t (some x)) (he : EnvTy E) : OpV E o (with1 ds x (kMkMapR E t)) ds :=
  with1_ok (m := fun x => Instr.makeMap t (some x)) (by simp [ho, Op.operands]) (fun a => by simp only [execOp, ho]; rfl) (np_kMkMapR _ _) fun h hr hf hx => kMkMapR_ok he h hr hf hx
theorem op_lookup {t : Nat} {c : Bool} {x y : Operand} (ho : o.op = .lookup t x y c) (he : EnvTy E) : OpV E o (with2 ds x y (kLook E t c)) ds :=
  with2_ok (m := fun x y => Instr.lookup t x y c) (by simp [ho, Op.operands]) (fun a => by simp only [execOp, ho]; rfl) (np_kLook _ _ _) fun h hr hf hx hy => kLook_ok he h hr hx hy
theorem op_mapEnt {t : Nat} {x y : Operand} (ho : o.op = .mapEntry t x y) (he : EnvTy E) : OpV E o (with2 ds x y (kMapEnt E t)) ds :=
  with2_ok (m := Instr.mapEntry t) (by simp [ho, Op.operands]) (fun a => by simp only [execOp, ho]; rfl) (np_kMapEnt _ _) fun h hr hf hx hy => kMapEnt_ok he h hr hx hy
/-- Three operands, and nothing to give. -/
theorem with3_ok {x y z : Operand} {k : Value → Value → Value → M Value} {m : Value → Value → Value → Sem Unit} (hx : o.op.operands.toList = [x, y, z]) (ho : ∀ a : Act, execOp a.eval o = (do m (a.eval x) (a.eval y) (a.eval z); pure .skip)) (np : ∀ x y z, NoPan (k x y z))
    (hk : ∀ {w0 w : World} {r : Inj} {x x' y y' z z' : Value} {s v s'}, k x y z s = .some v s' → Rel w0 r s.mem w → VR r x x' → VR r y y' → VR r z z' → v = undef ∧ ∃ w', (m x' y' z').run E.P w = .ok () w' ∧ Goes w0 r s s' r w' ∧ s'.lim = s.lim ∧ s'.cx = s.cx) : OpV E o (with3 ds x y z k) ds := by
  obtain ⟨g, h1, h2⟩ := compO_ok ds x
  obtain ⟨g', h3, h4⟩ := compO_ok ds y
  obtain ⟨g2, h5, h6⟩ := compO_ok ds z
  refine ⟨_, by unfold with3; rw [h1, h3, h5], fun _ _ rho tm => np_on _ fun a => np_on _ fun b => np_on _ fun c => np _ _ _, ?_⟩
  intro call round w0 w r U rho tm a s v s' hs hu hr h hf
  obtain ⟨x', e1, h⟩ := on_some h
  obtain ⟨y', e2, h⟩ := on_some h
  obtain ⟨z', e3, h⟩ := on_some h
  obtain ⟨rfl, w', k1, k2, k3, k4⟩ := hk h hr (h2 _ _ _ _ _ _ hs (fun t q => hu t (by rw [hx]; simp at q ⊢; simp [q])) e1) (h4 _ _ _ _ _ _ hs (fun t q => hu t (by rw [hx]; simp at q ⊢; simp [q])) e2) (h6 _ _ _ _ _ _ hs (fun t q => hu t (by rw [hx]; simp at q ⊢; simp [q])) e3)
  refine ⟨undef, w', r, .inr ⟨?_, rfl⟩, k2, .undef, k3, k4⟩
  rw [ho]
  simp [k1]
theorem op_mapUp {t : Nat} {x y z : Operand} (ho : o.op = .mapUpdate t x y z) (he : EnvTy E) : OpV E o (with3 ds x y z (kMapUp E t)) ds :=
  with3_ok (m := Instr.mapUpdate t) (by simp [ho, Op.operands]) (fun a => by simp only [execOp, ho]) (np_kMapUp _ _) fun h hr hx hy hz => kMapUp_ok he h hr hx hy hz
theorem op_insert {t : Nat} {x y z : Operand} (ho : o.op = .insert t x y z) (he : EnvTy E) : OpV E o (with3 ds x y z (kMapUp E t)) ds :=
  with3_ok (m := Instr.mapUpdate t) (by simp [ho, Op.operands]) (fun a => by simp only [execOp, ho]) (np_kMapUp _ _) fun h hr hx hy hz => kMapUp_ok he h hr hx hy hz
theorem op_entSt {t : Nat} {x y z : Operand} (ho : o.op = .entryStore t x y z) : OpV E o (with3 ds x y z kEntSt) ds :=
  with3_ok (m := Instr.entryStore t) (by simp [ho, Op.operands]) (fun a => by simp only [execOp, ho]) np_kEntSt fun h hr hx hy hz => kEntSt_ok h hr hx hy hz
theorem op_range {t : Nat} {x : Operand} (ho : o.op = .range t x) (he : EnvTy E) : OpV E o (with1 ds x (kRange E t)) ds :=
  with1_ok (m := Instr.range t) (by simp [ho, Op.operands]) (fun a => by simp only [execOp, ho]; rfl) (np_kRange _ _) fun h hr hf hx => kRange_ok he h hr hf hx
theorem op_next {x : Operand} (ho : o.op = .next x true) : OpV E o (with1 ds x kNext) ds :=
  with1_ok (m := fun x => Instr.next x true o.type) (by simp [ho, Op.operands]) (fun a => by simp only [execOp, ho]; rfl) np_kNext fun h hr hf hx => kNext_ok h hr hx
theorem arrMap {α β : Type} (f : α → β) (a : Array α) : a.map f = (a.toList.map f).toArray := by rw [← List.map_toArray]
theorem VRs.func {r : Inj} {f : Nat} {a a' c c' : List Value} (h : VRs r a a') (k : VRs r c c') : VR r (.func (.func f) a.toArray c.toArray) (.func (.func f) a'.toArray c'.toArray) :=
  .func rfl (by simpa using h.1) (fun i v v' e e' => h.2 i v v' (by simpa using e) (by simpa using e')) (by simpa using k.1) (fun i v v' e e' => k.2 i v v' (by simpa using e) (by simpa using e'))
theorem op_makeFunc {f : Nat} {first cap : Array Operand} (ho : o.op = .makeFunc (.func f) first cap) : OpV E o (withLL ds first.toList cap.toList fun x c => M.pure (.func (.func f) x.toArray c.toArray)) ds := by
  obtain ⟨g, h1, h2⟩ := compL_ok ds first.toList
  obtain ⟨g', h3, h4⟩ := compL_ok ds cap.toList
  refine ⟨_, by unfold withLL; rw [h1, h3], fun _ _ rho tm => np_rec (g := g rho tm) (f := fun (a : List Value) s => Option.rec (motive := fun _ => R Value) .none (fun (b : List Value) => M.pure (Value.func (.func f) a.toArray b.toArray) s) (g' rho tm)) fun a => np_rec (f := fun (b : List Value) => M.pure (Value.func (.func f) a.toArray b.toArray)) fun b => np_pure _, ?_⟩
  intro call round w0 w r U rho tm a s v s' hs hu hr h hf
  obtain ⟨x', e1, h⟩ := optRec_some (f := fun (a : List Value) s => Option.rec (motive := fun _ => R Value) .none (fun (b : List Value) => M.pure (Value.func (.func f) a.toArray b.toArray) s) (g' rho tm)) h
  obtain ⟨y', e2, h⟩ := optRec_some (f := fun (b : List Value) => M.pure (Value.func (.func f) x'.toArray b.toArray)) h
  obtain ⟨rfl, rfl⟩ := pure_some h
  refine ⟨_, w, r, .inl ?_, .of_rel rfl hr, (h2 _ _ _ _ _ _ hs (fun t q => hu t (by simp [ho, Op.operands] at q ⊢; simp [q])) e1).func (h4 _ _ _ _ _ _ hs (fun t q => hu t (by simp [ho, Op.operands] at q ⊢; simp [q])) e2), rfl, rfl⟩
  simp [execOp, ho, Instr.makeFunc]
  exact ⟨arrMap _ _, arrMap _ _⟩
theorem op_builtin {b : Builtin} {c : Call} (ho : o.op = .call c) (hb : c.callee = .builtin b) (hn : b ≠ .recover) (he : EnvTy E) : OpV E o (withL ds c.args.toList (aBuiltin E b c.argTypes.toList)) ds := by
  obtain ⟨g, h1, h2⟩ := compL_ok ds c.args.toList
  refine ⟨_, by unfold withL; rw [h1], fun _ _ rho tm => np_rec (g := g rho tm) (np_aBuiltin _ _ _), ?_⟩
  intro call round w0 w r U rho tm a s v s' hs hu hr h hf
  obtain ⟨l, e1, h⟩ := optRec_some h
  have hl : VRs r l (c.args.toList.map a.eval) := h2 _ _ _ _ _ _ hs (fun t q => hu t (by simp [ho, Op.operands, Call.operands] at q ⊢; simp [q])) e1
  have key : ∀ {m : Sem Value}, Yields E w0 r s s' v w m → (∀ (cs : Array Bool) w, (builtin b c.argTypes o.type cs (c.args.map a.eval)).run E.P w = (valOf m).run E.P w) →
      ∃ v' w' r', ((execOp a.eval o).run E.P w = .ok (.value v') w' ∨ ((execOp a.eval o).run E.P w = .ok .skip w' ∧ v' = undef)) ∧ Goes w0 r s s' r' w' ∧ VR r' v v' ∧ s'.lim = s.lim ∧ s'.cx = s.cx := by
    intro m hy hm
    obtain ⟨v', w', r', k1, k2, k3, k4, k5⟩ := hy
    refine ⟨v', w', r', .inl ?_, k2, k3, k4, k5⟩
    simp only [execOp, ho, resolve, hb, invoke, Sem.run_bind, Sem.run_pure, Result.andThen_ok, hm, valOf, k1]
  generalize hts : c.argTypes.toList = ts at h
  have hmap : c.args.map a.eval = (c.args.toList.map a.eval).toArray := by rw [← List.map_toArray]
  have ht0 : ∀ {t : Nat} {l : List Nat}, c.argTypes.toList = t :: l → c.argTypes[0]? = some t := by
    intro t l e; rw [← Array.getElem?_toList, e]; rfl
  have ht1 : ∀ {t t2 : Nat} {l : List Nat}, c.argTypes.toList = t :: t2 :: l → c.argTypes[1]? = some t2 := by
    intro t t2 l e; rw [← Array.getElem?_toList, e]; rfl
  unfold aBuiltin at h
  split at h
  · rename_i t ts' x
    obtain ⟨x', l', q1, q2, q3⟩ := hl.inv
    have := q3.inv_nil
    subst this
    refine key (aLen_ok (ty := o.type) (ht0 hts) he h hr q2) fun cs w => ?_
    rw [hmap, q1]; simp [builtin, valOf]
  · rename_i t ts' x
    obtain ⟨x', l', q1, q2, q3⟩ := hl.inv
    have := q3.inv_nil
    subst this
    refine key (aCap_ok (ty := o.type) (ht0 hts) he h hr q2) fun cs w => ?_
    rw [hmap, q1]; simp [builtin, valOf]
  · obtain ⟨y', l1, q1, q2, q3⟩ := hl.inv
    obtain ⟨x', l', q4, q5, q6⟩ := q3.inv
    have := q6.inv_nil
    subst this
    subst q4
    refine key (aAppend_ok (ty := o.type) (ht0 hts) (ht1 hts) he h hr hf q2 q5) fun cs w => ?_
    rw [hmap, q1]; simp [builtin, valOf]
  · obtain ⟨y', l1, q1, q2, q3⟩ := hl.inv
    obtain ⟨x', l', q4, q5, q6⟩ := q3.inv
    have := q6.inv_nil
    subst this
    subst q4
    refine key (aCopy_ok (ty := o.type) (ht0 hts) he h hr q2 q5) fun cs w => ?_
    rw [hmap, q1]; simp [builtin, valOf]
  · obtain ⟨y', l1, q1, q2, q3⟩ := hl.inv
    obtain ⟨x', l', q4, q5, q6⟩ := q3.inv
    have := q6.inv_nil
    subst this
    subst q4
    refine key (kDel_ok (ty := o.type) (ht0 hts) he h hr q2 q5) fun cs w => ?_
    rw [hmap, q1]; simp [builtin, valOf]
  · obtain ⟨x', l', q1, q2, q3⟩ := hl.inv
    have := q3.inv_nil
    subst this
    refine key (kClear_ok (ty := o.type) (ht0 hts) he h hr q2) fun cs w => ?_
    rw [hmap, q1]; simp [builtin, valOf]
  · refine key (min_ok (ts := c.argTypes) (ty := o.type) h hr hl) fun cs w => ?_
    rw [hmap]; simp [builtin, valOf]
  · refine key (max_ok (ts := c.argTypes) (ty := o.type) h hr hl) fun cs w => ?_
    rw [hmap]; simp [builtin, valOf]
  · cases h
end
end Go.Proofs.YtkgncjlgmnbfoaaGreatDoor.Am
