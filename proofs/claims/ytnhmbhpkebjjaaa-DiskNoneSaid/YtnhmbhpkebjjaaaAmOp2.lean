/- The operations that give a value at once, each by its name. -/
import Derived.Test.YtnhmbhpkebjjaaaAmOp
namespace Go.Proofs.Ytnhmbhpkebjjaaa.Am
open Go.RowKit

section
variable {E : Env} {ds : List Nat} {o : Oper}
theorem op_move {x : Operand} (ho : o.op = .move x) : OpV E o (with0 ds x) ds := with0_ok (by simp [ho, Op.operands]) fun a => by simp only [execOp, ho]
theorem op_assign {x : Operand} (ho : o.op = .assign x) : OpV E o (with0 ds x) ds := with0_ok (by simp [ho, Op.operands]) fun a => by simp only [execOp, ho]
theorem op_alloc {e : Nat} (ho : o.op = .alloc e) (he : EnvTy E) : OpV E o (.mk fun _ _ _ _ => kAlloc E e) ds := by
  refine ⟨_, rfl, fun _ _ _ _ => np_kAlloc _ _, ?_⟩
  intro call round w0 w r U rho tm a s v s' hs hu hr h hf
  exact (kAlloc_ok he h hr hf).val (by simp only [execOp, ho]; rfl)
theorem op_box {e : Nat} {x : Operand} (ho : o.op = .box e x) : OpV E o (with1 ds x kBox) ds :=
  with1_ok (m := Instr.box e) (by simp [ho, Op.operands]) (fun a => by simp only [execOp, ho]; rfl) np_kBox fun h hr hf hx => kBox_ok h hr hf hx
theorem op_build {t : Nat} {ps : Array (Nat × Operand)} (ho : o.op = .build t ps) (he : EnvTy E) : OpV E o (withP ds ps.toList (aBuild E t)) ds :=
  withP_ok (m := fun l => Instr.build t l.toArray) (by simp [ho, Op.operands]) (fun a => by simp only [execOp, ho]; rw [← List.map_toArray]; rfl) (np_aBuild _ _) fun h hr hf hx => aBuild_ok he h hr (by simpa using hx)
theorem op_buildSlice {t n : Nat} {ps : Array (Nat × Operand)} (ho : o.op = .buildSlice t n ps) (he : EnvTy E) : OpV E o (withP ds ps.toList (aBuildS E t n)) ds :=
  withP_ok (m := fun l => Instr.buildSlice t n l.toArray) (by simp [ho, Op.operands]) (fun a => by simp only [execOp, ho]; rw [← List.map_toArray]; rfl) (np_aBuildS _ _ _) fun h hr hf hx => aBuildS_ok he h hr hf (by simpa using hx)
theorem op_load {t : Nat} {x : Operand} (ho : o.op = .load t x) (he : EnvTy E) : OpV E o (with1 ds x (kLoad E t)) ds :=
  with1_ok (m := Instr.loadAt t) (by simp [ho, Op.operands]) (fun a => by simp only [execOp, ho]; rfl) (np_kLoad _ _) fun h hr hf hx => kLoad_ok he h hr hx
theorem op_store {t : Nat} {x y : Operand} (ho : o.op = .store t x y) (he : EnvTy E) : OpV E o (with2 ds x y (kStore E t)) ds := by
  obtain ⟨g, h1, h2⟩ := compO_ok ds x
  obtain ⟨g', h3, h4⟩ := compO_ok ds y
  refine ⟨_, by unfold with2; rw [h1, h3], fun _ _ rho tm => np_rec (g := g rho tm) (f := fun a s => Option.rec (motive := fun _ => R Value) .none (fun b => kStore E t a b s) (g' rho tm)) fun a => np_rec (np_kStore _ _ a), ?_⟩
  intro call round w0 w r U rho tm a s v s' hs hu hr h hf
  obtain ⟨y, e1, e2⟩ := optRec_some (f := fun a s => Option.rec (motive := fun _ => R Value) .none (fun b => kStore E t a b s) (g' rho tm)) h
  obtain ⟨z, e3, e4⟩ := optRec_some e2
  obtain ⟨rfl, w', k1, k2, k3, k4, k5⟩ := kStore_ok he e4 hr (h2 _ _ _ _ _ _ hs (fun t q => hu t (by simp [ho, Op.operands] at q ⊢; simp [q])) e1) (h4 _ _ _ _ _ _ hs (fun t q => hu t (by simp [ho, Op.operands] at q ⊢; simp [q])) e3)
  refine ⟨undef, w', r, .inr ⟨?_, rfl⟩, .of_rel k3 k2, .tuple rfl (fun i v v' e => by simp at e), k4, k5⟩
  simp [execOp, ho, k1]
theorem op_nil {x : Operand} (ho : o.op = .nilCheck x) : OpV E o (with1 ds x kNil) ds := by
  obtain ⟨g, h1, h2⟩ := compO_ok ds x
  refine ⟨_, by unfold with1; rw [h1], fun _ _ rho tm => np_rec (g := g rho tm) np_kNil, ?_⟩
  intro call round w0 w r U rho tm a s v s' hs hu hr h hf
  obtain ⟨y, e1, e2⟩ := optRec_some h
  have hx := h2 _ _ _ _ _ _ hs (fun t q => hu t (by simp [ho, Op.operands] at q ⊢; simp [q])) e1
  obtain ⟨rfl, rfl, e3⟩ := kNil_ok (P := E.P) (w := w) (a := a) ho rfl e2 hx
  exact ⟨_, w, r, .inl e3, .of_rel rfl hr, hx, rfl, rfl⟩
theorem op_bin {op : BinOp} {t yt : Nat} {x y : Operand} (ho : o.op = .binOp op t x y yt) (he : EnvTy E) : OpV E o (Cl.rec (motive := fun _ => Cl OpT) (fun f => with2 ds x y f) (aBin E op t x y)) ds := by
  generalize hc : aBin E op t x y = c
  obtain ⟨f⟩ := c
  refine with2_ok (m := fun y' z' => do eqGuard op t x y y' z'; binOp op t y' z') (by simp [ho, Op.operands]) (fun a => by simp only [execOp, ho]; rfl) (fun y' z' => ?_) fun h hr hf hx hy => aBin_ok hc he h hr hx hy
  have slow : ∀ op, NoPan (binSlow E op t x y y' z') := fun op => np_binSlow _ _ _ _ _ _ _
  have fast3 : ∀ (k : FastT) op, NoPan (int3 k (binSlow E op t x y) y' z') := fun k op => ⟨fun s c s' e => by
    unfold int3 caseI at e
    cases y' <;> simp only at e
    case int k1 a =>
      cases z' <;> simp only at e
      case int k2 b =>
        cases a with
        | negSucc m => exact (slow op).no _ _ _ e
        | ofNat m =>
          cases b with
          | negSucc m => exact (slow op).no _ _ _ e
          | ofNat n =>
            simp only at e
            cases e1 : k k1 k2 m n with
            | none => rw [e1] at e; exact (slow op).no _ _ _ e
            | some u => rw [e1] at e; cases e
      all_goals exact (slow op).no _ _ _ e
    all_goals exact (slow op).no _ _ _ e⟩
  have fast2 : ∀ (k : Int → Int → St → R Value) (k3 : FastT) op, (∀ a b, NoPan (k a b)) → NoPan (int2 k (int3 k3 (binSlow E op t x y)) y' z') := fun k k3 op hk => ⟨fun s c s' e => by
    have f3 := fast3 k3 op
    unfold int2 caseI at e
    cases y' <;> simp only at e
    case int k1 a =>
      cases z' <;> simp only at e
      case int k2 b =>
        cases e1 : isI64 k1 with
        | false => rw [e1] at e; exact f3.no _ _ _ e
        | true =>
          cases e2 : isI64 k2 with
          | false => rw [e1, e2] at e; exact f3.no _ _ _ e
          | true => rw [e1, e2] at e; exact (hk a b).no _ _ _ e
      all_goals exact f3.no _ _ _ e
    all_goals exact f3.no _ _ _ e⟩
  have rI' : ∀ n, NoPan (rI n) := fun n => ⟨fun s c s' e => by unfold rI at e; rw [fI_eq] at e; cases e⟩
  have rB' : ∀ b, NoPan (rB b) := fun b => ⟨fun s c s' e => by cases b <;> cases e⟩
  cases op <;> cases hc <;> first | exact slow _ | exact fast3 _ _ | exact fast2 _ _ _ fun a b => rI' _ | exact fast2 _ _ _ fun a b => rB' _
theorem op_un {op : UnOp} {t : Nat} {x : Operand} (ho : o.op = .unOp op t x) : OpV E o (with1 ds x (kUn E.P op)) ds :=
  with1_ok (m := Op.unary op) (by simp [ho, Op.operands]) (fun a => by simp only [execOp, ho]; rfl) (np_kUn _ _) fun h hr hf hx => kUn_ok h hr hx
theorem op_conv {s d : Nat} {x : Operand} (ho : o.op = .convert s d x) (he : EnvTy E) : OpV E o (with1 ds x (kConvB E s d)) ds :=
  with1_ok (m := convert s d) (by simp [ho, Op.operands]) (fun a => by simp only [execOp, ho]; rfl) (np_kConvB _ _ _) fun h hr hf hx => kConvB_ok he h hr hf hx
theorem op_slArr {t : Nat} {x : Operand} (ho : o.op = .sliceToArrayPointer t x) (he : EnvTy E) : OpV E o (with1 ds x (kSlArr E t)) ds :=
  with1_ok (m := Instr.arrayAt t) (by simp [ho, Op.operands]) (fun a => by simp only [execOp, ho]; rfl) (np_kSlArr _ _) fun h hr hf hx => kSlArr_ok he h hr hx
theorem op_iface {t : Nat} {x : Operand} (ho : o.op = .makeInterface t x) (he : EnvTy E) : OpV E o (with1 ds x (kIface E t)) ds :=
  with1_ok (m := Instr.makeInterface t) (by simp [ho, Op.operands]) (fun a => by simp only [execOp, ho]; rfl) (np_kIface _ _) fun h hr hf hx => kIface_ok he h hr hx
theorem op_makeSlice {t : Nat} {x y : Operand} (ho : o.op = .makeSlice t x y) (he : EnvTy E) : OpV E o (with2 ds x y (kMkSl E t)) ds :=
  with2_ok (m := Instr.makeSlice t) (by simp [ho, Op.operands]) (fun a => by simp only [execOp, ho]; rfl) (np_kMkSl _ _) fun h hr hf hx hy => kMkSl_ok he h hr hf hx hy
theorem op_fieldAddr {t f : Nat} {x : Operand} (ho : o.op = .fieldAddr t x f) (he : EnvTy E) : OpV E o (with1 ds x fun a => kFld E t a f) ds :=
  with1_ok (m := fun x => Instr.fieldAt t x f) (by simp [ho, Op.operands]) (fun a => by simp only [execOp, ho]; rfl) (fun y => np_kFld _ _ y _) fun h hr hf hx => kFld_ok he h hr hx
theorem op_field {t f : Nat} {x : Operand} (ho : o.op = .field t x f) (he : EnvTy E) : OpV E o (with1 ds x fun a => kField E t a f) ds :=
  with1_ok (m := fun x => Instr.field t x f) (by simp [ho, Op.operands]) (fun a => by simp only [execOp, ho]; rfl) (fun y => np_kField _ _ y _) fun h hr hf hx => kField_ok he h hr hx
theorem op_indexAddr {t : Nat} {x y : Operand} (ho : o.op = .indexAddr t x y) (he : EnvTy E) : OpV E o (with2 ds x y (kIdxA E t)) ds :=
  with2_ok (m := Instr.indexAt t) (by simp [ho, Op.operands]) (fun a => by simp only [execOp, ho]; rfl) (np_kIdxA _ _) fun h hr hf hx hy => kIdxA_ok he h hr hx hy
theorem op_index {t : Nat} {x y : Operand} (ho : o.op = .index t x y) (he : EnvTy E) : OpV E o (with2 ds x y (kIdx E t)) ds :=
  with2_ok (m := Instr.index t) (by simp [ho, Op.operands]) (fun a => by simp only [execOp, ho]; rfl) (np_kIdx _ _) fun h hr hf hx hy => kIdx_ok he h hr hx hy
theorem op_extract {k : Nat} {x : Operand} (ho : o.op = .extract x k) : OpV E o (with1 ds x (kExt k)) ds :=
  with1_ok (m := fun x => Instr.extract x k) (by simp [ho, Op.operands]) (fun a => by simp only [execOp, ho]; rfl) (np_kExt _) fun h hr hf hx => kExt_ok h hr hx
theorem op_assert {xt t : Nat} {c : Bool} {x : Operand} (ho : o.op = .typeAssert x xt t c) (he : EnvTy E) : OpV E o (with1 ds x (kAssert E t c)) ds :=
  with1_ok (m := fun x => Instr.typeAssert x xt t c) (by simp [ho, Op.operands]) (fun a => by simp only [execOp, ho]; rfl) (np_kAssert _ _ _) fun h hr hf hx => kAssert_ok he h hr hx
end
end Go.Proofs.Ytnhmbhpkebjjaaa.Am
