/- The operations that give a value at once, each by its name. -/
import Derived.Test.YtbmkpcjkadifhaaGreatDoorSNo03
import Derived.Recover
namespace Go.Proofs.YtbmkpcjkadifhaaGreatDoor.Am
open Go.RowKit

section
variable {E : Env} {ds : List Nat} {o : Oper}
theorem op_move {x : Operand} (ho : o.op = .move x) : OpV E o (with0 ds x) ds := with0_ok (by simp [ho, Op.operands]) fun a => by simp only [execOp, ho]
theorem op_assign {x : Operand} (ho : o.op = .assign x) : OpV E o (with0 ds x) ds := with0_ok (by simp [ho, Op.operands]) fun a => by simp only [execOp, ho]
theorem op_alloc {e : Nat} (ho : o.op = .alloc e) (he : EnvTy E) : OpV E o (.mk fun _ _ _ _ => kAlloc E e) ds := by
  refine ⟨_, rfl, fun _ _ _ _ => np_kAlloc _ _, ?_⟩
  intro call round w0 w r U rho tm a s v s' hs hu hr h hf
  exact (kAlloc_ok he h hr hf).val (by simp only [execOp, ho]; rfl)
theorem op_box {e : Nat} {x : Operand} (ho : o.op = .box e x) : OpV E o (with1 ds x kBox) ds :=
  with1_ok (m := Instr.box e) (by simp [ho, Op.operands]) (fun a => by simp only [execOp, ho]; rfl) np_kBox fun h hr hf hx => kBox_ok h hr hf hx
theorem op_build {t : Nat} {ps : Array (Nat × Operand)} (ho : o.op = .build t ps) (he : EnvTy E) : OpV E o (withP ds ps.toList (aBuild E t)) ds :=
  withP_ok (m := fun l => Instr.build t l.toArray) (by simp [ho, Op.operands]) (fun a => by simp only [execOp, ho]; rw [← List.map_toArray]; rfl) (np_aBuild _ _) fun h hr hf hx => aBuild_ok he h hr (by simpa using hx)
theorem op_buildSlice {t n : Nat} {ps : Array (Nat × Operand)} (ho : o.op = .buildSlice t n ps) (he : EnvTy E) : OpV E o (withP ds ps.toList (aBuildS E t n)) ds :=
  withP_ok (m := fun l => Instr.buildSlice t n l.toArray) (by simp [ho, Op.operands]) (fun a => by simp only [execOp, ho]; rw [← List.map_toArray]; rfl) (np_aBuildS _ _ _) fun h hr hf hx => aBuildS_ok he h hr hf (by simpa using hx)
theorem op_load {t : Nat} {x : Operand} (ho : o.op = .load t x) (he : EnvTy E) : OpV E o (with1 ds x (kLoad E t)) ds :=
  with1_ok (m := Instr.loadAt t) (by simp [ho, Op.operands]) (fun a => by simp only [execOp, ho]; rfl) (np_kLoad _ _) fun h hr hf hx => kLoad_ok he h hr hx
theorem op_store {t : Nat} {x y : Operand} (ho : o.op = .store t x y) (he : EnvTy E) : OpV E o (with2 ds x y (kStore E t)) ds := by
  obtain ⟨g, h1, h2⟩ := compO_ok ds x
  obtain ⟨g', h3, h4⟩ := compO_ok ds y
  refine ⟨_, by unfold with2; rw [h1, h3], fun _ _ rho tm => np_rec (g := g rho tm) (f := fun a s => Option.rec (motive := fun _ => R Value) .none (fun b => kStore E t a b s) (g' rho tm)) fun a => np_rec (np_kStore _ _ a), ?_⟩
  intro call round w0 w r U rho tm a s v s' hs hu hr h hf
  obtain ⟨y, e1, e2⟩ := optRec_some (f := fun a s => Option.rec (motive := fun _ => R Value) .none (fun b => kStore E t a b s) (g' rho tm)) h
  obtain ⟨z, e3, e4⟩ := optRec_some e2
  obtain ⟨rfl, w', k1, k2, k3, k4, k5⟩ := kStore_ok he e4 hr (h2 _ _ _ _ _ _ hs (fun t q => hu t (by simp [ho, Op.operands] at q ⊢; simp [q])) e1) (h4 _ _ _ _ _ _ hs (fun t q => hu t (by simp [ho, Op.operands] at q ⊢; simp [q])) e3)
  refine ⟨undef, w', r, .inr ⟨?_, rfl⟩, .of_rel k3 k2, .tuple rfl (fun i v v' e => by simp at e), k4, k5⟩
  simp [execOp, ho, k1]
theorem op_nil {x : Operand} (ho : o.op = .nilCheck x) : OpV E o (with1 ds x kNil) ds := by
  obtain ⟨g, h1, h2⟩ := compO_ok ds x
  refine ⟨_, by unfold with1; rw [h1], fun _ _ rho tm => np_rec (g := g rho tm) np_kNil, ?_⟩
  intro call round w0 w r U rho tm a s v s' hs hu hr h hf
  obtain ⟨y, e1, e2⟩ := optRec_some h
  have hx := h2 _ _ _ _ _ _ hs (fun t q => hu t (by simp [ho, Op.operands] at q ⊢; simp [q])) e1
  obtain ⟨rfl, rfl, e3⟩ := kNil_ok (P := E.P) (w := w) (a := a) ho rfl e2 hx
  exact ⟨_, w, r, .inl e3, .of_rel rfl hr, hx, rfl, rfl⟩
theorem op_bin {op : BinOp} {t yt : Nat} {x y : Operand} (ho : o.op = .binOp op t x y yt) (he : EnvTy E) : OpV E o (Cl.rec (motive := fun _ => Cl OpT) (fun f => with2 ds x y f) (aBin E op t x y)) ds := by
  generalize hc : aBin E op t x y = c
  obtain ⟨f⟩ := c
  refine with2_ok (m := fun y' z' => do eqGuard op t x y y' z'; binOp op t y' z') (by simp [ho, Op.operands]) (fun a => by simp only [execOp, ho]; rfl) (fun y' z' => ?_) fun h hr hf hx hy => aBin_ok hc he h hr hx hy
  have slow : ∀ op, NoPan (binSlow E op t x y y' z') := fun op => np_binSlow _ _ _ _ _ _ _
  have fast3 : ∀ (k : FastT) op, NoPan (int3 k (binSlow E op t x y) y' z') := fun k op => ⟨fun s c s' e => by
    unfold int3 caseI at e
    cases y' <;> simp only at e
    case int k1 a =>
      cases z' <;> simp only at e
      case int k2 b =>
        cases a with
        | negSucc m => exact (slow op).no _ _ _ e
        | ofNat m =>
          cases b with
          | negSucc m => exact (slow op).no _ _ _ e
          | ofNat n =>
            simp only at e
            cases e1 : k k1 k2 m n with
            | none => rw [e1] at e; exact (slow op).no _ _ _ e
            | some u => rw [e1] at e; cases e
      all_goals exact (slow op).no _ _ _ e
    all_goals exact (slow op).no _ _ _ e⟩
  have fast2 : ∀ (k : Int → Int → St → R Value) (k3 : FastT) op, (∀ a b, NoPan (k a b)) → NoPan (int2 k (int3 k3 (binSlow E op t x y)) y' z') := fun k k3 op hk => ⟨fun s c s' e => by
    have f3 := fast3 k3 op
    unfold int2 caseI at e
    cases y' <;> simp only at e
    case int k1 a =>
      cases z' <;> simp only at e
      case int k2 b =>
        cases e1 : isI64 k1 with
        | false => rw [e1] at e; exact f3.no _ _ _ e
        | true =>
          cases e2 : isI64 k2 with
          | false => rw [e1, e2] at e; exact f3.no _ _ _ e
          | true => rw [e1, e2] at e; exact (hk a b).no _ _ _ e
      all_goals exact f3.no _ _ _ e
    all_goals exact f3.no _ _ _ e⟩
  have rI' : ∀ n, NoPan (rI n) := fun n => ⟨fun s c s' e => by unfold rI at e; rw [fI_eq] at e; cases e⟩
  have rB' : ∀ b, NoPan (rB b) := fun b => ⟨fun s c s' e => by cases b <;> cases e⟩
  cases op <;> cases hc <;> first | exact slow _ | exact fast3 _ _ | exact fast2 _ _ _ fun a b => rI' _ | exact fast2 _ _ _ fun a b => rB' _
theorem op_un {op : UnOp} {t : Nat} {x : Operand} (ho : o.op = .unOp op t x) : OpV E o (with1 ds x (kUn E.P op)) ds :=
  with1_ok (m := Op.unary op) (by simp [ho, Op.operands]) (fun a => by simp only [execOp, ho]; rfl) (np_kUn _ _) fun h hr hf hx => kUn_ok h hr hx
theorem op_conv {s d : Nat} {x : Operand} (ho : o.op = .convert s d x) (he : EnvTy E) : OpV E o (with1 ds x (kConvB E s d)) ds :=
  with1_ok (m := convert s d) (by simp [ho, Op.operands]) (fun a => by simp only [execOp, ho]; rfl) (np_kConvB _ _ _) fun h hr hf hx => kConvB_ok he h hr hf hx
theorem op_slArr {t : Nat} {x : Operand} (ho : o.op = .sliceToArrayPointer t x) (he : EnvTy E) : OpV E o (with1 ds x (kSlArr E t)) ds :=
  with1_ok (m := Instr.arrayAt t) (by simp [ho, Op.operands]) (fun a => by simp only [execOp, ho]; rfl) (np_kSlArr _ _) fun h hr hf hx => kSlArr_ok he h hr hx
theorem op_iface {t : Nat} {x : Operand} (ho : o.op = .makeInterface t x) (he : EnvTy E) : OpV E o (with1 ds x (kIface E t)) ds :=
  with1_ok (m := Instr.makeInterface t) (by simp [ho, Op.operands]) (fun a => by simp only [execOp, ho]; rfl) (np_kIface _ _) fun h hr hf hx => kIface_ok he h hr hx
theorem op_makeSlice {t : Nat} {x y : Operand} (ho : o.op = .makeSlice t x y) (he : EnvTy E) : OpV E o (with2 ds x y (kMkSl E t)) ds :=
  with2_ok (m := Instr.makeSlice t) (by simp [ho, Op.operands]) (fun a => by simp only [execOp, ho]; rfl) (np_kMkSl _ _) fun h hr hf hx hy => kMkSl_ok he h hr hf hx hy
theorem op_fieldAddr {t f : Nat} {x : Operand} (ho : o.op = .fieldAddr t x f) (he : EnvTy E) : OpV E o (with1 ds x fun a => kFld E t a f) ds :=
  with1_ok (m := fun x => Instr.fieldAt t x f) (by simp [ho, Op.operands]) (fun a => by simp only [execOp, ho]; rfl) (fun y => np_kFld _ _ y _) fun h hr hf hx => kFld_ok he h hr hx
theorem op_field {t f : Nat} {x : Operand} (ho : o.op = .field t x f) (he : EnvTy E) : OpV E o (with1 ds x fun a => kField E t a f) ds :=
  with1_ok (m := fun x => Instr.field t x f) (by simp [ho, Op.operands]) (fun a => by simp only [execOp, ho]; rfl) (fun y => np_kField _ _ y _) fun h hr hf hx => kField_ok he h hr hx
theorem op_indexAddr {t : Nat} {x y : Operand} (ho : o.op = .indexAddr t x y) (he : EnvTy E) : OpV E o (with2 ds x y (kIdxA E t)) ds :=
  with2_ok (m := Instr.indexAt t) (by simp [ho, Op.operands]) (fun a => by simp only [execOp, ho]; rfl) (np_kIdxA _ _) fun h hr hf hx hy => kIdxA_ok he h hr hx hy
theorem op_index {t : Nat} {x y : Operand} (ho : o.op = .index t x y) (he : EnvTy E) : OpV E o (with2 ds x y (kIdx E t)) ds :=
  with2_ok (m := Instr.index t) (by simp [ho, Op.operands]) (fun a => by simp only [execOp, ho]; rfl) (np_kIdx _ _) fun h hr hf hx hy => kIdx_ok he h hr hx hy
theorem op_extract {k : Nat} {x : Operand} (ho : o.op = .extract x k) : OpV E o (with1 ds x (kExt k)) ds :=
  with1_ok (m := fun x => Instr.extract x k) (by simp [ho, Op.operands]) (fun a => by simp only [execOp, ho]; rfl) (np_kExt _) fun h hr hf hx => kExt_ok h hr hx
theorem op_assert {xt t : Nat} {c : Bool} {x : Operand} (ho : o.op = .typeAssert x xt t c) (he : EnvTy E) : OpV E o (with1 ds x (kAssert E t c)) ds :=
  with1_ok (m := fun x => Instr.typeAssert x xt t c) (by simp [ho, Op.operands]) (fun a => by simp only [execOp, ho]; rfl) (np_kAssert _ _ _) fun h hr hf hx => kAssert_ok he h hr hx
end
end Go.Proofs.YtbmkpcjkadifhaaGreatDoor.Am
/- The operations that give a value at once: choices, slices, functions, built-in ones. -/
namespace Go.Proofs.YtbmkpcjkadifhaaGreatDoor.Am
open Go.RowKit

section
variable {E : Env} {ds : List Nat} {o : Oper}
theorem op_pick {x y z : Operand} (ho : o.op = .pick x y z) : OpV E o (with3 ds x y z kPick) ds := by
  obtain ⟨g, h1, h2⟩ := compO_ok ds x
  obtain ⟨g', h3, h4⟩ := compO_ok ds y
  obtain ⟨g2, h5, h6⟩ := compO_ok ds z
  refine ⟨_, by unfold with3; rw [h1, h3, h5], fun _ _ rho tm => np_on _ fun a => np_on _ fun b => np_on _ fun c => np_kPick _ _ _, ?_⟩
  intro call round w0 w r U rho tm a s v s' hs hu hr h hf
  obtain ⟨x', e1, h⟩ := on_some h
  obtain ⟨y', e2, h⟩ := on_some h
  obtain ⟨z', e3, h⟩ := on_some h
  obtain ⟨rfl, t, k1, k2⟩ := kPick_ok h (h2 _ _ _ _ _ _ hs (fun t q => hu t (by simp [ho, Op.operands] at q ⊢; simp [q])) e1) (h4 _ _ _ _ _ _ hs (fun t q => hu t (by simp [ho, Op.operands] at q ⊢; simp [q])) e2) (h6 _ _ _ _ _ _ hs (fun t q => hu t (by simp [ho, Op.operands] at q ⊢; simp [q])) e3)
  refine ⟨_, w, r, .inl ?_, .of_rel rfl hr, k2, rfl, rfl⟩
  simp only [execOp, ho, k1]
  cases t <;> simp [asBool]
theorem op_slice {t : Nat} {x : Operand} {lo hi mx : Option Operand} (ho : o.op = .slice t x lo hi mx) (he : EnvTy E) : OpV E o (compSl E ds t x lo hi mx) ds := by
  cases mx with
  | some m =>
    exact ⟨_, rfl, fun _ _ _ _ => np_fail, fun call round w0 w r U rho tm a s v s' hs hu hr h hf => by cases h⟩
  | none =>
    obtain ⟨g, h1, h2⟩ := compO_ok ds x
    obtain ⟨g', h3, h4⟩ := compM_ok ds lo
    obtain ⟨g2, h5, h6⟩ := compM_ok ds hi
    refine ⟨fun _ _ rho tm => M.on (g rho tm) fun a => M.on (g' rho tm) fun b => M.on (g2 rho tm) fun c => aSlice E t a b c, by unfold compSl withS; simp only [h1, h3, h5], fun _ _ rho tm => np_on _ fun a => np_on _ fun b => np_on _ fun c => np_aSlice _ _ _ _ _, ?_⟩
    intro call round w0 w r U rho tm a s v s' hs hu hr h hf
    obtain ⟨x', e1, h⟩ := on_some h
    obtain ⟨y', e2, h⟩ := on_some h
    obtain ⟨z', e3, h⟩ := on_some h
    exact (aSlice_ok he h hr (h2 _ _ _ _ _ _ hs (fun t q => hu t (by simp [ho, Op.operands] at q ⊢; simp [q])) e1) (h4 _ _ _ _ _ _ hs (fun t q => hu t (by simp [ho, Op.operands] at q ⊢; simp [q])) e2) (h6 _ _ _ _ _ _ hs (fun t q => hu t (by simp [ho, Op.operands] at q ⊢; simp [q])) e3)).val (by simp only [execOp, ho]; rfl)
theorem op_mkMap {t : Nat} (ho : o.op = .makeMap t none) : OpV E o (.mk fun _ _ _ _ => kMkMap) ds := by
  refine ⟨_, rfl, fun _ _ _ _ => np_kMkMap, ?_⟩
  intro call round w0 w r U rho tm a s v s' hs hu hr h hf
  exact (kMkMap_ok h hr hf).val (by simp only [execOp, ho]; rfl)
theorem op_mkMapR {t : Nat} {x : Operand} (ho : o.op = .makeMap t (some x)) (he : EnvTy E) : OpV E o (with1 ds x (kMkMapR E t)) ds :=
  with1_ok (m := fun x => Instr.makeMap t (some x)) (by simp [ho, Op.operands]) (fun a => by simp only [execOp, ho]; rfl) (np_kMkMapR _ _) fun h hr hf hx => kMkMapR_ok he h hr hf hx
theorem op_lookup {t : Nat} {c : Bool} {x y : Operand} (ho : o.op = .lookup t x y c) (he : EnvTy E) : OpV E o (with2 ds x y (kLook E t c)) ds :=
  with2_ok (m := fun x y => Instr.lookup t x y c) (by simp [ho, Op.operands]) (fun a => by simp only [execOp, ho]; rfl) (np_kLook _ _ _) fun h hr hf hx hy => kLook_ok he h hr hx hy
theorem op_mapEnt {t : Nat} {x y : Operand} (ho : o.op = .mapEntry t x y) (he : EnvTy E) : OpV E o (with2 ds x y (kMapEnt E t)) ds :=
  with2_ok (m := Instr.mapEntry t) (by simp [ho, Op.operands]) (fun a => by simp only [execOp, ho]; rfl) (np_kMapEnt _ _) fun h hr hf hx hy => kMapEnt_ok he h hr hx hy
/-- Three operands, and nothing to give. -/
theorem with3_ok {x y z : Operand} {k : Value → Value → Value → M Value} {m : Value → Value → Value → Sem Unit} (hx : o.op.operands.toList = [x, y, z]) (ho : ∀ a : Act, execOp a.eval o = (do m (a.eval x) (a.eval y) (a.eval z); pure .skip)) (np : ∀ x y z, NoPan (k x y z))
    (hk : ∀ {w0 w : World} {r : Inj} {x x' y y' z z' : Value} {s v s'}, k x y z s = .some v s' → Rel w0 r s.mem w → VR r x x' → VR r y y' → VR r z z' → v = undef ∧ ∃ w', (m x' y' z').run E.P w = .ok () w' ∧ Goes w0 r s s' r w' ∧ s'.lim = s.lim ∧ s'.cx = s.cx) : OpV E o (with3 ds x y z k) ds := by
  obtain ⟨g, h1, h2⟩ := compO_ok ds x
  obtain ⟨g', h3, h4⟩ := compO_ok ds y
  obtain ⟨g2, h5, h6⟩ := compO_ok ds z
  refine ⟨_, by unfold with3; rw [h1, h3, h5], fun _ _ rho tm => np_on _ fun a => np_on _ fun b => np_on _ fun c => np _ _ _, ?_⟩
  intro call round w0 w r U rho tm a s v s' hs hu hr h hf
  obtain ⟨x', e1, h⟩ := on_some h
  obtain ⟨y', e2, h⟩ := on_some h
  obtain ⟨z', e3, h⟩ := on_some h
  obtain ⟨rfl, w', k1, k2, k3, k4⟩ := hk h hr (h2 _ _ _ _ _ _ hs (fun t q => hu t (by rw [hx]; simp at q ⊢; simp [q])) e1) (h4 _ _ _ _ _ _ hs (fun t q => hu t (by rw [hx]; simp at q ⊢; simp [q])) e2) (h6 _ _ _ _ _ _ hs (fun t q => hu t (by rw [hx]; simp at q ⊢; simp [q])) e3)
  refine ⟨undef, w', r, .inr ⟨?_, rfl⟩, k2, .undef, k3, k4⟩
  rw [ho]
  simp [k1]
theorem op_mapUp {t : Nat} {x y z : Operand} (ho : o.op = .mapUpdate t x y z) (he : EnvTy E) : OpV E o (with3 ds x y z (kMapUp E t)) ds :=
  with3_ok (m := Instr.mapUpdate t) (by simp [ho, Op.operands]) (fun a => by simp only [execOp, ho]) (np_kMapUp _ _) fun h hr hx hy hz => kMapUp_ok he h hr hx hy hz
theorem op_insert {t : Nat} {x y z : Operand} (ho : o.op = .insert t x y z) (he : EnvTy E) : OpV E o (with3 ds x y z (kMapUp E t)) ds :=
  with3_ok (m := Instr.mapUpdate t) (by simp [ho, Op.operands]) (fun a => by simp only [execOp, ho]) (np_kMapUp _ _) fun h hr hx hy hz => kMapUp_ok he h hr hx hy hz
theorem op_entSt {t : Nat} {x y z : Operand} (ho : o.op = .entryStore t x y z) : OpV E o (with3 ds x y z kEntSt) ds :=
  with3_ok (m := Instr.entryStore t) (by simp [ho, Op.operands]) (fun a => by simp only [execOp, ho]) np_kEntSt fun h hr hx hy hz => kEntSt_ok h hr hx hy hz
theorem op_range {t : Nat} {x : Operand} (ho : o.op = .range t x) (he : EnvTy E) : OpV E o (with1 ds x (kRange E t)) ds :=
  with1_ok (m := Instr.range t) (by simp [ho, Op.operands]) (fun a => by simp only [execOp, ho]; rfl) (np_kRange _ _) fun h hr hf hx => kRange_ok he h hr hf hx
theorem op_next {x : Operand} (ho : o.op = .next x true) : OpV E o (with1 ds x kNext) ds :=
  with1_ok (m := fun x => Instr.next x true o.type) (by simp [ho, Op.operands]) (fun a => by simp only [execOp, ho]; rfl) np_kNext fun h hr hf hx => kNext_ok h hr hx
theorem arrMap {α β : Type} (f : α → β) (a : Array α) : a.map f = (a.toList.map f).toArray := by rw [← List.map_toArray]
theorem VRs.func {r : Inj} {f : Nat} {a a' c c' : List Value} (h : VRs r a a') (k : VRs r c c') : VR r (.func (.func f) a.toArray c.toArray) (.func (.func f) a'.toArray c'.toArray) :=
  .func rfl (by simpa using h.1) (fun i v v' e e' => h.2 i v v' (by simpa using e) (by simpa using e')) (by simpa using k.1) (fun i v v' e e' => k.2 i v v' (by simpa using e) (by simpa using e'))
theorem op_makeFunc {f : Nat} {first cap : Array Operand} (ho : o.op = .makeFunc (.func f) first cap) : OpV E o (withLL ds first.toList cap.toList fun x c => M.pure (.func (.func f) x.toArray c.toArray)) ds := by
  obtain ⟨g, h1, h2⟩ := compL_ok ds first.toList
  obtain ⟨g', h3, h4⟩ := compL_ok ds cap.toList
  refine ⟨_, by unfold withLL; rw [h1, h3], fun _ _ rho tm => np_rec (g := g rho tm) (f := fun (a : List Value) s => Option.rec (motive := fun _ => R Value) .none (fun (b : List Value) => M.pure (Value.func (.func f) a.toArray b.toArray) s) (g' rho tm)) fun a => np_rec (f := fun (b : List Value) => M.pure (Value.func (.func f) a.toArray b.toArray)) fun b => np_pure _, ?_⟩
  intro call round w0 w r U rho tm a s v s' hs hu hr h hf
  obtain ⟨x', e1, h⟩ := optRec_some (f := fun (a : List Value) s => Option.rec (motive := fun _ => R Value) .none (fun (b : List Value) => M.pure (Value.func (.func f) a.toArray b.toArray) s) (g' rho tm)) h
  obtain ⟨y', e2, h⟩ := optRec_some (f := fun (b : List Value) => M.pure (Value.func (.func f) x'.toArray b.toArray)) h
  obtain ⟨rfl, rfl⟩ := pure_some h
  refine ⟨_, w, r, .inl ?_, .of_rel rfl hr, (h2 _ _ _ _ _ _ hs (fun t q => hu t (by simp [ho, Op.operands] at q ⊢; simp [q])) e1).func (h4 _ _ _ _ _ _ hs (fun t q => hu t (by simp [ho, Op.operands] at q ⊢; simp [q])) e2), rfl, rfl⟩
  simp [execOp, ho, Instr.makeFunc]
  exact ⟨arrMap _ _, arrMap _ _⟩
theorem op_builtin {b : Builtin} {c : Call} (ho : o.op = .call c) (hb : c.callee = .builtin b) (hn : b ≠ .recover) (he : EnvTy E) : OpV E o (withL ds c.args.toList (aBuiltin E b c.argTypes.toList)) ds := by
  obtain ⟨g, h1, h2⟩ := compL_ok ds c.args.toList
  refine ⟨_, by unfold withL; rw [h1], fun _ _ rho tm => np_rec (g := g rho tm) (np_aBuiltin _ _ _), ?_⟩
  intro call round w0 w r U rho tm a s v s' hs hu hr h hf
  obtain ⟨l, e1, h⟩ := optRec_some h
  have hl : VRs r l (c.args.toList.map a.eval) := h2 _ _ _ _ _ _ hs (fun t q => hu t (by simp [ho, Op.operands, Call.operands] at q ⊢; simp [q])) e1
  have key : ∀ {m : Sem Value}, Yields E w0 r s s' v w m → (∀ (cs : Array Bool) w, (builtin b c.argTypes o.type cs (c.args.map a.eval)).run E.P w = (valOf m).run E.P w) →
      ∃ v' w' r', ((execOp a.eval o).run E.P w = .ok (.value v') w' ∨ ((execOp a.eval o).run E.P w = .ok .skip w' ∧ v' = undef)) ∧ Goes w0 r s s' r' w' ∧ VR r' v v' ∧ s'.lim = s.lim ∧ s'.cx = s.cx := by
    intro m hy hm
    obtain ⟨v', w', r', k1, k2, k3, k4, k5⟩ := hy
    refine ⟨v', w', r', .inl ?_, k2, k3, k4, k5⟩
    simp only [execOp, ho, resolve, hb, invoke, Sem.run_bind, Sem.run_pure, Result.andThen_ok, hm, valOf, k1]
  generalize hts : c.argTypes.toList = ts at h
  have hmap : c.args.map a.eval = (c.args.toList.map a.eval).toArray := by rw [← List.map_toArray]
  have ht0 : ∀ {t : Nat} {l : List Nat}, c.argTypes.toList = t :: l → c.argTypes[0]? = some t := by
    intro t l e; rw [← Array.getElem?_toList, e]; rfl
  have ht1 : ∀ {t t2 : Nat} {l : List Nat}, c.argTypes.toList = t :: t2 :: l → c.argTypes[1]? = some t2 := by
    intro t t2 l e; rw [← Array.getElem?_toList, e]; rfl
  unfold aBuiltin at h
  split at h
  · rename_i t ts' x
    obtain ⟨x', l', q1, q2, q3⟩ := hl.inv
    have := q3.inv_nil
    subst this
    refine key (aLen_ok (ty := o.type) (ht0 hts) he h hr q2) fun cs w => ?_
    rw [hmap, q1]; simp [builtin, valOf]
  · rename_i t ts' x
    obtain ⟨x', l', q1, q2, q3⟩ := hl.inv
    have := q3.inv_nil
    subst this
    refine key (aCap_ok (ty := o.type) (ht0 hts) he h hr q2) fun cs w => ?_
    rw [hmap, q1]; simp [builtin, valOf]
  · obtain ⟨y', l1, q1, q2, q3⟩ := hl.inv
    obtain ⟨x', l', q4, q5, q6⟩ := q3.inv
    have := q6.inv_nil
    subst this
    subst q4
    refine key (aAppend_ok (ty := o.type) (ht0 hts) (ht1 hts) he h hr hf q2 q5) fun cs w => ?_
    rw [hmap, q1]; simp [builtin, valOf]
  · obtain ⟨y', l1, q1, q2, q3⟩ := hl.inv
    obtain ⟨x', l', q4, q5, q6⟩ := q3.inv
    have := q6.inv_nil
    subst this
    subst q4
    refine key (aCopy_ok (ty := o.type) (ht0 hts) he h hr q2 q5) fun cs w => ?_
    rw [hmap, q1]; simp [builtin, valOf]
  · obtain ⟨y', l1, q1, q2, q3⟩ := hl.inv
    obtain ⟨x', l', q4, q5, q6⟩ := q3.inv
    have := q6.inv_nil
    subst this
    subst q4
    refine key (kDel_ok (ty := o.type) (ht0 hts) he h hr q2 q5) fun cs w => ?_
    rw [hmap, q1]; simp [builtin, valOf]
  · obtain ⟨x', l', q1, q2, q3⟩ := hl.inv
    have := q3.inv_nil
    subst this
    refine key (kClear_ok (ty := o.type) (ht0 hts) he h hr q2) fun cs w => ?_
    rw [hmap, q1]; simp [builtin, valOf]
  · refine key (min_ok (ts := c.argTypes) (ty := o.type) h hr hl) fun cs w => ?_
    rw [hmap]; simp [builtin, valOf]
  · refine key (max_ok (ts := c.argTypes) (ty := o.type) h hr hl) fun cs w => ?_
    rw [hmap]; simp [builtin, valOf]
  · cases h
end
end Go.Proofs.YtbmkpcjkadifhaaGreatDoor.Am
/- What a part of the evaluator gives depends on nothing but what it has touched. -/
namespace Go.Proofs.YtbmkpcjkadifhaaGreatDoor.Am

abbrev Out (α : Type) : Type := Sum α (List PanicEntry)
def rOf {α : Type} (o : Out α) (s : St) : R α :=
  match o with
  | .inl a => .some a s
  | .inr c => .pan c s
/-- Notes are taken of places below 'next' alone. -/
def Bnd (s : St) : Prop := s.lim ≤ s.next
/-- From here to there, these places read, these turned, these notes taken; from any other state that reads alike there: the same. -/
structure LocG {α : Type} (m : M α) (s : St) (o : Out α) (s' : St) (Rd Wr : Nat → Prop) (dr dw : List Nat) : Prop where
  rd : s'.rd = dr ++ s.rd
  wr : s'.wr = dw ++ s.wr
  nxt : s.next ≤ s'.next
  lim : s'.lim = s.lim
  bnd : Bnd s'
  rlt : ∀ l, Rd l → l < s'.next
  wlt : ∀ l, Wr l → l < s'.next
  old : ∀ l, ¬ Wr l → T.get s'.mem l = T.get s.mem l
  any : ∀ t : St, t.next = s.next → t.lim = s.lim → t.cx = s.cx → (∀ l, Rd l ∨ Wr l → T.get t.mem l = T.get s.mem l) →
    ∃ t', m t = rOf o t' ∧ t'.next = s'.next ∧ t'.lim = s'.lim ∧ t'.cx = s'.cx ∧ t'.rd = dr ++ t.rd ∧ t'.wr = dw ++ t.wr ∧
      (∀ l, Wr l → T.get t'.mem l = T.get s'.mem l) ∧ (∀ l, ¬ Wr l → T.get t'.mem l = T.get t.mem l)
def LocAt {α : Type} (m : M α) (s : St) (o : Out α) (s' : St) : Prop :=
  ∃ Rd Wr dr dw, LocG m s o s' Rd Wr dr dw ∧ (∀ l, Rd l → l < s.lim → l ∈ dr) ∧ (∀ l, Wr l → l < s.lim → l ∈ dw)
structure Loc {α : Type} (m : M α) : Prop where
  at' : ∀ s o s', m s = rOf o s' → Bnd s → LocAt m s o s'

/-- One behind the other. -/
theorem LocG.seq {α β : Type} {m : M α} {n C : M β} {s s1 s' : St} {o1 : Out α} {o : Out β} {R1 W1 R2 W2 : Nat → Prop} {r1 w1 r2 w2 : List Nat}
    (h : LocG m s o1 s1 R1 W1 r1 w1) (k : LocG n s1 o s' R2 W2 r2 w2) (hC : ∀ t t1, m t = rOf o1 t1 → C t = n t1) : LocG C s o s' (fun l => R1 l ∨ R2 l) (fun l => W1 l ∨ W2 l) (r2 ++ r1) (w2 ++ w1) where
  rd := by rw [k.rd, h.rd, List.append_assoc]
  wr := by rw [k.wr, h.wr, List.append_assoc]
  nxt := Nat.le_trans h.nxt k.nxt
  lim := k.lim.trans h.lim
  bnd := k.bnd
  rlt := fun l e => e.elim (fun e => Nat.lt_of_lt_of_le (h.rlt l e) k.nxt) (k.rlt l)
  wlt := fun l e => e.elim (fun e => Nat.lt_of_lt_of_le (h.wlt l e) k.nxt) (k.wlt l)
  old := fun l e => (k.old l fun x => e (.inr x)).trans (h.old l fun x => e (.inl x))
  any := fun t e1 e2 e3 e4 => by
    obtain ⟨t1, q1, q2, q3, q4, q5, q6, q7, q8⟩ := h.any t e1 e2 e3 fun l e => e4 l (e.elim (fun e => .inl (.inl e)) (fun e => .inr (.inl e)))
    obtain ⟨t2, p1, p2, p3, p4, p5, p6, p7, p8⟩ := k.any t1 q2 q3 q4 (fun l e => by
      by_cases hw : W1 l
      · exact q7 l hw
      · rw [q8 l hw, h.old l hw]
        exact e4 l (e.elim (fun e => .inl (.inr e)) (fun e => .inr (.inr e))))
    refine ⟨t2, (hC t t1 q1).trans p1, p2, p3, p4, by rw [p5, q5, List.append_assoc], by rw [p6, q6, List.append_assoc], fun l e => ?_, fun l e => (p8 l fun x => e (.inr x)).trans (q8 l fun x => e (.inl x))⟩
    by_cases hw : W2 l
    · exact p7 l hw
    · rw [p8 l hw, k.old l hw]
      exact e.elim (q7 l) (fun x => absurd x hw)
theorem LocG.retag {α β : Type} {m : M α} {n : M β} {s s' : St} {o : Out α} {o' : Out β} {R1 W1 : Nat → Prop} {r1 w1 : List Nat} (h : LocG m s o s' R1 W1 r1 w1)
    (hn : ∀ t t', m t = rOf o t' → n t = rOf o' t') : LocG n s o' s' R1 W1 r1 w1 :=
  { h with any := fun t e1 e2 e3 e4 => let ⟨t', q, k⟩ := h.any t e1 e2 e3 e4; ⟨t', hn t t' q, k⟩ }
theorem LocAt.retag {α β : Type} {m : M α} {n : M β} {s s' : St} {o : Out α} {o' : Out β} (h : LocAt m s o s') (hn : ∀ t t', m t = rOf o t' → n t = rOf o' t') : LocAt n s o' s' :=
  let ⟨a, b, c, d, e, f, g⟩ := h; ⟨a, b, c, d, e.retag hn, f, g⟩
theorem LocAt.bnd {α : Type} {m : M α} {s s' : St} {o : Out α} (h : LocAt m s o s') : Bnd s' := let ⟨_, _, _, _, e, _⟩ := h; e.bnd
theorem LocAt.lim {α : Type} {m : M α} {s s' : St} {o : Out α} (h : LocAt m s o s') : s'.lim = s.lim := let ⟨_, _, _, _, e, _⟩ := h; e.lim
theorem LocAt.next {α : Type} {m : M α} {s s' : St} {o : Out α} (h : LocAt m s o s') : s.next ≤ s'.next := let ⟨_, _, _, _, e, _⟩ := h; e.nxt
theorem LocAt.seq {α β : Type} {m : M α} {n C : M β} {s s1 s' : St} {o1 : Out α} {o : Out β} (h : LocAt m s o1 s1) (k : LocAt n s1 o s') (hC : ∀ t t1, m t = rOf o1 t1 → C t = n t1) : LocAt C s o s' := by
  obtain ⟨R1, W1, r1, w1, h1, h2, h3⟩ := h
  obtain ⟨R2, W2, r2, w2, k1, k2, k3⟩ := k
  refine ⟨_, _, _, _, h1.seq k1 hC, fun l e x => ?_, fun l e x => ?_⟩
  · exact e.elim (fun e => List.mem_append_right _ (h2 l e x)) (fun e => List.mem_append_left _ (k2 l e (by rw [h1.lim]; exact x)))
  · exact e.elim (fun e => List.mem_append_right _ (h3 l e x)) (fun e => List.mem_append_left _ (k3 l e (by rw [h1.lim]; exact x)))
theorem rOf_inl {α : Type} {o : Out α} {a : α} {s s' : St} (h : R.some a s = rOf o s') : o = .inl a ∧ s' = s := by cases o <;> cases h; exact ⟨rfl, rfl⟩
theorem rOf_inr {α : Type} {o : Out α} {c : List PanicEntry} {s s' : St} (h : R.pan c s = rOf o s') : o = .inr c ∧ s' = s := by cases o <;> cases h; exact ⟨rfl, rfl⟩
theorem rOf_none {α : Type} {o : Out α} {s' : St} (h : R.none = rOf o s') : False := by cases o <;> cases h
/-- Nothing touched. -/
theorem LocAt.quiet {α : Type} {m : M α} {s : St} {o : Out α} (hb : Bnd s) (h : ∀ t : St, t.cx = s.cx → m t = rOf o t) : LocAt m s o s :=
  ⟨fun _ => False, fun _ => False, [], [], ⟨rfl, rfl, Nat.le_refl _, rfl, hb, fun _ e => e.elim, fun _ e => e.elim, fun _ _ => rfl,
    fun t e1 e2 e3 _ => ⟨t, h t e3, e1, e2, e3, rfl, rfl, fun _ e => e.elim, fun _ _ => rfl⟩⟩, fun _ e => e.elim, fun _ e => e.elim⟩
theorem lo_pure {α : Type} (a : α) : Loc (M.pure a) := ⟨fun s o s' h hb => by
  obtain ⟨rfl, rfl⟩ := rOf_inl h
  exact .quiet hb fun t _ => rfl⟩
theorem lo_fail {α : Type} : Loc (M.fail : M α) := ⟨fun s o s' h hb => (rOf_none h).elim⟩
theorem lo_ofOpt {α : Type} (x : Option α) : Loc (M.ofOpt x) := by
  cases x with
  | none => exact lo_fail
  | some a => exact lo_pure a
/-- What comes behind a part, be it a value or a panic. -/
theorem lo_catch {α β : Type} {m : M α} {f : α → M β} {g : List PanicEntry → M β} (h : Loc m) (kf : ∀ a, Loc (f a)) (kg : ∀ c, Loc (g c)) :
    Loc (fun s => R.rec (motive := fun _ => R β) .none (fun a s => f a s) (fun c s => g c s) (m s)) := ⟨fun s o s' e hb => by
  cases e1 : m s with
  | none => rw [e1] at e; exact (rOf_none e).elim
  | some a s1 =>
    rw [e1] at e
    have h1 := h.at' s (.inl a) s1 e1 hb
    exact h1.seq ((kf a).at' s1 o s' e h1.bnd) fun t t1 q => by rw [q]; rfl
  | pan c s1 =>
    rw [e1] at e
    have h1 := h.at' s (.inr c) s1 e1 hb
    exact h1.seq ((kg c).at' s1 o s' e h1.bnd) fun t t1 q => by rw [q]; rfl⟩
theorem lo_throw {α : Type} (c : List PanicEntry) : Loc (fun s => R.pan c s : M α) := ⟨fun s o s' h hb => by
  obtain ⟨rfl, rfl⟩ := rOf_inr h
  exact .quiet hb fun t _ => rfl⟩
theorem lo_none {α : Type} : Loc (fun _ => R.none : M α) := ⟨fun s o s' h hb => (rOf_none h).elim⟩
theorem lo_bind {α β : Type} {m : M α} {f : α → M β} (h : Loc m) (k : ∀ a, Loc (f a)) : Loc (M.bind m f) := lo_catch h k fun c => lo_throw c
theorem lo_noP {α : Type} {m : M α} (h : Loc m) : Loc (noP m) := lo_catch h (fun a => lo_pure a) fun _ => lo_none
theorem lo_chk {α : Type} (b : Bool) {m : M α} (h : Loc m) : Loc (M.chk b m) := by
  cases b with
  | false => exact lo_fail
  | true => exact h
theorem lo_if {α : Type} (b : Bool) {m n : M α} (h : Loc m) (k : Loc n) : Loc (M.if b m n) := by cases b <;> assumption
theorem lo_on {α β : Type} (x : Option α) {f : α → M β} (k : ∀ a, Loc (f a)) : Loc (M.on x f) := by
  cases x with
  | none => exact lo_fail
  | some a => exact k a
theorem lo_fN {α : Type} (n : Nat) {f : Nat → M α} (k : ∀ a, Loc (f a)) : Loc (fN n f) := by rw [fN_eq]; exact k _
theorem lo_fI {α : Type} (n : Int) {f : Int → M α} (k : ∀ a, Loc (f a)) : Loc (fI n f) := by rw [fI_eq]; exact k _
theorem lo_fA {α : Type} (n : Addr) {f : Addr → M α} (k : ∀ a, Loc (f a)) : Loc (fA n f) := by rw [fA_eq]; exact k _
theorem lo_caseI {α : Type} (v : Value) {f : IntKind → Int → M α} {d : M α} (h : ∀ k n, Loc (f k n)) (k : Loc d) : Loc (caseI v f d) := by
  cases v <;> first | exact h _ _ | exact k
theorem lo_bool {α : Type} (b : Bool) {m n : M α} (h : Loc m) (k : Loc n) : Loc (Bool.rec (motive := fun _ => M α) m n b) := by cases b <;> assumption
theorem lo_opt {α β : Type} (x : Option α) {m : M β} {f : α → M β} (h : Loc m) (k : ∀ a, Loc (f a)) : Loc (Option.rec (motive := fun _ => M β) m (fun a => f a) x) := by
  cases x with
  | none => exact h
  | some a => exact k a
theorem notes_eq (loc lim : Nat) (l : List Nat) : notes loc lim l = if loc < lim then loc :: l else l := by
  unfold notes
  cases h : Nat.blt loc lim with
  | true => rw [if_pos (blt_lt h)]
  | false => rw [if_neg]; intro h2; rw [show Nat.blt loc lim = true from Nat.ble_eq_true_of_le h2] at h; cases h
theorem notes_app (loc lim : Nat) (l : List Nat) : notes loc lim l = notes loc lim [] ++ l := by
  rw [notes_eq, notes_eq]
  split <;> rfl
theorem notes_mem {loc lim : Nat} (h : loc < lim) : loc ∈ notes loc lim [] := by rw [notes_eq, if_pos h]; exact List.mem_cons_self
theorem rdC_def (loc : Nat) (s : St) : rdC loc s = if loc < s.next then match T.get s.mem loc with | none => .none | some c => .some c ⟨s.mem, s.next, s.lim, notes loc s.lim s.rd, s.wr, s.cx⟩ else .none := by
  obtain ⟨mem, next, lim, rd, wr, cx⟩ := s
  unfold rdC
  simp only
  cases hb : Nat.blt loc next with
  | false => rw [if_neg]; intro h2; rw [show Nat.blt loc next = true from Nat.ble_eq_true_of_le h2] at hb; cases hb
  | true =>
    rw [if_pos (blt_lt hb)]
    cases T.get mem loc <;> rfl
theorem wrC_def (loc : Nat) (c : Cell) (s : St) : wrC loc c s = if loc < s.next then .some () ⟨T.set s.mem loc c, s.next, s.lim, s.rd, notes loc s.lim s.wr, s.cx⟩ else .none := by
  obtain ⟨mem, next, lim, rd, wr, cx⟩ := s
  unfold wrC
  obtain ⟨v, l, r, e⟩ := T.set_N mem loc c
  simp only [e]
  cases hb : Nat.blt loc next with
  | false => rw [if_neg]; intro h2; rw [show Nat.blt loc next = true from Nat.ble_eq_true_of_le h2] at hb; cases hb
  | true => rw [if_pos (blt_lt hb)]
theorem delC_def (loc : Nat) (s : St) : delC loc s = if loc < s.next then .some () ⟨T.del s.mem loc, s.next, s.lim, s.rd, notes loc s.lim s.wr, s.cx⟩ else .none := by
  obtain ⟨mem, next, lim, rd, wr, cx⟩ := s
  unfold delC
  simp only
  cases hb : Nat.blt loc next with
  | false => rw [if_neg]; intro h2; rw [show Nat.blt loc next = true from Nat.ble_eq_true_of_le h2] at hb; cases hb
  | true => rw [if_pos (blt_lt hb)]
theorem newL_def (vs : List Value) (s : St) : newL vs s = .some s.next ⟨layL s.next vs s.next s.mem, s.next + vs.length + 1, s.lim, s.rd, s.wr, s.cx⟩ := by
  obtain ⟨mem, next, lim, rd, wr, cx⟩ := s
  have h0 : newL vs ⟨mem, next, lim, rd, wr, cx⟩ = fN next fun b => fN (Nat.succ (Nat.add b vs.length)) fun n => R.some b (St.mk (layL b vs b mem) n lim rd wr cx) := rfl
  rw [h0, fN_eq, fN_eq]
  rfl
theorem newO_def (o : AObj) (s : St) : newO o s = .some s.next ⟨T.set s.mem s.next (.O o), s.next + 1, s.lim, s.rd, s.wr, s.cx⟩ := by
  obtain ⟨mem, next, lim, rd, wr, cx⟩ := s
  have h0 : newO o ⟨mem, next, lim, rd, wr, cx⟩ = fN next fun b => fN (Nat.succ b) fun n => R.some b (St.mk (T.set mem b (.O o)) n lim rd wr cx) := rfl
  rw [h0, fN_eq, fN_eq]
theorem lo_rdC (loc : Nat) : Loc (rdC loc) := ⟨fun s o s' h hb => by
  rw [rdC_def] at h
  split at h
  case isFalse => exact (rOf_none h).elim
  case isTrue hl =>
    cases e : T.get s.mem loc with
    | none => rw [e] at h; exact (rOf_none h).elim
    | some c =>
      rw [e] at h
      obtain ⟨rfl, rfl⟩ := rOf_inl h
      refine ⟨fun l => l = loc, fun _ => False, notes loc s.lim [], [], ⟨notes_app _ _ _, rfl, Nat.le_refl _, rfl, hb, fun l e1 => by rw [e1]; exact hl, fun _ e => e.elim, fun _ _ => rfl, fun t e1 e2 e3 e4 => ?_⟩, fun l e1 e2 => ?_, fun _ e => e.elim⟩
      · refine ⟨⟨t.mem, t.next, t.lim, notes loc t.lim t.rd, t.wr, t.cx⟩, ?_, e1, e2, e3, ?_, rfl, fun _ e => e.elim, fun _ _ => rfl⟩
        · rw [rdC_def, if_pos (by rw [e1]; exact hl), e4 loc (.inl rfl), e]; rfl
        · rw [← e2]; exact notes_app _ _ _
      · rw [e1]; exact notes_mem (by rw [← e1]; exact e2)⟩
theorem lo_wrC (loc : Nat) (c : Cell) : Loc (wrC loc c) := ⟨fun s o s' h hb => by
  rw [wrC_def] at h
  split at h
  case isFalse => exact (rOf_none h).elim
  case isTrue hl =>
    obtain ⟨rfl, rfl⟩ := rOf_inl h
    refine ⟨fun _ => False, fun l => l = loc, [], notes loc s.lim [], ⟨rfl, notes_app _ _ _, Nat.le_refl _, rfl, hb, fun _ e => e.elim, fun l e1 => by rw [e1]; exact hl, fun l e => ?_, fun t e1 e2 e3 e4 => ?_⟩, fun _ e => e.elim, fun l e1 e2 => ?_⟩
    · simp only [T.get_set, if_neg e]
    · refine ⟨⟨T.set t.mem loc c, t.next, t.lim, t.rd, notes loc t.lim t.wr, t.cx⟩, ?_, e1, e2, e3, rfl, ?_, fun l e => ?_, fun l e => ?_⟩
      · rw [wrC_def, if_pos (by rw [e1]; exact hl)]; rfl
      · rw [← e2]; exact notes_app _ _ _
      · simp only [T.get_set, if_pos e]
      · simp only [T.get_set, if_neg e]
    · rw [e1]; exact notes_mem (by rw [← e1]; exact e2)⟩
theorem lo_delC (loc : Nat) : Loc (delC loc) := ⟨fun s o s' h hb => by
  rw [delC_def] at h
  split at h
  case isFalse => exact (rOf_none h).elim
  case isTrue hl =>
    obtain ⟨rfl, rfl⟩ := rOf_inl h
    refine ⟨fun _ => False, fun l => l = loc, [], notes loc s.lim [], ⟨rfl, notes_app _ _ _, Nat.le_refl _, rfl, hb, fun _ e => e.elim, fun l e1 => by rw [e1]; exact hl, fun l e => ?_, fun t e1 e2 e3 e4 => ?_⟩, fun _ e => e.elim, fun l e1 e2 => ?_⟩
    · simp only [T.get_del, if_neg e]
    · refine ⟨⟨T.del t.mem loc, t.next, t.lim, t.rd, notes loc t.lim t.wr, t.cx⟩, ?_, e1, e2, e3, rfl, ?_, fun l e => ?_, fun l e => ?_⟩
      · rw [delC_def, if_pos (by rw [e1]; exact hl)]; rfl
      · rw [← e2]; exact notes_app _ _ _
      · simp only [T.get_del, if_pos e]
      · simp only [T.get_del, if_neg e]
    · rw [e1]; exact notes_mem (by rw [← e1]; exact e2)⟩
theorem layL_eq (b : Nat) : ∀ (vs : List Value) (loc : Nat) (t : T Cell) (k : Nat), T.get (layL b vs loc t) k = if loc ≤ k ∧ k < loc + vs.length then (vs[k - loc]?).map (.C b) else T.get t k
  | [], loc, t, k => by rw [if_neg (fun e => by have := e.2; simp at this; omega)]; rfl
  | v :: vs, loc, t, k => by
    have h0 : layL b (v :: vs) loc t = fN loc fun loc => layL b vs (Nat.succ loc) (T.set t loc (.C b v)) := rfl
    rw [h0, fN_eq, layL_eq b vs]
    by_cases h1 : loc = k
    · subst h1
      rw [if_neg (by omega), if_pos (by simp), T.get_set, if_pos rfl]
      simp
    · by_cases h2 : loc ≤ k ∧ k < loc + (v :: vs).length
      · have h3 : k - loc = (k - Nat.succ loc) + 1 := by omega
        rw [if_pos h2, if_pos (by simp at h2 ⊢; omega), h3, List.getElem?_cons_succ]
      · rw [if_neg h2, if_neg (by simp at h2 ⊢; omega), T.get_set, if_neg (fun e => h1 e.symm)]
theorem lo_newL (vs : List Value) : Loc (newL vs) := ⟨fun s o s' h hb => by
  rw [newL_def] at h
  obtain ⟨rfl, rfl⟩ := rOf_inl h
  refine ⟨fun _ => False, fun l => s.next ≤ l ∧ l < s.next + vs.length, [], [], ⟨rfl, rfl, by show s.next ≤ s.next + vs.length + 1; omega, rfl, ?_, fun _ e => e.elim, fun l e => ?_, fun l e => ?_, fun t e1 e2 e3 e4 => ?_⟩, fun _ e => e.elim, fun l e1 e2 => ?_⟩
  · show s.lim ≤ s.next + vs.length + 1
    unfold Bnd at hb; omega
  · show l < s.next + vs.length + 1
    omega
  · simp only [layL_eq, if_neg e]
  · refine ⟨⟨layL t.next vs t.next t.mem, t.next + vs.length + 1, t.lim, t.rd, t.wr, t.cx⟩, ?_, by rw [e1], e2, e3, rfl, rfl, fun l e => ?_, fun l e => ?_⟩
    · rw [newL_def, e1]; rfl
    · simp only [layL_eq, e1, if_pos e]
    · simp only [layL_eq, e1, if_neg e]
  · unfold Bnd at hb; omega⟩
theorem lo_newO (x : AObj) : Loc (newO x) := ⟨fun s o s' h hb => by
  rw [newO_def] at h
  obtain ⟨rfl, rfl⟩ := rOf_inl h
  refine ⟨fun _ => False, fun l => l = s.next, [], [], ⟨rfl, rfl, by show s.next ≤ s.next + 1; omega, rfl, ?_, fun _ e => e.elim, fun l e => ?_, fun l e => ?_, fun t e1 e2 e3 e4 => ?_⟩, fun _ e => e.elim, fun l e1 e2 => ?_⟩
  · show s.lim ≤ s.next + 1
    unfold Bnd at hb; omega
  · show l < s.next + 1
    omega
  · simp only [T.get_set, if_neg e]
  · refine ⟨⟨T.set t.mem t.next (.O x), t.next + 1, t.lim, t.rd, t.wr, t.cx⟩, ?_, by rw [e1], e2, e3, rfl, rfl, fun l e => ?_, fun l e => ?_⟩
    · rw [newO_def, e1]; rfl
    · simp only [T.get_set, e1, if_pos e]
    · simp only [T.get_set, e1, if_neg e]
  · unfold Bnd at hb; omega⟩
theorem lo_getCx : Loc getCx := ⟨fun s o s' h hb => by
  obtain ⟨rfl, rfl⟩ := rOf_inl (show R.some s.cx s = rOf o s' from h)
  exact .quiet hb fun t e => by rw [← e]; rfl⟩
theorem lo_putCx (x : Ctx) : Loc (putCx x) := ⟨fun s o s' h hb => by
  obtain ⟨rfl, rfl⟩ := rOf_inl (show R.some () (St.mk s.mem s.next s.lim s.rd s.wr x) = rOf o s' from h)
  exact ⟨fun _ => False, fun _ => False, [], [], ⟨rfl, rfl, Nat.le_refl _, rfl, hb, fun _ e => e.elim, fun _ e => e.elim, fun _ _ => rfl,
    fun t e1 e2 e3 _ => ⟨St.mk t.mem t.next t.lim t.rd t.wr x, rfl, e1, e2, rfl, rfl, rfl, fun _ e => e.elim, fun _ _ => rfl⟩⟩, fun _ e => e.elim, fun _ e => e.elim⟩⟩
theorem lo_rdV (a : Addr) : Loc (rdV a) := by
  obtain ⟨b, o, s⟩ := a
  cases s with
  | some x => exact lo_fail
  | none => exact lo_bind (lo_rdC _) fun c => lo_ofOpt _
theorem lo_wrV (a : Addr) (v : Value) : Loc (wrV a v) := by
  obtain ⟨b, o, s⟩ := a
  cases s with
  | some x => exact lo_fail
  | none => exact lo_bind (lo_rdC _) fun c => lo_chk _ (lo_wrC _ _)
theorem lo_rdL : ∀ (n : Nat) (a : Addr), Loc (rdL n a)
  | 0, _ => lo_pure _
  | n + 1, a => by
    have h0 : rdL (n + 1) a = fA a fun a => M.bind (rdV a) fun v => M.bind (rdL n ⟨a.block, Nat.succ a.off, a.spot⟩) fun l => M.pure (v :: l) := rfl
    rw [h0]
    exact lo_fA _ fun a => lo_bind (lo_rdV a) fun v => lo_bind (lo_rdL n _) fun l => lo_pure _
theorem lo_wrL : ∀ (vs : List Value) (a : Addr), Loc (wrL vs a)
  | [], _ => lo_pure _
  | v :: vs, a => by
    have h0 : wrL (v :: vs) a = fA a fun a => M.bind (wrV a v) fun _ => wrL vs ⟨a.block, Nat.succ a.off, a.spot⟩ := rfl
    rw [h0]
    exact lo_fA _ fun a => lo_bind (lo_wrV a v) fun v => lo_wrL vs _
theorem lo_letGo : ∀ (n l : Nat), Loc (letGo n l)
  | 0, _ => lo_pure _
  | n + 1, l => by
    have h0 : letGo (n + 1) l = M.bind (delC l) fun _ => letGo n (l + 1) := rfl
    rw [h0]
    exact lo_bind (lo_delC l) fun _ => lo_letGo n _
theorem lo_ti (x0 : _) (x1 : _) : Loc (ti x0 x1) := by
  unfold ti
  repeat' (first | exact lo_pure _ | exact lo_fail | exact lo_ofOpt _ | apply lo_bind | apply lo_chk | apply lo_if | apply lo_on | apply lo_fN | apply lo_fI | apply lo_fA | apply lo_caseI | apply lo_bool | apply lo_opt | intro _ | split)
theorem lo_pV (x0 : _) : Loc (pV x0) := by
  unfold pV
  repeat' (first | exact lo_pure _ | exact lo_fail | exact lo_ofOpt _ | apply lo_bind | apply lo_chk | apply lo_if | apply lo_on | apply lo_fN | apply lo_fI | apply lo_fA | apply lo_caseI | apply lo_bool | apply lo_opt | intro _ | split)
theorem lo_refEq (x0 : _) (x1 : _) (x2 : _) (x3 : _) (x4 : _) : Loc (refEq x0 x1 x2 x3 x4) := by
  unfold refEq
  repeat' (first | exact lo_pure _ | exact lo_fail | exact lo_ofOpt _ | exact lo_ti _ _ | apply lo_bind | apply lo_chk | apply lo_if | apply lo_on | apply lo_fN | apply lo_fI | apply lo_fA | apply lo_caseI | apply lo_bool | apply lo_opt | intro _ | split)
theorem lo_unkOp (x0 : _) (x1 : _) : Loc (unkOp x0 x1) := by
  unfold unkOp
  repeat' (first | exact lo_pure _ | exact lo_fail | exact lo_ofOpt _ | apply lo_bind | apply lo_chk | apply lo_if | apply lo_on | apply lo_fN | apply lo_fI | apply lo_fA | apply lo_caseI | apply lo_bool | apply lo_opt | intro _ | split)
theorem lo_unkBin (x0 : _) (x1 : _) (x2 : _) : Loc (unkBin x0 x1 x2) := by
  unfold unkBin
  repeat' (first | exact lo_pure _ | exact lo_fail | exact lo_ofOpt _ | exact lo_unkOp _ _ | apply lo_bind | apply lo_chk | apply lo_if | apply lo_on | apply lo_fN | apply lo_fI | apply lo_fA | apply lo_caseI | apply lo_bool | apply lo_opt | intro _ | split)
theorem lo_binSlow (x0 : _) (x1 : _) (x2 : _) (x3 : _) (x4 : _) (x5 : _) (x6 : _) : Loc (binSlow x0 x1 x2 x3 x4 x5 x6) := by
  unfold binSlow
  repeat' (first | exact lo_pure _ | exact lo_fail | exact lo_ofOpt _ | exact lo_unkBin _ _ _ | exact lo_refEq _ _ _ _ _ | exact lo_pV _ | apply lo_bind | apply lo_chk | apply lo_if | apply lo_on | apply lo_fN | apply lo_fI | apply lo_fA | apply lo_caseI | apply lo_bool | apply lo_opt | intro _ | split)
theorem lo_lenOf (x0 : _) : Loc (lenOf x0) := by
  unfold lenOf
  repeat' (first | exact lo_pure _ | exact lo_fail | exact lo_ofOpt _ | apply lo_bind | apply lo_chk | apply lo_if | apply lo_on | apply lo_fN | apply lo_fI | apply lo_fA | apply lo_caseI | apply lo_bool | apply lo_opt | intro _ | split)
theorem lo_aLoad (x0 : _) (x1 : _) (x2 : _) : Loc (aLoad x0 x1 x2) := by
  unfold aLoad
  repeat' (first | exact lo_pure _ | exact lo_fail | exact lo_ofOpt _ | exact lo_ti _ _ | exact lo_rdL _ _ | exact lo_rdV _ | apply lo_bind | apply lo_chk | apply lo_if | apply lo_on | apply lo_fN | apply lo_fI | apply lo_fA | apply lo_caseI | apply lo_bool | apply lo_opt | intro _ | split)
theorem lo_aStore (x0 : _) (x1 : _) (x2 : _) (x3 : _) : Loc (aStore x0 x1 x2 x3) := by
  unfold aStore
  repeat' (first | exact lo_pure _ | exact lo_fail | exact lo_ofOpt _ | exact lo_ti _ _ | exact lo_wrL _ _ | apply lo_bind | apply lo_chk | apply lo_if | apply lo_on | apply lo_fN | apply lo_fI | apply lo_fA | apply lo_caseI | apply lo_bool | apply lo_opt | intro _ | split)
theorem lo_asA (x0 : _) : Loc (asA x0) := by
  unfold asA
  repeat' (first | exact lo_pure _ | exact lo_fail | exact lo_ofOpt _ | apply lo_bind | apply lo_chk | apply lo_if | apply lo_on | apply lo_fN | apply lo_fI | apply lo_fA | apply lo_caseI | apply lo_bool | apply lo_opt | intro _ | split)
theorem lo_bnd (x0 : _) (x1 : _) (x2 : _) : Loc (bnd x0 x1 x2) := by
  unfold bnd
  repeat' (first | exact lo_pure _ | exact lo_fail | exact lo_ofOpt _ | apply lo_bind | apply lo_chk | apply lo_if | apply lo_on | apply lo_fN | apply lo_fI | apply lo_fA | apply lo_caseI | apply lo_bool | apply lo_opt | intro _ | split)
theorem lo_ptrA (x0 : _) : Loc (ptrA x0) := by
  unfold ptrA
  repeat' (first | exact lo_pure _ | exact lo_fail | exact lo_ofOpt _ | apply lo_bind | apply lo_chk | apply lo_if | apply lo_on | apply lo_fN | apply lo_fI | apply lo_fA | apply lo_caseI | apply lo_bool | apply lo_opt | intro _ | split)
theorem lo_pSl (x0 : _) (x1 : _) (x2 : _) : Loc (pSl x0 x1 x2) := by
  unfold pSl
  repeat' (first | exact lo_pure _ | exact lo_fail | exact lo_ofOpt _ | apply lo_bind | apply lo_chk | apply lo_if | apply lo_on | apply lo_fN | apply lo_fI | apply lo_fA | apply lo_caseI | apply lo_bool | apply lo_opt | intro _ | split)
theorem lo_pN (x0 : _) : Loc (pN x0) := by
  unfold pN
  repeat' (first | exact lo_pure _ | exact lo_fail | exact lo_ofOpt _ | apply lo_bind | apply lo_chk | apply lo_if | apply lo_on | apply lo_fN | apply lo_fI | apply lo_fA | apply lo_caseI | apply lo_bool | apply lo_opt | intro _ | split)
theorem lo_slArr (x0 : _) (x1 : _) (x2 : _) (x3 : _) (x4 : _) : Loc (slArr x0 x1 x2 x3 x4) := by
  unfold slArr
  repeat' (first | exact lo_pure _ | exact lo_fail | exact lo_ofOpt _ | exact lo_pSl _ _ _ | exact lo_bnd _ _ _ | apply lo_bind | apply lo_chk | apply lo_if | apply lo_on | apply lo_fN | apply lo_fI | apply lo_fA | apply lo_caseI | apply lo_bool | apply lo_opt | intro _ | split)
theorem lo_slSl (x0 : _) (x1 : _) (x2 : _) (x3 : _) (x4 : _) (x5 : _) : Loc (slSl x0 x1 x2 x3 x4 x5) := by
  unfold slSl
  repeat' (first | exact lo_pure _ | exact lo_fail | exact lo_ofOpt _ | exact lo_pSl _ _ _ | exact lo_bnd _ _ _ | apply lo_bind | apply lo_chk | apply lo_if | apply lo_on | apply lo_fN | apply lo_fI | apply lo_fA | apply lo_caseI | apply lo_bool | apply lo_opt | intro _ | split)
theorem lo_slStr (x0 : _) (x1 : _) (x2 : _) : Loc (slStr x0 x1 x2) := by
  unfold slStr
  repeat' (first | exact lo_pure _ | exact lo_fail | exact lo_ofOpt _ | exact lo_bnd _ _ _ | apply lo_bind | apply lo_chk | apply lo_if | apply lo_on | apply lo_fN | apply lo_fI | apply lo_fA | apply lo_caseI | apply lo_bool | apply lo_opt | intro _ | split)
theorem lo_aSlice (x0 : _) (x1 : _) (x2 : _) (x3 : _) (x4 : _) : Loc (aSlice x0 x1 x2 x3 x4) := by
  unfold aSlice
  repeat' (first | exact lo_pure _ | exact lo_fail | exact lo_ofOpt _ | exact lo_slStr _ _ _ | exact lo_slSl _ _ _ _ _ _ | exact lo_slArr _ _ _ _ _ | exact lo_bnd _ _ _ | exact lo_ti _ _ | apply lo_bind | apply lo_chk | apply lo_if | apply lo_on | apply lo_fN | apply lo_fI | apply lo_fA | apply lo_caseI | apply lo_bool | apply lo_opt | intro _ | split)
theorem lo_srcL (x0 : _) (x1 : _) (x2 : _) : Loc (srcL x0 x1 x2) := by
  unfold srcL
  repeat' (first | exact lo_pure _ | exact lo_fail | exact lo_ofOpt _ | exact lo_rdL _ _ | apply lo_bind | apply lo_chk | apply lo_if | apply lo_on | apply lo_fN | apply lo_fI | apply lo_fA | apply lo_caseI | apply lo_bool | apply lo_opt | intro _ | split)
theorem lo_appN (x0 : _) (x1 : _) (x2 : _) : Loc (appN x0 x1 x2) := by
  unfold appN
  repeat' (first | exact lo_pure _ | exact lo_fail | exact lo_ofOpt _ | apply lo_bind | apply lo_chk | apply lo_if | apply lo_on | apply lo_fN | apply lo_fI | apply lo_fA | apply lo_caseI | apply lo_bool | apply lo_opt | intro _ | split)
theorem lo_appL (x0 : _) (x1 : _) (x2 : _) (x3 : _) : Loc (appL x0 x1 x2 x3) := by
  unfold appL
  repeat' (first | exact lo_pure _ | exact lo_fail | exact lo_ofOpt _ | exact lo_srcL _ _ _ | apply lo_bind | apply lo_chk | apply lo_if | apply lo_on | apply lo_fN | apply lo_fI | apply lo_fA | apply lo_caseI | apply lo_bool | apply lo_opt | intro _ | split)
theorem lo_oldL (x0 : _) (x1 : _) (x2 : _) : Loc (oldL x0 x1 x2) := by
  unfold oldL
  repeat' (first | exact lo_pure _ | exact lo_fail | exact lo_ofOpt _ | exact lo_rdL _ _ | apply lo_bind | apply lo_chk | apply lo_if | apply lo_on | apply lo_fN | apply lo_fI | apply lo_fA | apply lo_caseI | apply lo_bool | apply lo_opt | intro _ | split)
theorem lo_goOld (x0 : _) (x1 : _) (x2 : _) : Loc (goOld x0 x1 x2) := by
  unfold goOld
  repeat' (first | exact lo_pure _ | exact lo_fail | exact lo_ofOpt _ | exact lo_letGo _ _ | apply lo_bind | apply lo_chk | apply lo_if | apply lo_on | apply lo_fN | apply lo_fI | apply lo_fA | apply lo_caseI | apply lo_bool | apply lo_opt | intro _ | split)
theorem lo_useUp (x0 : _) (x1 : _) (x2 : _) (x3 : _) : Loc (useUp x0 x1 x2 x3) := by
  unfold useUp
  repeat' (first | exact lo_pure _ | exact lo_fail | exact lo_ofOpt _ | exact lo_goOld _ _ _ | exact lo_wrC _ _ | exact lo_rdC _ | apply lo_bind | apply lo_chk | apply lo_if | apply lo_on | apply lo_fN | apply lo_fI | apply lo_fA | apply lo_caseI | apply lo_bool | apply lo_opt | intro _ | split)
theorem lo_grow (x0 : _) (x1 : _) (x2 : _) (x3 : _) (x4 : _) (x5 : _) (x6 : _) : Loc (grow x0 x1 x2 x3 x4 x5 x6) := by
  unfold grow
  repeat' (first | exact lo_pure _ | exact lo_fail | exact lo_ofOpt _ | exact lo_useUp _ _ _ _ | exact lo_oldL _ _ _ | exact lo_pSl _ _ _ | exact lo_newL _ | exact lo_wrC _ _ | apply lo_bind | apply lo_chk | apply lo_if | apply lo_on | apply lo_fN | apply lo_fI | apply lo_fA | apply lo_caseI | apply lo_bool | apply lo_opt | intro _ | split)
theorem lo_inRoom (x0 : _) (x1 : _) (x2 : _) (x3 : _) (x4 : _) (x5 : _) : Loc (inRoom x0 x1 x2 x3 x4 x5) := by
  unfold inRoom
  repeat' (first | exact lo_pure _ | exact lo_fail | exact lo_ofOpt _ | exact lo_pSl _ _ _ | exact lo_wrL _ _ | apply lo_bind | apply lo_chk | apply lo_if | apply lo_on | apply lo_fN | apply lo_fI | apply lo_fA | apply lo_caseI | apply lo_bool | apply lo_opt | intro _ | split)
theorem lo_aAppend (x0 : _) (x1 : _) (x2 : _) (x3 : _) (x4 : _) : Loc (aAppend x0 x1 x2 x3 x4) := by
  unfold aAppend
  repeat' (first | exact lo_pure _ | exact lo_fail | exact lo_ofOpt _ | exact lo_inRoom _ _ _ _ _ _ | exact lo_grow _ _ _ _ _ _ _ | exact lo_appL _ _ _ _ | exact lo_appN _ _ _ | exact lo_ti _ _ | apply lo_bind | apply lo_chk | apply lo_if | apply lo_on | apply lo_fN | apply lo_fI | apply lo_fA | apply lo_caseI | apply lo_bool | apply lo_opt | intro _ | split)
theorem lo_aBuild (x0 : _) (x1 : _) (x2 : _) : Loc (aBuild x0 x1 x2) := by
  unfold aBuild
  repeat' (first | exact lo_pure _ | exact lo_fail | exact lo_ofOpt _ | exact lo_ti _ _ | apply lo_bind | apply lo_chk | apply lo_if | apply lo_on | apply lo_fN | apply lo_fI | apply lo_fA | apply lo_caseI | apply lo_bool | apply lo_opt | intro _ | split)
theorem lo_aBuildS (x0 : _) (x1 : _) (x2 : _) (x3 : _) : Loc (aBuildS x0 x1 x2 x3) := by
  unfold aBuildS
  repeat' (first | exact lo_pure _ | exact lo_fail | exact lo_ofOpt _ | exact lo_ti _ _ | exact lo_newL _ | exact lo_wrC _ _ | apply lo_bind | apply lo_chk | apply lo_if | apply lo_on | apply lo_fN | apply lo_fI | apply lo_fA | apply lo_caseI | apply lo_bool | apply lo_opt | intro _ | split)
theorem lo_partV (x0 : _) (x1 : _) (x2 : _) (x3 : _) : Loc (partV x0 x1 x2 x3) := by
  unfold partV
  repeat' (first | exact lo_pure _ | exact lo_fail | exact lo_ofOpt _ | exact lo_ti _ _ | apply lo_bind | apply lo_chk | apply lo_if | apply lo_on | apply lo_fN | apply lo_fI | apply lo_fA | apply lo_caseI | apply lo_bool | apply lo_opt | intro _ | split)
theorem lo_aCopy (x0 : _) (x1 : _) (x2 : _) (x3 : _) (x4 : _) : Loc (aCopy x0 x1 x2 x3 x4) := by
  unfold aCopy
  repeat' (first | exact lo_pure _ | exact lo_fail | exact lo_ofOpt _ | exact lo_srcL _ _ _ | exact lo_pN _ | exact lo_lenOf _ | exact lo_ti _ _ | exact lo_wrL _ _ | apply lo_bind | apply lo_chk | apply lo_if | apply lo_on | apply lo_fN | apply lo_fI | apply lo_fA | apply lo_caseI | apply lo_bool | apply lo_opt | intro _ | split)
theorem lo_mapAt (x0 : _) : Loc (mapAt x0) := by
  unfold mapAt
  repeat' (first | exact lo_pure _ | exact lo_fail | exact lo_ofOpt _ | exact lo_rdC _ | apply lo_bind | apply lo_chk | apply lo_if | apply lo_on | apply lo_fN | apply lo_fI | apply lo_fA | apply lo_caseI | apply lo_bool | apply lo_opt | intro _ | split)
theorem lo_kLenM (x0 : _) : Loc (kLenM x0) := by
  unfold kLenM
  repeat' (first | exact lo_pure _ | exact lo_fail | exact lo_ofOpt _ | exact lo_mapAt _ | exact lo_pN _ | apply lo_bind | apply lo_chk | apply lo_if | apply lo_on | apply lo_fN | apply lo_fI | apply lo_fA | apply lo_caseI | apply lo_bool | apply lo_opt | intro _ | split)
theorem lo_aLen (x0 : _) (x1 : _) (x2 : _) : Loc (aLen x0 x1 x2) := by
  unfold aLen
  repeat' (first | exact lo_pure _ | exact lo_fail | exact lo_ofOpt _ | exact lo_kLenM _ | exact lo_pN _ | exact lo_ti _ _ | apply lo_bind | apply lo_chk | apply lo_if | apply lo_on | apply lo_fN | apply lo_fI | apply lo_fA | apply lo_caseI | apply lo_bool | apply lo_opt | intro _ | split)
theorem lo_aCap (x0 : _) (x1 : _) (x2 : _) : Loc (aCap x0 x1 x2) := by
  unfold aCap
  repeat' (first | exact lo_pure _ | exact lo_fail | exact lo_ofOpt _ | exact lo_pN _ | exact lo_ti _ _ | apply lo_bind | apply lo_chk | apply lo_if | apply lo_on | apply lo_fN | apply lo_fI | apply lo_fA | apply lo_caseI | apply lo_bool | apply lo_opt | intro _ | split)
theorem lo_kClear (x0 : _) (x1 : _) (x2 : _) : Loc (kClear x0 x1 x2) := by
  unfold kClear
  repeat' (first | exact lo_pure _ | exact lo_fail | exact lo_ofOpt _ | exact lo_ti _ _ | exact lo_wrL _ _ | apply lo_bind | apply lo_chk | apply lo_if | apply lo_on | apply lo_fN | apply lo_fI | apply lo_fA | apply lo_caseI | apply lo_bool | apply lo_opt | intro _ | split)
theorem lo_zeroV (x0 : _) : Loc (zeroV x0) := by
  unfold zeroV
  repeat' (first | exact lo_pure _ | exact lo_fail | exact lo_ofOpt _ | apply lo_bind | apply lo_chk | apply lo_if | apply lo_on | apply lo_fN | apply lo_fI | apply lo_fA | apply lo_caseI | apply lo_bool | apply lo_opt | intro _ | split)
theorem lo_findM (E : _) (e : _) (t : _) (k : _) (es : _) : Loc (findM E e t k es) := lo_chk _ (lo_on _ fun _ => lo_pure _)
theorem lo_pickOk (x0 : _) (x1 : _) (x2 : _) : Loc (pickOk x0 x1 x2) := by
  unfold pickOk
  repeat' (first | exact lo_pure _ | exact lo_fail | exact lo_ofOpt _ | apply lo_bind | apply lo_chk | apply lo_if | apply lo_on | apply lo_fN | apply lo_fI | apply lo_fA | apply lo_caseI | apply lo_bool | apply lo_opt | intro _ | split)
theorem lo_zeroOf (x0 : _) (x1 : _) : Loc (zeroOf x0 x1) := by
  unfold zeroOf
  repeat' (first | exact lo_pure _ | exact lo_fail | exact lo_ofOpt _ | exact lo_zeroV _ | exact lo_ti _ _ | apply lo_bind | apply lo_chk | apply lo_if | apply lo_on | apply lo_fN | apply lo_fI | apply lo_fA | apply lo_caseI | apply lo_bool | apply lo_opt | intro _ | split)
theorem lo_kLookN (E : _) (a : _) (b : _) (k : _) (c : _) : Loc (kLookN E a b k c) := lo_bind (lo_findM _ _ _ _ _) fun r => by
    cases r with
    | none => exact lo_bind (lo_zeroOf _ _) fun _ => lo_pickOk _ _ _
    | some j => exact lo_fail
theorem lo_kLookL (E : _) (a : _) (b : _) (k : _) (c : _) (es : _) : Loc (kLookL E a b k c es) := lo_bind (lo_findM _ _ _ _ _) fun r => by
    cases r with
    | none => exact lo_bind (lo_zeroOf _ _) fun _ => lo_pickOk _ _ _
    | some j => exact lo_on _ fun _ => lo_pickOk _ _ _
theorem lo_mapT (x0 : _) (x1 : _) : Loc (mapT x0 x1) := by
  unfold mapT
  repeat' (first | exact lo_pure _ | exact lo_fail | exact lo_ofOpt _ | exact lo_ti _ _ | apply lo_bind | apply lo_chk | apply lo_if | apply lo_on | apply lo_fN | apply lo_fI | apply lo_fA | apply lo_caseI | apply lo_bool | apply lo_opt | intro _ | split)
theorem lo_kLook (E : _) (t : _) (c : _) (x : _) (k : _) : Loc (kLook E t c x k) := lo_bind (lo_mapT _ _) fun ke => by
    cases x with
    | map m =>
      cases m with
      | none => exact lo_kLookN _ _ _ _ _
      | some l => exact lo_bind (lo_mapAt _) fun p => lo_kLookL _ _ _ _ _ _
    | _ => exact lo_fail
theorem lo_putE (E : _) (t : _) (k : _) (x : _) (l : _) (p : _) : Loc (putE E t k x l p) := lo_bind (lo_findM _ _ _ _ _) fun r => by
    cases r with
    | none => exact lo_wrC _ _
    | some j => exact lo_on _ fun _ => lo_chk _ (lo_wrC _ _)
theorem lo_kMapUp (E : _) (t : _) (m : _) (k : _) (x : _) : Loc (kMapUp E t m k x) := lo_bind (lo_mapT _ _) fun ke => by
    cases m with
    | map m =>
      cases m with
      | none => exact lo_fail
      | some l => exact lo_bind (lo_mapAt _) fun p => lo_bind (lo_putE _ _ _ _ _ _) fun _ => lo_pure _
    | _ => exact lo_fail
theorem lo_entE (E : _) (a : _) (b : _) (k : _) (l : _) (p : _) : Loc (entE E a b k l p) := lo_bind (lo_findM _ _ _ _ _) fun r => by
    cases r with
    | none => exact lo_bind (lo_zeroOf _ _) fun _ => lo_bind (lo_wrC _ _) fun _ => lo_pure _
    | some j => exact lo_on _ fun _ => lo_chk _ (lo_bind (lo_wrC _ _) fun _ => lo_pure _)
theorem lo_kMapEnt (E : _) (t : _) (m : _) (k : _) : Loc (kMapEnt E t m k) := lo_bind (lo_mapT _ _) fun ke => by
    cases m with
    | map m =>
      cases m with
      | none => exact lo_fail
      | some l => exact lo_bind (lo_mapAt _) fun p => lo_entE _ _ _ _ _ _
    | _ => exact lo_fail
theorem lo_kEntSt (x0 : _) (x1 : _) (x2 : _) : Loc (kEntSt x0 x1 x2) := by
  unfold kEntSt
  repeat' (first | exact lo_pure _ | exact lo_fail | exact lo_ofOpt _ | exact lo_mapAt _ | exact lo_wrC _ _ | apply lo_bind | apply lo_chk | apply lo_if | apply lo_on | apply lo_fN | apply lo_fI | apply lo_fA | apply lo_caseI | apply lo_bool | apply lo_opt | intro _ | split)
theorem lo_kMkMap : Loc (kMkMap) := by
  unfold kMkMap
  repeat' (first | exact lo_pure _ | exact lo_fail | exact lo_ofOpt _ | exact lo_newO _ | apply lo_bind | apply lo_chk | apply lo_if | apply lo_on | apply lo_fN | apply lo_fI | apply lo_fA | apply lo_caseI | apply lo_bool | apply lo_opt | intro _ | split)
theorem lo_kMkMapR (x0 : _) (x1 : _) (x2 : _) : Loc (kMkMapR x0 x1 x2) := by
  unfold kMkMapR
  repeat' (first | exact lo_pure _ | exact lo_fail | exact lo_ofOpt _ | exact lo_kMkMap | exact lo_mapT _ _ | apply lo_bind | apply lo_chk | apply lo_if | apply lo_on | apply lo_fN | apply lo_fI | apply lo_fA | apply lo_caseI | apply lo_bool | apply lo_opt | intro _ | split)
theorem lo_kDel (E : _) (t : _) (m : _) (k : _) : Loc (kDel E t m k) := lo_bind (lo_mapT _ _) fun ke => by
    cases m with
    | map m =>
      cases m with
      | none => exact lo_bind (lo_findM _ _ _ _ _) fun _ => lo_pure _
      | some l => exact lo_bind (lo_mapAt _) fun p => lo_bind (lo_findM _ _ _ _ _) fun r => by cases r <;> exact lo_bind (lo_wrC _ _) fun _ => lo_pure _
    | _ => exact lo_fail
theorem lo_aBuiltin (x0 : _) (x1 : _) (x2 : _) (x3 : _) : Loc (aBuiltin x0 x1 x2 x3) := by
  unfold aBuiltin
  repeat' (first | exact lo_pure _ | exact lo_fail | exact lo_ofOpt _ | exact lo_kDel _ _ _ _ | exact lo_kClear _ _ _ | exact lo_aCap _ _ _ | exact lo_aLen _ _ _ | exact lo_aCopy _ _ _ _ _ | exact lo_aAppend _ _ _ _ _ | exact lo_pV _ | apply lo_bind | apply lo_chk | apply lo_if | apply lo_on | apply lo_fN | apply lo_fI | apply lo_fA | apply lo_caseI | apply lo_bool | apply lo_opt | intro _ | split)
theorem lo_idxN (x0 : _) (x1 : _) (x2 : _) (x3 : _) : Loc (idxN x0 x1 x2 x3) := by
  unfold idxN
  repeat' (first | exact lo_pure _ | exact lo_fail | exact lo_ofOpt _ | exact lo_ptrA _ | exact lo_ti _ _ | apply lo_bind | apply lo_chk | apply lo_if | apply lo_on | apply lo_fN | apply lo_fI | apply lo_fA | apply lo_caseI | apply lo_bool | apply lo_opt | intro _ | split)
theorem lo_asN (x0 : _) : Loc (asN x0) := by
  unfold asN
  repeat' (first | exact lo_pure _ | exact lo_fail | exact lo_ofOpt _ | apply lo_bind | apply lo_chk | apply lo_if | apply lo_on | apply lo_fN | apply lo_fI | apply lo_fA | apply lo_caseI | apply lo_bool | apply lo_opt | intro _ | split)
theorem lo_kPick (x0 : _) (x1 : _) (x2 : _) : Loc (kPick x0 x1 x2) := by
  unfold kPick
  repeat' (first | exact lo_pure _ | exact lo_fail | exact lo_ofOpt _ | apply lo_bind | apply lo_chk | apply lo_if | apply lo_on | apply lo_fN | apply lo_fI | apply lo_fA | apply lo_caseI | apply lo_bool | apply lo_opt | intro _ | split)
theorem lo_ptrN (x0 : _) : Loc (ptrN x0) := by
  unfold ptrN
  repeat' (first | exact lo_pure _ | exact lo_fail | exact lo_ofOpt _ | apply lo_bind | apply lo_chk | apply lo_if | apply lo_on | apply lo_fN | apply lo_fI | apply lo_fA | apply lo_caseI | apply lo_bool | apply lo_opt | intro _ | split)
theorem lo_kAlloc (x0 : _) (x1 : _) : Loc (kAlloc x0 x1) := by
  unfold kAlloc
  repeat' (first | exact lo_pure _ | exact lo_fail | exact lo_ofOpt _ | exact lo_ptrN _ | exact lo_ti _ _ | exact lo_newL _ | apply lo_bind | apply lo_chk | apply lo_if | apply lo_on | apply lo_fN | apply lo_fI | apply lo_fA | apply lo_caseI | apply lo_bool | apply lo_opt | intro _ | split)
theorem lo_kBox (x0 : _) : Loc (kBox x0) := by
  unfold kBox
  repeat' (first | exact lo_pure _ | exact lo_fail | exact lo_ofOpt _ | exact lo_ptrN _ | exact lo_newL _ | apply lo_bind | apply lo_chk | apply lo_if | apply lo_on | apply lo_fN | apply lo_fI | apply lo_fA | apply lo_caseI | apply lo_bool | apply lo_opt | intro _ | split)
theorem lo_kLoad (x0 : _) (x1 : _) (x2 : _) : Loc (kLoad x0 x1 x2) := by
  unfold kLoad
  repeat' (first | exact lo_pure _ | exact lo_fail | exact lo_ofOpt _ | exact lo_asA _ | exact lo_aLoad _ _ _ | apply lo_bind | apply lo_chk | apply lo_if | apply lo_on | apply lo_fN | apply lo_fI | apply lo_fA | apply lo_caseI | apply lo_bool | apply lo_opt | intro _ | split)
theorem lo_kStore (x0 : _) (x1 : _) (x2 : _) (x3 : _) : Loc (kStore x0 x1 x2 x3) := by
  unfold kStore
  repeat' (first | exact lo_pure _ | exact lo_fail | exact lo_ofOpt _ | exact lo_asA _ | exact lo_aStore _ _ _ _ | apply lo_bind | apply lo_chk | apply lo_if | apply lo_on | apply lo_fN | apply lo_fI | apply lo_fA | apply lo_caseI | apply lo_bool | apply lo_opt | intro _ | split)
theorem lo_kNil (x0 : _) : Loc (kNil x0) := by
  unfold kNil
  repeat' (first | exact lo_pure _ | exact lo_fail | exact lo_ofOpt _ | apply lo_bind | apply lo_chk | apply lo_if | apply lo_on | apply lo_fN | apply lo_fI | apply lo_fA | apply lo_caseI | apply lo_bool | apply lo_opt | intro _ | split)
theorem lo_pB (b : Bool) : Loc (pB b) := by cases b <;> exact lo_pure _
theorem lo_unSlow (x0 : _) (x1 : _) (x2 : _) : Loc (unSlow x0 x1 x2) := by
  unfold unSlow
  repeat' (first | exact lo_pure _ | exact lo_fail | exact lo_ofOpt _ | exact lo_pV _ | apply lo_bind | apply lo_chk | apply lo_if | apply lo_on | apply lo_fN | apply lo_fI | apply lo_fA | apply lo_caseI | apply lo_bool | apply lo_opt | intro _ | split)
theorem lo_xorU (P : Program) (v : Value) : Loc (xorU P v) := by
  have h := lo_unSlow P .xor v
  cases v with
  | int k n =>
    cases n with
    | negSucc m => exact lo_unSlow P .xor (.int k (.negSucc m))
    | ofNat m =>
      show Loc (Option.rec (motive := fun _ => M Value) (unSlow P .xor (.int k (.ofNat m))) (fun x => M.pure x) (notK k m))
      exact lo_opt _ (lo_unSlow _ _ _) fun _ => lo_pure _
  | _ => exact h
theorem lo_kUn (x0 : _) (x1 : _) (x2 : _) : Loc (kUn x0 x1 x2) := by
  unfold kUn
  repeat' (first | exact lo_pure _ | exact lo_fail | exact lo_ofOpt _ | exact lo_xorU _ _ | exact lo_unSlow _ _ _ | exact lo_pB _ | apply lo_bind | apply lo_chk | apply lo_if | apply lo_on | apply lo_fN | apply lo_fI | apply lo_fA | apply lo_caseI | apply lo_bool | apply lo_opt | intro _ | split)
theorem lo_strOf (x0 : _) (x1 : _) : Loc (strOf x0 x1) := by
  unfold strOf
  repeat' (first | exact lo_pure _ | exact lo_fail | exact lo_ofOpt _ | exact lo_rdL _ _ | apply lo_bind | apply lo_chk | apply lo_if | apply lo_on | apply lo_fN | apply lo_fI | apply lo_fA | apply lo_caseI | apply lo_bool | apply lo_opt | intro _ | split)
theorem lo_convSl (x0 : _) (x1 : _) (x2 : _) (x3 : _) (x4 : _) : Loc (convSl x0 x1 x2 x3 x4) := by
  unfold convSl
  repeat' (first | exact lo_pure _ | exact lo_fail | exact lo_ofOpt _ | exact lo_strOf _ _ | exact lo_ti _ _ | apply lo_bind | apply lo_chk | apply lo_if | apply lo_on | apply lo_fN | apply lo_fI | apply lo_fA | apply lo_caseI | apply lo_bool | apply lo_opt | intro _ | split)
theorem lo_convI (x0 : _) (x1 : _) (x2 : _) (x3 : _) (x4 : _) : Loc (convI x0 x1 x2 x3 x4) := by
  unfold convI
  repeat' (first | exact lo_pure _ | exact lo_fail | exact lo_ofOpt _ | exact lo_pV _ | exact lo_ti _ _ | apply lo_bind | apply lo_chk | apply lo_if | apply lo_on | apply lo_fN | apply lo_fI | apply lo_fA | apply lo_caseI | apply lo_bool | apply lo_opt | intro _ | split)
theorem lo_kConv (x0 : _) (x1 : _) (x2 : _) (x3 : _) : Loc (kConv x0 x1 x2 x3) := by
  unfold kConv
  repeat' (first | exact lo_pure _ | exact lo_fail | exact lo_ofOpt _ | exact lo_convI _ _ _ _ _ | exact lo_convSl _ _ _ _ _ | exact lo_pV _ | apply lo_bind | apply lo_chk | apply lo_if | apply lo_on | apply lo_fN | apply lo_fI | apply lo_fA | apply lo_caseI | apply lo_bool | apply lo_opt | intro _ | split)
theorem lo_rowN (x0 : _) (x1 : _) : Loc (rowN x0 x1) := by
  unfold rowN
  repeat' (first | exact lo_pure _ | exact lo_fail | exact lo_ofOpt _ | exact lo_pSl _ _ _ | exact lo_newL _ | exact lo_wrC _ _ | apply lo_bind | apply lo_chk | apply lo_if | apply lo_on | apply lo_fN | apply lo_fI | apply lo_fA | apply lo_caseI | apply lo_bool | apply lo_opt | intro _ | split)
theorem lo_strBs (l : List UInt8) : Loc (strBs l) := by
  unfold strBs
  rw [fBs_eq]
  exact lo_fN _ fun n => lo_rowN _ _
theorem lo_convStr (x0 : _) (x1 : _) (x2 : _) (x3 : _) : Loc (convStr x0 x1 x2 x3) := by
  unfold convStr
  repeat' (first | exact lo_pure _ | exact lo_fail | exact lo_ofOpt _ | exact lo_strBs _ | exact lo_kConv _ _ _ _ | exact lo_ti _ _ | apply lo_bind | apply lo_chk | apply lo_if | apply lo_on | apply lo_fN | apply lo_fI | apply lo_fA | apply lo_caseI | apply lo_bool | apply lo_opt | intro _ | split)
theorem lo_convSS (x0 : _) (x1 : _) (x2 : _) (x3 : _) (x4 : _) (x5 : _) : Loc (convSS x0 x1 x2 x3 x4 x5) := by
  unfold convSS
  repeat' (first | exact lo_pure _ | exact lo_fail | exact lo_ofOpt _ | exact lo_kConv _ _ _ _ | exact lo_ti _ _ | exact lo_rdL _ _ | exact lo_rdC _ | apply lo_bind | apply lo_chk | apply lo_if | apply lo_on | apply lo_fN | apply lo_fI | apply lo_fA | apply lo_caseI | apply lo_bool | apply lo_opt | intro _ | split)
theorem lo_kConvB (x0 : _) (x1 : _) (x2 : _) (x3 : _) : Loc (kConvB x0 x1 x2 x3) := by
  unfold kConvB
  repeat' (first | exact lo_pure _ | exact lo_fail | exact lo_ofOpt _ | exact lo_convSS _ _ _ _ _ _ | exact lo_convStr _ _ _ _ | exact lo_kConv _ _ _ _ | apply lo_bind | apply lo_chk | apply lo_if | apply lo_on | apply lo_fN | apply lo_fI | apply lo_fA | apply lo_caseI | apply lo_bool | apply lo_opt | intro _ | split)
theorem lo_slArrP (x0 : _) (x1 : _) : Loc (slArrP x0 x1) := by
  unfold slArrP
  repeat' (first | exact lo_pure _ | exact lo_fail | exact lo_ofOpt _ | apply lo_bind | apply lo_chk | apply lo_if | apply lo_on | apply lo_fN | apply lo_fI | apply lo_fA | apply lo_caseI | apply lo_bool | apply lo_opt | intro _ | split)
theorem lo_kSlArr (x0 : _) (x1 : _) (x2 : _) : Loc (kSlArr x0 x1 x2) := by
  unfold kSlArr
  repeat' (first | exact lo_pure _ | exact lo_fail | exact lo_ofOpt _ | exact lo_slArrP _ _ | exact lo_ti _ _ | apply lo_bind | apply lo_chk | apply lo_if | apply lo_on | apply lo_fN | apply lo_fI | apply lo_fA | apply lo_caseI | apply lo_bool | apply lo_opt | intro _ | split)
theorem lo_kIface (x0 : _) (x1 : _) (x2 : _) : Loc (kIface x0 x1 x2) := by
  unfold kIface
  repeat' (first | exact lo_pure _ | exact lo_fail | exact lo_ofOpt _ | exact lo_ti _ _ | apply lo_bind | apply lo_chk | apply lo_if | apply lo_on | apply lo_fN | apply lo_fI | apply lo_fA | apply lo_caseI | apply lo_bool | apply lo_opt | intro _ | split)
theorem lo_mkSl (x0 : _) (x1 : _) (x2 : _) (x3 : _) : Loc (mkSl x0 x1 x2 x3) := by
  unfold mkSl
  repeat' (first | exact lo_pure _ | exact lo_fail | exact lo_ofOpt _ | exact lo_ti _ _ | exact lo_newL _ | apply lo_bind | apply lo_chk | apply lo_if | apply lo_on | apply lo_fN | apply lo_fI | apply lo_fA | apply lo_caseI | apply lo_bool | apply lo_opt | intro _ | split)
theorem lo_kMkSl (x0 : _) (x1 : _) (x2 : _) (x3 : _) : Loc (kMkSl x0 x1 x2 x3) := by
  unfold kMkSl
  repeat' (first | exact lo_pure _ | exact lo_fail | exact lo_ofOpt _ | exact lo_mkSl _ _ _ _ | exact lo_asN _ | exact lo_ti _ _ | apply lo_bind | apply lo_chk | apply lo_if | apply lo_on | apply lo_fN | apply lo_fI | apply lo_fA | apply lo_caseI | apply lo_bool | apply lo_opt | intro _ | split)
theorem lo_fldOf (x0 : _) (x1 : _) (x2 : _) : Loc (fldOf x0 x1 x2) := by
  unfold fldOf
  repeat' (first | exact lo_pure _ | exact lo_fail | exact lo_ofOpt _ | exact lo_ti _ _ | apply lo_bind | apply lo_chk | apply lo_if | apply lo_on | apply lo_fN | apply lo_fI | apply lo_fA | apply lo_caseI | apply lo_bool | apply lo_opt | intro _ | split)
theorem lo_kFld (x0 : _) (x1 : _) (x2 : _) (x3 : _) : Loc (kFld x0 x1 x2 x3) := by
  unfold kFld
  repeat' (first | exact lo_pure _ | exact lo_fail | exact lo_ofOpt _ | exact lo_fldOf _ _ _ | exact lo_ptrA _ | exact lo_asA _ | exact lo_ti _ _ | apply lo_bind | apply lo_chk | apply lo_if | apply lo_on | apply lo_fN | apply lo_fI | apply lo_fA | apply lo_caseI | apply lo_bool | apply lo_opt | intro _ | split)
theorem lo_asCs (x0 : _) : Loc (asCs x0) := by
  unfold asCs
  repeat' (first | exact lo_pure _ | exact lo_fail | exact lo_ofOpt _ | apply lo_bind | apply lo_chk | apply lo_if | apply lo_on | apply lo_fN | apply lo_fI | apply lo_fA | apply lo_caseI | apply lo_bool | apply lo_opt | intro _ | split)
theorem lo_kField (x0 : _) (x1 : _) (x2 : _) (x3 : _) : Loc (kField x0 x1 x2 x3) := by
  unfold kField
  repeat' (first | exact lo_pure _ | exact lo_fail | exact lo_ofOpt _ | exact lo_asCs _ | exact lo_fldOf _ _ _ | exact lo_partV _ _ _ _ | exact lo_ti _ _ | apply lo_bind | apply lo_chk | apply lo_if | apply lo_on | apply lo_fN | apply lo_fI | apply lo_fA | apply lo_caseI | apply lo_bool | apply lo_opt | intro _ | split)
theorem lo_kIdxA (x0 : _) (x1 : _) (x2 : _) (x3 : _) : Loc (kIdxA x0 x1 x2 x3) := by
  unfold kIdxA
  repeat' (first | exact lo_pure _ | exact lo_fail | exact lo_ofOpt _ | exact lo_asN _ | exact lo_idxN _ _ _ _ | exact lo_ti _ _ | apply lo_bind | apply lo_chk | apply lo_if | apply lo_on | apply lo_fN | apply lo_fI | apply lo_fA | apply lo_caseI | apply lo_bool | apply lo_opt | intro _ | split)
theorem lo_idxV (x0 : _) (x1 : _) (x2 : _) (x3 : _) : Loc (idxV x0 x1 x2 x3) := by
  unfold idxV
  repeat' (first | exact lo_pure _ | exact lo_fail | exact lo_ofOpt _ | exact lo_partV _ _ _ _ | exact lo_ti _ _ | apply lo_bind | apply lo_chk | apply lo_if | apply lo_on | apply lo_fN | apply lo_fI | apply lo_fA | apply lo_caseI | apply lo_bool | apply lo_opt | intro _ | split)
theorem lo_kIdx (x0 : _) (x1 : _) (x2 : _) (x3 : _) : Loc (kIdx x0 x1 x2 x3) := by
  unfold kIdx
  repeat' (first | exact lo_pure _ | exact lo_fail | exact lo_ofOpt _ | exact lo_idxV _ _ _ _ | exact lo_asN _ | exact lo_ti _ _ | apply lo_bind | apply lo_chk | apply lo_if | apply lo_on | apply lo_fN | apply lo_fI | apply lo_fA | apply lo_caseI | apply lo_bool | apply lo_opt | intro _ | split)
theorem lo_kExt (x0 : _) (x1 : _) : Loc (kExt x0 x1) := by
  unfold kExt
  repeat' (first | exact lo_pure _ | exact lo_fail | exact lo_ofOpt _ | apply lo_bind | apply lo_chk | apply lo_if | apply lo_on | apply lo_fN | apply lo_fI | apply lo_fA | apply lo_caseI | apply lo_bool | apply lo_opt | intro _ | split)
theorem lo_okV (x0 : _) (x1 : _) (x2 : _) : Loc (okV x0 x1 x2) := by
  unfold okV
  repeat' (first | exact lo_pure _ | exact lo_fail | exact lo_ofOpt _ | apply lo_bind | apply lo_chk | apply lo_if | apply lo_on | apply lo_fN | apply lo_fI | apply lo_fA | apply lo_caseI | apply lo_bool | apply lo_opt | intro _ | split)
theorem lo_kRange (x0 : _) (x1 : _) (x2 : _) : Loc (kRange x0 x1 x2) := by
  unfold kRange
  repeat' (first | exact lo_pure _ | exact lo_fail | exact lo_ofOpt _ | exact lo_ti _ _ | exact lo_newO _ | apply lo_bind | apply lo_chk | apply lo_if | apply lo_on | apply lo_fN | apply lo_fI | apply lo_fA | apply lo_caseI | apply lo_bool | apply lo_opt | intro _ | split)
theorem lo_sitN (x0 : _) (x1 : _) (x2 : _) : Loc (sitN x0 x1 x2) := by
  unfold sitN
  repeat' (first | exact lo_pure _ | exact lo_fail | exact lo_ofOpt _ | exact lo_wrC _ _ | apply lo_bind | apply lo_chk | apply lo_if | apply lo_on | apply lo_fN | apply lo_fI | apply lo_fA | apply lo_caseI | apply lo_bool | apply lo_opt | intro _ | split)
theorem lo_kNext (x0 : _) : Loc (kNext x0) := by
  unfold kNext
  repeat' (first | exact lo_pure _ | exact lo_fail | exact lo_ofOpt _ | exact lo_sitN _ _ _ | exact lo_rdC _ | apply lo_bind | apply lo_chk | apply lo_if | apply lo_on | apply lo_fN | apply lo_fI | apply lo_fA | apply lo_caseI | apply lo_bool | apply lo_opt | intro _ | split)
theorem lo_kAssert (x0 : _) (x1 : _) (x2 : _) (x3 : _) : Loc (kAssert x0 x1 x2 x3) := by
  unfold kAssert
  repeat' (first | exact lo_pure _ | exact lo_fail | exact lo_ofOpt _ | exact lo_okV _ _ _ | exact lo_zeroV _ | exact lo_ti _ _ | apply lo_bind | apply lo_chk | apply lo_if | apply lo_on | apply lo_fN | apply lo_fI | apply lo_fA | apply lo_caseI | apply lo_bool | apply lo_opt | intro _ | split)
theorem lo_kRecover : Loc (kRecover) := by
  unfold kRecover
  repeat' (first | exact lo_pure _ | exact lo_fail | exact lo_ofOpt _ | exact lo_putCx _ | exact lo_getCx | apply lo_bind | apply lo_chk | apply lo_if | apply lo_on | apply lo_fN | apply lo_fI | apply lo_fA | apply lo_caseI | apply lo_bool | apply lo_opt | intro _ | split)
theorem lo_kDefer (x0 : _) (x1 : _) : Loc (kDefer x0 x1) := by
  unfold kDefer
  repeat' (first | exact lo_pure _ | exact lo_fail | exact lo_ofOpt _ | exact lo_putCx _ | exact lo_getCx | apply lo_bind | apply lo_chk | apply lo_if | apply lo_on | apply lo_fN | apply lo_fI | apply lo_fA | apply lo_caseI | apply lo_bool | apply lo_opt | intro _ | split)
end Go.Proofs.YtbmkpcjkadifhaaGreatDoor.Am
/- The machine's frames beside the evaluator's: contexts, panics, calls; one operation's steps. -/
namespace Go.Proofs.YtbmkpcjkadifhaaGreatDoor.Am
open Go.RowKit

/-! ### Panics, deferred calls, what belongs to a frame -/
inductive ChR (r : Inj) : List PanicEntry → List PanicEntry → Prop
  | nil : ChR r [] []
  | cons {e e' : PanicEntry} {l l' : List PanicEntry} : VR r e.v e'.v → e'.recovered = e.recovered → e'.goexit = e.goexit → ChR r l l' → ChR r (e :: l) (e' :: l')
theorem ChR.mono {r r' : Inj} (h : r.le r') {l l' : List PanicEntry} (k : ChR r l l') : ChR r' l l' := by
  induction k with
  | nil => exact .nil
  | cons a b c _ ih => exact .cons (a.mono h) b c ih
theorem ChR.append {r : Inj} {a a' b b' : List PanicEntry} (h : ChR r a a') (k : ChR r b b') : ChR r (a ++ b) (a' ++ b') := by
  induction h with
  | nil => exact k
  | cons x y z _ ih => exact .cons x y z ih
inductive MoR (r : Inj) : FrameMode → FrameMode → Prop
  | run : MoR r .run .run
  | ret : MoR r .returning .returning
  | pan {c c' : List PanicEntry} : ChR r c c' → MoR r (.panicking c) (.panicking c')
theorem MoR.mono {r r' : Inj} (h : r.le r') {m m' : FrameMode} (k : MoR r m m') : MoR r' m m' := by
  cases k with
  | run => exact .run
  | ret => exact .ret
  | pan c => exact .pan (c.mono h)
inductive DfR (r : Inj) : Deferred → Deferred → Prop
  | fn {f f' : Fn} {c c' a a' : Array Value} : FnR r f f' → VRs r c.toList c'.toList → VRs r a.toList a'.toList → DfR r ⟨.fn f c, a⟩ ⟨.fn f' c', a'⟩
  | coll {b b' d : Nat} : r.blk b = some (b', d) → DfR r ⟨.collected b, #[]⟩ ⟨.collected b', #[]⟩
theorem DfR.mono {r r' : Inj} (h : r.le r') {m m' : Deferred} (k : DfR r m m') : DfR r' m m' := by
  cases k with
  | fn a b c => exact .fn (a.mono h) (b.mono h) (c.mono h)
  | coll a => exact .coll (h.1 _ _ a)
inductive DfsR (r : Inj) : List Deferred → List Deferred → Prop
  | nil : DfsR r [] []
  | cons {e e' : Deferred} {l l' : List Deferred} : DfR r e e' → DfsR r l l' → DfsR r (e :: l) (e' :: l')
theorem DfsR.mono {r r' : Inj} (h : r.le r') {l l' : List Deferred} (k : DfsR r l l') : DfsR r' l l' := by
  induction k with
  | nil => exact .nil
  | cons a _ ih => exact .cons (a.mono h) ih
/-- What a frame has deferred and who called it, against the context: 'base' has both as they were when the frame began (or when the context was shut). -/
def CxR (r : Inj) (base : List Deferred × List Frame) (cx : Ctx) (b : Frame) (dfs : List Deferred) (cs : List Frame) : Prop :=
  match cx with
  | .no => dfs = base.1 ∧ cs = base.2
  | .cx up d =>
    (match up with
     | none => b.kind = .normal ∧ cs = base.2
     | some m => b.kind = .deferred ∧ ∃ c rest m', base.2 = c :: rest ∧ cs = { c with mode := m' } :: rest ∧ MoR r m m') ∧
    (match d with
     | none => b.roundOf ≠ none ∧ dfs = []
     | some l => b.roundOf = none ∧ DfsR r l dfs)
theorem CxR.mono {r r' : Inj} (h : r.le r') {base : List Deferred × List Frame} {cx : Ctx} {b : Frame} {dfs : List Deferred} {cs : List Frame} (k : CxR r base cx b dfs cs) : CxR r' base cx b dfs cs := by
  unfold CxR at *
  cases cx with
  | no => exact k
  | cx up d =>
    obtain ⟨k1, k2⟩ := k
    constructor
    · cases up with
      | none => exact k1
      | some m => obtain ⟨q1, c, rest, m', q2, q3, q4⟩ := k1; exact ⟨q1, c, rest, m', q2, q3, q4.mono h⟩
    · cases d with
      | none => exact k2
      | some l => exact ⟨k2.1, k2.2.mono h⟩

/-! ### Frames in the midst of their work -/
def frm (b : Frame) (t : Array Value) (d : List Deferred) (todo : List Item) : Frame := { fn := b.fn, tmps := t, todo, defers := d, mode := .run, kind := b.kind, roundOf := b.roundOf }
def putT (t : Array Value) (dst : Option Nat) (v : Value) : Array Value :=
  match dst with
  | some d => t.setIfInBounds d v
  | none => t
theorem frm_eval (b : Frame) (t : Array Value) (d : List Deferred) (todo : List Item) : (frm b t d todo).eval = Act.eval ⟨t, d⟩ := funext fun x => by cases x <;> rfl
theorem frm_finish (b : Frame) (t : Array Value) (d : List Deferred) {ops : Array Oper} {i : Nat} {o : Oper} (ho : ops[i]? = some o) (rest : List Nat) (k : List Item) (v : Value) :
    (frm b t d (.inRegion ops (i :: rest) :: k)).finish v = frm b (putT t o.dst v) d (.inRegion ops rest :: k) := by
  cases h : o.dst <;> simp [Frame.finish, frm, putT, ho, h]
section
variable {P : Program} {b : Frame} {t : Array Value} {d : List Deferred} {k : List Item} {cs : List Frame} {w : World} {ops : Array Oper}
theorem stepG_frm {i : Nat} {rest : List Nat} {o : Oper} (ho : ops[i]? = some o) (hw : Region.wanted o (yielded ops t) = true) (hd : b.roundOf = none ∨ ∀ c, o.op ≠ .defer c) :
    stepG P true { frame := frm b t d (.inRegion ops (i :: rest) :: k), callers := cs, status := .running, dying := none } w =
      stepG.apply P true (frm b t d (.inRegion ops (i :: rest) :: k)) cs none (execOp (Act.eval ⟨t, d⟩) o) w := by
  have he := frm_eval b t d (.inRegion ops (i :: rest) :: k)
  have e1 : stepG P true { frame := frm b t d (.inRegion ops (i :: rest) :: k), callers := cs, status := .running, dying := none } w =
      stepG.oper P true (frm b t d (.inRegion ops (i :: rest) :: k)) cs none w := by
    simp [stepG, stepG.exec, frm, ho, hw]
  rw [e1]
  have e2 : (frm b t d (.inRegion ops (i :: rest) :: k)).oper? = some o := ho
  unfold stepG.oper
  simp only [e2, he]
  split
  · rename_i l c h1 h2
    rcases hd with hd | hd
    · rw [show (frm b t d (.inRegion ops (i :: rest) :: k)).roundOf = b.roundOf from rfl, hd] at h1
      cases h1
    · exact absurd h2 (hd c)
  · rfl
theorem step_region_frm {id : Nat} : step P (lone (frm b t d (.code (.region id ops false) :: k)) cs w) = .next (lone (frm b t d (.inRegion ops (List.range ops.size) :: k)) cs w) :=
  step_lone_go (by simp [stepG, stepG.exec, frm])
theorem step_region_draw_frm {id : Nat} :
    step P (lone (frm b t d (.code (.region id ops true) :: k)) cs w) =
      .next (lone (frm b t d (.inRegion ops (Region.schedule (P.follows .mixedOrders) ops (w.tape w.drawn (.order b.fn id))) :: k)) cs { w with drawn := w.drawn + 1 }) :=
  step_lone_go (by simp [stepG, stepG.exec, frm, choose, Sem.run, Question.forced, Question.cut])
theorem step_region_end_frm : step P (lone (frm b t d (.inRegion ops [] :: k)) cs w) = .next (lone (frm b t d k) cs w) :=
  step_lone_go (by simp [stepG, stepG.exec, frm])
theorem step_op_skip_frm {i : Nat} {o : Oper} {rest : List Nat} (ho : ops[i]? = some o) (h : Region.wanted o (yielded ops t) = false) :
    step P (lone (frm b t d (.inRegion ops (i :: rest) :: k)) cs w) = .next (lone (frm b (putT t o.dst undef) d (.inRegion ops rest :: k)) cs w) := by
  rw [← frm_finish b t d ho]
  exact step_lone_go (by simp [stepG, stepG.exec, frm, ho, h])
end

/-! ### Calls -/
/-- What comes of a call, for whoever called. -/
def Ends (P : Program) (r : Inj) (out : Out Value) (m : Machine) (c : Frame) (cs : List Frame) (w' : World) : Prop :=
  match out with
  | .inl v => ∃ v', VR r v v' ∧ Steps P m (lone (c.finish v') cs w')
  | .inr ch => ∃ ch', ChR r ch ch' ∧ Steps P m (lone (c.raise ch') cs w')
/-- A call that is answered at once: of a function without a body. -/
def AtOnce (P : Program) (w0 w : World) (r : Inj) (s : St) (f : Nat) (args' : List Value) (out : Out Value) (s' : St) : Prop :=
  ∃ v v' w' r', out = .inl v ∧ VR r' v v' ∧ Goes w0 r s s' r' w' ∧ s'.lim = s.lim ∧ s'.cx = s.cx ∧ (callFunc f args'.toArray).run P w = .ok (.value v') w'
structure CallOK (E : Env) (call : CallT) : Prop where
  loc : ∀ f args, Loc (call f args)
  ok : ∀ {w0 w : World} {r : Inj} {f : Nat} {args args' : List Value} {s : St} {out : Out Value} {s' : St}, call f args s = rOf out s' → Rel w0 r s.mem w → Bnd s → Fresh r s.next s'.next → VRs r args args' →
    ((∀ w, (callFunc f args'.toArray).run E.P w = .ok (.enter f args'.toArray) w) ∧
    ∀ c cs, ∃ w' r', Goes w0 r s s' r' w' ∧ s'.lim = s.lim ∧ s'.cx = s.cx ∧ Ends E.P r' out (lone (Frame.enter E.P f args'.toArray .normal) (c :: cs) w) c cs w') ∨
    (E.ext.get f ≠ none ∧ AtOnce E.P w0 w r s f args' out s')
structure RoundOK (E : Env) (round : CallT) : Prop where
  loc : ∀ l args, Loc (round l args)
  ok : ∀ {w0 w : World} {r : Inj} {l l' d : Nat} {args args' : List Value} {s : St} {out : Out Value} {s' : St}, round l args s = rOf out s' → Rel w0 r s.mem w → Bnd s → Fresh r s.next s'.next → VRs r args args' → r.blk l = some (l', d) →
    ∃ f tm as bd, (Instr.yield l' args'.toArray).run E.P w = .ok (.round l' f tm as bd) w ∧
    ∀ c cs, ∃ w' r', Goes w0 r s s' r' w' ∧ s'.lim = s.lim ∧ s'.cx = s.cx ∧ Ends E.P r' out (lone (Frame.round l' f tm as bd .normal) (c :: cs) w) c cs w'

/-! ### One operation -/
/-- What comes of an operation, in its frame. -/
def OpEnds (P : Program) (r : Inj) (out : Out Value) (m : Machine) (b : Frame) (t : Array Value) (dfs : List Deferred) (ops : Array Oper) (o : Oper) (rest : List Nat) (k : List Item) (cs : List Frame) (w' : World) : Prop :=
  match out with
  | .inl v => ∃ v', VR r v v' ∧ Steps P m (lone (frm b (putT t o.dst v') dfs (.inRegion ops rest :: k)) cs w')
  | .inr ch => ∃ ch' td, ChR r ch ch' ∧ Steps P m (lone { frm b t dfs td with mode := .panicking ch' } cs w')
def OpS (E : Env) (o : Oper) (c : Cl OpT) (ds : List Nat) : Prop :=
  ∃ f, c = .mk f ∧ (∀ call round, CallOK E call → RoundOK E round → ∀ rho tm, Loc (f call round rho tm)) ∧
    ∀ call round, CallOK E call → RoundOK E round → ∀ (w0 w : World) (r : Inj) (U : Nat → Prop) rho tm (b : Frame) (t : Array Value) (dfs : List Deferred) (cs : List Frame) (base : List Deferred × List Frame) (s : St) (out : Out Value) (s' : St),
      SlR r U ds rho tm t → (∀ t, Operand.tmp t ∈ o.op.operands.toList → U t) → Rel w0 r s.mem w → CxR r base s.cx b dfs cs → Bnd s → Fresh r s.next s'.next → f call round rho tm s = rOf out s' →
      ∀ (ops : Array Oper) i rest k, ops[i]? = some o → Region.wanted o (yielded ops t) = true →
        ∃ w' r' dfs' cs', Goes w0 r s s' r' w' ∧ CxR r' base s'.cx b dfs' cs' ∧ s'.lim = s.lim ∧
          OpEnds E.P r' out (lone (frm b t dfs (.inRegion ops (i :: rest) :: k)) cs w) b t dfs' ops o rest k cs' w'

theorem OpS.ofV {E : Env} {o : Oper} {c : Cl OpT} {ds : List Nat} (h : OpV E o c ds) (hd : ∀ c, o.op ≠ .defer c) (hl : ∀ f, c = .mk f → ∀ call round rho tm, Loc (f call round rho tm)) : OpS E o c ds := by
  obtain ⟨f, h1, h2, h3⟩ := h
  refine ⟨f, h1, fun call round _ _ => hl f h1 call round, ?_⟩
  intro call round hc hro w0 w r U rho tm b t dfs cs base s out s' hs hu hr hx hb hf e ops i rest k ho hw
  cases out with
  | inr ch => exact ((h2 call round rho tm).no _ _ _ e).elim
  | inl v =>
    obtain ⟨v', w', r', k1, k2, k3, k4, k5⟩ := h3 call round w0 w r U rho tm ⟨t, dfs⟩ s v s' hs hu hr e hf
    refine ⟨w', r', dfs, cs, k2, by rw [k5]; exact hx.mono k2.le, k4, v', k3, .one (step_lone_go ?_)⟩
    rw [stepG_frm ho hw (.inr hd), ← frm_finish b t dfs ho]
    rcases k1 with k1 | ⟨k1, rfl⟩ <;> simp [stepG.apply, k1]
theorem frm_raise (b : Frame) (t : Array Value) (d : List Deferred) (td : List Item) (ch : List PanicEntry) : (frm b t d td).raise ch = { frm b t d td with mode := .panicking ch } := rfl
theorem frm_kind (b : Frame) (t : Array Value) (d : List Deferred) (ops : Array Oper) (l : List Nat) (k : List Item) :
    (match (frm b t d (.inRegion ops l :: k)).todo with | .call _ true _ _ :: _ => CallKind.wrapped | _ => .normal) = .normal := rfl

section
variable {E : Env} {ds : List Nat} {o : Oper}
theorem VR.func_inv {r : Inj} {f : Fn} {a c : Array Value} {v' : Value} (h : VR r (.func f a c) v') : ∃ f' a' c', v' = .func f' a' c' ∧ FnR r f f' ∧ VRs r a.toList a'.toList ∧ VRs r c.toList c'.toList := by
  cases h with
  | func h1 h2 h3 h4 h5 => exact ⟨_, _, _, rfl, h1, VRs.ofArr h2 h3, VRs.ofArr h4 h5⟩
theorem resolve_value (ρ : Operand → Value) {c : Call} {ty : TypeId} {x : Operand} {f : Fn} {a cap : Array Value} (hc : c.callee = .value x) (hx : ρ x = .func f a cap) :
    resolve ρ c ty = pure { target := .fn f cap, args := a ++ c.args.map ρ } := by
  unfold resolve
  simp only [hc, hx, Deferred.ofValue]
theorem op_call {x : Operand} {c : Call} (ho : o.op = .call c) (hc : c.callee = .value x) : OpS E o (withC ds x c.args.toList) ds := by
  obtain ⟨g, h1, h2⟩ := compO_ok ds x
  obtain ⟨g', h3, h4⟩ := compL_ok ds c.args.toList
  refine ⟨fun call round rho tm => M.on (g rho tm) fun f => M.on (g' rho tm) fun l => callV call round f l, by unfold withC; simp only [h1, h3], ?_, ?_⟩
  · intro call round hc1 hc2 rho tm
    refine lo_on _ fun f => lo_on _ fun l => ?_
    unfold callV
    split
    · exact hc1.loc _ _
    · exact lo_chk _ (hc2.loc _ _)
    · exact lo_fail
  · intro call round hc1 hc2 w0 w r U rho tm b t dfs cs base s out s' hs hu hr hx hb hf e ops i rest k hoi hw
    have on' : ∀ {α β : Type} {y : Option α} {f : α → M β} {o : Out β} {s s' : St}, M.on y f s = rOf o s' → ∃ a, y = some a ∧ f a s = rOf o s' := by
      intro α β y f o s s' h
      cases y with
      | none => exact (rOf_none h).elim
      | some a => exact ⟨a, rfl, h⟩
    obtain ⟨fv, e1, e⟩ := on' e
    obtain ⟨l, e2, e⟩ := on' e
    have hfv := h2 _ _ _ _ ⟨t, dfs⟩ _ hs (fun t q => hu t (by simp [ho, Op.operands, Call.operands, hc] at q ⊢; simp [q])) e1
    have hl : VRs r l (c.args.toList.map (Act.eval ⟨t, dfs⟩)) := h4 _ _ _ _ ⟨t, dfs⟩ _ hs (fun t q => hu t (by simp [ho, Op.operands, Call.operands] at q ⊢; simp [q])) e2
    have hmap : c.args.map (Act.eval ⟨t, dfs⟩) = (c.args.toList.map (Act.eval ⟨t, dfs⟩)).toArray := by rw [← List.map_toArray]
    have hd : ∀ c, o.op ≠ .defer c := by rw [ho]; intro c h; cases h
    unfold callV at e
    split at e
    · rename_i f first cap _
      obtain ⟨f', a', c', q1, q2, q3, q4⟩ := hfv.func_inv
      cases f' with
      | func f' =>
        simp only [FnR] at q2
        subst q2
        have e1 : (a' ++ c.args.map (Act.eval ⟨t, dfs⟩) ++ c') = (a'.toList ++ (c.args.toList.map (Act.eval ⟨t, dfs⟩) ++ c'.toList)).toArray := by
          rw [hmap]; simp
        rcases hc1.ok e hr hb hf (args' := a'.toList ++ (c.args.toList.map (Act.eval ⟨t, dfs⟩) ++ c'.toList)) (q3.append (hl.append q4)) with ⟨k1, k2⟩ | ⟨_, v, v', w', r', rfl, g1, g2, g3, g4, g5⟩
        case inr =>
          have hrun : (execOp (Act.eval ⟨t, dfs⟩) o).run E.P w = .ok (.value v') w' := by
            simp only [execOp, ho, resolve_value _ hc q1]
            simp only [invoke, Sem.run_bind, Sem.run_pure, Result.andThen_ok, e1, g5]
          refine ⟨w', r', dfs, cs, g2, by rw [g4]; exact hx.mono g2.le, g3, v', g1, .one (step_lone_go ?_)⟩
          rw [stepG_frm hoi hw (.inr hd), ← frm_finish b t dfs hoi]
          simp [stepG.apply, hrun]
        obtain ⟨w', r', g1, g2, g3, g4⟩ := k2 (frm b t dfs (.inRegion ops (i :: rest) :: k)) cs
        have henter : step E.P (lone (frm b t dfs (.inRegion ops (i :: rest) :: k)) cs w) =
            .next (lone (Frame.enter E.P f (a'.toList ++ (c.args.toList.map (Act.eval ⟨t, dfs⟩) ++ c'.toList)).toArray .normal) (frm b t dfs (.inRegion ops (i :: rest) :: k) :: cs) w) := by
          refine step_lone_go ?_
          rw [stepG_frm hoi hw (.inr hd)]
          have hrun : (execOp (Act.eval ⟨t, dfs⟩) o).run E.P w = .ok (.enter f (a'.toList ++ (c.args.toList.map (Act.eval ⟨t, dfs⟩) ++ c'.toList)).toArray) w := by
            simp only [execOp, ho, resolve_value _ hc q1]
            simp only [invoke, Sem.run_bind, Sem.run_pure, Result.andThen_ok, e1, k1]
          simp [stepG.apply, hrun, frm]
        refine ⟨w', r', dfs, cs, g1, by rw [g3]; exact hx.mono g1.le, g2, ?_⟩
        unfold Ends at g4
        cases out with
        | inl v =>
          obtain ⟨v', p1, p2⟩ := g4
          rw [frm_finish b t dfs hoi] at p2
          exact ⟨v', p1, .head henter p2⟩
        | inr ch =>
          obtain ⟨ch', p1, p2⟩ := g4
          exact ⟨ch', _, p1, .head henter p2⟩
      | _ => simp only [FnR] at q2
    · rename_i lp first cap _
      obtain ⟨f', a', c', q1, q2, q3, q4⟩ := hfv.func_inv
      cases f' with
      | yield lp' =>
        obtain ⟨dd, q2⟩ := q2
        cases hemp : first.isEmpty with
        | false => rw [hemp] at e; exact (rOf_none e).elim
        | true =>
          rw [hemp] at e
          have e' : round lp l s = rOf out s' := e
          have hfe : first = #[] := by simpa using hemp
          subst hfe
          have ha' : a' = #[] := by have := q3.1; simp at this; simpa using this.symm
          subst ha'
          obtain ⟨fn, tmn, as, bd, k1, k2⟩ := hc2.ok e' hr hb hf hl q2
          obtain ⟨w', r', g1, g2, g3, g4⟩ := k2 (frm b t dfs (.inRegion ops (i :: rest) :: k)) cs
          have henter : step E.P (lone (frm b t dfs (.inRegion ops (i :: rest) :: k)) cs w) =
              .next (lone (Frame.round lp' fn tmn as bd .normal) (frm b t dfs (.inRegion ops (i :: rest) :: k) :: cs) w) := by
            refine step_lone_go ?_
            rw [stepG_frm hoi hw (.inr hd)]
            have hrun : (execOp (Act.eval ⟨t, dfs⟩) o).run E.P w = .ok (.round lp' fn tmn as bd) w := by
              simp only [execOp, ho, resolve_value _ hc q1]
              have e1 : (#[] ++ c.args.map (Act.eval ⟨t, dfs⟩)) = (c.args.toList.map (Act.eval ⟨t, dfs⟩)).toArray := by
                rw [hmap]; simp
              simp only [invoke, Sem.run_bind, Sem.run_pure, Result.andThen_ok, e1, k1]
            simp [stepG.apply, hrun, frm]
          refine ⟨w', r', dfs, cs, g1, by rw [g3]; exact hx.mono g1.le, g2, ?_⟩
          unfold Ends at g4
          cases out with
          | inl v =>
            obtain ⟨v', p1, p2⟩ := g4
            rw [frm_finish b t dfs hoi] at p2
            exact ⟨v', p1, .head henter p2⟩
          | inr ch =>
            obtain ⟨ch', p1, p2⟩ := g4
            exact ⟨ch', _, p1, .head henter p2⟩
      | _ => simp only [FnR] at q2
    · exact (rOf_none e).elim

/-! ### Methods of what stands behind an interface -/
theorem lo_fieldA (s : FieldStep) (a : Addr) : Loc (fieldA E s a) := lo_bind (lo_ti _ _) fun _i => lo_bind (lo_fldOf _ _ _) fun _p => lo_chk _ (lo_bind (lo_ptrA _) fun _v => lo_pure _)
theorem lo_fieldV (s : FieldStep) (cs : List Value) : Loc (fieldV E s cs) := lo_bind (lo_ti _ _) fun _i => lo_bind (lo_fldOf _ _ _) fun _p => lo_bind (lo_partV _ _ _ _) fun _v => lo_pure _
theorem lo_stepP (s : FieldStep) (v : Value) (b : Bool) : Loc (stepP E s v b) := by
  unfold stepP
  split
  · exact lo_bind (lo_asA _) fun a => lo_bind (lo_fieldA _ _) fun p => lo_pure _
  · exact lo_bind (lo_asA _) fun a => lo_bind (lo_fieldA _ _) fun p => lo_pure _
  · exact lo_bind (lo_asCs _) fun a => lo_bind (lo_fieldV _ _) fun p => lo_pure _
  · exact lo_fail
theorem lo_walkP : ∀ (l : List FieldStep) (t : Nat) (v : Value) (b : Bool), Loc (walkP E l t v b)
  | [], _, _, _ => lo_pure _
  | s :: l, _, v, b => lo_bind (lo_stepP s v b) fun _p => lo_walkP l _ _ _
theorem lo_methodA (t : Nat) (v : Value) (name : String) : Loc (methodA E t v name) := lo_on _ fun _m => lo_on _ fun _fp => lo_bind (lo_walkP _ _ _ _) fun _q => lo_bind (lo_ti _ _) fun _i => lo_chk _ (lo_pure _)
theorem np_fieldA (s : FieldStep) (a : Addr) : NoPan (fieldA E s a) := np_bind (np_ti _ _) fun _i => np_bind (np_fldOf _ _ _) fun _p => np_chk _ (np_bind (np_ptrA _) fun _v => np_pure _)
theorem np_fieldV (s : FieldStep) (cs : List Value) : NoPan (fieldV E s cs) := np_bind (np_ti _ _) fun _i => np_bind (np_fldOf _ _ _) fun _p => np_bind (np_partV _ _ _ _) fun _v => np_pure _
theorem np_stepP (s : FieldStep) (v : Value) (b : Bool) : NoPan (stepP E s v b) := by
  unfold stepP
  split
  · exact np_bind (np_asA _) fun a => np_bind (np_fieldA _ _) fun p => np_pure _
  · exact np_bind (np_asA _) fun a => np_bind (np_fieldA _ _) fun p => np_pure _
  · exact np_bind (np_asCs _) fun a => np_bind (np_fieldV _ _) fun p => np_pure _
  · exact np_fail
theorem np_walkP : ∀ (l : List FieldStep) (t : Nat) (v : Value) (b : Bool), NoPan (walkP E l t v b)
  | [], _, _, _ => np_pure _
  | s :: l, _, v, b => np_bind (np_stepP s v b) fun _p => np_walkP l _ _ _
theorem np_methodA (t : Nat) (v : Value) (name : String) : NoPan (methodA E t v name) := np_on _ fun _m => np_on _ fun _fp => np_bind (np_walkP _ _ _ _) fun _q => np_bind (np_ti _ _) fun _i => np_chk _ (np_pure _)
/-- A value, or a place told as its address. -/
def PlR (r : Inj) (b : Bool) (v : Value) (p : Place) : Prop :=
  match b, p with
  | false, .val v' => VR r v v'
  | true, .var a' => ∃ a, v = .pointer (some a) ∧ AR r a a'
  | _, _ => False
theorem fieldA_ok {w : World} {r : Inj} {s s' : St} {st : FieldStep} {a a2 : Addr} {p : Nat × Value} (he : EnvTy E) (h : fieldA E st a s = .some p s') (ha : AR r a a2) :
    s = s' ∧ ∃ fs fd a3, (underlying st.struct).run E.P w = .ok (.struct fs) w ∧ fs[st.index]? = some fd ∧ p.1 = fd.type ∧ (fieldPlace a2 fd).run E.P w = .ok a3 w ∧ PlR r true p.2 (.var a3) := by
  obtain ⟨i, s1, h1, h2⟩ := bind_some h
  obtain ⟨hi, rfl⟩ := ti_some h1 he
  obtain ⟨q, s2, h5, h6⟩ := bind_some h2
  obtain ⟨h7, h8⟩ := chk_some h6
  obtain ⟨v, s3, h9, h10⟩ := bind_some h8
  obtain ⟨rfl, rfl⟩ := ptrA_some h9
  obtain ⟨rfl, rfl⟩ := pure_some h10
  obtain ⟨rfl, fs, fd, fi, hu, hfd, hfi, rfl⟩ := fldOf_some he h5
  have hz : fi.size ≠ 0 := by
    intro h0
    simp [h0] at h7
  refine ⟨rfl, fs, fd, a2.add fd.offset, by rw [hi.run_und, hu], hfd, rfl, ?_, _, rfl, ha.add _⟩
  simp [fieldPlace, hfi.run_size, hz]
theorem fieldV_ok {w : World} {r : Inj} {s s' : St} {st : FieldStep} {cs : List Value} {cs' : Array Value} {p : Nat × Value} (he : EnvTy E) (h : fieldV E st cs s = .some p s') (hc : VRs r cs cs'.toList) :
    s = s' ∧ ∃ fs fd v', (underlying st.struct).run E.P w = .ok (.struct fs) w ∧ fs[st.index]? = some fd ∧ p.1 = fd.type ∧ (part fd.type cs' fd.offset).run E.P w = .ok v' w ∧ VR r p.2 v' := by
  obtain ⟨i, s1, h1, h2⟩ := bind_some h
  obtain ⟨hi, rfl⟩ := ti_some h1 he
  obtain ⟨q, s2, h5, h6⟩ := bind_some h2
  obtain ⟨v, s3, h9, h10⟩ := bind_some h6
  obtain ⟨rfl, rfl⟩ := pure_some h10
  obtain ⟨rfl, fs, fd, fi, hu, hfd, hfi, rfl⟩ := fldOf_some he h5
  obtain ⟨rfl, v', g1, g2⟩ := partV_ok (w := w) he h9 hc
  exact ⟨rfl, fs, fd, v', by rw [hi.run_und, hu], hfd, rfl, g1, g2⟩
theorem stepP_ok {w : World} {r : Inj} {s s' : St} {st : FieldStep} {v : Value} {b : Bool} {p : Nat × Value × Bool} (he : EnvTy E) (h : stepP E st v b s = .some p s') {pl : Place} (hp : PlR r b v pl) (t : Nat) (rest : List FieldStep) :
    s = s' ∧ ∃ pl', (follow (st :: rest) t pl).run E.P w = (follow rest p.1 pl').run E.P w ∧ PlR r p.2.2 p.2.1 pl' := by
  unfold stepP at h
  generalize e : st.deref = dr at h
  match dr, b, h, hp with
  | true, false, h, hp =>
    obtain ⟨a, s1, h1, h2⟩ := bind_some h
    obtain ⟨rfl, rfl⟩ := asA_some h1
    obtain ⟨q, s2, h3, h4⟩ := bind_some h2
    obtain ⟨rfl, rfl⟩ := pure_some h4
    cases pl with
    | var a' => exact hp.elim
    | val v' =>
      obtain ⟨a2, rfl, ha2⟩ := VR.ptr_inv hp
      obtain ⟨rfl, fs, fd, a3, g1, g2, g3, g4, g5⟩ := fieldA_ok (w := w) he h3 ha2
      refine ⟨rfl, .var a3, ?_, g5⟩
      show (follow (st :: rest) t _).run E.P w = (follow rest q.1 _).run E.P w
      rw [g3]
      simp [follow, g1, g2, e, Place.get, asAddr, g4]
  | false, true, h, hp =>
    obtain ⟨a, s1, h1, h2⟩ := bind_some h
    obtain ⟨rfl, rfl⟩ := asA_some h1
    obtain ⟨q, s2, h3, h4⟩ := bind_some h2
    obtain ⟨rfl, rfl⟩ := pure_some h4
    cases pl with
    | val v' => exact hp.elim
    | var a2 =>
      obtain ⟨a', q1, ha2⟩ := hp
      cases q1
      obtain ⟨rfl, fs, fd, a3, g1, g2, g3, g4, g5⟩ := fieldA_ok (w := w) he h3 ha2
      refine ⟨rfl, .var a3, ?_, g5⟩
      show (follow (st :: rest) t _).run E.P w = (follow rest q.1 _).run E.P w
      rw [g3]
      simp [follow, g1, g2, e, g4]
  | false, false, h, hp =>
    obtain ⟨cs, s1, h1, h2⟩ := bind_some h
    obtain ⟨⟨c, rfl, rfl⟩, rfl⟩ := asCs_some h1
    obtain ⟨q, s2, h3, h4⟩ := bind_some h2
    obtain ⟨rfl, rfl⟩ := pure_some h4
    cases pl with
    | var a' => exact hp.elim
    | val v' =>
      obtain ⟨c', rfl, hc⟩ := VR.agg_inv hp
      obtain ⟨rfl, fs, fd, v2, g1, g2, g3, g4, g5⟩ := fieldV_ok (w := w) he h3 hc
      refine ⟨rfl, .val v2, ?_, g5⟩
      show (follow (st :: rest) t _).run E.P w = (follow rest q.1 _).run E.P w
      rw [g3]
      simp [follow, g1, g2, e, g4]
  | true, true, h, hp => cases h
theorem walkP_ok {w : World} {r : Inj} (he : EnvTy E) : ∀ {l : List FieldStep} {t : Nat} {v : Value} {b : Bool} {pl : Place} {s s' : St} {p : Nat × Value × Bool}, walkP E l t v b s = .some p s' → PlR r b v pl →
    s = s' ∧ ∃ pl', (follow l t pl).run E.P w = .ok (p.1, pl') w ∧ PlR r p.2.2 p.2.1 pl'
  | [], t, v, b, pl, s, s', p, h, hp => by
    obtain ⟨rfl, rfl⟩ := pure_some (show M.pure (t, v, b) s = .some p s' from h)
    exact ⟨rfl, pl, by simp [follow], hp⟩
  | st :: l, t, v, b, pl, s, s', p, h, hp => by
    obtain ⟨q, s1, h1, h2⟩ := bind_some (show M.bind (stepP E st v b) (fun p => walkP E l p.1 p.2.1 p.2.2) s = .some p s' from h)
    obtain ⟨rfl, pl1, g1, g2⟩ := stepP_ok (w := w) he h1 hp t l
    obtain ⟨rfl, pl2, g3, g4⟩ := walkP_ok (w := w) he h2 g2
    exact ⟨rfl, pl2, by rw [g1, g3], g4⟩
theorem methodA_ok {w : World} {r : Inj} (he : EnvTy E) {t n : Nat} {v v' : Value} {name : String} {s s' : St} {p : Nat × Value} (h : methodA E t v name s = .some p s') (hv : VR r v v') :
    s = s' ∧ ∃ x, (method (n + 1) t v' name).run E.P w = .ok (p.1, x) w ∧ VR r p.2 x := by
  obtain ⟨m, h1, h⟩ := on_some h
  obtain ⟨fp, h2, h⟩ := on_some h
  obtain ⟨q, s1, h3, h⟩ := bind_some h
  obtain ⟨i, s2, h4, h⟩ := bind_some h
  obtain ⟨hi, rfl⟩ := ti_some h4 he
  obtain ⟨h5, h6⟩ := chk_some h
  obtain ⟨rfl, rfl⟩ := pure_some h6
  obtain ⟨rfl, pl, g1, g2⟩ := walkP_ok (w := w) (r := r) he h3 (pl := .val v') hv
  obtain ⟨info, h7, h8⟩ := onO_some (show onO (E.P.info? t) (fun i => i.methods.toList.find? fun m => m.name == name) = some m from h1)
  have h9 : info.methods.find? (fun m => m.name == name) = some m := by rw [← Array.find?_toList]; exact h8
  obtain ⟨f, pr⟩ := fp
  have key : ∃ x, (∀ wr, (receiverAt q.1 pl pr wr).run E.P w = .ok x w) ∧ VR r q.2.1 x := by
    have hu := hi.run_und (w := w)
    generalize i.u = u at h5 hu
    obtain ⟨q1, q2, q3⟩ := q
    simp only at h5 hu g2 ⊢
    unfold recvOk at h5
    split at h5
    · rename_i e
      rw [Bool.and_eq_true, Bool.not_eq_true'] at h5
      obtain ⟨h5a, h6a⟩ := h5
      subst h5a
      subst h6a
      cases pl with
      | var a => exact g2.elim
      | val x => exact ⟨x, fun wr => by simp [receiverAt, hu, Place.get], g2⟩
    · rename_i hne
      have h5' := eq_of_beq h5
      subst h5'
      have hne2 : ∀ e, u ≠ .pointer e := fun e he => hne e he
      cases pr with
      | true =>
        cases pl with
        | val x => exact g2.elim
        | var a =>
          obtain ⟨a1, rfl, ha⟩ := g2
          refine ⟨.pointer (some a), ?_, ha.ptr⟩
          intro wr
          cases u <;> first | exact absurd rfl (hne2 _) | simp [receiverAt, hu]
      | false =>
        cases pl with
        | var a => exact g2.elim
        | val x =>
          refine ⟨x, ?_, g2⟩
          intro wr
          cases u <;> first | exact absurd rfl (hne2 _) | simp [receiverAt, hu, Place.get]
  obtain ⟨x, k1, k2⟩ := key
  refine ⟨rfl, x, ?_, k2⟩
  have hti : (typeInfo t).run E.P w = .ok info w := by simp [typeInfo, program, Sem.run, h7]
  simp [method, hti, h9, g1, h2, k1]
theorem op_invoke (he : EnvTy E) {x : Operand} {name : String} {c : Call} (ho : o.op = .call c) (hc : c.callee = .invoke x name) : OpS E o (withI E ds x name c.args.toList) ds := by
  obtain ⟨g, h1, h2⟩ := compO_ok ds x
  obtain ⟨g', h3, h4⟩ := compL_ok ds c.args.toList
  refine ⟨fun call round rho tm => M.on (g rho tm) fun f => M.on (g' rho tm) fun l => callI E call name f l, by unfold withI; simp only [h1, h3], ?_, ?_⟩
  · intro call round hc1 hc2 rho tm
    refine lo_on _ fun f => lo_on _ fun l => ?_
    unfold callI
    split
    · exact lo_bind (lo_methodA _ _ _) fun p => hc1.loc _ _
    · exact lo_fail
  · intro call round hc1 hc2 w0 w r U rho tm b t dfs cs base s out s' hs hu hr hx hb hf e ops i rest k hoi hw
    have on' : ∀ {α β : Type} {y : Option α} {f : α → M β} {o : Out β} {s s' : St}, M.on y f s = rOf o s' → ∃ a, y = some a ∧ f a s = rOf o s' := by
      intro α β y f o s s' h
      cases y with
      | none => exact (rOf_none h).elim
      | some a => exact ⟨a, rfl, h⟩
    obtain ⟨fv, e1, e⟩ := on' e
    obtain ⟨l, e2, e⟩ := on' e
    have hfv := h2 _ _ _ _ ⟨t, dfs⟩ _ hs (fun t q => hu t (by simp [ho, Op.operands, Call.operands, hc] at q ⊢; simp [q])) e1
    have hl : VRs r l (c.args.toList.map (Act.eval ⟨t, dfs⟩)) := h4 _ _ _ _ ⟨t, dfs⟩ _ hs (fun t q => hu t (by simp [ho, Op.operands, Call.operands] at q ⊢; simp [q])) e2
    have hmap : c.args.map (Act.eval ⟨t, dfs⟩) = (c.args.toList.map (Act.eval ⟨t, dfs⟩)).toArray := by rw [← List.map_toArray]
    have hd : ∀ c, o.op ≠ .defer c := by rw [ho]; intro c h; cases h
    unfold callI at e
    split at e
    · rename_i ty v _
      have hbind : ∃ p s1, methodA E ty v name s = .some p s1 ∧ call p.1 (p.2 :: l) s1 = rOf out s' := by
        have e' : (match methodA E ty v name s with | .none => R.none | .some p s1 => call p.1 (p.2 :: l) s1 | .pan c s1 => .pan c s1) = rOf out s' := by
          rw [← e]
          unfold M.bind
          cases methodA E ty v name s <;> rfl
        cases e3 : methodA E ty v name s with
        | none => rw [e3] at e'; exact (rOf_none e').elim
        | some p s1 => rw [e3] at e'; exact ⟨p, s1, rfl, e'⟩
        | pan c s1 => exact ((np_methodA _ _ _).no _ _ _ e3).elim
      obtain ⟨p, s1, e3, e4⟩ := hbind
      have inv : ∀ {z : Value}, VR r (.iface ty v) z → ∃ v', z = .iface ty v' ∧ VR r v v' := by
        intro z hz
        cases hz with
        | iface h => exact ⟨_, rfl, h⟩
      obtain ⟨v', hrecv, hv⟩ := inv hfv
      · skip
        have hfuel : ∀ z : Nat, z + Made.depth = (z + 99) + 1 := fun z => rfl
        obtain ⟨rfl, rv, m1, m2⟩ := methodA_ok (w := w) (n := E.P.types.size + 99) he e3 hv
        have hm : ∀ (args : Array Value), (callMethod (.iface ty v') name args).run E.P w = (callFunc p.1 (#[rv] ++ args)).run E.P w := by
          intro args
          unfold callMethod
          simp only [Sem.run_bind, run_program, Result.andThen_ok]
          rw [hfuel, m1]
          simp only [Result.andThen_ok]
        have e1 : (#[rv] ++ c.args.map (Act.eval ⟨t, dfs⟩)) = (rv :: c.args.toList.map (Act.eval ⟨t, dfs⟩)).toArray := by
          rw [hmap]; simp
        have hexec : (execOp (Act.eval ⟨t, dfs⟩) o).run E.P w = (callFunc p.1 (rv :: c.args.toList.map (Act.eval ⟨t, dfs⟩)).toArray).run E.P w := by
          rw [← e1, ← hm]
          simp only [execOp, ho, resolve, hc, hrecv]
          have hz : ∀ (y : Value) (l : Array Value), (#[y] ++ l)[0]? = some y := fun y l => (Array.getElem?_append_left (by simp)).trans rfl
          have hz2 : ∀ (y : Value) (l : Array Value), (#[y] ++ l).extract 1 (#[y] ++ l).size = l := fun y l => by
            simp [Array.extract_append]
          simp only [invoke, Sem.run_bind, Sem.run_pure, Result.andThen_ok, hz, hz2]
        rcases hc1.ok e4 hr hb hf (args' := rv :: c.args.toList.map (Act.eval ⟨t, dfs⟩)) (.cons m2 hl) with ⟨k1, k2⟩ | ⟨_, v, v', w', r', rfl, g1, g2, g3, g4, g5⟩
        case inr =>
          refine ⟨w', r', dfs, cs, g2, by rw [g4]; exact hx.mono g2.le, g3, v', g1, .one (step_lone_go ?_)⟩
          rw [stepG_frm hoi hw (.inr hd), ← frm_finish b t dfs hoi]
          rw [g5] at hexec
          simp [stepG.apply, hexec]
        obtain ⟨w', r', g1, g2, g3, g4⟩ := k2 (frm b t dfs (.inRegion ops (i :: rest) :: k)) cs
        have henter : step E.P (lone (frm b t dfs (.inRegion ops (i :: rest) :: k)) cs w) =
            .next (lone (Frame.enter E.P p.1 (rv :: c.args.toList.map (Act.eval ⟨t, dfs⟩)).toArray .normal) (frm b t dfs (.inRegion ops (i :: rest) :: k) :: cs) w) := by
          refine step_lone_go ?_
          rw [stepG_frm hoi hw (.inr hd)]
          rw [k1] at hexec
          simp [stepG.apply, hexec, frm]
        refine ⟨w', r', dfs, cs, g1, by rw [g3]; exact hx.mono g1.le, g2, ?_⟩
        unfold Ends at g4
        cases out with
        | inl v =>
          obtain ⟨v', p1, p2⟩ := g4
          rw [frm_finish b t dfs hoi] at p2
          exact ⟨v', p1, .head henter p2⟩
        | inr ch =>
          obtain ⟨ch', p1, p2⟩ := g4
          exact ⟨ch', _, p1, .head henter p2⟩
    · exact (rOf_none e).elim
end
end Go.Proofs.YtbmkpcjkadifhaaGreatDoor.Am
/- Panics, recover, defer; every operation that the evaluator knows, put together. -/
namespace Go.Proofs.YtbmkpcjkadifhaaGreatDoor.Am
open Go.RowKit

section
variable {E : Env} {ds : List Nat} {o : Oper}
theorem lo_rec {α : Type} {g : Option α} {f : α → M Value} (h : ∀ a, Loc (f a)) : Loc (fun s => Option.rec (motive := fun _ => R Value) .none (fun a => f a s) g) := by
  cases g with
  | none => exact lo_none
  | some a => exact h a
theorem optRec_rOf {α : Type} {x : Option α} {f : α → St → R Value} {s s' : St} {out : Out Value} (h : Option.rec (motive := fun _ => R Value) .none (fun a => f a s) x = rOf out s') : ∃ a, x = some a ∧ f a s = rOf out s' := by
  cases x with
  | none => exact (rOf_none h).elim
  | some a => exact ⟨a, rfl, h⟩
theorem chk_rOf {α : Type} {b : Bool} {m : M α} {o : Out α} {s s' : St} (h : M.chk b m s = rOf o s') : b = true ∧ m s = rOf o s' := by
  cases b with
  | false => exact (rOf_none h).elim
  | true => exact ⟨rfl, h⟩
theorem on_rOf {α β : Type} {y : Option α} {f : α → M β} {o : Out β} {s s' : St} (h : M.on y f s = rOf o s') : ∃ a, y = some a ∧ f a s = rOf o s' := by
  cases y with
  | none => exact (rOf_none h).elim
  | some a => exact ⟨a, rfl, h⟩
theorem bind_rOf {α β : Type} {m : M α} {f : α → M β} {o : Out β} {s s' : St} (h : M.bind m f s = rOf o s') : (∃ a s1, m s = .some a s1 ∧ f a s1 = rOf o s') ∨ ∃ c, m s = .pan c s' ∧ o = .inr c := by
  unfold M.bind at h
  cases e : m s with
  | none => rw [e] at h; exact (rOf_none h).elim
  | some a s1 => rw [e] at h; exact .inl ⟨a, s1, rfl, h⟩
  | pan c s1 =>
    rw [e] at h
    obtain ⟨rfl, rfl⟩ := rOf_inr h
    exact .inr ⟨c, rfl, rfl⟩
theorem getCx_bind {β : Type} {f : Ctx → M β} {s : St} : M.bind getCx f s = f s.cx s := rfl
theorem putCx_bind {β : Type} {x : Ctx} {f : Unit → M β} {s : St} : M.bind (putCx x) f s = f () ⟨s.mem, s.next, s.lim, s.rd, s.wr, x⟩ := rfl

theorem op_panic {x : Operand} (ho : o.op = .panic x) : OpS E o (with1 ds x kPanic) ds := by
  obtain ⟨g, h1, h2⟩ := compO_ok ds x
  refine ⟨_, by unfold with1; rw [h1], fun call round _ _ rho tm => lo_rec fun a => ?_, ?_⟩
  · cases a <;> first | exact lo_throw _ | exact lo_fail
  · intro call round hc1 hc2 w0 w r U rho tm b t dfs cs base s out s' hs hu hr hx hb hf e ops i rest k hoi hw
    obtain ⟨v, e1, e⟩ := optRec_rOf e
    have hv : VR r v (Act.eval ⟨t, dfs⟩ x) := h2 _ _ _ _ ⟨t, dfs⟩ _ hs (fun t q => hu t (by simp [ho, Op.operands] at q ⊢; simp [q])) e1
    have hd : ∀ c, o.op ≠ .defer c := by rw [ho]; intro c h; cases h
    cases v with
    | iface ty y =>
      obtain ⟨rfl, rfl⟩ := rOf_inr (show R.pan [{ v := .iface ty y, recovered := false }] s = rOf out s' from e)
      cases hv' : Act.eval ⟨t, dfs⟩ x with
      | iface ty' y' =>
        rw [hv'] at hv
        refine ⟨w, r, dfs, cs, .of_rel rfl hr, hx, rfl, [{ v := .iface ty' y', recovered := false }], .inRegion ops (i :: rest) :: k, .cons hv rfl rfl .nil, .one (step_lone_go ?_)⟩
        rw [stepG_frm hoi hw (.inr hd)]
        simp only [execOp, ho, hv']
        rw [← frm_raise]
        simp [stepG.apply, Instr.panic, goPanic, Sem.run]
      | _ => rw [hv'] at hv; cases hv
    | _ => exact (rOf_none e).elim
theorem op_recover {c : Call} (ho : o.op = .call c) (hc : c.callee = .builtin .recover) : OpS E o (.mk fun _ _ _ _ => kRecover) ds := by
  refine ⟨_, rfl, fun _ _ _ _ _ _ => lo_kRecover, ?_⟩
  intro call round hc1 hc2 w0 w r U rho tm b t dfs cs base s out s' hs hu hr hx hb hf e ops i rest k hoi hw
  have hd : ∀ c, o.op ≠ .defer c := by rw [ho]; intro c h; cases h
  have hrun : (execOp (Act.eval ⟨t, dfs⟩) o).run E.P w = .ok .recover w := by
    simp [execOp, ho, resolve, hc, invoke, builtin]
  have key : ∀ {v v' : Value} {cs' : List Frame}, b.roundOf = none → ((tryRecover (frm b t dfs (.inRegion ops (i :: rest) :: k)) cs = some (v', cs')) ∨ (tryRecover (frm b t dfs (.inRegion ops (i :: rest) :: k)) cs = none ∧ v' = .nilIface ∧ cs' = cs)) →
      step E.P (lone (frm b t dfs (.inRegion ops (i :: rest) :: k)) cs w) = .next (lone (frm b (putT t o.dst v') dfs (.inRegion ops rest :: k)) cs' w) := by
    intro v v' cs' hro htr
    refine step_lone_go ?_
    rw [stepG_frm hoi hw (.inr hd), ← frm_finish b t dfs hoi]
    have hro' : (frm b t dfs (.inRegion ops (i :: rest) :: k)).roundOf = none := hro
    rcases htr with htr | ⟨htr, rfl, rfl⟩ <;> simp [stepG.apply, hrun, hro', htr]
  unfold kRecover at e
  rw [getCx_bind] at e
  have fin : (∃ m d, s.cx = .cx (some m) (some d)) ∨ (∃ d, s.cx = .cx none (some d)) := by
    cases hcx : s.cx with
    | no => rw [hcx] at e; exact (rOf_none e).elim
    | cx up d =>
      cases d with
      | none => rw [hcx] at e; cases up <;> exact (rOf_none e).elim
      | some d => cases up with
        | none => exact .inr ⟨d, rfl⟩
        | some m => exact .inl ⟨m, d, rfl⟩
  rcases fin with ⟨m, d, hcx⟩ | ⟨d, hcx⟩
  · rw [hcx] at hx e
    unfold CxR at hx
    obtain ⟨⟨q1, c0, rest0, m', q2, q3, q4⟩, q5, q6⟩ := hx
    have htry := tryRecover_deferred (fr := frm b t dfs (.inRegion ops (i :: rest) :: k)) q1 cs
    cases hrm : recM m with
    | none =>
      replace e : Option.rec (motive := fun _ => M Value) (M.pure .nilIface) (fun p => M.bind (putCx (.cx (some p.2) (some d))) fun _ => M.pure p.1) (recM m) s = rOf out s' := e
      rw [hrm] at e
      obtain ⟨rfl, rfl⟩ := rOf_inl (show R.some .nilIface s = rOf out s' from e)
      refine ⟨w, r, dfs, cs, .of_rel rfl hr, ?_, rfl, .nilIface, .nilIface, .one (key (v := .nilIface) q5 (.inr ⟨?_, rfl, rfl⟩))⟩
      · rw [hcx]; exact ⟨⟨q1, c0, rest0, m', q2, q3, q4⟩, q5, q6⟩
      · rw [htry, q3]
        cases q4 with
        | run => rfl
        | ret => rfl
        | pan hch =>
          cases hch with
          | nil => rfl
          | @cons e0 e1 l0 l1 p1 p2 p3 p4 =>
            obtain ⟨ev, er, eg⟩ := e0
            obtain ⟨ev', er', eg'⟩ := e1
            simp only at p1 p2 p3
            subst p2
            subst p3
            cases er' <;> cases eg' <;> first | rfl | (simp [recM] at hrm)
    | some p =>
      replace e : Option.rec (motive := fun _ => M Value) (M.pure .nilIface) (fun p => M.bind (putCx (.cx (some p.2) (some d))) fun _ => M.pure p.1) (recM m) s = rOf out s' := e
      rw [hrm] at e
      obtain ⟨pv, pm⟩ := p
      obtain ⟨rfl, rfl⟩ := rOf_inl (show R.some pv ⟨s.mem, s.next, s.lim, s.rd, s.wr, .cx (some pm) (some d)⟩ = rOf out s' from e)
      unfold recM at hrm
      split at hrm
      · rename_i v older
        simp only [Option.some.injEq, Prod.mk.injEq] at hrm
        obtain ⟨rfl, rfl⟩ := hrm
        cases q4 with
        | pan hch =>
          cases hch with
          | @cons _ e1 _ l1 p1 p2 p3 p4 =>
            obtain ⟨ev, er, eg⟩ := e1
            simp only at p1 p2 p3
            subst p2
            subst p3
            refine ⟨w, r, dfs, { c0 with mode := .panicking ({ v := ev, recovered := true } :: l1) } :: rest0, .of_rel rfl hr, ?_, rfl, ev, p1, .one (key (v := v) q5 (.inl ?_))⟩
            · exact ⟨⟨q1, c0, rest0, _, q2, rfl, .pan (.cons p1 rfl rfl p4)⟩, q5, q6⟩
            · rw [htry, q3]; rfl
      · cases hrm
  · rw [hcx] at hx e
    unfold CxR at hx
    obtain ⟨⟨q1, q2⟩, q5, q6⟩ := hx
    obtain ⟨rfl, rfl⟩ := rOf_inl (show R.some .nilIface s = rOf out s' from e)
    refine ⟨w, r, dfs, cs, .of_rel rfl hr, ?_, rfl, .nilIface, .nilIface, .one (key (v := .nilIface) q5 (.inr ⟨?_, rfl, rfl⟩))⟩
    · rw [hcx]; exact ⟨⟨q1, q2⟩, q5, q6⟩
    · have hk : (frm b t dfs (.inRegion ops (i :: rest) :: k)).kind = .normal := q1
      unfold tryRecover
      rw [hk]
theorem op_defer {x : Operand} {c : Call} (ho : o.op = .defer c) (hc : c.callee = .value x) : OpS E o (compDefer ds c) ds := by
  obtain ⟨g, h1, h2⟩ := compO_ok ds x
  obtain ⟨g', h3, h4⟩ := compL_ok ds c.args.toList
  refine ⟨fun call round rho tm => M.on (g rho tm) fun f => M.on (g' rho tm) fun l => kDefer f l, by unfold compDefer; simp only [hc, h1, h3], ?_, ?_⟩
  · intro call round _ _ rho tm
    exact lo_on _ fun f => lo_on _ fun l => lo_kDefer _ _
  · intro call round hc1 hc2 w0 w r U rho tm b t dfs cs base s out s' hs hu hr hx hb hf e ops i rest k hoi hw
    obtain ⟨fv, e1, e⟩ := on_rOf e
    obtain ⟨l, e2, e⟩ := on_rOf e
    have hfv := h2 _ _ _ _ ⟨t, dfs⟩ _ hs (fun t q => hu t (by simp [ho, Op.operands, Call.operands, hc] at q ⊢; simp [q])) e1
    have hl : VRs r l (c.args.toList.map (Act.eval ⟨t, dfs⟩)) := h4 _ _ _ _ ⟨t, dfs⟩ _ hs (fun t q => hu t (by simp [ho, Op.operands, Call.operands] at q ⊢; simp [q])) e2
    have hmap : c.args.map (Act.eval ⟨t, dfs⟩) = (c.args.toList.map (Act.eval ⟨t, dfs⟩)).toArray := by rw [← List.map_toArray]
    unfold kDefer at e
    rw [getCx_bind] at e
    have fin : ∃ up d fn first cap, s.cx = .cx up (some d) ∧ fv = .func fn first cap := by
      cases hcx : s.cx with
      | no => rw [hcx] at e; cases fv <;> exact (rOf_none e).elim
      | cx up d =>
        cases d with
        | none => rw [hcx] at e; cases fv <;> exact (rOf_none e).elim
        | some d => cases fv with
          | func fn first cap => exact ⟨up, d, fn, first, cap, rfl, rfl⟩
          | _ => rw [hcx] at e; exact (rOf_none e).elim
    obtain ⟨up, d, fn, first, cap, hcx, rfl⟩ := fin
    · rw [hcx] at e
      obtain ⟨f', a', c', q1, q2, q3, q4⟩ := hfv.func_inv
      obtain ⟨rfl, rfl⟩ := rOf_inl (show R.some undef ⟨s.mem, s.next, s.lim, s.rd, s.wr, .cx up (some ({ target := .fn fn cap, args := first ++ l.toArray } :: d))⟩ = rOf out s' from e)
      rw [hcx] at hx
      unfold CxR at hx
      obtain ⟨p1, p2, p3⟩ := hx
      refine ⟨w, r, { target := .fn f' c', args := a' ++ c.args.map (Act.eval ⟨t, dfs⟩) } :: dfs, cs, .of_rel rfl hr, ⟨p1, p2, .cons (.fn q2 q4 ?_) p3⟩, rfl, undef, .undef, .one (step_lone_go ?_)⟩
      · rw [hmap]; simpa using q3.append hl
      · rw [stepG_frm hoi hw (.inl p2)]
        simp only [execOp, ho, resolve_value _ hc q1]
        rw [← frm_finish b t _ hoi]
        simp [stepG.apply, frm]

/-! ### All of them -/
theorem lo_int2 {k : Int → Int → St → R Value} {slow : Value → Value → M Value} (hk : ∀ a b, Loc (k a b)) (hs : ∀ x y, Loc (slow x y)) (x y : Value) : Loc (int2 k slow x y) := by
  unfold int2 caseI
  cases x
  case int k1 a =>
    cases y
    case int k2 b =>
      cases h1 : isI64 k1 with
      | false => simp only [h1]; exact hs _ _
      | true =>
        cases h2 : isI64 k2 with
        | false => simp only [h1, h2]; exact hs _ _
        | true => simp only [h1, h2]; exact hk a b
    all_goals exact hs _ _
  all_goals exact hs _ _
theorem lo_int3 {k : FastT} {slow : Value → Value → M Value} (hs : ∀ x y, Loc (slow x y)) (x y : Value) : Loc (int3 k slow x y) := by
  unfold int3 caseI
  cases x
  case int k1 a =>
    cases y
    case int k2 b =>
      cases a with
      | negSucc m => exact hs _ _
      | ofNat m =>
        cases b with
        | negSucc n => exact hs _ _
        | ofNat n =>
          simp only
          cases k k1 k2 m n with
          | none => exact hs _ _
          | some u => exact lo_pure _
    all_goals exact hs _ _
  all_goals exact hs _ _
theorem lo_aBin {op : BinOp} {t : Nat} {x y : Operand} {f : Value → Value → M Value} (h : aBin E op t x y = .mk f) : ∀ a b, Loc (f a b) := by
  have slow : ∀ op a b, Loc (binSlow E op t x y a b) := fun op a b => lo_binSlow _ _ _ _ _ _ _
  have rI' : ∀ n, Loc (rI n) := fun n => by
    have : rI n = (M.pure (.int .i64 (wrap64 n)) : M Value) := by funext s; unfold rI; rw [fI_eq]; rfl
    rw [this]; exact lo_pure _
  have rB' : ∀ b, Loc (rB b) := fun b => by cases b <;> exact lo_pure _
  intro a b
  cases op <;> cases h <;> first | exact slow _ _ _ | exact lo_int3 (slow _) _ _ | exact lo_int2 (fun a b => rI' _) (lo_int3 (slow _)) _ _ | exact lo_int2 (fun a b => rB' _) (lo_int3 (slow _)) _ _
theorem lo_with0 {x : Operand} : ∀ f, with0 ds x = .mk f → ∀ call round rho tm, Loc (f call round rho tm) := by
  obtain ⟨g, h1, _⟩ := compO_ok ds x
  intro f h
  unfold with0 at h
  rw [h1] at h
  cases h
  exact fun _ _ _ _ => lo_rec (f := fun a => M.pure a) fun a => lo_pure a
theorem lo_with1 {x : Operand} {k : Value → M Value} (hk : ∀ a, Loc (k a)) : ∀ f, with1 ds x k = .mk f → ∀ call round rho tm, Loc (f call round rho tm) := by
  obtain ⟨g, h1, _⟩ := compO_ok ds x
  intro f h
  unfold with1 at h
  rw [h1] at h
  cases h
  exact fun _ _ _ _ => lo_rec hk
theorem lo_with2 {x y : Operand} {k : Value → Value → M Value} (hk : ∀ a b, Loc (k a b)) : ∀ f, with2 ds x y k = .mk f → ∀ call round rho tm, Loc (f call round rho tm) := by
  obtain ⟨g, h1, _⟩ := compO_ok ds x
  obtain ⟨g', h2, _⟩ := compO_ok ds y
  intro f h
  unfold with2 at h
  rw [h1, h2] at h
  cases h
  exact fun _ _ rho tm => lo_rec (f := fun a s => Option.rec (motive := fun _ => R Value) .none (fun b => k a b s) (g' rho tm)) fun a => lo_rec (hk a)
theorem lo_withL {l : List Operand} {k : List Value → M Value} (hk : ∀ a, Loc (k a)) : ∀ f, withL ds l k = .mk f → ∀ call round rho tm, Loc (f call round rho tm) := by
  obtain ⟨g, h1, _⟩ := compL_ok ds l
  intro f h
  unfold withL at h
  rw [h1] at h
  cases h
  exact fun _ _ _ _ => lo_rec hk
theorem lo_withLL {l l' : List Operand} {k : List Value → List Value → M Value} (hk : ∀ a b, Loc (k a b)) : ∀ f, withLL ds l l' k = .mk f → ∀ call round rho tm, Loc (f call round rho tm) := by
  obtain ⟨g, h1, _⟩ := compL_ok ds l
  obtain ⟨g', h2, _⟩ := compL_ok ds l'
  intro f h
  unfold withLL at h
  rw [h1, h2] at h
  cases h
  exact fun _ _ rho tm => lo_rec (f := fun a s => Option.rec (motive := fun _ => R Value) .none (fun b => k a b s) (g' rho tm)) fun a => lo_rec (hk a)
theorem lo_withP {l : List (Nat × Operand)} {k : List (Nat × Value) → M Value} (hk : ∀ a, Loc (k a)) : ∀ f, withP ds l k = .mk f → ∀ call round rho tm, Loc (f call round rho tm) := by
  obtain ⟨g, h1, _⟩ := compP_ok ds l
  intro f h
  unfold withP at h
  rw [h1] at h
  cases h
  exact fun _ _ _ _ => lo_rec hk
theorem lo_with3 {x y z : Operand} {k : Value → Value → Value → M Value} (hk : ∀ a b c, Loc (k a b c)) : ∀ f, with3 ds x y z k = .mk f → ∀ call round rho tm, Loc (f call round rho tm) := by
  obtain ⟨g, h1, _⟩ := compO_ok ds x
  obtain ⟨g', h2, _⟩ := compO_ok ds y
  obtain ⟨g2, h3, _⟩ := compO_ok ds z
  intro f h
  unfold with3 at h
  rw [h1, h2, h3] at h
  cases h
  exact fun _ _ rho tm => lo_on _ fun a => lo_on _ fun b => lo_on _ fun c => hk a b c
theorem lo_compSl {t : Nat} {x : Operand} {lo hi mx : Option Operand} : ∀ f, compSl E ds t x lo hi mx = .mk f → ∀ call round rho tm, Loc (f call round rho tm) := by
  cases mx with
  | some m => intro f h; cases h; exact fun _ _ _ _ => lo_fail
  | none =>
    obtain ⟨g, h1, _⟩ := compO_ok ds x
    obtain ⟨g', h2, _⟩ := compM_ok ds lo
    obtain ⟨g2, h3, _⟩ := compM_ok ds hi
    intro f h
    unfold compSl withS at h
    simp only [h1, h2, h3] at h
    cases h
    exact fun _ _ rho tm => lo_on _ fun a => lo_on _ fun b => lo_on _ fun c => lo_aSlice _ _ _ _ _
theorem op_failC : OpS E o failC ds := ⟨_, rfl, fun _ _ _ _ _ _ => lo_fail, fun _call _round _ _ _w0 _w _r _U _rho _tm _b _t _dfs _cs _base _s _out _s' _hs _hu _hr _hx _hb _hf e => (rOf_none e).elim⟩
theorem compOp_ok (he : EnvTy E) (o : Oper) (ds : List Nat) : OpS E o (compOp E ds o.op) ds := by
  have nd : ∀ {p : Op}, o.op = p → (∀ c, p ≠ .defer c) → ∀ c, o.op ≠ .defer c := fun h k c => by rw [h]; exact k c
  generalize hop : o.op = op
  unfold compOp
  split
  · exact .ofV (op_move hop) (nd hop (by intro c h; cases h)) lo_with0
  · exact .ofV (op_assign hop) (nd hop (by intro c h; cases h)) lo_with0
  · exact .ofV (op_pick hop) (nd hop (by intro c h; cases h)) (lo_with3 lo_kPick)
  · exact .ofV (op_alloc hop he) (nd hop (by intro c h; cases h)) (by intro f h; cases h; exact fun _ _ _ _ => lo_kAlloc _ _)
  · exact .ofV (op_box hop) (nd hop (by intro c h; cases h)) (lo_with1 lo_kBox)
  · exact .ofV (op_build hop he) (nd hop (by intro c h; cases h)) (lo_withP fun a => lo_aBuild _ _ _)
  · exact .ofV (op_buildSlice hop he) (nd hop (by intro c h; cases h)) (lo_withP fun a => lo_aBuildS _ _ _ _)
  · exact .ofV (op_load hop he) (nd hop (by intro c h; cases h)) (lo_with1 fun a => lo_kLoad _ _ _)
  · exact .ofV (op_store hop he) (nd hop (by intro c h; cases h)) (lo_with2 fun a b => lo_kStore _ _ _ _)
  · exact .ofV (op_nil hop) (nd hop (by intro c h; cases h)) (lo_with1 lo_kNil)
  · refine .ofV (op_bin hop he) (nd hop (by intro c h; cases h)) ?_
    rename_i op t x y yt
    generalize hc : aBin E op t x y = c
    obtain ⟨f⟩ := c
    exact lo_with2 (lo_aBin hc)
  · exact .ofV (op_un hop) (nd hop (by intro c h; cases h)) (lo_with1 fun a => lo_kUn _ _ _)
  · exact .ofV (op_conv hop he) (nd hop (by intro c h; cases h)) (lo_with1 fun a => lo_kConvB _ _ _ _)
  · exact .ofV (op_slArr hop he) (nd hop (by intro c h; cases h)) (lo_with1 fun a => lo_kSlArr _ _ _)
  · exact .ofV (op_iface hop he) (nd hop (by intro c h; cases h)) (lo_with1 fun a => lo_kIface _ _ _)
  · exact .ofV (op_makeFunc hop) (nd hop (by intro c h; cases h)) (lo_withLL fun a b => lo_pure _)
  · exact .ofV (op_makeSlice hop he) (nd hop (by intro c h; cases h)) (lo_with2 fun a b => lo_kMkSl _ _ _ _)
  · exact .ofV (op_slice hop he) (nd hop (by intro c h; cases h)) lo_compSl
  · exact .ofV (op_fieldAddr hop he) (nd hop (by intro c h; cases h)) (lo_with1 fun a => lo_kFld _ _ _ _)
  · exact .ofV (op_field hop he) (nd hop (by intro c h; cases h)) (lo_with1 fun a => lo_kField _ _ _ _)
  · exact .ofV (op_indexAddr hop he) (nd hop (by intro c h; cases h)) (lo_with2 fun a b => lo_kIdxA _ _ _ _)
  · exact .ofV (op_index hop he) (nd hop (by intro c h; cases h)) (lo_with2 fun a b => lo_kIdx _ _ _ _)
  · exact .ofV (op_extract hop) (nd hop (by intro c h; cases h)) (lo_with1 fun a => lo_kExt _ _)
  · rename_i c
    cases hc : c.callee with
    | value f => unfold compCall; simp only [hc]; exact op_call hop hc
    | invoke a b => unfold compCall; simp only [hc]; exact op_invoke he hop hc
    | builtin bi =>
      by_cases hbr : bi = .recover
      · subst hbr; unfold compCall; simp only [hc]; exact op_recover hop hc
      · have : compCall E ds c = withL ds c.args.toList (aBuiltin E bi c.argTypes.toList) := by
          unfold compCall
          rw [hc]
          cases bi <;> first | rfl | exact absurd rfl hbr
        rw [this]
        exact .ofV (op_builtin hop hc hbr he) (nd hop (by intro c h; cases h)) (lo_withL fun a => lo_aBuiltin _ _ _ _)
  · exact op_panic hop
  · rename_i c
    cases hc : c.callee with
    | value f => exact op_defer hop hc
    | _ => unfold compDefer; simp only [hc]; exact op_failC
  · exact .ofV (op_assert hop he) (nd hop (by intro c h; cases h)) (lo_with1 fun a => lo_kAssert _ _ _ _)
  · exact .ofV (op_range hop he) (nd hop (by intro c h; cases h)) (lo_with1 fun a => lo_kRange _ _ _)
  · exact .ofV (op_next hop) (nd hop (by intro c h; cases h)) (lo_with1 fun a => lo_kNext _)
  · exact .ofV (op_mkMap hop) (nd hop (by intro c h; cases h)) (by intro f h; cases h; exact fun _ _ _ _ => lo_kMkMap)
  · exact .ofV (op_mkMapR hop he) (nd hop (by intro c h; cases h)) (lo_with1 fun a => lo_kMkMapR _ _ _)
  · exact .ofV (op_lookup hop he) (nd hop (by intro c h; cases h)) (lo_with2 fun a b => lo_kLook _ _ _ _ _)
  · exact .ofV (op_mapUp hop he) (nd hop (by intro c h; cases h)) (lo_with3 fun a b c => lo_kMapUp _ _ _ _ _)
  · exact .ofV (op_insert hop he) (nd hop (by intro c h; cases h)) (lo_with3 fun a b c => lo_kMapUp _ _ _ _ _)
  · exact .ofV (op_mapEnt hop he) (nd hop (by intro c h; cases h)) (lo_with2 fun a b => lo_kMapEnt _ _ _ _)
  · exact .ofV (op_entSt hop) (nd hop (by intro c h; cases h)) (lo_with3 fun a b c => lo_kEntSt _ _ _)
  · exact op_failC
end
end Go.Proofs.YtbmkpcjkadifhaaGreatDoor.Am
