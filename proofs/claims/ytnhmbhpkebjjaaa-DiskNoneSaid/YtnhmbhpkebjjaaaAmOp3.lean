/- The operations that give a value at once: choices, slices, functions, built-in ones. -/
import Derived.Test.YtnhmbhpkebjjaaaAmOp2
namespace Go.Proofs.Ytnhmbhpkebjjaaa.Am
open Go.RowKit

section
variable {E : Env} {ds : List Nat} {o : Oper}
theorem op_pick {x y z : Operand} (ho : o.op = .pick x y z) : OpV E o (with3 ds x y z kPick) ds := by
  obtain ⟨g, h1, h2⟩ := compO_ok ds x
  obtain ⟨g', h3, h4⟩ := compO_ok ds y
  obtain ⟨g2, h5, h6⟩ := compO_ok ds z
  refine ⟨_, by unfold with3; rw [h1, h3, h5], fun _ _ rho tm => np_on _ fun a => np_on _ fun b => np_on _ fun c => np_kPick _ _ _, ?_⟩
  intro call round w0 w r U rho tm a s v s' hs hu hr h hf
  obtain ⟨x', e1, h⟩ := on_some h
  obtain ⟨y', e2, h⟩ := on_some h
  obtain ⟨z', e3, h⟩ := on_some h
  obtain ⟨rfl, t, k1, k2⟩ := kPick_ok h (h2 _ _ _ _ _ _ hs (fun t q => hu t (by simp [ho, Op.operands, Call.operands] at q ⊢; simp [q])) e1) (h4 _ _ _ _ _ _ hs (fun t q => hu t (by simp [ho, Op.operands, Call.operands] at q ⊢; simp [q])) e2) (h6 _ _ _ _ _ _ hs (fun t q => hu t (by simp [ho, Op.operands, Call.operands] at q ⊢; simp [q])) e3)
  refine ⟨_, w, r, .inl ?_, .of_rel rfl hr, k2, rfl, rfl⟩
  simp only [execOp, ho, k1]
  cases t <;> simp [asBool]
theorem op_slice {t : Nat} {x : Operand} {lo hi mx : Option Operand} (ho : o.op = .slice t x lo hi mx) (he : EnvTy E) : OpV E o (compSl E ds t x lo hi mx) ds := by
  cases mx with
  | some m =>
    exact ⟨_, rfl, fun _ _ _ _ => np_fail, fun call round w0 w r U rho tm a s v s' hs hu hr h hf => by cases h⟩
  | none =>
    obtain ⟨g, h1, h2⟩ := compO_ok ds x
    obtain ⟨g', h3, h4⟩ := compM_ok ds lo
    obtain ⟨g2, h5, h6⟩ := compM_ok ds hi
    refine ⟨fun _ _ rho tm => M.on (g rho tm) fun a => M.on (g' rho tm) fun b => M.on (g2 rho tm) fun c => aSlice E t a b c, by unfold compSl withS; simp only [h1, h3, h5], fun _ _ rho tm => np_on _ fun a => np_on _ fun b => np_on _ fun c => np_aSlice _ _ _ _ _, ?_⟩
    intro call round w0 w r U rho tm a s v s' hs hu hr h hf
    obtain ⟨x', e1, h⟩ := on_some h
    obtain ⟨y', e2, h⟩ := on_some h
    obtain ⟨z', e3, h⟩ := on_some h
    exact (aSlice_ok he h hr (h2 _ _ _ _ _ _ hs (fun t q => hu t (by simp [ho, Op.operands, Call.operands] at q ⊢; simp [q])) e1) (h4 _ _ _ _ _ _ hs (fun t q => hu t (by simp [ho, Op.operands, Call.operands] at q ⊢; simp [q])) e2) (h6 _ _ _ _ _ _ hs (fun t q => hu t (by simp [ho, Op.operands, Call.operands] at q ⊢; simp [q])) e3)).val (by simp only [execOp, ho]; rfl)
theorem op_mkMap {t : Nat} (ho : o.op = .makeMap t none) : OpV E o (.mk fun _ _ _ _ => kMkMap) ds := by
  refine ⟨_, rfl, fun _ _ _ _ => np_kMkMap, ?_⟩
  intro call round w0 w r U rho tm a s v s' hs hu hr h hf
  exact (kMkMap_ok h hr hf).val (by simp only [execOp, ho]; rfl)
theorem op_mkMapR {t : Nat} {x : Operand} (ho : o.op = .makeMap t (some x)) (he : EnvTy E) : OpV E o (with1 ds x (kMkMapR E t)) ds :=
  with1_ok (m := fun x => Instr.makeMap t (some x)) (by simp [ho, Op.operands]) (fun a => by simp only [execOp, ho]; rfl) (np_kMkMapR _ _) fun h hr hf hx => kMkMapR_ok he h hr hf hx
theorem op_lookup {t : Nat} {c : Bool} {x y : Operand} (ho : o.op = .lookup t x y c) (he : EnvTy E) : OpV E o (with2 ds x y (kLook E t c)) ds :=
  with2_ok (m := fun x y => Instr.lookup t x y c) (by simp [ho, Op.operands]) (fun a => by simp only [execOp, ho]; rfl) (np_kLook _ _ _) fun h hr hf hx hy => kLook_ok he h hr hx hy
theorem op_mapEnt {t : Nat} {x y : Operand} (ho : o.op = .mapEntry t x y) (he : EnvTy E) : OpV E o (with2 ds x y (kMapEnt E t)) ds :=
  with2_ok (m := Instr.mapEntry t) (by simp [ho, Op.operands]) (fun a => by simp only [execOp, ho]; rfl) (np_kMapEnt _ _) fun h hr hf hx hy => kMapEnt_ok he h hr hx hy
/-- Three operands, and nothing to give. -/
theorem with3_ok {x y z : Operand} {k : Value → Value → Value → M Value} {m : Value → Value → Value → Sem Unit} (hx : o.op.operands.toList = [x, y, z]) (ho : ∀ a : Act, execOp a.eval o = (do m (a.eval x) (a.eval y) (a.eval z); pure .skip)) (np : ∀ x y z, NoPan (k x y z))
    (hk : ∀ {w0 w : World} {r : Inj} {x x' y y' z z' : Value} {s v s'}, k x y z s = .some v s' → Rel w0 r s.mem w → VR r x x' → VR r y y' → VR r z z' → v = undef ∧ ∃ w', (m x' y' z').run E.P w = .ok () w' ∧ Goes w0 r s s' r w' ∧ s'.lim = s.lim ∧ s'.cx = s.cx) : OpV E o (with3 ds x y z k) ds := by
  obtain ⟨g, h1, h2⟩ := compO_ok ds x
  obtain ⟨g', h3, h4⟩ := compO_ok ds y
  obtain ⟨g2, h5, h6⟩ := compO_ok ds z
  refine ⟨_, by unfold with3; rw [h1, h3, h5], fun _ _ rho tm => np_on _ fun a => np_on _ fun b => np_on _ fun c => np _ _ _, ?_⟩
  intro call round w0 w r U rho tm a s v s' hs hu hr h hf
  obtain ⟨x', e1, h⟩ := on_some h
  obtain ⟨y', e2, h⟩ := on_some h
  obtain ⟨z', e3, h⟩ := on_some h
  obtain ⟨rfl, w', k1, k2, k3, k4⟩ := hk h hr (h2 _ _ _ _ _ _ hs (fun t q => hu t (by rw [hx]; simp at q ⊢; simp [q])) e1) (h4 _ _ _ _ _ _ hs (fun t q => hu t (by rw [hx]; simp at q ⊢; simp [q])) e2) (h6 _ _ _ _ _ _ hs (fun t q => hu t (by rw [hx]; simp at q ⊢; simp [q])) e3)
  refine ⟨undef, w', r, .inr ⟨?_, rfl⟩, k2, .undef, k3, k4⟩
  rw [ho]
  simp [k1]
theorem op_mapUp {t : Nat} {x y z : Operand} (ho : o.op = .mapUpdate t x y z) (he : EnvTy E) : OpV E o (with3 ds x y z (kMapUp E t)) ds :=
  with3_ok (m := Instr.mapUpdate t) (by simp [ho, Op.operands]) (fun a => by simp only [execOp, ho]) (np_kMapUp _ _) fun h hr hx hy hz => kMapUp_ok he h hr hx hy hz
theorem op_insert {t : Nat} {x y z : Operand} (ho : o.op = .insert t x y z) (he : EnvTy E) : OpV E o (with3 ds x y z (kMapUp E t)) ds :=
  with3_ok (m := Instr.mapUpdate t) (by simp [ho, Op.operands]) (fun a => by simp only [execOp, ho]) (np_kMapUp _ _) fun h hr hx hy hz => kMapUp_ok he h hr hx hy hz
theorem op_entSt {t : Nat} {x y z : Operand} (ho : o.op = .entryStore t x y z) : OpV E o (with3 ds x y z kEntSt) ds :=
  with3_ok (m := Instr.entryStore t) (by simp [ho, Op.operands]) (fun a => by simp only [execOp, ho]) np_kEntSt fun h hr hx hy hz => kEntSt_ok h hr hx hy hz
theorem op_range {t : Nat} {x : Operand} (ho : o.op = .range t x) (he : EnvTy E) : OpV E o (with1 ds x (kRange E t)) ds :=
  with1_ok (m := Instr.range t) (by simp [ho, Op.operands]) (fun a => by simp only [execOp, ho]; rfl) (np_kRange _ _) fun h hr hf hx => kRange_ok he h hr hf hx
theorem op_next {x : Operand} (ho : o.op = .next x true) : OpV E o (with1 ds x kNext) ds :=
  with1_ok (m := fun x => Instr.next x true o.type) (by simp [ho, Op.operands]) (fun a => by simp only [execOp, ho]; rfl) np_kNext fun h hr hf hx => kNext_ok h hr hx
theorem arrMap {α β : Type} (f : α → β) (a : Array α) : a.map f = (a.toList.map f).toArray := by rw [← List.map_toArray]
theorem VRs.func {r : Inj} {f : Nat} {a a' c c' : List Value} (h : VRs r a a') (k : VRs r c c') : VR r (.func (.func f) a.toArray c.toArray) (.func (.func f) a'.toArray c'.toArray) :=
  .func rfl (by simpa using h.1) (fun i v v' e e' => h.2 i v v' (by simpa using e) (by simpa using e')) (by simpa using k.1) (fun i v v' e e' => k.2 i v v' (by simpa using e) (by simpa using e'))
theorem op_makeFunc {f : Nat} {first cap : Array Operand} (ho : o.op = .makeFunc (.func f) first cap) : OpV E o (withLL ds first.toList cap.toList fun x c => M.pure (.func (.func f) x.toArray c.toArray)) ds := by
  obtain ⟨g, h1, h2⟩ := compL_ok ds first.toList
  obtain ⟨g', h3, h4⟩ := compL_ok ds cap.toList
  refine ⟨_, by unfold withLL; rw [h1, h3], fun _ _ rho tm => np_rec (g := g rho tm) (f := fun (a : List Value) s => Option.rec (motive := fun _ => R Value) .none (fun (b : List Value) => M.pure (Value.func (.func f) a.toArray b.toArray) s) (g' rho tm)) fun a => np_rec (f := fun (b : List Value) => M.pure (Value.func (.func f) a.toArray b.toArray)) fun b => np_pure _, ?_⟩
  intro call round w0 w r U rho tm a s v s' hs hu hr h hf
  obtain ⟨x', e1, h⟩ := optRec_some (f := fun (a : List Value) s => Option.rec (motive := fun _ => R Value) .none (fun (b : List Value) => M.pure (Value.func (.func f) a.toArray b.toArray) s) (g' rho tm)) h
  obtain ⟨y', e2, h⟩ := optRec_some (f := fun (b : List Value) => M.pure (Value.func (.func f) x'.toArray b.toArray)) h
  obtain ⟨rfl, rfl⟩ := pure_some h
  refine ⟨_, w, r, .inl ?_, .of_rel rfl hr, (h2 _ _ _ _ _ _ hs (fun t q => hu t (by simp [ho, Op.operands, Call.operands] at q ⊢; simp [q])) e1).func (h4 _ _ _ _ _ _ hs (fun t q => hu t (by simp [ho, Op.operands, Call.operands] at q ⊢; simp [q])) e2), rfl, rfl⟩
  simp [execOp, ho, Instr.makeFunc]
  exact ⟨arrMap _ _, arrMap _ _⟩
theorem op_builtin {b : Builtin} {c : Call} (ho : o.op = .call c) (hb : c.callee = .builtin b) (hn : b ≠ .recover) (he : EnvTy E) : OpV E o (withL ds c.args.toList (aBuiltin E b c.argTypes.toList)) ds := by
  obtain ⟨g, h1, h2⟩ := compL_ok ds c.args.toList
  refine ⟨_, by unfold withL; rw [h1], fun _ _ rho tm => np_rec (g := g rho tm) (np_aBuiltin _ _ _), ?_⟩
  intro call round w0 w r U rho tm a s v s' hs hu hr h hf
  obtain ⟨l, e1, h⟩ := optRec_some h
  have hl : VRs r l (c.args.toList.map a.eval) := h2 _ _ _ _ _ _ hs (fun t q => hu t (by simp [ho, Op.operands, Call.operands] at q ⊢; simp [q])) e1
  have key : ∀ {m : Sem Value}, Yields E w0 r s s' v w m → (∀ (cs : Array Bool) w, (builtin b c.argTypes o.type cs (c.args.map a.eval)).run E.P w = (valOf m).run E.P w) →
      ∃ v' w' r', ((execOp a.eval o).run E.P w = .ok (.value v') w' ∨ ((execOp a.eval o).run E.P w = .ok .skip w' ∧ v' = undef)) ∧ Goes w0 r s s' r' w' ∧ VR r' v v' ∧ s'.lim = s.lim ∧ s'.cx = s.cx := by
    intro m hy hm
    obtain ⟨v', w', r', k1, k2, k3, k4, k5⟩ := hy
    refine ⟨v', w', r', .inl ?_, k2, k3, k4, k5⟩
    simp only [execOp, ho, resolve, hb, invoke, Sem.run_bind, Sem.run_pure, Result.andThen_ok, hm, valOf, k1]
  generalize hts : c.argTypes.toList = ts at h
  have hmap : c.args.map a.eval = (c.args.toList.map a.eval).toArray := by rw [← List.map_toArray]
  have ht0 : ∀ {t : Nat} {l : List Nat}, c.argTypes.toList = t :: l → c.argTypes[0]? = some t := by
    intro t l e; rw [← Array.getElem?_toList, e]; rfl
  have ht1 : ∀ {t t2 : Nat} {l : List Nat}, c.argTypes.toList = t :: t2 :: l → c.argTypes[1]? = some t2 := by
    intro t t2 l e; rw [← Array.getElem?_toList, e]; rfl
  unfold aBuiltin at h
  split at h
  · rename_i t ts' x
    obtain ⟨x', l', q1, q2, q3⟩ := hl.inv
    have := q3.inv_nil
    subst this
    refine key (aLen_ok (ty := o.type) (ht0 hts) he h hr q2) fun cs w => ?_
    rw [hmap, q1]; simp [builtin, valOf]
  · rename_i t ts' x
    obtain ⟨x', l', q1, q2, q3⟩ := hl.inv
    have := q3.inv_nil
    subst this
    refine key (aCap_ok (ty := o.type) (ht0 hts) he h hr q2) fun cs w => ?_
    rw [hmap, q1]; simp [builtin, valOf]
  · obtain ⟨y', l1, q1, q2, q3⟩ := hl.inv
    obtain ⟨x', l', q4, q5, q6⟩ := q3.inv
    have := q6.inv_nil
    subst this
    subst q4
    refine key (aAppend_ok (ty := o.type) (ht0 hts) (ht1 hts) he h hr hf q2 q5) fun cs w => ?_
    rw [hmap, q1]; simp [builtin, valOf]
  · obtain ⟨y', l1, q1, q2, q3⟩ := hl.inv
    obtain ⟨x', l', q4, q5, q6⟩ := q3.inv
    have := q6.inv_nil
    subst this
    subst q4
    refine key (aCopy_ok (ty := o.type) (ht0 hts) he h hr q2 q5) fun cs w => ?_
    rw [hmap, q1]; simp [builtin, valOf]
  · obtain ⟨y', l1, q1, q2, q3⟩ := hl.inv
    obtain ⟨x', l', q4, q5, q6⟩ := q3.inv
    have := q6.inv_nil
    subst this
    subst q4
    refine key (kDel_ok (ty := o.type) (ht0 hts) he h hr q2 q5) fun cs w => ?_
    rw [hmap, q1]; simp [builtin, valOf]
  · obtain ⟨x', l', q1, q2, q3⟩ := hl.inv
    have := q3.inv_nil
    subst this
    refine key (kClear_ok (ty := o.type) (ht0 hts) he h hr q2) fun cs w => ?_
    rw [hmap, q1]; simp [builtin, valOf]
  · refine key (min_ok (ts := c.argTypes) (ty := o.type) h hr hl) fun cs w => ?_
    rw [hmap]; simp [builtin, valOf]
  · refine key (max_ok (ts := c.argTypes) (ty := o.type) h hr hl) fun cs w => ?_
    rw [hmap]; simp [builtin, valOf]
  · cases h
end
end Go.Proofs.Ytnhmbhpkebjjaaa.Am
