/- The evaluator's operations, each against the model's own. -/
import Derived.Test.YtkgncjlgmnbfoaaGreatDoorAmOk
namespace Go.Proofs.YtkgncjlgmnbfoaaGreatDoor.Am
open Go.RowKit

def aggD : TypeDesc → Bool
  | .struct _ | .array _ _ => true
  | _ => false
def aggV : Value → Bool
  | .agg _ => true
  | _ => false
structure TyOK (P : Program) (t : Nat) (i : TI) : Prop where
  info : ∃ n, P.info? t = some n ∧ n.size = i.size ∧ n.bytes = i.bytes ∧ ∃ z, n.zero = some z ∧ z.cells.toList = i.zero
  und : P.underlying t = some i.u
  agg : i.agg = aggD i.u
  len : i.zero.length = i.size
  pl : ∀ v ∈ i.zero, plain v = true
  zagg : ∀ n z, P.info? t = some n → n.zero = some z → aggV z = i.agg
/-- The table of types says what the program says. -/
structure EnvTy (E : Env) : Prop where
  ok : ∀ t i, E.ty.get t = some i → TyOK E.P t i
  flds : ∀ t i fs, E.ty.get t = some i → i.u = .struct fs → ∀ f ∈ fs, ∃ fi, E.ty.get f.type = some fi

section
variable {E : Env} {w0 w : World} {r : Inj}
theorem ti_some {t : Nat} {i : TI} {s s' : St} (h : ti E t s = .some i s') (he : EnvTy E) : TyOK E.P t i ∧ s = s' := by
  obtain ⟨h1, h2⟩ := ofOpt_some h
  exact ⟨he.ok t i h1, h2⟩
variable {P : Program} {t : Nat} {i : TI}
theorem TyOK.run_und (h : TyOK P t i) : (underlying t).run P w = .ok i.u w := by simp [underlying, program, Sem.run, h.und]
theorem TyOK.run_size (h : TyOK P t i) : (sizeOf t).run P w = .ok i.size w := by
  obtain ⟨n, h1, h2, _⟩ := h.info
  simp [sizeOf, typeInfo, program, Sem.run, h1, h2]
theorem TyOK.run_zero (h : TyOK P t i) : ∃ z, (zeroValue t).run P w = .ok z w ∧ z.cells.toList = i.zero := by
  obtain ⟨n, h1, h2, h3, z, h4, h5⟩ := h.info
  exact ⟨z, by simp [zeroValue, typeInfo, program, Sem.run, h1, h4], h5⟩
theorem TyOK.run_agg (h : TyOK P t i) : (isAgg t).run P w = .ok i.agg w := by
  rw [h.agg]
  simp only [isAgg, Sem.run_bind, h.run_und, Result.andThen_ok]
  cases i.u <;> rfl
theorem plain_VRs {l : List Value} (h : ∀ v ∈ l, plain v = true) : VRs r l l := ⟨rfl, fun i v v' e e' => by
  rw [e] at e'; cases e'
  exact VR.of_plain (h v (List.mem_of_getElem? e))⟩
theorem cellsOf_eq (v : Value) : cellsOf v = v.cells.toList := by cases v <;> rfl
theorem VR.cells {v v' : Value} (h : VR r v v') : VRs r (cellsOf v) v'.cells.toList := by
  cases h with
  | agg h1 h2 => exact VRs.ofArr h1 h2
  | bool b => exact .cons (.bool b) .nil
  | int k n => exact .cons (.int k n) .nil
  | float k n => exact .cons (.float k n) .nil
  | @complex k a b v' h =>
    have : v'.cells.toList = [v'] := by cases v' <;> first | rfl | (have h1 := TopR.one h; simp [Am.oneCell] at h1)
    rw [this]
    exact .cons (.complex h) .nil
  | string s => exact .cons (.string s) .nil
  | ptrNil => exact .cons .ptrNil .nil
  | ptr e => exact .cons (.ptr e) .nil
  | slNil => exact .cons .slNil .nil
  | sl e c l => exact .cons (.sl e c l) .nil
  | slEnd a b => exact .cons (.slEnd a b) .nil
  | mapNil => exact .cons .mapNil .nil
  | map e => exact .cons (.map e) .nil
  | chanNil => exact .cons .chanNil .nil
  | iter e => exact .cons (.iter e) .nil
  | func a b c d e => exact .cons (.func a b c d e) .nil
  | nilFunc => exact .cons .nilFunc .nil
  | iface a => exact .cons (.iface a) .nil
  | nilIface => exact .cons .nilIface .nil
  | tuple a b => exact .cons (.tuple a b) .nil

theorem aLoad_ok {a a' : Addr} {s s' : St} {v : Value} (he : EnvTy E) (h : aLoad E t a s = .some v s') (hr : Rel w0 r s.mem w) (ha : AR r a a') :
    ∃ v', (loadVar t a').run E.P w = .ok v' w ∧ VR r v v' ∧ Same s s' := by
  obtain ⟨i, s1, h1, h2⟩ := bind_some h
  obtain ⟨hi, rfl⟩ := ti_some h1 he
  rw [if_eq] at h2
  simp only [loadVar, Sem.run_bind, hi.run_agg, Result.andThen_ok]
  by_cases hg : i.agg = true
  · rw [if_pos hg] at h2
    obtain ⟨l, s2, h3, h4⟩ := bind_some h2
    obtain ⟨rfl, rfl⟩ := pure_some h4
    obtain ⟨l', g1, g2, g3, g4⟩ := rdL_ok _ h3 hr ha
    refine ⟨.agg l'.toArray, ?_, g3.agg, g4⟩
    have := run_loadCells_list (P := E.P) w a' l' g2
    rw [g1] at this
    simp [hg, hi.run_size, this]
  · rw [if_neg hg] at h2
    obtain ⟨v', g1, g2, g3⟩ := rdV_ok h2 hr ha
    exact ⟨v', by simp [hg, run_load_cell g1], g2, g3⟩
theorem aStore_ok {a a' : Addr} {s s' : St} {v v' : Value} {u : Unit} (he : EnvTy E) (h : aStore E t a v s = .some u s') (hr : Rel w0 r s.mem w) (ha : AR r a a') (hv : VR r v v') :
    ∃ w', (storeVar t a' v').run E.P w = .ok () w' ∧ Rel w0 r s'.mem w' ∧ s'.next = s.next ∧ s'.lim = s.lim ∧ s'.cx = s.cx := by
  obtain ⟨i, s1, h1, h2⟩ := bind_some h
  obtain ⟨hi, rfl⟩ := ti_some h1 he
  obtain ⟨h3, h4⟩ := chk_some h2
  have hl := hv.cells.1
  obtain ⟨w', g1, g2, g3, g4, g5⟩ := wrL_ok (P := E.P) _ _ 0 h4 hr (by simpa [Addr.add] using ha) hv.cells
  refine ⟨w', ?_, g2, g3, g4, g5⟩
  have hs : v'.cells.size = i.size := by
    have := Nat.eq_of_beq_eq_true h3
    rw [← Array.length_toList, ← hl]; exact this
  simp [storeVar, hi.run_size, hs, g1]

/-- What an operation comes to: a value, in a world that goes on. -/
def Yields (E : Env) (w0 : World) (r : Inj) (s s' : St) (v : Value) (w : World) (m : Sem Value) : Prop :=
  ∃ v' w' r', m.run E.P w = .ok v' w' ∧ Goes w0 r s s' r' w' ∧ VR r' v v' ∧ s'.lim = s.lim ∧ s'.cx = s.cx
theorem Yields.pure {s : St} {v v' : Value} {m : Sem Value} (hm : m.run E.P w = .ok v' w) (hr : Rel w0 r s.mem w) (hv : VR r v v') : Yields E w0 r s s v w m :=
  ⟨v', w, r, hm, .of_rel rfl hr, hv, rfl, rfl⟩
theorem Yields.same {s s' : St} {v v' : Value} {m : Sem Value} (hm : m.run E.P w = .ok v' w) (hs : Same s s') (hr : Rel w0 r s.mem w) (hv : VR r v v') : Yields E w0 r s s' v w m :=
  ⟨v', w, r, hm, .same hs hr, hv, hs.2.2.1, hs.2.2.2⟩

theorem run_newRow (c : Array Value) (e : TypeId) : (newRow e c).run P w = .ok ⟨w.heap.size, 0, none⟩ (w.alloc (.cells c e)) := by simp [newRow, newObj, Sem.run]
theorem asA_some {v : Value} {a : Addr} {s s' : St} (h : asA v s = .some a s') : v = .pointer (some a) ∧ s = s' := by
  unfold asA at h
  split at h
  · obtain ⟨rfl, rfl⟩ := pure_some h; exact ⟨rfl, rfl⟩
  · cases h

theorem kAlloc_ok {e : Nat} {s s' : St} {v : Value} (he : EnvTy E) (h : kAlloc E e s = .some v s') (hr : Rel w0 r s.mem w) (hf : Fresh r s.next s'.next) : Yields E w0 r s s' v w (Instr.alloc e true (.tuple #[])) := by
  obtain ⟨i, s1, h1, h2⟩ := bind_some h
  obtain ⟨hi, rfl⟩ := ti_some h1 he
  obtain ⟨b, s2, h3, h4⟩ := bind_some h2
  obtain ⟨rfl, rfl⟩ := pure_some h4
  obtain ⟨z, g1, g2⟩ := hi.run_zero (w := w)
  obtain ⟨k1, k2, k3, k4, k5⟩ := newL_ok h3 hr hf (plain_VRs hi.pl) (c := z.cells) e (fun i v e => by rw [← g2] at e; simpa using e)
  subst k1
  exact ⟨_, _, _, by simp [Instr.alloc, g1, newVar, run_newRow], k2, k3.ptr, k4, k5⟩
theorem kBox_ok {e : Nat} {s s' : St} {x x' v : Value} (h : kBox x s = .some v s') (hr : Rel w0 r s.mem w) (hf : Fresh r s.next s'.next) (hx : VR r x x') : Yields E w0 r s s' v w (Instr.box e x') := by
  obtain ⟨b, s2, h3, h4⟩ := bind_some h
  obtain ⟨rfl, rfl⟩ := pure_some h4
  obtain ⟨k1, k2, k3, k4, k5⟩ := newL_ok h3 hr hf hx.cells (c := x'.cells) e (fun i v e => by simpa using e)
  subst k1
  exact ⟨_, _, _, by simp [Instr.box, newVar, run_newRow], k2, k3.ptr, k4, k5⟩
theorem kLoad_ok {s s' : St} {a a' v : Value} (he : EnvTy E) (h : kLoad E t a s = .some v s') (hr : Rel w0 r s.mem w) (ha : VR r a a') : Yields E w0 r s s' v w (Instr.loadAt t a') := by
  obtain ⟨a1, s1, h1, h2⟩ := bind_some h
  obtain ⟨rfl, rfl⟩ := asA_some h1
  obtain ⟨a2, rfl, ha2⟩ := ha.ptr_inv
  obtain ⟨v', g1, g2, g3⟩ := aLoad_ok he h2 hr ha2
  exact .same (by simp [Instr.loadAt, Instr.sureAddr, g1]) g3 hr g2
theorem kStore_ok {s s' : St} {a a' x x' v : Value} (he : EnvTy E) (h : kStore E t a x s = .some v s') (hr : Rel w0 r s.mem w) (ha : VR r a a') (hx : VR r x x') :
    v = undef ∧ ∃ w', (Instr.storeAt t a' x').run E.P w = .ok () w' ∧ Rel w0 r s'.mem w' ∧ s'.next = s.next ∧ s'.lim = s.lim ∧ s'.cx = s.cx := by
  obtain ⟨a1, s1, h1, h2⟩ := bind_some h
  obtain ⟨rfl, rfl⟩ := asA_some h1
  obtain ⟨a2, rfl, ha2⟩ := ha.ptr_inv
  obtain ⟨u, s2, h3, h4⟩ := bind_some h2
  obtain ⟨rfl, rfl⟩ := pure_some h4
  obtain ⟨w', g1, g2, g3⟩ := aStore_ok he h3 hr ha2 hx
  exact ⟨rfl, w', by simp [Instr.storeAt, Instr.sureAddr, g1], g2, g3⟩

theorem blt_lt {a b : Nat} (h : Nat.blt a b = true) : a < b := Nat.le_of_ble_eq_true h
theorem ptrA_some {a : Addr} {s s' : St} {v : Value} (h : ptrA a s = .some v s') : v = .pointer (some a) ∧ s = s' := by
  unfold ptrA at h
  rw [fA_eq] at h
  obtain ⟨rfl, rfl⟩ := pure_some h
  exact ⟨rfl, rfl⟩
theorem pSl_some {a : Addr} {l c : Nat} {s s' : St} {v : Value} (h : pSl a l c s = .some v s') : v = .slice (some a) l c ∧ s = s' := by
  unfold pSl at h
  rw [fA_eq, fN_eq, fN_eq] at h
  obtain ⟨rfl, rfl⟩ := pure_some h
  exact ⟨rfl, rfl⟩
theorem pN_some {n : Nat} {s s' : St} {v : Value} (h : pN n s = .some v s') : v = .int .i64 n ∧ s = s' := by
  unfold pN at h
  rw [fN_eq] at h
  obtain ⟨rfl, rfl⟩ := pure_some h
  exact ⟨rfl, rfl⟩
theorem pV_some {x v : Value} {s s' : St} (h : pV x s = .some v s') : v = x ∧ s = s' ∧ plain v = true := by
  unfold pV caseI at h
  cases x <;> simp only at h
  case int k n =>
    rw [fI_eq] at h
    obtain ⟨rfl, rfl⟩ := pure_some h
    exact ⟨rfl, rfl, rfl⟩
  all_goals
    obtain ⟨hp, h⟩ := chk_some h
    obtain ⟨rfl, rfl⟩ := pure_some h
    exact ⟨rfl, rfl, hp⟩
theorem asN_some {v : Value} {k : Nat} {s s' : St} (h : asN v s = .some k s') : (∃ kd, v = .int kd k) ∧ s = s' := by
  unfold asN at h
  split at h
  · obtain ⟨rfl, rfl⟩ := pure_some h; exact ⟨⟨_, rfl⟩, rfl⟩
  · cases h
theorem VR.int_inv {k : IntKind} {n : Int} {v' : Value} (h : VR r (.int k n) v') : v' = .int k n := by cases h; rfl

theorem fldOf_some {u : TypeDesc} {f : Nat} {p : Nat × TI × Nat} {s s' : St} (he : EnvTy E) (h : fldOf E u f s = .some p s') :
    s = s' ∧ ∃ fs fd fi, u = .struct fs ∧ fs[f]? = some fd ∧ TyOK E.P fd.type fi ∧ p = (fd.offset, fi, fd.type) := by
  unfold fldOf at h
  split at h
  · rename_i fs
    generalize hfd : fs.toList[f]? = q at h
    split at h
    · rename_i fd
      obtain ⟨fi, s3, h9, h10⟩ := bind_some h
      obtain ⟨hfi, rfl⟩ := ti_some h9 he
      obtain ⟨rfl, rfl⟩ := pure_some h10
      exact ⟨rfl, fs, fd, fi, rfl, by simpa using hfd, hfi, rfl⟩
    · cases h
  · cases h
theorem VR.sl_inv {a : Addr} {l c : Nat} {v' : Value} (h : VR r (.slice (some a) l c) v') :
    (∃ a' c', v' = .slice (some a') l c' ∧ AR r a a' ∧ CapR r a'.block a'.off c c' ∧ l ≤ c % capU) ∨ (l = 0 ∧ c / capU ≠ 0 ∧ c % capU = 0 ∧ ∃ a' c', v' = .slice (some a') 0 c') := by
  cases h with
  | @sl b o b' d l c c' hb hc hl => exact .inl ⟨_, _, rfl, ⟨b, o, b', d, rfl, rfl, hb⟩, hc, hl⟩
  | slEnd h1 h2 => exact .inr ⟨rfl, h1, h2, _, _, rfl⟩
theorem kFld_ok {f : Nat} {s s' : St} {a a' v : Value} (he : EnvTy E) (h : kFld E t a f s = .some v s') (hr : Rel w0 r s.mem w) (ha : VR r a a') : Yields E w0 r s s' v w (Instr.fieldAt t a' f) := by
  obtain ⟨i, s1, h1, h2⟩ := bind_some h
  obtain ⟨hi, rfl⟩ := ti_some h1 he
  obtain ⟨a1, s1, h3, h4⟩ := bind_some h2
  obtain ⟨rfl, rfl⟩ := asA_some h3
  obtain ⟨a2, rfl, ha2⟩ := ha.ptr_inv
  obtain ⟨p, s2, h5, h6⟩ := bind_some h4
  obtain ⟨h7, h8⟩ := chk_some h6
  obtain ⟨rfl, rfl⟩ := ptrA_some h8
  obtain ⟨rfl, fs, fd, fi, hu, hfd, hfi, rfl⟩ := fldOf_some he h5
  have hz : fi.size ≠ 0 := by
    intro h0
    simp [h0] at h7
  refine .pure (v' := .pointer (some (a2.add fd.offset))) ?_ hr (ha2.add _).ptr
  simp [Instr.fieldAt, hi.run_und, hu, hfd, Instr.sureAddr, fieldPlace, hfi.run_size, hz]
theorem kIdxA_ok {s s' : St} {x x' ix ix' v : Value} (he : EnvTy E) (h : kIdxA E t x ix s = .some v s') (hr : Rel w0 r s.mem w) (hx : VR r x x') (hix : VR r ix ix') : Yields E w0 r s s' v w (Instr.indexAt t x' ix') := by
  obtain ⟨i, s1, h1, h2⟩ := bind_some h
  obtain ⟨hi, rfl⟩ := ti_some h1 he
  obtain ⟨k, s1, h3, h4⟩ := bind_some h2
  obtain ⟨⟨kd, rfl⟩, rfl⟩ := asN_some h3
  have e1 := hix.int_inv
  subst e1
  generalize hu : i.u = u at h4
  unfold idxN at h4
  split at h4
  · rename_i n e a
    obtain ⟨ie, s3, h9, h10⟩ := bind_some h4
    obtain ⟨hie, rfl⟩ := ti_some h9 he
    obtain ⟨h7, h8⟩ := chk_some h10
    obtain ⟨rfl, rfl⟩ := ptrA_some h8
    obtain ⟨a2, rfl, ha2⟩ := hx.ptr_inv
    have hk : k < n := blt_lt h7
    refine .pure (v' := .pointer (some (a2.add (k * ie.size)))) ?_ hr (ha2.add _).ptr
    simp [Instr.indexAt, asIntOf, hi.run_und, hu, Instr.sureAddr, hie.run_size]
    intro hh
    exact absurd hh (by omega)
  · rename_i e a len c
    obtain ⟨ie, s3, h9, h10⟩ := bind_some h4
    obtain ⟨hie, rfl⟩ := ti_some h9 he
    obtain ⟨h7, h8⟩ := chk_some h10
    obtain ⟨rfl, rfl⟩ := ptrA_some h8
    have hk : k < len := blt_lt h7
    rcases hx.sl_inv with ⟨a2, c2, rfl, ha2, hc, _⟩ | ⟨rfl, _⟩
    · refine .pure (v' := .pointer (some (a2.add (k * ie.size)))) ?_ hr (ha2.add _).ptr
      simp [Instr.indexAt, asIntOf, hi.run_und, hu, hie.run_size]
      intro hh
      exact absurd hh (by omega)
    · exact absurd hk (Nat.not_lt_zero _)
  · cases h4
theorem kNil_ok {s s' : St} {x x' v : Value} {o : Oper} {xo : Operand} {a : Act} (ho : o.op = .nilCheck xo) (hxo : a.eval xo = x') (h : kNil x s = .some v s') (hx : VR r x x') :
    s = s' ∧ v = x ∧ (execOp a.eval o).run P w = .ok (.value x') w := by
  unfold kNil at h
  split at h
  · obtain ⟨rfl, rfl⟩ := pure_some h
    obtain ⟨a2, rfl, ha2⟩ := hx.ptr_inv
    exact ⟨rfl, rfl, by simp [execOp, ho, hxo]⟩
  · obtain ⟨rfl, rfl⟩ := pure_some h
    cases hx
    exact ⟨rfl, rfl, by simp [execOp, ho, hxo]⟩
  · obtain ⟨rfl, rfl⟩ := pure_some h
    cases hx with
    | @func _ f' _ a' _ c' hf _ _ _ _ =>
      cases f' <;> simp [FnR] at hf
      subst hf
      exact ⟨rfl, rfl, by simp [execOp, ho, hxo]⟩
  · cases h
theorem partV_ok {off : Nat} {s s' : St} {cs : List Value} {cs' : Array Value} {v : Value} (he : EnvTy E) (h : partV E t cs off s = .some v s') (hc : VRs r cs cs'.toList) :
    s = s' ∧ ∃ v', (part t cs' off).run E.P w = .ok v' w ∧ VR r v v' := by
  obtain ⟨i, s1, h1, h2⟩ := bind_some h
  obtain ⟨hi, rfl⟩ := ti_some h1 he
  rw [if_eq] at h2
  by_cases hg : i.agg = true
  · rw [if_pos hg] at h2
    obtain ⟨rfl, rfl⟩ := pure_some h2
    refine ⟨rfl, .agg (cs'.extract off (off + i.size)), by simp [part, hi.run_agg, hg, hi.run_size], ?_⟩
    have := ((hc.drop off).take i.size).agg
    have e : (List.take i.size (List.drop off cs'.toList)).toArray = cs'.extract off (off + i.size) := by
      apply Array.ext'
      simp [Array.toList_extract]
    rw [e] at this
    exact this
  · rw [if_neg hg] at h2
    obtain ⟨h3, rfl⟩ := ofOpt_some h2
    obtain ⟨v', g1, g2⟩ := hc.get h3
    have g1' : cs'[off]? = some v' := by simpa using g1
    exact ⟨rfl, v', by simp [part, hi.run_agg, hg, g1'], g2⟩
theorem asCs_some {v : Value} {l : List Value} {s s' : St} (h : asCs v s = .some l s') : (∃ c, v = .agg c ∧ l = c.toList) ∧ s = s' := by
  unfold asCs at h
  split at h
  · obtain ⟨rfl, rfl⟩ := pure_some h; exact ⟨⟨_, rfl, rfl⟩, rfl⟩
  · cases h
theorem VR.agg_inv {c : Array Value} {v' : Value} (h : VR r (.agg c) v') : ∃ c', v' = .agg c' ∧ VRs r c.toList c'.toList := by
  cases h with
  | agg h1 h2 => exact ⟨_, rfl, VRs.ofArr h1 h2⟩
theorem kField_ok {f : Nat} {s s' : St} {x x' v : Value} (he : EnvTy E) (h : kField E t x f s = .some v s') (hr : Rel w0 r s.mem w) (hx : VR r x x') : Yields E w0 r s s' v w (Instr.field t x' f) := by
  obtain ⟨i, s1, h1, h2⟩ := bind_some h
  obtain ⟨hi, rfl⟩ := ti_some h1 he
  obtain ⟨cs, s1, h3, h4⟩ := bind_some h2
  obtain ⟨⟨c, rfl, rfl⟩, rfl⟩ := asCs_some h3
  obtain ⟨c', rfl, hc⟩ := hx.agg_inv
  obtain ⟨p, s2, h5, h6⟩ := bind_some h4
  obtain ⟨rfl, fs, fd, fi, hu, hfd, hfi, rfl⟩ := fldOf_some he h5
  obtain ⟨rfl, v', g1, g2⟩ := partV_ok (w := w) he h6 hc
  exact .pure (by simp [Instr.field, hi.run_und, hu, hfd, asAgg, g1]) hr g2
theorem kExt_ok {k : Nat} {s s' : St} {x x' v : Value} (h : kExt k x s = .some v s') (hr : Rel w0 r s.mem w) (hx : VR r x x') : Yields E w0 r s s' v w (Instr.extract x' k) := by
  unfold kExt at h
  split at h
  · obtain ⟨h3, rfl⟩ := ofOpt_some h
    cases hx with
    | tuple h1 h2 =>
      obtain ⟨v', g1, g2⟩ := (VRs.ofArr h1 h2).get h3
      exact .pure (v' := v') (by simp at g1; simp [Instr.extract, g1]) hr g2
  · cases h
theorem kIface_ok {s s' : St} {x x' v : Value} (he : EnvTy E) (h : kIface E t x s = .some v s') (hr : Rel w0 r s.mem w) (hx : VR r x x') : Yields E w0 r s s' v w (Instr.makeInterface t x') := by
  obtain ⟨i, s1, h1, h2⟩ := bind_some h
  obtain ⟨hi, rfl⟩ := ti_some h1 he
  have hm := hi.run_und (w := w)
  generalize i.u = u at h2 hm
  cases u with
  | interface ms => cases h2
  | _ =>
    obtain ⟨rfl, rfl⟩ := pure_some h2
    exact .pure (v' := .iface t x') (by simp [Instr.makeInterface, hm]) hr (.iface hx)
theorem kSlArr_ok {s s' : St} {x x' v : Value} (he : EnvTy E) (h : kSlArr E t x s = .some v s') (hr : Rel w0 r s.mem w) (hx : VR r x x') : Yields E w0 r s s' v w (Instr.arrayAt t x') := by
  obtain ⟨i, s1, h1, h2⟩ := bind_some h
  obtain ⟨hi, rfl⟩ := ti_some h1 he
  generalize hu : i.u = u at h2
  unfold slArrP at h2
  split at h2
  · rename_i n e a len c
    obtain ⟨h7, h8⟩ := chk_some h2
    obtain ⟨rfl, rfl⟩ := pure_some h8
    rw [Bool.and_eq_true] at h7
    have hk : n ≤ len ∧ 0 < len := ⟨Nat.le_of_ble_eq_true h7.1, blt_lt h7.2⟩
    rcases hx.sl_inv with ⟨a2, c2, rfl, ha2, hc, _⟩ | ⟨rfl, _⟩
    · exact .pure (v' := .pointer (some a2)) (by simp [Instr.arrayAt, hi.run_und, hu, Nat.not_lt.2 hk.1]) hr ha2.ptr
    · exact absurd hk.2 (Nat.lt_irrefl 0)
  · cases h2
theorem kPick_ok {c c' a a' b b' v : Value} {s s' : St} (h : kPick c a b s = .some v s') (hc : VR r c c') (ha : VR r a a') (hb : VR r b b') : s = s' ∧ ∃ t, c' = .bool t ∧ VR r v (if t then a' else b') := by
  unfold kPick at h
  split at h
  · rename_i t
    cases hc
    cases t with
    | false => obtain ⟨rfl, rfl⟩ := pure_some h; exact ⟨rfl, false, rfl, hb⟩
    | true => obtain ⟨rfl, rfl⟩ := pure_some h; exact ⟨rfl, true, rfl, ha⟩
  · cases h
end
end Go.Proofs.YtkgncjlgmnbfoaaGreatDoor.Am
