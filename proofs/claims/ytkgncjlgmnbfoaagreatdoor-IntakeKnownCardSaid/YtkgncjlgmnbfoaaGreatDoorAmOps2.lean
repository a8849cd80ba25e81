/- The evaluator's operations, each against the model's own: slices, literals, make. -/
import Derived.Test.YtkgncjlgmnbfoaaGreatDoorAmOps
import Derived.Laws.Tables
import Derived.ChangeMaps3
namespace Go.Proofs.YtkgncjlgmnbfoaaGreatDoor.Am
open Go.RowKit

/-- An operand that may be missing. -/
def VRo (r : Inj) : Option Value → Option Value → Prop
  | none, none => True
  | some v, some v' => VR r v v'
  | _, _ => False

theorem capU_pos : 0 < capU := by unfold capU; decide

section
variable {E : Env} {w0 w : World} {r : Inj} {t : Nat}

theorem bnd_some {o : Option Value} {top dflt n : Nat} {s s' : St} (h : bnd o top dflt s = .some n s') : s = s' ∧ ((o = none ∧ n = dflt) ∨ ∃ k, o = some (.int k n) ∧ n ≤ top) := by
  unfold bnd at h
  split at h
  · obtain ⟨rfl, rfl⟩ := pure_some h; exact ⟨rfl, .inl ⟨rfl, rfl⟩⟩
  · obtain ⟨h1, h2⟩ := chk_some h
    obtain ⟨rfl, rfl⟩ := pure_some h2
    exact ⟨rfl, .inr ⟨_, rfl, Nat.le_of_ble_eq_true h1⟩⟩
  · cases h
theorem run_bounds {P : Program} {b : Bool} {len cap l h : Nat} {lo hi lo' hi' : Option Value} (hh : (hi = none ∧ h = len) ∨ ∃ k, hi = some (.int k h) ∧ h ≤ cap) (hl : (lo = none ∧ l = 0) ∨ ∃ k, lo = some (.int k l) ∧ l ≤ h)
    (h1 : VRo r lo lo') (h2 : VRo r hi hi') : (Instr.sliceBounds b len cap lo' hi' none).run P w = .ok (l, h, cap) w := by
  have e1 : lo' = lo := by
    rcases hl with ⟨rfl, _⟩ | ⟨k, rfl, _⟩ <;> cases lo' <;> simp [VRo] at h1 ⊢
    exact h1.int_inv
  have e2 : hi' = hi := by
    rcases hh with ⟨rfl, _⟩ | ⟨k, rfl, _⟩ <;> cases hi' <;> simp [VRo] at h2 ⊢
    exact h2.int_inv
  subst e1; subst e2
  rcases hh with ⟨rfl, rfl⟩ | ⟨k, rfl, hle⟩ <;> rcases hl with ⟨rfl, rfl⟩ | ⟨k', rfl, hle'⟩
  · simp [Instr.sliceBounds]
  · simp [Instr.sliceBounds, Instr.sliceBound, asIntOf]
    intro hx; exact absurd hx (by omega)
  · simp [Instr.sliceBounds, Instr.sliceBound, asIntOf]
    intro hx; exact absurd hx (by omega)
  · simp [Instr.sliceBounds, Instr.sliceBound, asIntOf]
    rw [if_pos hle, if_pos hle']

theorem sub_parts (a c l m x : Nat) (h1 : m + x = c) (h : l ≤ x) (h2 : x < a) : c - l = m + (x - l) ∧ x - l < a := by omega
theorem cap_sub {c l : Nat} (h : l ≤ c % capU) : (c - l) / capU = c / capU ∧ (c - l) % capU = c % capU - l := by
  have hp := capU_pos
  obtain ⟨h3, h4⟩ := sub_parts capU c l _ _ (Nat.div_add_mod c capU) h (Nat.mod_lt _ hp)
  constructor
  · rw [h3, Nat.mul_add_div hp, Nat.div_eq_of_lt h4]; rfl
  · rw [h3, Nat.mul_add_mod, Nat.mod_eq_of_lt h4]
theorem cap_div0 {c : Nat} (h : c / capU = 0) : c % capU = c := Nat.mod_eq_of_lt (by
  have hp := capU_pos
  rcases Nat.lt_or_ge c capU with h1 | h1
  · exact h1
  · exact absurd h (Nat.ne_of_gt (Nat.div_pos h1 hp)))
theorem sizeOk_some {c size : Nat} (h : sizeOk c size = true) : c / capU = 0 ∨ (c / capU) % 1024 = size := by
  unfold sizeOk at h
  cases e : Nat.beq (Nat.div c capU) 0 with
  | true => exact .inl (Nat.eq_of_beq_eq_true e)
  | false => rw [e] at h; exact .inr (Nat.eq_of_beq_eq_true h)
theorem AR.blk {a a' : Addr} (k : AR r a a') : ∃ b o d, a = ⟨b, o, none⟩ ∧ a' = ⟨a'.block, o + d, none⟩ ∧ a'.off = o + d ∧ r.blk b = some (a'.block, d) := by
  obtain ⟨b, o, b', d, rfl, rfl, h⟩ := k
  exact ⟨b, o, d, rfl, rfl, rfl, h⟩
theorem AR.block_add {a a' : Addr} (k : AR r a a') (n : Nat) : (a'.add n).block = a'.block ∧ (a'.add n).off = a'.off + n := by
  obtain ⟨b, o, b', d, rfl, rfl, h⟩ := k
  rw [addr_add]; exact ⟨rfl, rfl⟩
theorem VR.slice {a a' : Addr} {l c c' : Nat} (k : AR r a a') (hc : CapR r a'.block a'.off c c') (hl : l ≤ c % capU) : VR r (.slice (some a) l c) (.slice (some a') l c') := by
  obtain ⟨b, o, b', d, rfl, rfl, h⟩ := k
  exact .sl h hc hl
theorem CapR.exact {b o c : Nat} (h : c < capU) : CapR r b o c c := .inl ⟨Nat.div_eq_of_lt h, rfl⟩

theorem aSlice_ok {s s' : St} {x x' v : Value} {lo lo' hi hi' : Option Value} (he : EnvTy E) (h : aSlice E t x lo hi s = .some v s') (hr : Rel w0 r s.mem w) (hx : VR r x x') (h1 : VRo r lo lo') (h2 : VRo r hi hi') :
    Yields E w0 r s s' v w (Instr.sliceAt t x' lo' hi' none) := by
  obtain ⟨i, s1, h3, h4⟩ := bind_some h
  obtain ⟨hi0, rfl⟩ := ti_some h3 he
  generalize hu : i.u = u at h4
  have hund := hi0.run_und (w := w)
  rw [hu] at hund
  split at h4
  · -- an array behind a pointer
    rename_i n e a
    obtain ⟨ie, s1, h5, h6⟩ := bind_some h4
    obtain ⟨hie, rfl⟩ := ti_some h5 he
    unfold slArr at h6
    obtain ⟨hcu, h6⟩ := chk_some h6
    have hlt : n < capU := blt_lt hcu
    obtain ⟨hh, s1, h7, h8⟩ := bind_some h6
    obtain ⟨rfl, k1⟩ := bnd_some h7
    obtain ⟨l, s1, h9, h10⟩ := bind_some h8
    obtain ⟨rfl, k2⟩ := bnd_some h9
    obtain ⟨rfl, rfl⟩ := pSl_some h10
    obtain ⟨a2, rfl, ha2⟩ := hx.ptr_inv
    have hb := run_bounds (r := r) (w := w) (P := E.P) (b := false) k1 k2 h1 h2
    refine .pure (v' := .slice (some (if n = l then a2 else a2.add (l * ie.size))) (hh - l) (n - l)) ?_ hr ?_
    · simp [Instr.sliceAt, hund, Instr.sureAddr, hb, hie.run_size]
    · have hc : (n - l) < capU := by omega
      have hle : hh - l ≤ (n - l) % capU := by
        rw [Nat.mod_eq_of_lt hc]
        rcases k1 with ⟨_, rfl⟩ | ⟨_, _, k1⟩ <;> omega
      by_cases hnl : n = l
      · have e1 : Nat.beq n l = true := by rw [hnl]; exact Nat.beq_refl l
        rw [if_pos hnl, e1]
        exact .slice ha2 (.exact hc) hle
      · have e1 : Nat.beq n l = false := by
          cases e : Nat.beq n l with
          | true => exact absurd (Nat.eq_of_beq_eq_true e) hnl
          | false => rfl
        rw [if_neg hnl, e1]
        exact .slice (ha2.add _) (.exact hc) hle
  · -- a slice
    rename_i e a len c
    obtain ⟨ie, s1, h5, h6⟩ := bind_some h4
    obtain ⟨hie, rfl⟩ := ti_some h5 he
    unfold slSl at h6
    obtain ⟨hh, s1, h7, h8⟩ := bind_some h6
    obtain ⟨rfl, k1⟩ := bnd_some h7
    obtain ⟨l, s1, h9, h10⟩ := bind_some h8
    obtain ⟨rfl, k2⟩ := bnd_some h9
    obtain ⟨hsz, h11⟩ := chk_some h10
    obtain ⟨rfl, rfl⟩ := pSl_some h11
    have k3 : l ≤ hh := by rcases k2 with ⟨_, rfl⟩ | ⟨_, _, k2⟩ <;> omega
    change (hi = none ∧ hh = len) ∨ ∃ k, hi = some (.int k hh) ∧ hh ≤ c % capU at k1
    rcases hx.sl_inv with ⟨a2, c2, rfl, ha2, hc, hlen⟩ | ⟨rfl, q1, q2, a2, c2, rfl⟩
    · have hle : c % capU ≤ c2 := by
        rcases hc with ⟨e1, rfl⟩ | ⟨_, k, _, _, e2, _⟩
        · exact Nat.mod_le _ _
        · omega
      have k1' : (hi = none ∧ hh = len) ∨ ∃ k, hi = some (.int k hh) ∧ hh ≤ c2 := by
        rcases k1 with k1 | ⟨k, e1, e2⟩
        · exact .inl k1
        · exact .inr ⟨k, e1, Nat.le_trans e2 hle⟩
      have hb := run_bounds (r := r) (w := w) (P := E.P) (b := true) k1' k2 h1 h2
      have hrun : (Instr.sliceAt t (.slice (some a2) len c2) lo' hi' none).run E.P w = .ok (.slice (if c2 = l then some a2 else some (a2.add (l * ie.size))) (hh - l) (c2 - l)) w := by
        simp [Instr.sliceAt, hund, Instr.slice, hb, hie.run_size]
      show Yields E w0 r s s (.slice (some (Bool.rec (motive := fun _ => Addr) a (addA a (l * ie.size)) (Nat.blt l (c % capU)))) (hh - l) (c - l)) w _
      have hhb : hh ≤ c % capU := by
        rcases k1 with ⟨_, rfl⟩ | ⟨_, _, k1⟩ <;> omega
      by_cases hlt : l < c % capU
      · have e1 : Nat.blt l (c % capU) = true := Nat.ble_eq_true_of_le hlt
        rw [e1]
        refine .pure hrun hr ?_
        rw [if_neg (by omega)]
        obtain ⟨m1, m2⟩ := cap_sub (c := c) (l := l) (Nat.le_of_lt hlt)
        refine .slice (ha2.add _) ?_ (by rw [m2]; omega)
        rw [(ha2.block_add _).1, (ha2.block_add _).2]
        rcases hc with ⟨e2, rfl⟩ | ⟨e2, k, g1, g2, g3, g4, g5⟩
        · exact .inl ⟨by rw [m1]; exact e2, rfl⟩
        · refine .inr ⟨by rw [m1]; exact e2, k, by rw [m1]; exact g1, by rw [m1]; exact g2, by rw [m2]; omega, g4, ?_⟩
          have e3 : k.sz = ie.size := by
            rcases sizeOk_some hsz with q | q
            · exact absurd q e2
            · rw [g2]; exact q
          rw [m2, ← e3, Nat.add_assoc, ← Nat.add_mul, Nat.add_sub_cancel' (Nat.le_of_lt hlt)]
          exact g5
      · have e1 : Nat.blt l (c % capU) = false := by
          cases e : Nat.blt l (c % capU) with
          | true => exact absurd (blt_lt e) hlt
          | false => rfl
        rw [e1]
        have e2 : hh - l = 0 := by omega
        have e3 : l = c % capU := by omega
        obtain ⟨m1, m2⟩ := cap_sub (c := c) (l := l) (Nat.le_of_eq e3)
        rw [e2]
        rw [e2] at hrun
        refine .pure hrun hr ?_
        rcases hc with ⟨e4, rfl⟩ | ⟨e4, k, g1, g2, g3, g4, g5⟩
        · have e5 := cap_div0 e4
          have e6 : c2 = l := by omega
          rw [if_pos e6]
          exact .slice ha2 (.inl ⟨by rw [m1]; exact e4, rfl⟩) (Nat.zero_le _)
        · have h5 : (c - l) / capU ≠ 0 := by rw [m1]; exact e4
          have h6 : (c - l) % capU = 0 := by rw [m2]; omega
          show VR r (.slice (some a) 0 (c - l)) _
          split
          · exact .slEnd h5 h6
          · exact .slEnd h5 h6
    · have hl : l = 0 ∧ hh = 0 := by
        rcases k1 with ⟨_, rfl⟩ | ⟨_, _, k1⟩ <;> rcases k2 with ⟨_, rfl⟩ | ⟨_, _, k2⟩ <;> omega
      obtain ⟨rfl, rfl⟩ := hl
      have k1' : (hi = none ∧ 0 = 0) ∨ ∃ k, hi = some (.int k ((0 : Nat) : Int)) ∧ 0 ≤ c2 := by
        rcases k1 with ⟨k1, _⟩ | ⟨k, e1, e2⟩
        · exact .inl ⟨k1, rfl⟩
        · exact .inr ⟨k, e1, Nat.zero_le _⟩
      have hb := run_bounds (r := r) (w := w) (P := E.P) (b := true) k1' k2 h1 h2
      refine .pure (v' := .slice (if c2 = 0 then some a2 else some (a2.add (0 * ie.size))) 0 c2) ?_ hr ?_
      · simp [Instr.sliceAt, hund, Instr.slice, hb, hie.run_size]
      · show VR r (.slice (some _) 0 c) _
        split
        · exact .slEnd q1 q2
        · exact .slEnd q1 q2
  · rename_i e
    obtain ⟨ie, s1, h5, h4⟩ := bind_some h4
    obtain ⟨hie, rfl⟩ := ti_some h5 he
    obtain ⟨hh, s1, h7, h8⟩ := bind_some h4
    obtain ⟨rfl, k1⟩ := bnd_some h7
    obtain ⟨l, s1, h9, h10⟩ := bind_some h8
    obtain ⟨rfl, k2⟩ := bnd_some h9
    obtain ⟨rfl, rfl⟩ := pure_some h10
    cases hx
    have hb := run_bounds (r := r) (w := w) (P := E.P) (b := true) (cap := 0) k1 k2 h1 h2
    have hl : l = 0 ∧ hh = 0 := by
      rcases k1 with ⟨_, rfl⟩ | ⟨_, _, k1⟩ <;> rcases k2 with ⟨_, rfl⟩ | ⟨_, _, k2⟩ <;> omega
    obtain ⟨rfl, rfl⟩ := hl
    exact .pure (v' := .slice none 0 0) (by simp [Instr.sliceAt, hund, Instr.slice, hb, hie.run_size]) hr .slNil
  · rename_i st
    unfold slStr at h4
    obtain ⟨hh, s1, h7, h8⟩ := bind_some h4
    obtain ⟨rfl, k1⟩ := bnd_some h7
    obtain ⟨l, s1, h9, h10⟩ := bind_some h8
    obtain ⟨rfl, k2⟩ := bnd_some h9
    obtain ⟨rfl, rfl⟩ := pure_some h10
    cases hx
    have hb := run_bounds (r := r) (w := w) (P := E.P) (b := false) k1 k2 h1 h2
    exact .pure (v' := .string (st.extract l hh)) (by simp [Instr.sliceAt, hund, Instr.slice, hb]) hr (.string _)
  · cases h4

/-! ### Literals -/
def PRs (r : Inj) : List (Nat × Value) → List (Nat × Value) → Prop
  | [], [] => True
  | p :: l, q :: m => p.1 = q.1 ∧ VR r p.2 q.2 ∧ PRs r l m
  | _, _ => False
theorem fillL_toList : ∀ (l : List Value) (off k : Nat) (cs : Array Value), off + k + l.length ≤ cs.size →
    ((l.zipIdx k).foldl (fun cs p => cs.setIfInBounds (off + p.2) p.1) cs).toList = cs.toList.take (off + k) ++ (l ++ cs.toList.drop (off + k + l.length))
  | [], off, k, cs, h => by simp
  | v :: l, off, k, cs, h => by
    simp only [List.length_cons] at h
    rw [List.zipIdx_cons, List.foldl_cons, fillL_toList l off (k + 1) _ (by simp; omega)]
    simp only [Array.toList_setIfInBounds]
    have hl : cs.toList.length = cs.size := Array.length_toList
    generalize cs.toList = m at *
    have e2 : (m.set (off + k) v).drop (off + (k + 1) + l.length) = m.drop (off + k + (l.length + 1)) := by
      rw [List.drop_set, if_pos (by omega)]
      congr 1
      omega
    have e3 : (m.set (off + k) v).take (off + (k + 1)) = m.take (off + k) ++ [v] := by
      rw [show off + (k + 1) = off + k + 1 by omega, List.take_set, List.take_succ_eq_append_getElem (by omega), List.set_append]
      simp only [List.length_take]
      rw [if_neg (by omega), show off + k - min (off + k) m.length = 0 by omega]
      rfl
    rw [e2, e3]
    simp
theorem fill_ok {place : Nat → Option (Nat × Nat)} {place' : Nat → Option (Nat × Nat)} (hp : ∀ k x, place k = some x → place' k = some x) :
    ∀ (ps ps' : List (Nat × Value)) (cs res : List Value) (cs' : Array Value), fillAll place ps cs = some res → PRs r ps ps' → VRs r cs cs'.toList → ∃ res', Instr.fill place' cs' ps' = some res' ∧ VRs r res res'.toList
  | [], [], cs, res, cs', h, _, hc => by
    cases h
    exact ⟨cs', rfl, hc⟩
  | [], _ :: _, _, _, _, _, hp, _ => hp.elim
  | _ :: _, [], _, _, _, _, hp, _ => hp.elim
  | p :: ps, q :: ps', cs, res, cs', h, ⟨h1, h2, h3⟩, hc => by
    obtain ⟨i, v⟩ := p
    obtain ⟨j, v'⟩ := q
    obtain rfl : i = j := h1
    have h0 : fillAll place ((i, v) :: ps) cs = (match place i with
      | none => none
      | some (off, size) => Bool.rec (motive := fun _ => Option (List Value)) none (fillAll place ps (fillL off (cellsOf v) cs)) (Nat.beq (cellsOf v).length size && Nat.ble (off + (cellsOf v).length) cs.length)) := rfl
    rw [h0] at h
    cases hpl : place i with
    | none => rw [hpl] at h; cases h
    | some x =>
      obtain ⟨off, size⟩ := x
      rw [hpl] at h
      simp only at h
      have hv := h2.cells
      cases hb : (Nat.beq (cellsOf v).length size && Nat.ble (off + (cellsOf v).length) cs.length) with
      | false => rw [hb] at h; cases h
      | true =>
        rw [hb] at h
        rw [Bool.and_eq_true] at hb
        have e1 := Nat.eq_of_beq_eq_true hb.1
        have e2 := Nat.le_of_ble_eq_true hb.2
        have l1 : (cellsOf v).length = v'.cells.size := by rw [hv.1, Array.length_toList]
        have l2 : cs.length = cs'.size := by rw [hc.1, Array.length_toList]
        have hfold : (v'.cells.zipIdx.foldl (fun cs (c, j) => cs.setIfInBounds (off + j) c) cs').toList = fillL off v'.cells.toList cs'.toList := by
          rw [← Array.foldl_toList, Array.toList_zipIdx]
          have := fillL_toList v'.cells.toList off 0 cs' (by rw [Array.length_toList]; omega)
          simpa [fillL] using this
        have hrel : VRs r (fillL off (cellsOf v) cs) (v'.cells.zipIdx.foldl (fun cs (c, j) => cs.setIfInBounds (off + j) c) cs').toList := by
          rw [hfold]
          unfold fillL
          rw [hv.1]
          exact (hc.take off).append (hv.append (hc.drop _))
        obtain ⟨res', g1, g2⟩ := fill_ok hp ps ps' _ res _ h h3 hrel
        refine ⟨res', ?_, g2⟩
        unfold Instr.fill
        rw [hp _ _ hpl]
        simp only
        rw [if_neg]
        · exact g1
        · simp only [Bool.or_eq_true, ne_eq, decide_eq_true_eq, not_or, Decidable.not_not, Nat.not_lt]
          exact ⟨by omega, by omega⟩

theorem ofOpt_on {α : Type} {x : Option α} {b : α} {s s' : St} (h : M.ofOpt x s = .some b s') : x = some b ∧ s = s' := ofOpt_some h
theorem placeS_ok {fs : Array Field} : ∀ (k : Nat) (x : Nat × Nat), placeS E fs k = some x → ∃ f fi, fs[k]? = some f ∧ E.ty.get f.type = some fi ∧ x = (f.offset, fi.size) := by
  intro k x h
  unfold placeS at h
  cases e : fs.toList[k]? with
  | none => rw [e] at h; cases h
  | some f =>
    rw [e] at h
    simp only at h
    cases e2 : E.ty.get f.type with
    | none => rw [e2] at h; cases h
    | some fi =>
      rw [e2] at h
      simp only [Option.some.injEq] at h
      exact ⟨f, fi, by simpa using e, e2, h.symm⟩
theorem aBuild_ok {s s' : St} {ps : List (Nat × Value)} {ps' : Array (Nat × Value)} {v : Value} (he : EnvTy E) (h : aBuild E t ps s = .some v s') (hr : Rel w0 r s.mem w) (hp : PRs r ps ps'.toList) : Yields E w0 r s s' v w (Instr.build t ps') := by
  obtain ⟨i, s1, h3, h4⟩ := bind_some h
  have hget := (ofOpt_some h3).1
  obtain ⟨hi, rfl⟩ := ti_some h3 he
  obtain ⟨n, q1, q2, q3, z, q4, q5⟩ := hi.info
  have hz : VRs r i.zero z.cells.toList := by rw [q5]; exact plain_VRs hi.pl
  generalize hu : i.u = u at h4
  have hund := hi.und
  rw [hu] at hund
  cases u with
  | struct fs =>
    obtain ⟨res, s1, h5, h6⟩ := bind_some h4
    obtain ⟨h7, rfl⟩ := ofOpt_some h5
    obtain ⟨rfl, rfl⟩ := pure_some h6
    have hall : ∀ f ∈ fs.toList, ∃ y, ((E.P.info? f.type).map fun i => (f.offset, i.size)) = some y := by
      intro f hf
      obtain ⟨fi, e1⟩ := he.flds t i fs hget hu f (by simpa using hf)
      obtain ⟨m, e2, _⟩ := (he.ok _ _ e1).info
      exact ⟨_, by rw [e2]; rfl⟩
    have hpl := Go.ChangeMaps.mapM_total (0, 0) hall
    generalize hplaces : fs.toList.map (fun x => (((E.P.info? x.type).map fun i => (x.offset, i.size)).getD (0, 0))) = places at hpl
    have hplace : ∀ k x, placeS E fs k = some x → places[k]? = some x := by
      intro k x hk
      obtain ⟨f, fi, e1, e2, e3⟩ := placeS_ok k x hk
      obtain ⟨m, e4, e5, _⟩ := (he.ok _ _ e2).info
      rw [← hplaces, List.getElem?_map]
      have e1' : fs.toList[k]? = some f := by simpa using e1
      rw [e1']
      simp [e4, e5, e3]
    obtain ⟨res', g1, g2⟩ := fill_ok hplace ps ps'.toList _ _ z.cells h7 hp hz
    refine .pure (v' := .agg res') (run_build w t ps' res' ?_) hr ?_
    · simp only [Program.built, q1, hund, q4]
      rw [hpl]
      simpa using g1
    · have := g2.agg; simpa using this
  | array n e =>
    obtain ⟨ie, s1, h9, h10⟩ := bind_some h4
    obtain ⟨hie, rfl⟩ := ti_some h9 he
    obtain ⟨res, s1, h5, h6⟩ := bind_some h10
    obtain ⟨h7, rfl⟩ := ofOpt_some h5
    obtain ⟨rfl, rfl⟩ := pure_some h6
    obtain ⟨m, e4, e5, _⟩ := hie.info
    obtain ⟨res', g1, g2⟩ := fill_ok (place' := fun k => some (k * ie.size, ie.size)) (fun _ _ h => h) ps ps'.toList _ _ z.cells h7 hp hz
    refine .pure (v' := .agg res') (run_build w t ps' res' ?_) hr ?_
    · simp only [Program.built, q1, hund, q4, e4, e5]
      exact g1
    · have := g2.agg; simpa using this
  | _ => cases h4
theorem rep_length {α : Type} (n : Nat) (l : List α) : (rep n l).length = n * l.length := by
  induction n with
  | zero => show ([] : List α).length = _; simp
  | succ n ih =>
    show (l ++ rep n l).length = _
    rw [List.length_append, ih, Nat.succ_mul]; omega
theorem rep_get {α : Type} (l : List α) : ∀ (n i : Nat), i < n * l.length → (rep n l)[i]? = l[i % l.length]?
  | 0, i, h => by omega
  | n + 1, i, h => by
    show (l ++ rep n l)[i]? = _
    rw [Nat.succ_mul] at h
    by_cases hi : i < l.length
    · rw [List.getElem?_append_left hi, Nat.mod_eq_of_lt hi]
    · rw [List.getElem?_append_right (by omega), rep_get l n _ (by omega), ← Nat.mod_eq_sub_mod (by omega)]
theorem rep_eq (z : Array Value) (n : Nat) (hz : 0 < z.size) : ((Array.range (n * z.size)).map (z[· % z.size]!)).toList = rep n z.toList := by
  apply List.ext_getElem?
  intro i
  by_cases hi : i < n * z.size
  · rw [rep_get _ _ _ (by rw [Array.length_toList]; exact hi), Array.length_toList]
    have hm : i % z.size < z.size := Nat.mod_lt _ hz
    have h1 : i < (Array.range (n * z.size)).size := by simpa using hi
    simp [hi, hm]
  · rw [List.getElem?_eq_none (by simp; omega), List.getElem?_eq_none (by rw [rep_length, Array.length_toList]; omega)]
theorem rep_VRs {z : List Value} (h : ∀ v ∈ z, plain v = true) (n : Nat) : ∀ v ∈ rep n z, plain v = true := by
  induction n with
  | zero => intro v hv; exact absurd hv (List.not_mem_nil)
  | succ n ih =>
    intro v hv
    have hv' : v ∈ z ++ rep n z := hv
    rcases List.mem_append.1 hv' with h1 | h1
    · exact h v h1
    · exact ih v h1
end
end Go.Proofs.YtkgncjlgmnbfoaaGreatDoor.Am
