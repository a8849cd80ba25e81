/- The evaluator's operations, each against the model's own: conversions, elements, lengths, copies, assertions. -/
import Derived.Test.YtkgncjlgmnbfoaaGreatDoorAmOps4
import Derived.Laws.BytesArg
namespace Go.Proofs.YtkgncjlgmnbfoaaGreatDoor.Am
open Go.RowKit

section
variable {E : Env} {w0 w : World} {r : Inj} {t : Nat}

theorem unSlow_ok {op : UnOp} {x x' v : Value} {s s' : St} (h : unSlow E.P op x s = .some v s') (hr : Rel w0 r s.mem w) (hx : VR r x x') : Yields E w0 r s s' v w (Op.unary op x') := by
  obtain ⟨hp, h⟩ := chk_some h
  obtain ⟨rfl, h2, h3⟩ := onP_ok (w := w) h
  rw [hx.eq_of_plain hp]
  exact .pure h2 hr (.of_plain h3)
theorem max_eq (k : IntKind) (hq : qOf k ≠ 0) : (if k.signed then -1 else k.max) = (mxOf k : Int) := by
  cases k <;> first | exact absurd rfl hq | rfl
theorem kUn_ok {op : UnOp} {x x' v : Value} {s s' : St} (h : kUn E.P op x s = .some v s') (hr : Rel w0 r s.mem w) (hx : VR r x x') : Yields E w0 r s s' v w (Op.unary op x') := by
  unfold kUn at h
  split at h
  · obtain ⟨rfl, rfl⟩ := rB_some h
    cases hx
    exact .pure (by simp [Op.unary]) hr (.bool _)
  · obtain ⟨rfl, rfl⟩ := pure_some h
    cases hx with
    | complex e =>
      obtain ⟨b, rfl⟩ := e
      exact .pure (by simp [Op.unary]) hr (.complex ⟨!b, rfl⟩)
  · cases x with
    | int k n =>
      cases n with
      | negSucc m => refine unSlow_ok (op := .xor) ?_ hr hx; exact h
      | ofNat m =>
        replace h : Option.rec (motive := fun _ => M Value) (unSlow E.P .xor (.int k (.ofNat m))) (fun x => M.pure x) (notK k m) s = .some v s' := h
        cases e : notK k m with
        | none => rw [e] at h; refine unSlow_ok (op := .xor) ?_ hr hx; exact h
        | some u =>
          rw [e] at h
          obtain ⟨rfl, rfl⟩ := pure_some h
          obtain ⟨h1, h2⟩ := sOpt_some e
          have hq : qOf k ≠ 0 := by have : 1 ≤ qOf k := Nat.le_of_ble_eq_true h1; omega
          have hx' := hx.int_inv
          subst hx'
          rw [fitI_some h2]
          refine .pure ?_ hr (.int _ _)
          have := wrap_xor k (mxOf k) m
          rw [← max_eq k hq] at this
          simp only [Op.unary, Op.intBits, Int.ofNat_eq_natCast, this, Sem.run_pure]
          rfl
    | _ => refine unSlow_ok (op := .xor) ?_ hr hx; exact h
  · exact unSlow_ok h hr hx
theorem byteV_some {v : Value} {b : UInt8} (h : byteV v = some b) : ∃ n : Nat, v = .int .u8 n ∧ b = UInt8.ofNat n := by
  unfold byteV at h
  split at h
  · cases h; exact ⟨_, rfl, rfl⟩
  · cases h
theorem onO_some {α β : Type} {x : Option α} {K : α → Option β} {b : β} (h : onO x K = some b) : ∃ a, x = some a ∧ K a = some b := by
  cases x with
  | none => cases h
  | some a => exact ⟨a, rfl, h⟩
theorem bytesL_some : ∀ {l : List Value} {bs : List UInt8}, bytesL l = some bs → ∃ ns : List Nat, l = ns.map (fun n : Nat => Value.int .u8 (n : Int)) ∧ bs = ns.map UInt8.ofNat
  | [], bs, h => by cases h; exact ⟨[], rfl, rfl⟩
  | v :: l, bs, h => by
    have h0 : onO (byteV v) (fun b => onO (bytesL l) fun l => some (b :: l)) = some bs := h
    obtain ⟨b, h1, h2⟩ := onO_some h0
    obtain ⟨bs', h3, h4⟩ := onO_some h2
    obtain ⟨n, rfl, rfl⟩ := byteV_some h1
    obtain ⟨ns, rfl, rfl⟩ := bytesL_some h3
    cases h4
    exact ⟨n :: ns, rfl, rfl⟩
theorem foldl_bytes : ∀ (ns : List Nat) (acc : ByteArray), (ns.map fun n : Nat => (n : Int)).foldl (fun r n => r.push (UInt8.ofNat n.toNat)) acc = ⟨acc.data ++ (ns.map UInt8.ofNat).toArray⟩
  | [], acc => by simp
  | n :: ns, acc => by
    simp only [List.map_cons, List.foldl_cons]
    rw [foldl_bytes ns]
    simp [ByteArray.push]
theorem strOf_ok {a a' : Addr} {n c : Nat} {v : Value} {s s' : St} (h : strOf a n s = .some v s') (hr : Rel w0 r s.mem w) (ha : AR r a a') : Yields E w0 r s s' v w (Conv.bytesToString (.slice (some a') n c)) := by
  obtain ⟨l, s1, h1, h2⟩ := bind_some h
  obtain ⟨bs, h3, h4⟩ := on_some h2
  obtain ⟨rfl, rfl⟩ := pure_some h4
  obtain ⟨ns, rfl, rfl⟩ := bytesL_some h3
  obtain ⟨l', g1, g2, g3, g4⟩ := rdL_ok _ h1 hr ha
  have hl : l' = ns.map (fun n : Nat => Value.int .u8 (n : Int)) := plain_VRs_eq g3 (by
    rw [List.all_eq_true]
    intro v hv
    obtain ⟨n, _, rfl⟩ := List.mem_map.1 hv
    rfl)
  subst hl
  have hrun := run_loadCells_list (P := E.P) w a' _ g2
  rw [g1] at hrun
  refine .same (v' := .string ⟨(ns.map UInt8.ofNat).toArray⟩) ?_ g4 hr (.string _)
  rw [run_bytesToString w a' n c (ns.map fun n : Nat => (n : Int)) (by rw [List.map_map]; exact hrun), foldl_bytes]
  simp [ByteArray.empty, ByteArray.emptyWithCapacity]
  rfl
theorem kConv_ok {d : Nat} {x x' v : Value} {s s' : St} (he : EnvTy E) (h : kConv E t d x s = .some v s') (hr : Rel w0 r s.mem w) (hx : VR r x x') : Yields E w0 r s s' v w (convert t d x') := by
  unfold kConv at h
  split at h
  · rename_i a n c
    obtain ⟨is, s1, h1, h2⟩ := bind_some h
    obtain ⟨his, rfl⟩ := ti_some h1 he
    obtain ⟨id, s1, h3, h4⟩ := bind_some h2
    obtain ⟨hid, rfl⟩ := ti_some h3 he
    generalize hu : is.u = u at h4
    generalize hu2 : id.u = u2 at h4
    split at h4
    · rename_i e
      obtain ⟨ie, s1, h5, h6⟩ := bind_some h4
      obtain ⟨hie, rfl⟩ := ti_some h5 he
      generalize hu3 : ie.u = u3 at h6
      split at h6
      · have e1 := his.und
        have e2 := hid.und
        have e3 := hie.und
        rw [hu] at e1; rw [hu2] at e2; rw [hu3] at e3
        rcases hx.sl_inv with ⟨a2, c2, rfl, ha2, hc, _⟩ | ⟨rfl, _, _, a2, c2, rfl⟩
        · obtain ⟨v', w', r', g1, g2⟩ := strOf_ok (E := E) (c := c2) h6 hr ha2
          exact ⟨v', w', r', by rw [run_convert_bytes_string w t d e _ _ _ e1 e3 e2]; exact g1, g2⟩
        · obtain ⟨l, s1, h1, h2⟩ := bind_some h6
          obtain ⟨rfl, rfl⟩ := pure_some h1
          obtain ⟨bs, h3, h4⟩ := on_some h2
          obtain ⟨rfl, rfl⟩ := pure_some h4
          cases h3
          refine .pure (v' := .string ⟨#[]⟩) ?_ hr (.string _)
          rw [run_convert_bytes_string w t d e _ _ _ e1 e3 e2]
          simp [Conv.bytesToString, loadCells, loadCellsFrom, ByteArray.empty, ByteArray.emptyWithCapacity]
          rfl
      · cases h6
    · cases h4
  · rename_i k n
    obtain ⟨is, s1, h1, h2⟩ := bind_some h
    obtain ⟨his, rfl⟩ := ti_some h1 he
    obtain ⟨id, s1, h3, h4⟩ := bind_some h2
    obtain ⟨hid, rfl⟩ := ti_some h3 he
    have e1 := hx.int_inv
    subst e1
    generalize hu2 : id.u = u2 at h4
    split at h4
    · rename_i k'
      rw [fI_eq, wrapF_eq] at h4
      obtain ⟨rfl, rfl⟩ := pure_some h4
      refine .pure (v' := .int k' (k'.wrap n)) ?_ hr (.int _ _)
      have e2 := hid.run_und (w := w)
      rw [hu2] at e2
      simp [convert, his.run_und, e2, Conv.intToInt]
    · obtain ⟨rfl, h2, h3⟩ := onP_ok (w := w) h4
      exact .pure h2 hr (.of_plain h3)
  · obtain ⟨hp, h⟩ := chk_some h
    obtain ⟨rfl, h2, h3⟩ := onP_ok (w := w) h
    rw [hx.eq_of_plain hp]
    exact .pure h2 hr (.of_plain h3)
theorem kIdx_ok {x x' ix ix' v : Value} {s s' : St} (he : EnvTy E) (h : kIdx E t x ix s = .some v s') (hr : Rel w0 r s.mem w) (hx : VR r x x') (hix : VR r ix ix') : Yields E w0 r s s' v w (Instr.index t x' ix') := by
  obtain ⟨i, s1, h1, h2⟩ := bind_some h
  obtain ⟨hi, rfl⟩ := ti_some h1 he
  obtain ⟨k, s1, h3, h4⟩ := bind_some h2
  obtain ⟨⟨kd, rfl⟩, rfl⟩ := asN_some h3
  have e1 := hix.int_inv
  subst e1
  have hund := hi.run_und (w := w)
  generalize i.u = u at h4 hund
  unfold idxV at h4
  split at h4
  · rename_i n e cs
    obtain ⟨ie, s3, h9, h10⟩ := bind_some h4
    obtain ⟨hie, rfl⟩ := ti_some h9 he
    obtain ⟨h7, h8⟩ := chk_some h10
    have hk : k < n := blt_lt h7
    obtain ⟨c', rfl, hc⟩ := hx.agg_inv
    obtain ⟨rfl, v', g1, g2⟩ := partV_ok (w := w) he h8 hc
    refine .pure (v' := v') ?_ hr g2
    simp [Instr.index, asIntOf, hund, hie.run_size]
    rw [if_pos (by omega)]
    simp [g1]
  · rename_i st
    obtain ⟨b, h5, h6⟩ := on_some h4
    obtain ⟨rfl, rfl⟩ := pure_some h6
    cases hx
    refine .pure (v' := .int .u8 b.toNat) ?_ hr (.int _ _)
    have e1 : st[k]? = some b := by
      obtain ⟨h7, h8⟩ := List.getElem?_eq_some_iff.1 h5
      have h9 : k < st.size := by simpa using h7
      rw [getElem?_pos st k h9, ← h8]
      simp
      rfl
    simp [Instr.index, asIntOf, hund, e1]
  · cases h4
theorem aCap_ok {x x' v : Value} {s s' : St} {ts : Array TypeId} {ty : TypeId} (hts : ts[0]? = some t) (he : EnvTy E) (h : aCap E t x s = .some v s') (hr : Rel w0 r s.mem w) (hx : VR r x x') : Yields E w0 r s s' v w (Builtin.cap_ ts ty #[x']) := by
  obtain ⟨i, s1, h1, h2⟩ := bind_some h
  obtain ⟨hi, rfl⟩ := ti_some h1 he
  have hund := hi.run_und (w := w)
  generalize i.u = u at h2 hund
  split at h2
  · obtain ⟨h3, h2⟩ := chk_some h2
    obtain ⟨rfl, rfl⟩ := pN_some h2
    have hlt := blt_lt h3
    cases hx with
    | slNil => exact .pure (v' := .int .i64 _) (by simp [Builtin.cap_, hts, hund, goInt]) hr (.int _ _)
    | sl hb hc hl =>
      rcases hc with ⟨_, rfl⟩ | ⟨h5, _⟩
      · exact .pure (v' := .int .i64 _) (by simp [Builtin.cap_, hts, hund, goInt]) hr (.int _ _)
      · exact absurd (Nat.div_eq_of_lt hlt) h5
    | slEnd h5 _ => exact absurd (Nat.div_eq_of_lt hlt) h5
  · cases h2
theorem lenOf_ok {x x' : Value} {m : Nat} {s s' : St} (h : lenOf x s = .some m s') (hx : VR r x x') : s = s' ∧ (Builtin.lenOf x').run E.P w = .ok m w := by
  unfold lenOf at h
  split at h
  · obtain ⟨rfl, rfl⟩ := pure_some h
    cases hx <;> exact ⟨rfl, by simp [Builtin.lenOf]⟩
  · obtain ⟨rfl, rfl⟩ := pure_some h
    cases hx
    exact ⟨rfl, by simp [Builtin.lenOf]⟩
  · cases h
theorem bytesV_VRs (l : List UInt8) : VRs r (bytesV l) (bytesV l) := plain_VRs fun v hv => by
  obtain ⟨b, _, rfl⟩ := List.mem_map.1 hv
  rfl
theorem srcL_ok {size k : Nat} {x x' : Value} {l : List Value} {s s' : St} (h : srcL size x k s = .some l s') (hr : Rel w0 r s.mem w) (hx : VR r x x') (hk : ∀ b o c, x = .slice b o c → k ≤ o) :
    ∃ l' : List Value, (Builtin.firstCells size k x').run E.P w = .ok l'.toArray w ∧ VRs r l l' ∧ Same s s' := by
  unfold srcL at h
  split at h
  · rename_i a n c
    rcases hx.sl_inv with ⟨a2, c2, rfl, ha2, hc, _⟩ | ⟨rfl, _, _, a2, c2, rfl⟩
    · obtain ⟨l', g1, g2, g3, g4⟩ := rdL_ok _ h hr ha2
      have hrun := run_loadCells_list (P := E.P) w a2 _ g2
      rw [g1] at hrun
      exact ⟨l', by simpa [Builtin.firstCells] using hrun, g3, g4⟩
    · have hk0 : k = 0 := Nat.le_zero.1 (hk _ _ _ rfl)
      subst hk0
      rw [Nat.zero_mul] at h
      obtain ⟨rfl, rfl⟩ := pure_some h
      exact ⟨[], by simp [Builtin.firstCells, loadCells, loadCellsFrom], .nil, .refl _⟩
  · obtain ⟨rfl, rfl⟩ := pure_some h
    cases hx
    exact ⟨[], by simp [Builtin.firstCells], .nil, .refl _⟩
  · rename_i st
    obtain ⟨rfl, rfl⟩ := pure_some h
    cases hx
    refine ⟨bytesV (st.data.toList.take k), ?_, bytesV_VRs _, .refl _⟩
    simp only [Builtin.firstCells, Sem.run_pure]
    congr 1
    apply Array.ext'
    simp [bytesV, Array.toList_extract]
  · cases h
theorem srcL_zero {size : Nat} {x : Value} {l : List Value} {s s' : St} (h : srcL size x 0 s = .some l s') : l = [] ∧ s = s' := by
  unfold srcL at h
  split at h
  · rw [Nat.zero_mul] at h
    obtain ⟨rfl, rfl⟩ := pure_some h
    exact ⟨rfl, rfl⟩
  · obtain ⟨rfl, rfl⟩ := pure_some h
    exact ⟨rfl, rfl⟩
  · obtain ⟨rfl, rfl⟩ := pure_some h
    exact ⟨rfl, rfl⟩
  · cases h
theorem aCopy_ok {d : Option Addr} {n c : Nat} {y' x x' v : Value} {s s' : St} {ts : Array TypeId} {ty : TypeId} (hts : ts[0]? = some t) (he : EnvTy E) (h : aCopy E t d n x s = .some v s') (hr : Rel w0 r s.mem w) (hd : VR r (.slice d n c) y') (hx : VR r x x') :
    Yields E w0 r s s' v w (Builtin.copy_ ts ty #[y', x']) := by
  obtain ⟨i, s1, h1, h2⟩ := bind_some h
  obtain ⟨hi, rfl⟩ := ti_some h1 he
  have hund := hi.run_und (w := w)
  generalize i.u = u at h2 hund
  split at h2
  · rename_i e
    obtain ⟨ie, s1, h3, h4⟩ := bind_some h2
    obtain ⟨hie, rfl⟩ := ti_some h3 he
    obtain ⟨m, s1, h5, h6⟩ := bind_some h4
    obtain ⟨rfl, g1⟩ := lenOf_ok (E := E) (w := w) h5 hx
    split at h6
    · obtain ⟨rfl, rfl⟩ := pN_some h6
      cases hd
      have g2 : (Builtin.firstCells ie.size 0 x').run E.P w = .ok #[] w := by
        unfold lenOf at h5
        split at h5
        · cases hx <;> simp [Builtin.firstCells, loadCells, loadCellsFrom]
        · cases hx
          simp [Builtin.firstCells]
        · cases h5
      exact .pure (v' := .int .i64 ((0 : Nat) : Int)) (by simp [Builtin.copy_, hts, hund, hie.run_size, g1, g2, goInt]) hr (.int _ _)
    · rename_i a
      rw [fN_eq] at h6
      obtain ⟨l, s1, h7, h8⟩ := bind_some h6
      obtain ⟨u1, s2, h9, h10⟩ := bind_some h8
      obtain ⟨rfl, rfl⟩ := pN_some h10
      have hk : ∀ b o c, x = .slice b o c → Nat.min n m ≤ o := by
        intro b o c hxe
        subst hxe
        obtain ⟨rfl, _⟩ := pure_some h5
        exact Nat.min_le_right _ _
      obtain ⟨l', g2, g3, g4⟩ := srcL_ok (E := E) h7 hr hx hk
      have g2' : (Builtin.firstCells ie.size (Nat.min m n) x').run E.P w = .ok l'.toArray w := by
        rw [show Nat.min m n = Nat.min n m from Nat.min_comm m n]; exact g2
      rcases hd.sl_inv with ⟨a2, c2, rfl, ha2, hc, _⟩ | ⟨rfl, _, _, a2, c2, rfl⟩
      · obtain ⟨w', k1, k2, k3, k4, k5⟩ := wrL_ok (P := E.P) _ _ 0 h9 (by rw [g4.1]; exact hr) (by simpa [Addr.add] using ha2) g3
        refine ⟨.int .i64 (Nat.min n m : Nat), w', r, ?_, .of_rel (k3.trans g4.2.1) k2, .int _ _, k4.trans g4.2.2.1, k5.trans g4.2.2.2⟩
        simp [Builtin.copy_, hts, hund, hie.run_size, g1, goInt]
        simp only [g2']
        simp [k1]
        rw [show Nat.min m n = Nat.min n m from Nat.min_comm m n]
      · have h0 : Nat.min 0 m = 0 := Nat.zero_min m
        have h0' : Nat.min m 0 = 0 := Nat.min_zero m
        rw [h0] at h7 g2 ⊢
        rw [h0'] at g2'
        obtain ⟨rfl, rfl⟩ := srcL_zero h7
        have hl : l' = [] := g3.inv_nil
        subst hl
        obtain ⟨_, rfl⟩ := pure_some h9
        refine .pure (v' := .int .i64 ((0 : Nat) : Int)) ?_ hr (.int _ _)
        simp [Builtin.copy_, hts, hund, hie.run_size, g1, goInt]
        simp only [g2]
        simp [storeCells]
  · cases h2
theorem zeroV_ok {i : TI} {z : Value} {s s' : St} (hi : TyOK E.P t i) (h : zeroV i s = .some z s') : s = s' ∧ (zeroValue t).run E.P w = .ok z w ∧ VR r z z := by
  obtain ⟨n, q1, q2, q3, z', q4, q5⟩ := hi.info
  have hz := hi.zagg n z' q1 q4
  have hrun : (zeroValue t).run E.P w = .ok z' w := by simp [zeroValue, typeInfo, program, Sem.run, q1, q4]
  unfold zeroV at h
  rw [if_eq] at h
  by_cases hg : i.agg = true
  · rw [if_pos hg] at h
    obtain ⟨rfl, rfl⟩ := pure_some h
    rw [hg] at hz
    cases z' with
    | agg cs =>
      have e : cs.toList = i.zero := q5
      have e2 : Value.agg cs = .agg i.zero.toArray := by rw [← e]
      rw [e2] at hrun
      exact ⟨rfl, hrun, (plain_VRs (r := r) hi.pl).agg⟩
    | _ => cases hz
  · rw [if_neg hg] at h
    obtain ⟨h1, rfl⟩ := ofOpt_some h
    have hz' : aggV z' = false := by rw [hz]; simpa using hg
    have e : i.zero = [z'] := by
      rw [← q5]
      cases z' <;> first | rfl | cases hz'
    rw [e] at h1
    simp at h1
    subst h1
    exact ⟨rfl, hrun, .of_plain (hi.pl _ (by rw [e]; simp))⟩
theorem okV_some {c ok : Bool} {x v : Value} {s s' : St} (h : okV c x ok s = .some v s') : s = s' ∧ ((c = true ∧ v = .tuple #[x, .bool ok]) ∨ (c = false ∧ ok = true ∧ v = x)) := by
  unfold okV at h
  cases c with
  | true => obtain ⟨rfl, rfl⟩ := pure_some h; exact ⟨rfl, .inl ⟨rfl, rfl⟩⟩
  | false =>
    cases ok with
    | true => obtain ⟨rfl, rfl⟩ := pure_some h; exact ⟨rfl, .inr ⟨rfl, rfl, rfl⟩⟩
    | false => cases h
theorem VR.pair {a a' b b' : Value} (h : VR r a a') (k : VR r b b') : VR r (.tuple #[a, b]) (.tuple #[a', b']) := .tuple rfl fun i v v' e e' => by
  match i with
  | 0 => simp at e e'; subst e; subst e'; exact h
  | 1 => simp at e e'; subst e; subst e'; exact k
  | i + 2 => simp at e
theorem kAssert_ok {a xt : Nat} {c : Bool} {x x' v : Value} {s s' : St} (he : EnvTy E) (h : kAssert E a c x s = .some v s') (hr : Rel w0 r s.mem w) (hx : VR r x x') : Yields E w0 r s s' v w (Instr.typeAssert x' xt a c) := by
  obtain ⟨i, s1, h1, h2⟩ := bind_some h
  obtain ⟨hi, rfl⟩ := ti_some h1 he
  have hund := hi.run_und (w := w)
  generalize hu : i.u = u at h2 hund
  have fails : ∀ {s' v}, M.bind (zeroV i) (fun z => okV c z false) s = .some v s' → s = s' ∧ c = true ∧ ∃ z, (zeroValue a).run E.P w = .ok z w ∧ v = .tuple #[z, .bool false] ∧ VR r z z := by
    intro s' v h
    obtain ⟨z, s1, h3, h4⟩ := bind_some h
    obtain ⟨rfl, h5, h6⟩ := zeroV_ok (r := r) (w := w) hi h3
    obtain ⟨rfl, ⟨h7, h8⟩ | ⟨_, h8, _⟩⟩ := okV_some h4
    · exact ⟨rfl, h7, z, h5, h8, h6⟩
    · cases h8
  split at h2
  · rename_i want tt y
    obtain ⟨it, h3, h4⟩ := on_some h2
    cases hx with
    | @iface _ _ y' hy =>
      generalize hm : Instr.missingMethod want it.methods = mm at h4
      cases mm with
      | none =>
        obtain ⟨rfl, ⟨rfl, rfl⟩ | ⟨rfl, _, rfl⟩⟩ := okV_some h4
        · exact .pure (by simp [Instr.typeAssert, hund, typeInfo, program, Sem.run, h3, hm]) hr ((VR.iface hy).pair (.bool _))
        · exact .pure (by simp [Instr.typeAssert, hund, typeInfo, program, Sem.run, h3, hm]) hr (.iface hy)
      | some m =>
        obtain ⟨rfl, rfl, z, g1, rfl, g2⟩ := fails h4
        exact .pure (v' := .tuple #[z, .bool false]) (by simp [Instr.typeAssert, hund, typeInfo, program, Sem.run, h3, hm, g1]) hr (g2.pair (.bool _))
  · obtain ⟨rfl, rfl, z, g1, rfl, g2⟩ := fails h2
    cases hx
    refine .pure (v' := .tuple #[z, .bool false]) ?_ hr (g2.pair (.bool _))
    cases u <;> simp [Instr.typeAssert, hund, g1]
  · rename_i tt y hn
    rw [if_eq] at h2
    cases hx with
    | @iface _ _ y' hy =>
      by_cases ht : Nat.beq tt a = true
      · rw [if_pos ht] at h2
        have e := Nat.eq_of_beq_eq_true ht
        subst e
        obtain ⟨rfl, ⟨rfl, rfl⟩ | ⟨rfl, _, rfl⟩⟩ := okV_some h2
        · refine .pure (v' := .tuple #[y', .bool true]) ?_ hr (hy.pair (.bool _))
          cases u <;> first | (simp [Instr.typeAssert, hund]; done) | exact (hn _ rfl).elim
        · refine .pure (v' := y') ?_ hr hy
          cases u <;> first | (simp [Instr.typeAssert, hund]; done) | exact (hn _ rfl).elim
      · rw [if_neg ht] at h2
        have e : tt ≠ a := fun e => ht (by rw [e]; exact Nat.beq_refl a)
        obtain ⟨rfl, rfl, z, g1, rfl, g2⟩ := fails h2
        refine .pure (v' := .tuple #[z, .bool false]) ?_ hr (g2.pair (.bool _))
        cases u <;> first | (simp [Instr.typeAssert, hund, g1, e]; done) | exact (hn _ rfl).elim
  · cases h2
theorem min_ok {l l' : List Value} {ts : Array TypeId} {ty : TypeId} {v : Value} {s s' : St} (h : M.chk (l.all plain) (M.on (semP E.P (Builtin.min_ #[] 3 l.toArray)) pV) s = .some v s') (hr : Rel w0 r s.mem w) (hl : VRs r l l') : Yields E w0 r s s' v w (Builtin.min_ ts ty l'.toArray) := by
  obtain ⟨hp, h⟩ := chk_some h
  obtain ⟨rfl, h2, h3⟩ := onP_ok (w := w) h
  rw [plain_VRs_eq hl hp]
  exact .pure h2 hr (.of_plain h3)
theorem max_ok {l l' : List Value} {ts : Array TypeId} {ty : TypeId} {v : Value} {s s' : St} (h : M.chk (l.all plain) (M.on (semP E.P (Builtin.max_ #[] 3 l.toArray)) pV) s = .some v s') (hr : Rel w0 r s.mem w) (hl : VRs r l l') : Yields E w0 r s s' v w (Builtin.max_ ts ty l'.toArray) := by
  obtain ⟨hp, h⟩ := chk_some h
  obtain ⟨rfl, h2, h3⟩ := onP_ok (w := w) h
  rw [plain_VRs_eq hl hp]
  exact .pure h2 hr (.of_plain h3)
end
end Go.Proofs.YtkgncjlgmnbfoaaGreatDoor.Am
