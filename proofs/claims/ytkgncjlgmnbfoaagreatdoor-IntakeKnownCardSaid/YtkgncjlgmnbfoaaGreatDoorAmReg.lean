/- A region in the order of the text. -/
import Derived.Test.YtkgncjlgmnbfoaaGreatDoorAmStep2
namespace Go.Proofs.YtkgncjlgmnbfoaaGreatDoor.Am
open Go.RowKit

section
variable {E : Env} {glob n : Nat} {ops : Array Oper}
theorem compOps_cons {all : List Oper} {o : Oper} {l : List Oper} {ds : List Nat} {cs : List COp} (h : compOps E glob n all (o :: l) ds = some cs) :
    ∃ g f r, cs = ⟨g, o.dst, keepD o.dst glob, f⟩ :: r ∧ compG all ds o.guard = some g ∧ newD o.dst n ds = true ∧ compOp E ds o.op = .mk f ∧ compOps E glob n all l (consD o.dst ds) = some r := by
  have h0 : compOps E glob n all (o :: l) ds = onO (compG all ds o.guard) fun g => Bool.rec (motive := fun _ => Option (List COp)) none (onO (compOps E glob n all l (consD o.dst ds)) fun r =>
      Cl.rec (motive := fun _ => Option (List COp)) (fun f => Bool.rec (motive := fun _ => Option (List COp)) (some (⟨g, o.dst, false, f⟩ :: r)) (some (⟨g, o.dst, true, f⟩ :: r)) (keepD o.dst glob)) (compOp E ds o.op)) (newD o.dst n ds) := rfl
  rw [h0] at h
  obtain ⟨g, h1, h⟩ := onO_some h
  cases h2 : newD o.dst n ds with
  | false => rw [h2] at h; cases h
  | true =>
    rw [h2] at h
    obtain ⟨r, h3, h⟩ := onO_some h
    cases h4 : compOp E ds o.op with
    | mk f =>
      rw [h4] at h
      cases h5 : keepD o.dst glob with
      | false => rw [h5] at h; cases h; exact ⟨g, f, r, rfl, h1, rfl, rfl, h3⟩
      | true => rw [h5] at h; cases h; exact ⟨g, f, r, rfl, h1, rfl, rfl, h3⟩
theorem compG_some {all : List Oper} {ds : List Nat} {gd : Option (Nat × Bool)} {g : Option (Nat × Bool)} (h : compG all ds gd = some g) :
    (gd = none ∧ g = none) ∨ ∃ j want q d p, gd = some (j, want) ∧ all[j]? = some q ∧ q.dst = some d ∧ g = some (p, want) ∧ ds[p]? = some d := by
  unfold compG at h
  split at h
  · cases h; exact .inl ⟨rfl, rfl⟩
  · split at h
    · split at h
      · split at h
        · cases h
          exact .inr ⟨_, _, _, _, _, rfl, by assumption, by assumption, rfl, whereT_some (by assumption)⟩
        · cases h
      · cases h
    · cases h
theorem nthV_eq : ∀ (n : Nat) (l : Rho), nthV n l = l[n]?
  | 0, l => nth0_eq l
  | _n + 1, [] => rfl
  | n + 1, _v :: l => nthV_eq n l
theorem isB_wanted {r : Inj} {v v' : Value} {want : Bool} (h : VR r v v') (hk : isK v = true) : ((match v' with | .bool b => some b | _ => none) == some want) = isB v want := by
  cases h <;> first | rfl | (rename_i b; cases b <;> cases want <;> rfl) | exact absurd hk (by simp [isK])
theorem lo_wantG {g : Option (Nat × Bool)} {rho : Rho} {x : M Value} (h : Loc x) : Loc (wantG g rho x) := by
  cases g with
  | none => exact h
  | some p => exact lo_on _ fun v => lo_chk _ (lo_if _ h (lo_pure _))

/-- An operation with its guard. -/
def OpG (E : Env) (ops : Array Oper) (i : Nat) (o : Oper) (ds : List Nat) (c : COp) : Prop :=
  (∀ call round, CallOK E call → RoundOK E round → ∀ rho tm, Loc (wantG c.guard rho (c.run call round rho tm))) ∧
    ∀ call round, CallOK E call → RoundOK E round → ∀ (w0 w : World) (r : Inj) (U : Nat → Prop) rho tm (b : Frame) (t : Array Value) (dfs : List Deferred) (cs : List Frame) (base : List Deferred × List Frame) (s : St) (out : Out Value) (s' : St),
      SlR r U ds rho tm t → (∀ t, t ∈ looksL ops.toList o → U t) → rho.length = ds.length → Rel w0 r s.mem w → CxR r base s.cx b dfs cs → Bnd s → Fresh r s.next s'.next → wantG c.guard rho (c.run call round rho tm) s = rOf out s' →
      ∀ rest k, ∃ w' r' dfs' cs', Goes w0 r s s' r' w' ∧ CxR r' base s'.cx b dfs' cs' ∧ s'.lim = s.lim ∧
          OpEnds E.P r' out (lone (frm b t dfs (.inRegion ops (i :: rest) :: k)) cs w) b t dfs' ops o rest k cs' w'
theorem mem_looks_op {all : List Oper} {o : Oper} {t : Nat} (h : Operand.tmp t ∈ o.op.operands.toList) : t ∈ looksL all o := by
  unfold looksL
  apply List.mem_append_right
  exact List.mem_filterMap.2 ⟨_, h, rfl⟩
theorem mem_looks_guard {all : List Oper} {o q : Oper} {j d : Nat} {want : Bool} (h : o.guard = some (j, want)) (h1 : all[j]? = some q) (h2 : q.dst = some d) : d ∈ looksL all o := by
  unfold looksL
  apply List.mem_append_left
  simp [h, h1, h2]
theorem opG_ok (he : EnvTy E) {i : Nat} {o : Oper} {ds : List Nat} {g : Option (Nat × Bool)} {f : OpT} {keep : Bool} (ho : ops[i]? = some o) (hg : compG ops.toList ds o.guard = some g) (hf : compOp E ds o.op = .mk f) :
    OpG E ops i o ds ⟨g, o.dst, keep, f⟩ := by
  obtain ⟨f', h1, h2, h3⟩ := compOp_ok he o ds
  rw [hf] at h1
  cases h1
  refine ⟨fun call round c1 c2 rho tm => lo_wantG (h2 call round c1 c2 rho tm), ?_⟩
  intro call round c1 c2 w0 w r U rho tm b t dfs cs base s out s' hs hu hlen hr hx hb hfr e rest k
  have run : Region.wanted o (yielded ops t) = true → f call round rho tm s = rOf out s' → ∃ w' r' dfs' cs', Goes w0 r s s' r' w' ∧ CxR r' base s'.cx b dfs' cs' ∧ s'.lim = s.lim ∧
      OpEnds E.P r' out (lone (frm b t dfs (.inRegion ops (i :: rest) :: k)) cs w) b t dfs' ops o rest k cs' w' := fun hw e =>
    h3 call round c1 c2 w0 w r U rho tm b t dfs cs base s out s' hs (fun t q => hu t (mem_looks_op q)) hr hx hb hfr e ops i rest k ho hw
  rcases compG_some hg with ⟨q1, q2⟩ | ⟨j, want, q, d, p, q1, q2, q3, q4, q5⟩
  · subst q2
    exact run (by unfold Region.wanted; rw [q1]) e
  · subst q4
    replace e : M.on (nthV p rho) (fun v => M.chk (isK v) (M.if (isB v want) (f call round rho tm) (M.pure undef))) s = rOf out s' := e
    obtain ⟨v, e1, e⟩ := on_rOf e
    obtain ⟨hk, e⟩ := chk_rOf e
    rw [nthV_eq] at e1
    obtain ⟨v', e2, e3⟩ := hs.loc p d v (hu d (mem_looks_guard q1 q2 q3)) q5 e1
    have hj : ops[j]? = some q := by rw [← Array.getElem?_toList]; exact q2
    have hy : Region.wanted o (yielded ops t) = isB v want := by
      rw [← isB_wanted e3 hk]
      unfold Region.wanted yielded
      simp only [q1, hj, q3, Option.bind_some, e2]
      cases v' <;> rfl
    rw [if_eq] at e
    cases hB : isB v want with
    | true =>
      rw [hB] at e
      exact run (by rw [hy, hB]) e
    | false =>
      rw [hB] at e
      obtain ⟨rfl, rfl⟩ := rOf_inl (show R.some undef s = rOf out s' from e)
      exact ⟨w, r, dfs, cs, .of_rel rfl hr, hx, rfl, undef, .undef, .one (step_op_skip_frm ho (by rw [hy, hB]))⟩

/-! ### Slots as they are filled -/
theorem putT_size (t : Array Value) (d : Option Nat) (v : Value) : (putT t d v).size = t.size := by cases d <;> simp [putT]
theorem putT_other {t : Array Value} {d : Option Nat} {v : Value} {x : Nat} (h : d ≠ some x) : (putT t d v)[x]? = t[x]? := by
  cases d with
  | none => rfl
  | some d => exact Array.getElem?_setIfInBounds_ne (fun e => h (by rw [e]))
theorem putT_self {t : Array Value} {d : Nat} {v : Value} (h : d < t.size) : (putT t (some d) v)[d]? = some v := by simp [putT, h]
theorem newD_some {d n : Nat} {ds : List Nat} (h : newD (some d) n ds = true) : d < n ∧ d ∉ ds := by
  have h' : (Nat.blt d n && !ds.any fun e => Nat.beq d e) = true := h
  rw [Bool.and_eq_true] at h'
  refine ⟨blt_lt h'.1, fun hm => ?_⟩
  have h2 := h'.2
  rw [Bool.not_eq_true'] at h2
  have := List.any_eq_false.1 h2 d hm
  exact this (by show Nat.beq d d = true; exact Nat.beq_refl d)
/-- The slots that are kept, behind an operation. -/
noncomputable def keepT (d : Option Nat) (keep : Bool) (v : Value) (tm : T Value) : T Value :=
  match d, keep with
  | some d, true => T.set tm d v
  | _, _ => tm
theorem keepV_eq {β : Type} (d : Option Nat) (keep : Bool) (v : Value) (tm : T Value) (K : T Value → M β) : keepV d keep v tm K = K (keepT d keep v tm) := by
  unfold keepV keepT
  cases keep with
  | false => cases d <;> rfl
  | true =>
    cases d with
    | none => rfl
    | some d =>
      obtain ⟨a, b, c, e⟩ := T.set_N tm d v
      simp only [e]
theorem TmR.keep {r : Inj} {tm : T Value} {t : Array Value} {d : Option Nat} {v v' : Value} (h : TmR r glob tm t) (hv : VR r v v') (hd : ∀ x, d = some x → x < t.size) : TmR r glob (keepT d (keepD d glob) v tm) (putT t d v') := by
  intro x u e
  cases d with
  | none => exact h x u e
  | some d =>
    unfold keepT at e
    cases hk : keepD (some d) glob with
    | true =>
      rw [hk] at e
      simp only [T.get_set] at e
      split at e
      · rename_i hx
        cases e
        subst hx
        exact ⟨hk, v', putT_self (hd _ rfl), hv⟩
      · rename_i hx
        obtain ⟨q1, u', q2, q3⟩ := h x u e
        exact ⟨q1, u', by rw [putT_other (by simpa using fun e => hx e.symm)]; exact q2, q3⟩
    | false =>
      rw [hk] at e
      obtain ⟨q1, u', q2, q3⟩ := h x u e
      refine ⟨q1, u', ?_, q3⟩
      rw [putT_other]
      · exact q2
      · intro hx
        cases hx
        rw [show keepD (some x) glob = Nat.testBit glob x from rfl, q1] at hk
        cases hk
theorem SlR.push {r : Inj} {ds : List Nat} {rho : Rho} {tm tm' : T Value} {t : Array Value} {d : Option Nat} {v v' : Value} (h : SlR r (fun _ => True) ds rho tm t) (hv : VR r v v') (hd : newD d t.size ds = true) (hT : TmR r glob tm' (putT t d v')) :
    SlR r (fun _ => True) (consD d ds) (pushV d v rho) tm' (putT t d v') := by
  refine ⟨?_, fun x u _ e => (hT x u e).2⟩
  intro i x u _ e1 e2
  cases d with
  | none => exact h.loc i x u True.intro e1 e2
  | some d =>
    obtain ⟨q1, q2⟩ := newD_some hd
    replace e1 : (d :: ds)[i]? = some x := e1
    replace e2 : (v :: rho)[i]? = some u := e2
    cases i with
    | zero =>
      simp at e1 e2
      subst e1
      subst e2
      exact ⟨v', putT_self q1, hv⟩
    | succ i =>
      simp at e1 e2
      obtain ⟨u', p1, p2⟩ := h.loc i x u True.intro e1 e2
      refine ⟨u', ?_, p2⟩
      rw [putT_other]
      · exact p1
      · intro hx
        cases hx
        exact q2 (List.mem_of_getElem? e1)

/-! ### The region -/
theorem opsIn_cons (call round : CallT) (g : Option (Nat × Bool)) (d : Option Nat) (k : Bool) (f : OpT) (l : List COp) (rho : Rho) (tm : T Value) :
    opsIn call round (⟨g, d, k, f⟩ :: l) rho tm = M.bind (wantG g rho (f call round rho tm)) fun v => opsIn call round l (pushV d v rho) (keepT d k v tm) := by
  show M.bind (wantG g rho (f call round rho tm)) (fun v => keepV d k v tm (opsIn call round l (pushV d v rho))) = _
  congr
  funext v
  rw [keepV_eq]
theorem dstL_cons (o : Oper) (l : List Oper) : dstL (o :: l) = consD o.dst (dstL l) := rfl
theorem mem_dstL {o : Oper} {d : Nat} : ∀ {l : List Oper}, o ∈ l → o.dst = some d → d ∈ dstL l
  | [], h, _ => by cases h
  | x :: l, h, e => by
    rw [dstL_cons]
    rcases List.mem_cons.1 h with rfl | h
    · rw [e]; exact List.mem_cons_self
    · cases hx : x.dst with
      | none => exact mem_dstL h e
      | some y => exact List.mem_cons_of_mem _ (mem_dstL h e)

/-- What comes of a region, in its frame. -/
def RegEnds (P : Program) (r : Inj) (glob : Nat) (out : Out (T Value)) (m : Machine) (b : Frame) (t : Array Value) (all : List Oper) (dfs : List Deferred) (k : List Item) (cs : List Frame) (w' : World) : Prop :=
  match out with
  | .inl tm => ∃ t', TmR r glob tm t' ∧ t'.size = t.size ∧ Steps P m (lone (frm b t' dfs k) cs w')
  | .inr ch => ∃ ch' t' td, ChR r ch ch' ∧ t'.size = t.size ∧ (∀ d, d ∉ dstL all → t'[d]? = t[d]?) ∧ Steps P m (lone { frm b t' dfs td with mode := .panicking ch' } cs w')
theorem lo_opsIn (he : EnvTy E) {call round : CallT} (c1 : CallOK E call) (c2 : RoundOK E round) : ∀ (l : List Oper) (i : Nat) (ds : List Nat) (cops : List COp), compOps E glob n ops.toList l ds = some cops → (∀ j o, l[j]? = some o → ops[i + j]? = some o) →
    ∀ rho tm, Loc (opsIn call round cops rho tm)
  | [], _, _, _, hc, _, rho, tm => by cases hc; exact lo_pure _
  | o :: l, i, ds, cops, hc, hl, rho, tm => by
    obtain ⟨g, f, cr, rfl, q1, q2, q3, q4⟩ := compOps_cons hc
    rw [opsIn_cons]
    exact lo_bind ((opG_ok (keep := keepD o.dst glob) he (hl 0 o rfl) q1 q3).1 call round c1 c2 rho tm) fun v =>
      lo_opsIn he c1 c2 l (i + 1) _ cr q4 (fun j x hj => by have := hl (j + 1) x (by simpa using hj); rw [← this]; congr 1; omega) _ _
theorem opsIn_ok (he : EnvTy E) {call round : CallT} (c1 : CallOK E call) (c2 : RoundOK E round) {b : Frame} {k : List Item} {base : List Deferred × List Frame} {w0 : World} :
    ∀ (l : List Oper) (i : Nat) (ds : List Nat) (cops : List COp) (rho : Rho) (tm : T Value) (t : Array Value) (dfs : List Deferred) (cs : List Frame) (w : World) (r : Inj) (s : St) (out : Out (T Value)) (s' : St),
      (∀ j o, l[j]? = some o → ops[i + j]? = some o) → compOps E glob n ops.toList l ds = some cops → SlR r (fun _ => True) ds rho tm t → TmR r glob tm t → t.size = n → rho.length = ds.length →
      Rel w0 r s.mem w → CxR r base s.cx b dfs cs → Bnd s → Fresh r s.next s'.next → opsIn call round cops rho tm s = rOf out s' →
      ∃ w' r' dfs' cs', Goes w0 r s s' r' w' ∧ CxR r' base s'.cx b dfs' cs' ∧ s'.lim = s.lim ∧ RegEnds E.P r' glob out (lone (frm b t dfs (.inRegion ops (List.range' i l.length) :: k)) cs w) b t ops.toList dfs' k cs' w'
  | [], i, ds, cops, rho, tm, t, dfs, cs, w, r, s, out, s', hl, hc, hs, hT, hn, hlen, hr, hx, hb, hf, e => by
    cases hc
    obtain ⟨rfl, rfl⟩ := rOf_inl (show R.some tm s = rOf out s' from e)
    exact ⟨w, r, dfs, cs, .of_rel rfl hr, hx, rfl, t, hT, rfl, .one step_region_end_frm⟩
  | o :: l, i, ds, cops, rho, tm, t, dfs, cs, w, r, s, out, s', hl, hc, hs, hT, hn, hlen, hr, hx, hb, hf, e => by
    obtain ⟨g, f, cr, rfl, q1, q2, q3, q4⟩ := compOps_cons hc
    have ho : ops[i]? = some o := hl 0 o rfl
    obtain ⟨hloc, hop⟩ := opG_ok (keep := keepD o.dst glob) he ho q1 q3
    rw [opsIn_cons] at e
    have hrange : List.range' i (o :: l).length = i :: List.range' (i + 1) l.length := by simp [List.range'_succ]
    rw [hrange]
    rcases bind_rOf e with ⟨v, s1, e1, e2⟩ | ⟨ch, e1, rfl⟩
    · have hL := (hloc call round c1 c2 rho tm).at' s (.inl v) s1 e1 hb
      have hnx : s1.next ≤ s'.next := ((lo_opsIn he c1 c2 l (i + 1) (consD o.dst ds) cr q4 (fun j x hj => by have := hl (j + 1) x (by simpa using hj); rw [← this]; congr 1; omega) _ _).at' _ _ _ e2 hL.bnd).next
      obtain ⟨w1, r1, dfs1, cs1, k1, k2, k3, v', k4, k5⟩ := hop call round c1 c2 w0 w r _ rho tm b t dfs cs base s (.inl v) s1 hs (fun _ _ => True.intro) hlen hr hx hb (fun b x y => hf b x (Nat.lt_of_lt_of_le y hnx)) e1 (List.range' (i + 1) l.length) k
      have hT1 : TmR r1 glob (keepT o.dst (keepD o.dst glob) v tm) (putT t o.dst v') := (hT.mono k1.le).keep k4 (fun x hx => by
        rw [hx] at q2
        rw [hn]
        exact (newD_some q2).1)
      obtain ⟨w2, r2, dfs2, cs2, p1, p2, p3, p4⟩ := opsIn_ok he c1 c2 l (i + 1) (consD o.dst ds) cr (pushV o.dst v rho) _ (putT t o.dst v') dfs1 cs1 w1 r1 s1 out s'
        (fun j x hj => by have := hl (j + 1) x (by simpa using hj); rw [← this]; congr 1; omega) q4 ((hs.mono k1.le).push k4 (by rw [hn]; exact q2) hT1) hT1 (by rw [putT_size]; exact hn)
        (by cases hd : o.dst <;> simp [consD, pushV, hlen]) k1.rel k2 hL.bnd (k1.fresh hf) e2
      refine ⟨w2, r2, dfs2, cs2, k1.trans p1, p2, p3.trans k3, ?_⟩
      unfold RegEnds at p4 ⊢
      cases out with
      | inl tm' =>
        obtain ⟨t', z1, z2, z3⟩ := p4
        exact ⟨t', z1, by rw [z2, putT_size], k5.trans z3⟩
      | inr ch =>
        obtain ⟨ch', t', td, z1, z2, z3, z4⟩ := p4
        refine ⟨ch', t', td, z1, by rw [z2, putT_size], fun d hd => ?_, k5.trans z4⟩
        rw [z3 d hd, putT_other]
        intro hx
        exact hd (mem_dstL (by rw [Array.mem_toList_iff]; exact Array.mem_of_getElem? ho) hx)
    · obtain ⟨w1, r1, dfs1, cs1, k1, k2, k3, ch', td, k4, k5⟩ := hop call round c1 c2 w0 w r _ rho tm b t dfs cs base s (.inr ch) s' hs (fun _ _ => True.intro) hlen hr hx hb hf e1 (List.range' (i + 1) l.length) k
      exact ⟨w1, r1, dfs1, cs1, k1, k2, k3, ch', t, td, k4, rfl, fun _ _ => rfl, k5⟩
end
end Go.Proofs.YtkgncjlgmnbfoaaGreatDoor.Am
