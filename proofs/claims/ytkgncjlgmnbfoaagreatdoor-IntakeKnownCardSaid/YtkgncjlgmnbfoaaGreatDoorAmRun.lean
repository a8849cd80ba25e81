/- Whole runs of frames, and calls: what the evaluator says of a call is so. -/
import Derived.Test.YtkgncjlgmnbfoaaGreatDoorAmFrame5
namespace Go.Proofs.YtkgncjlgmnbfoaaGreatDoor.Am
open Go.RowKit

section
variable {E : Env} {call round : CallT} {dcall : DeferT} {w0 w : World} {r : Inj} {base : List Deferred × List Frame}
theorem FinE.head {P : Program} {cx' : Ctx} {fr fr0 : Frame} (hk : Kin fr0 fr) {m m1 : Machine} {w' : World} {out : Out (Value × FrameMode)} (hs : Steps P m m1) (h : FinE P r base cx' fr m1 w' out) : FinE P r base cx' fr0 m w' out := by
  obtain ⟨cs', h1, h2⟩ := h
  unfold Kin at hk
  simp only [Prod.mk.injEq] at hk
  obtain ⟨e1, e2, e3⟩ := hk
  rw [e1] at h1
  refine ⟨cs', h1, ?_⟩
  cases out with
  | inl p =>
    obtain ⟨v', q1, q2, q3⟩ := h2
    rw [e1, e2, e3] at *
    exact ⟨v', q1, fun c rest e => hs.trans (q2 c rest e), fun a b => let ⟨fr', x, y, z⟩ := q3 a b; ⟨fr', x, y, hs.trans z⟩⟩
  | inr ch => obtain ⟨ch', q1, q2⟩ := h2; exact ⟨ch', q1, fun c rest e => hs.trans (q2 c rest e)⟩
theorem StepE.head {P : Program} {cx' : Ctx} {fr fr0 : Frame} (hk : Kin fr0 fr) {m m1 : Machine} {w' : World} {out : Out Step} (hs : Steps P m m1) (h : StepE P r base cx' fr m1 w' out) : StepE P r base cx' fr0 m w' out := by
  cases out with
  | inr ch => exact FinE.head hk hs h
  | inl p =>
    cases p with
    | fin v up => exact FinE.head hk hs h
    | go af' =>
      obtain ⟨fr', cs', q1, q2, q3⟩ := h
      exact ⟨fr', cs', q1.trans hk, q2, hs.trans q3⟩
/-- A step of the evaluator's. -/
theorem stepA_ok (he : EnvOK E) (c1 : CallOK E call) (c2 : RoundOK E round) (c3 : DeferOK E dcall) {af : AF} {fr : Frame} {cs : List Frame} {s s' : St} {out : Out Step} (h : stepA E call round dcall af s = rOf out s') (hF : FR E.P r af s.cx base fr cs)
    (hr : Rel w0 r s.mem w) (hb : Bnd s) (hf : Fresh r s.next s'.next) :
    ∃ w' r', Goes w0 r s s' r' w' ∧ s'.lim = s.lim ∧ StepE E.P r' base s'.cx fr (lone fr cs w) w' out := by
  by_cases hm : af.mode = .run
  · rw [stepA_run af hm] at h
    obtain ⟨p, hout, h'⟩ := noP_rOf h
    clear h
    subst hout
    have h := h'
    clear h'
    have hsk := skim_ok (P := E.P) (b := fr) (t := fr.tmps) (d := fr.defers) (cs := cs) (w := w) 64 af.todo
    rw [← hF.frm hm] at hsk
    have hF' := hF.to (skim 64 af.todo)
    rw [← hm] at hF'
    have fin : ∃ w' r', Goes w0 r s s' r' w' ∧ s'.lim = s.lim ∧ StepE E.P r' base s'.cx (frm fr fr.tmps fr.defers (skim 64 af.todo)) (lone (frm fr fr.tmps fr.defers (skim 64 af.todo)) cs w) w' (.inl p) := by
      cases ht : skim 64 af.todo with
      | nil => rw [ht] at h hF'; exact leaveF_ok (out := .inl p) h hF' hm hr hF'.csr (.inl ⟨rfl, rfl⟩)
      | cons x k => rw [ht] at h hF'; exact itemF_ok (out := .inl p) he c1 c2 h hF' hm rfl hr hb hf
    obtain ⟨w', r', k1, k2, k3⟩ := fin
    exact ⟨w', r', k1, k2, k3.head rfl hsk⟩
  · rw [stepA_un af hm] at h
    exact unwindF_ok he c3 h hF hm hr hb hf

/-- What holds of whole runs of frames. -/
structure RunOK (E : Env) (run : AF → M (Value × FrameMode)) : Prop where
  loc : ∀ af, Loc (run af)
  ok : ∀ {w0 w : World} {r : Inj} {base : List Deferred × List Frame} {af : AF} {fr : Frame} {cs : List Frame} {s : St} {out : Out (Value × FrameMode)} {s' : St}, run af s = rOf out s' → FR E.P r af s.cx base fr cs → Rel w0 r s.mem w → Bnd s → Fresh r s.next s'.next →
    ∃ w' r', Goes w0 r s s' r' w' ∧ s'.lim = s.lim ∧ FinE E.P r' base s'.cx fr (lone fr cs w) w' out

/-! ### Entering -/
theorem argsT_get {g : Nat} {y : Nat} {v : Value} : ∀ {l : List Value} {i : Nat} {t : T Value}, T.get (argsT g l i t) y = some v → (∃ j, y = i + j ∧ l[j]? = some v ∧ Nat.testBit g y = true) ∨ T.get t y = some v
  | [], _, _, h => .inr h
  | a :: l, i, t, h => by
    replace h : T.get (argsT g l (Nat.succ i) (putG g i a t)) y = some v := h
    rcases argsT_get h with ⟨j, h1, h2, h3⟩ | h
    · exact .inl ⟨j + 1, by omega, by simpa using h2, h3⟩
    · unfold putG at h
      cases hb : Nat.testBit g i with
      | false => rw [hb] at h; exact .inr h
      | true =>
        rw [hb] at h
        simp only [T.get_set] at h
        split at h
        · rename_i hy
          cases h
          exact .inl ⟨0, hy, rfl, by rw [hy]; exact hb⟩
        · exact .inr h
theorem enterF_some {f : Nat} {args : List Value} {kind : CallKind} {s s' : St} {af : AF} (h : enterF E f args kind s = .some af s') : s = s' ∧ ∃ fn c, E.fn.get f = some fn ∧ fn.body = some c ∧ args.length ≤ fn.ntmps ∧
    af = { fn := f, n := fn.ntmps, glob := globOf fn, tmps := argsT (globOf fn) args 0 .E, todo := [.code c], mode := .run, kind, roundOf := none } := by
  unfold enterF at h
  obtain ⟨fn, h1, h⟩ := on_some h
  obtain ⟨c, h2, h⟩ := on_some h
  obtain ⟨h3, h⟩ := chk_some h
  rw [fN_eq, fN_eq] at h
  obtain ⟨rfl, rfl⟩ := pure_some h
  exact ⟨rfl, fn, c, h1, h2, Nat.le_of_ble_eq_true h3, rfl⟩
theorem lo_enterF (f : Nat) (args : List Value) (kind : CallKind) : Loc (enterF E f args kind) := lo_on _ fun _fn => lo_on _ fun _c => lo_chk _ (lo_fN _ fun _n => lo_fN _ fun _g => lo_pure _)
theorem np_enterF (f : Nat) (args : List Value) (kind : CallKind) : NoPan (enterF E f args kind) := np_on _ fun _fn => np_on _ fun _c => np_chk _ (np_fN _ fun _n => np_fN _ fun _g => np_pure _)
theorem enter_ok (he : EnvOK E) {f : Nat} {args args' : List Value} {kind : CallKind} {s s' : St} {af : AF} (h : enterF E f args kind s = .some af s') (ha : VRs r args args') {cx : Ctx} {cs : List Frame} (hcx : CxR r base cx (Frame.enter E.P f args'.toArray kind) [] cs) :
    (∀ w, (callFunc f args'.toArray).run E.P w = .ok (.enter f args'.toArray) w) ∧ FR E.P r af cx base (Frame.enter E.P f args'.toArray kind) cs ∧ s = s' := by
  obtain ⟨rfl, fn, c, h1, h2, h3, rfl⟩ := enterF_some h
  obtain ⟨k1, k2⟩ := he.fn f fn h1
  refine ⟨fun w => ?_, ⟨rfl, ?_, ?_, fun _ => ?_, .run, True.intro, fun e => absurd rfl e, fun _ => ⟨fn, k1⟩, hcx⟩, rfl⟩
  · unfold callFunc
    simp [Sem.run, program, k1, k2, h2]
  · simp only [Frame.enter, k1, Option.map_some, Option.getD_some, Array.size_append, List.size_toArray, Array.size_replicate]
    have := ha.1
    omega
  · intro y v e
    rcases argsT_get e with ⟨j, e1, e2, e3⟩ | e
    · obtain ⟨v', q1, q2⟩ := ha.get e2
      refine ⟨e3, v', ?_, q2⟩
      rw [Nat.zero_add] at e1
      subst e1
      simp only [Frame.enter]
      rw [Array.getElem?_append_left (by simpa using (List.getElem?_eq_some_iff.1 q1).1)]
      simpa using q1
    · cases e
  · simp [Frame.enter, k1, h2]
theorem within_def {α : Type} (c : Ctx) (m : M α) (s : St) : within c m s = match m ⟨s.mem, s.next, s.lim, s.rd, s.wr, c⟩ with
    | .none => .none
    | .some a s1 => .some a ⟨s1.mem, s1.next, s1.lim, s1.rd, s1.wr, s.cx⟩
    | .pan p s1 => .pan p ⟨s1.mem, s1.next, s1.lim, s1.rd, s1.wr, s.cx⟩ := by
  obtain ⟨mem, next, lim, rd, wr, cx⟩ := s
  unfold within
  simp only
  cases m ⟨mem, next, lim, rd, wr, c⟩ <;> rfl
theorem within_rOf {α : Type} {c : Ctx} {m : M α} {s s' : St} {o : Out α} (h : within c m s = rOf o s') : ∃ s1, m ⟨s.mem, s.next, s.lim, s.rd, s.wr, c⟩ = rOf o s1 ∧ s' = ⟨s1.mem, s1.next, s1.lim, s1.rd, s1.wr, s.cx⟩ := by
  rw [within_def] at h
  cases e : m ⟨s.mem, s.next, s.lim, s.rd, s.wr, c⟩ with
  | none => rw [e] at h; exact (rOf_none h).elim
  | some a s1 => rw [e] at h; obtain ⟨rfl, rfl⟩ := rOf_inl h; exact ⟨s1, rfl, rfl⟩
  | pan p s1 => rw [e] at h; obtain ⟨rfl, rfl⟩ := rOf_inr h; exact ⟨s1, rfl, rfl⟩
theorem lo_within {α : Type} (c : Ctx) {m : M α} (h : Loc m) : Loc (within c m) := ⟨fun s o s' e hb => by
  obtain ⟨s1, e1, rfl⟩ := within_rOf e
  obtain ⟨Rd, Wr, dr, dw, g, i1, i2⟩ := h.at' _ o s1 e1 hb
  refine ⟨Rd, Wr, dr, dw, ⟨g.rd, g.wr, g.nxt, g.lim, g.bnd, g.rlt, g.wlt, g.old, fun t e1 e2 e3 e4 => ?_⟩, i1, i2⟩
  obtain ⟨t', q1, q2, q3, q4, q5, q6, q7, q8⟩ := g.any ⟨t.mem, t.next, t.lim, t.rd, t.wr, c⟩ e1 e2 rfl e4
  refine ⟨⟨t'.mem, t'.next, t'.lim, t'.rd, t'.wr, t.cx⟩, ?_, q2, q3, e3, q5, q6, q7, q8⟩
  rw [within_def, q1]
  cases o <;> rfl⟩
theorem fst_rOf {run : AF → M (Value × FrameMode)} {m : M AF} (hm : NoPan m) {s s' : St} {out : Out Value} (h : M.bind (M.bind m run) fstV s = rOf out s') :
    ∃ af s1 o, m s = .some af s1 ∧ run af s1 = rOf o s' ∧ out = (match o with | .inl p => .inl p.1 | .inr c => .inr c) := by
  rcases bind_rOf h with ⟨p, s2, e1, e2⟩ | ⟨c, e1, rfl⟩
  · obtain ⟨af, s1, e3, e4⟩ := bind_some e1
    obtain ⟨rfl, rfl⟩ := rOf_inl (show R.some p.1 s2 = rOf out s' from e2)
    exact ⟨af, s1, .inl p, e3, e4, rfl⟩
  · rcases bind_pan e1 with e3 | ⟨af, s1, e3, e4⟩
    · exact (hm.no _ _ _ e3).elim
    · exact ⟨af, s1, .inr c, e3, e4, rfl⟩
/-- Calls, out of whole runs. -/
theorem callW_ok (he : EnvOK E) {run : AF → M (Value × FrameMode)} (hrun : RunOK E run) : CallOK E (callW E run) where
  loc := fun f args => by
    unfold callW
    cases ho : E.orc.get f with
    | some m => exact he.orcLoc f m ho args
    | none =>
      cases hx : E.ext.get f with
      | some m => exact he.extLoc f m hx args
      | none => exact lo_within _ (lo_bind (lo_bind (lo_enterF _ _ _) hrun.loc) fun p => lo_pure _)
  ok := by
    intro w0 w r f args args' s out s' h hr hb hf ha
    unfold callW at h
    cases ho : E.orc.get f with
    | some m => rw [ho] at h; exact .inl (he.orc ho h hr hb hf ha)
    | none =>
      rw [ho] at h
      cases hx : E.ext.get f with
      | some m => rw [hx] at h; exact .inr ⟨(fun e => by cases e), he.ext hx h hr ha⟩
      | none =>
      rw [hx] at h
      refine .inl ?_
      obtain ⟨s2, e1, rfl⟩ := within_rOf (show within cxN (M.bind (M.bind (enterF E f args .normal) run) fstV) s = rOf out s' from h)
      obtain ⟨af, s1, o, e2, e3, rfl⟩ := fst_rOf (np_enterF _ _ _) e1
      have hen := fun (c : Frame) (cs : List Frame) => enter_ok (base := ([], c :: cs)) (cx := cxN) he e2 ha (cs := c :: cs) ⟨⟨rfl, rfl⟩, rfl, .nil⟩
      refine ⟨(hen default []).1, fun c cs => ?_⟩
      obtain ⟨_, hF, rfl⟩ := hen c cs
      obtain ⟨w', r', k1, k2, cs', k3, k4⟩ := hrun.ok e3 hF hr hb hf
      have hcs : cs' = c :: cs := by
        rcases k3 with k3 | ⟨_, _, _, _, _, k, _⟩
        · exact k3.2
        · cases k
      refine ⟨w', r', ⟨k1.le, k1.nxt, k1.domB, k1.domE, k1.rel⟩, k2, rfl, ?_⟩
      cases o with
      | inl p =>
        obtain ⟨v', q1, q2, q3⟩ := k4
        exact ⟨v', q1, q2 c cs hcs⟩
      | inr ch =>
        obtain ⟨ch', q1, q2⟩ := k4
        exact ⟨ch', q1, q2 c cs hcs⟩

/-! ### Rounds -/
theorem setPs_get {g : Nat} {y : Nat} {v : Value} : ∀ {ps : List Nat} {l : List Value} {t : T Value}, T.get (setPs g ps l t) y = some v → ∀ {_n : Nat} {r : Inj} {tt : Array Value} {l' : List Value}, TmR r g t tt → VRs r l l' → l.length = ps.length → (∀ p ∈ ps, p < tt.size) →
    Nat.testBit g y = true ∧ ∃ v', ((ps.zip l').foldl (fun tmps (x : Nat × Value) => tmps.setIfInBounds x.1 x.2) tt)[y]? = some v' ∧ VR r v v'
  | [], l, t, h, n, r, tt, l', hT, hl, _, _ => by simpa using hT y v h
  | p :: ps, [], t, h, n, r, tt, l', hT, hl, hlen, _ => by simp at hlen
  | p :: ps, a :: l, t, h, n, r, tt, l', hT, hl, hlen, hp => by
    obtain ⟨a', l1, rfl, q1, q2⟩ := hl.inv
    replace h : T.get (setPs g ps l (putG g p a t)) y = some v := h
    have hps : p < tt.size := hp p List.mem_cons_self
    have := setPs_get h (_n := n) (r := r) (tt := tt.setIfInBounds p a') (l' := l1) (fun x u e => by
      unfold putG at e
      cases hb : Nat.testBit g p with
      | true =>
        rw [hb] at e
        simp only [T.get_set] at e
        split at e
        · rename_i hx
          cases e
          subst hx
          exact ⟨hb, a', by simp [hps], q1⟩
        · rename_i hx
          obtain ⟨z1, u', z2, z3⟩ := hT x u e
          exact ⟨z1, u', by rw [Array.getElem?_setIfInBounds_ne (fun e => hx e.symm)]; exact z2, z3⟩
      | false =>
        rw [hb] at e
        obtain ⟨z1, u', z2, z3⟩ := hT x u e
        refine ⟨z1, u', ?_, z3⟩
        rw [Array.getElem?_setIfInBounds_ne]
        · exact z2
        · intro hx
          subst hx
          rw [z1] at hb
          cases hb) q2 (by simpa using hlen) (fun x hx => by rw [Array.size_setIfInBounds]; exact hp x (List.mem_cons_of_mem _ hx))
    simpa using this
theorem foldl_set_size : ∀ (l : List (Nat × Value)) (tt : Array Value), (l.foldl (fun tmps (x : Nat × Value) => tmps.setIfInBounds x.1 x.2) tt).size = tt.size
  | [], tt => rfl
  | p :: l, tt => by rw [List.foldl_cons, foldl_set_size l]; simp
theorem lo_roundF (l : Nat) (args : List Value) : Loc (roundF l args) := by
  unfold roundF
  refine lo_bind (lo_rdC _) fun c => ?_
  cases c with
  | C a b => exact lo_fail
  | O o => cases o <;> first | exact lo_fail | exact lo_chk _ (lo_pure _)
theorem np_roundF (l : Nat) (args : List Value) : NoPan (roundF l args) := by
  unfold roundF
  refine np_bind (np_rdC _) fun c => ?_
  cases c with
  | C a b => exact np_fail
  | O o => cases o <;> first | exact np_fail | exact np_chk _ (np_pure _)
theorem roundW_ok {run : AF → M (Value × FrameMode)} (hrun : RunOK E run) : RoundOK E (roundW run) where
  loc := fun l args => lo_noP (lo_within _ (lo_bind (lo_bind (lo_roundF _ _) hrun.loc) fun p => lo_pure _))
  ok := by
    intro w0 w r l l' d args args' s out s' h hr hb hf ha hl
    obtain ⟨v, hout, h'⟩ := noP_rOf h
    clear h
    subst hout
    have h := h'
    clear h'
    obtain ⟨s2, e1, rfl⟩ := within_rOf (o := .inl v) h
    obtain ⟨af, s1, o, e2, e3, e4⟩ := fst_rOf (np_roundF _ _) e1
    cases o with
    | inr c => cases e4
    | inl p =>
      cases e4
      unfold roundF at e2
      obtain ⟨c, s3, e5, e6⟩ := bind_some e2
      obtain ⟨z1, z2⟩ := rdC_some e5
      cases c with
      | C a b => cases e6
      | O o =>
        cases o with
        | loop st pe f n g tm ps as bd df =>
          obtain ⟨e7, e8⟩ := chk_some e6
          obtain ⟨rfl, rfl⟩ := pure_some e8
          rw [Bool.and_eq_true] at e7
          obtain ⟨b', d', o', y1, y2, y3⟩ := hr.obj _ _ z1 rfl
          rw [hl] at y1
          cases y1
          cases o' with
          | loop L =>
            obtain ⟨j1, j2, j3, j4, j5, j6, j7, j8, j9⟩ := y3
            have hlen : args.length = ps.length := Nat.eq_of_beq_eq_true e7.1
            have hps : ∀ p ∈ ps, p < L.tmps.size := fun p hp => by
              rw [j4]
              exact blt_lt (List.all_eq_true.1 e7.2 p hp)
            have hsize : args'.toArray.size = L.params.size := by
              rw [List.size_toArray, ← ha.1, hlen, ← j6, Array.length_toList]
            have hzip : (L.params.zip args'.toArray).foldl (fun tmps (x : Nat × Value) => tmps.setIfInBounds x.1 x.2) L.tmps = (ps.zip args').foldl (fun tmps (x : Nat × Value) => tmps.setIfInBounds x.1 x.2) L.tmps := by
              rw [← Array.foldl_toList, Array.toList_zip, j6]
            refine ⟨L.fn, (ps.zip args').foldl (fun tmps (x : Nat × Value) => tmps.setIfInBounds x.1 x.2) L.tmps, L.assign, L.body, ?_, fun c cs => ?_⟩
            · simp only [Instr.yield, Sem.run_bind, run_getLoop y2, Result.andThen_ok]
              rw [if_neg (by simpa using hsize)]
              simp only [Sem.run_pure, ← hzip]
            · have hF : FR E.P r { fn := f, n, glob := g, tmps := setPs g ps args tm, todo := [.code as, .beginRound, .code bd], mode := .run, kind := .normal, roundOf := some l } cxR ([], c :: cs)
                  (Frame.round l' L.fn ((ps.zip args').foldl (fun tmps (x : Nat × Value) => tmps.setIfInBounds x.1 x.2) L.tmps) L.assign L.body .normal) (c :: cs) := by
                refine ⟨j3, by simp only [Frame.round]; rw [foldl_set_size, j4], fun y v e => setPs_get e (_n := n) j5 ha hlen hps, fun _ => ?_, .run, ⟨d, hl⟩, fun _ => rfl, (fun e => by cases e), ⟨⟨rfl, rfl⟩, (by simp [Frame.round]), rfl⟩⟩
                simp only [Frame.round, j7, j8]
              have z2' : s3.mem = s.mem ∧ s3.next = s.next ∧ s3.lim = s.lim ∧ s3.cx = cxR := z2
              obtain ⟨w', r', k1, k2, cs', k3, k4⟩ := hrun.ok (out := .inl p) e3 (by rw [z2'.2.2.2]; exact hF) (by rw [z2'.1]; exact hr) (show s3.lim ≤ s3.next by rw [z2'.2.2.1, z2'.2.1]; exact hb) (by rw [z2'.2.1]; exact hf)
              have hcs : cs' = c :: cs := by
                rcases k3 with k3 | ⟨_, _, _, _, _, k, _⟩
                · exact k3.2
                · cases k
              obtain ⟨v', q1, q2, q3⟩ := k4
              refine ⟨w', r', ⟨k1.le, by rw [← z2'.2.1]; exact k1.nxt, fun b hb => by rw [← z2'.2.1]; exact k1.domB b hb, fun b hb => by rw [← z2'.2.1]; exact k1.domE b hb, k1.rel⟩, by rw [← z2'.2.2.1]; exact k2, rfl, v', q1, q2 c cs hcs⟩
          | _ => exact y3.elim
        | _ => cases e6

/-! ### Deferred calls -/
theorem deferW_ok (he : EnvOK E) {run : AF → M (Value × FrameMode)} (hrun : RunOK E run) : DeferOK E (deferW E run) where
  loc := fun f args m => lo_within _ (by
    refine lo_catch (m := M.bind (enterF E f args .deferred) run) (f := fun p => M.pure (none, p.2)) (g := fun c => M.bind getCx fun cx => M.pure (some c, upOf cx)) (lo_bind (lo_enterF _ _ _) hrun.loc) (fun p => lo_pure _) fun c => lo_bind lo_getCx fun cx => lo_pure _)
  ok := by
    intro w0 w r f args args' m m' s out s' h hr hb hf ha hm
    obtain ⟨s2, e1, rfl⟩ := within_rOf h
    have e1' : R.rec (motive := fun _ => R (Option (List PanicEntry) × FrameMode)) .none (fun p s => .some (none, p.2) s) (fun c s => .some (some c, upOf s.cx) s) (M.bind (enterF E f args .deferred) run ⟨s.mem, s.next, s.lim, s.rd, s.wr, .cx (some m) (some [])⟩) = rOf out s2 := e1
    have main : ∃ af s1 o, enterF E f args .deferred ⟨s.mem, s.next, s.lim, s.rd, s.wr, .cx (some m) (some [])⟩ = .some af s1 ∧ run af s1 = rOf o s2 ∧ out = .inl (match o with | .inl p => (none, p.2) | .inr c => (some c, upOf s2.cx)) := by
      cases e2 : M.bind (enterF E f args .deferred) run ⟨s.mem, s.next, s.lim, s.rd, s.wr, .cx (some m) (some [])⟩ with
      | none => rw [e2] at e1'; exact (rOf_none e1').elim
      | some p s3 =>
        rw [e2] at e1'
        obtain ⟨rfl, rfl⟩ := rOf_inl (show R.some (none, p.2) s3 = rOf out s2 from e1')
        obtain ⟨af, s1, e3, e4⟩ := bind_some e2
        exact ⟨af, s1, .inl p, e3, e4, rfl⟩
      | pan c s3 =>
        rw [e2] at e1'
        obtain ⟨rfl, rfl⟩ := rOf_inl (show R.some (some c, upOf s3.cx) s3 = rOf out s2 from e1')
        rcases bind_pan e2 with e3 | ⟨af, s1, e3, e4⟩
        · exact ((np_enterF _ _ _).no _ _ _ e3).elim
        · exact ⟨af, s1, .inr c, e3, e4, rfl⟩
    obtain ⟨af, s1, o, e2, e3, rfl⟩ := main
    have hen := fun (c : Frame) (cs : List Frame) (hc : c.mode = m') => enter_ok (base := ([], c :: cs)) (cx := .cx (some m) (some [])) he e2 ha (cs := c :: cs) ⟨⟨rfl, c, cs, m', rfl, by rw [← hc], hm⟩, rfl, .nil⟩
    refine ⟨(hen { (default : Frame) with mode := m' } [] rfl).1, fun c cs hc => ?_⟩
    obtain ⟨_, hF, rfl⟩ := hen c cs hc
    obtain ⟨w', r', k1, k2, cs', k3, k4⟩ := hrun.ok e3 hF hr hb hf
    rcases k3 with ⟨k3, _⟩ | ⟨u, c0, rest, m2, k5, k6, k7, k8, k9, k10⟩
    · cases k3
    · cases k7
      refine ⟨w', r', _, m2, rfl, ⟨k1.le, k1.nxt, k1.domB, k1.domE, k1.rel⟩, k2, rfl, ?_, ?_⟩
      · cases o with
        | inl p => rw [show p.2 = u from k10 p.1 p.2 rfl]; exact k9
        | inr ch => rw [show upOf s2.cx = u by rw [k5]; rfl]; exact k9
      · cases o with
        | inl p =>
          obtain ⟨v', q1, q2, q3⟩ := k4
          exact ⟨v', q2 _ _ k8⟩
        | inr ch =>
          obtain ⟨ch', q1, q2⟩ := k4
          exact ⟨ch', q1, q2 _ _ k8⟩

/-! ### All frames, by fuel -/
theorem runF_ok (he : EnvOK E) : ∀ fuel, RunOK E (runF E fuel)
  | 0 => ⟨fun _ => lo_fail, fun h => (rOf_none h).elim⟩
  | fuel + 1 => by
    have ih := runF_ok he fuel
    have c1 := callW_ok he ih
    have c2 := roundW_ok ih
    have c3 := deferW_ok he ih
    have h0 : ∀ af, runF E (fuel + 1) af = M.bind (stepA E (callW E (runF E fuel)) (roundW (runF E fuel)) (deferW E (runF E fuel)) af) (stepR (runF E fuel)) := fun _ => rfl
    have lR : ∀ p, Loc (stepR (runF E fuel) p) := fun p => by
      cases p with
      | go af => exact ih.loc af
      | fin v u => exact lo_pure _
    refine ⟨fun af => by rw [h0]; exact lo_bind (lo_stepA he c1 c2 c3 af) lR, ?_⟩
    intro w0 w r base af fr cs s out s' h hF hr hb hf
    rw [h0] at h
    rcases bind_rOf h with ⟨p, s1, e1, e2⟩ | ⟨c, e1, rfl⟩
    · have L1 := (lo_stepA he c1 c2 c3 af).at' s (.inl p) s1 e1 hb
      have L2 := (lR p).at' s1 out s' e2 L1.bnd
      obtain ⟨w1, r1, k1, k2, k3⟩ := stepA_ok (out := .inl p) he c1 c2 c3 e1 hF hr hb (fun b x y => hf b x (Nat.lt_of_lt_of_le y L2.next))
      cases p with
      | go af' =>
        obtain ⟨fr', cs', k4, k5, k6⟩ := k3
        obtain ⟨w2, r2, q1, q2, q3⟩ := ih.ok (show runF E fuel af' s1 = rOf out s' from e2) k5 k1.rel L1.bnd (k1.fresh hf)
        exact ⟨w2, r2, k1.trans q1, q2.trans k2, q3.head k4 k6⟩
      | fin v u =>
        obtain ⟨rfl, rfl⟩ := rOf_inl (show R.some (v, u) s1 = rOf out s' from e2)
        exact ⟨w1, r1, k1, k2, k3⟩
    · obtain ⟨w1, r1, k1, k2, k3⟩ := stepA_ok (out := .inr c) he c1 c2 c3 e1 hF hr hb hf
      exact ⟨w1, r1, k1, k2, k3⟩
end
/-- WHAT THE EVALUATOR SAYS OF A CALL IS SO. -/
theorem callF_ok {E : Env} (he : EnvOK E) (fuel : Nat) : CallOK E (callF E fuel) := callW_ok he (runF_ok he fuel)
theorem Rel.empty (w : World) {K : Know} (hK : K.sure w) : Rel w (.nil K) .E w :=
  ⟨.refl _ _, (fun b b' d e => by cases e), (fun l b v e => by cases e), (fun l1 l2 b1 v1 b2 v2 b' d1 d2 e => by cases e), (fun l o e => by cases e), (fun l1 l2 o1 o2 b' d1 d2 e => by cases e), (fun t sz e => by cases e), (fun t1 t2 s1 s2 k1 k2 e => by cases e), hK, (fun l n e => by cases e), ⟨(fun l b v e => by cases e), (fun l b v b' d e => by cases e), (fun l o b' d e => by cases e), (fun l n b' d e => by cases e)⟩⟩
/-- Where an evaluation begins. -/
noncomputable def st0 : St := ⟨.E, 0, 0, [], [], .no⟩
/-- A call of a closed function, from any world: it returns what the evaluator says, if that has no address in it; nothing that was there is touched. -/
theorem calls_closed {E : Env} (he : EnvOK E) {fuel f : Nat} {v : Value} {s' : St} (ho : E.orc.get f = none) (hx : E.ext.get f = none) (h : callF E fuel f [] st0 = .some v s') (hp : plain v = true) (w : World) : Calls E.P f #[] w fun e w' => e = .returned v ∧ Below w.heap.size w w' := by
  intro cs
  replace h : callW E (runF E fuel) f [] st0 = .some v s' := h
  unfold callW at h
  rw [ho, hx] at h
  obtain ⟨s2, e1, rfl⟩ := within_rOf (o := .inl v) (show within cxN (M.bind (M.bind (enterF E f [] .normal) (runF E fuel)) fstV) st0 = rOf (.inl v) s' from h)
  obtain ⟨af, s1, o, e2, e3, e4⟩ := fst_rOf (np_enterF _ _ _) e1
  obtain ⟨_, hF, rfl⟩ := enter_ok (r := .nil .no) (base := ([], cs)) (cx := cxN) he e2 .nil (cs := cs) ⟨⟨rfl, rfl⟩, rfl, .nil⟩
  obtain ⟨w', r', k1, k2, cs', k3, k4⟩ := (runF_ok he fuel).ok e3 hF (Rel.empty w (Know.no_sure w)) (Nat.le_refl _) (fun _ _ _ => ⟨rfl, rfl⟩)
  cases o with
  | inr c => cases e4
  | inl p =>
    cases e4
    obtain ⟨v', q1, q2, q3⟩ := k4
    obtain ⟨fr', x1, x2, x3⟩ := q3 rfl rfl
    have hcs : cs' = cs := by
      rcases k3 with k3 | ⟨_, _, _, _, _, k, _⟩
      · exact k3.2
      · cases k
    subst hcs
    exact ⟨.returned v', w', fr', ⟨by rw [q1.eq_of_plain hp], k1.rel.below⟩, x3, x1, x2⟩
end Go.Proofs.YtkgncjlgmnbfoaaGreatDoor.Am
