/- Whole runs of frames, and calls: what the evaluator says of a call is so. -/
import Derived.Test.YtofanlcjeohcjaaMn06
import Derived.RowKit3
import GoSem.Step
import Derived.Test.YtofanlcjeohcjaaRows
import Derived.WalkKit
import Derived.WalkSpells
import Derived.WalkLawsBesides
import Derived.BigQuiet
import Derived.Deep.QuietTactic
namespace Go.Proofs.Ytofanlcjeohcjaa.Am
open Go.RowKit

section
variable {E : Env} {call round : CallT} {dcall : DeferT} {w0 w : World} {r : Inj} {base : List Deferred × List Frame}
theorem FinE.head {P : Program} {cx' : Ctx} {fr fr0 : Frame} (hk : Kin fr0 fr) {m m1 : Machine} {w' : World} {out : Out (Value × FrameMode)} (hs : Steps P m m1) (h : FinE P r base cx' fr m1 w' out) : FinE P r base cx' fr0 m w' out := by
  obtain ⟨cs', h1, h2⟩ := h
  unfold Kin at hk
  simp only [Prod.mk.injEq] at hk
  obtain ⟨e1, e2, e3⟩ := hk
  rw [e1] at h1
  refine ⟨cs', h1, ?_⟩
  cases out with
  | inl p =>
    obtain ⟨v', q1, q2, q3⟩ := h2
    rw [e1, e2, e3] at *
    exact ⟨v', q1, fun c rest e => hs.trans (q2 c rest e), fun a b => let ⟨fr', x, y, z⟩ := q3 a b; ⟨fr', x, y, hs.trans z⟩⟩
  | inr ch => obtain ⟨ch', q1, q2⟩ := h2; exact ⟨ch', q1, fun c rest e => hs.trans (q2 c rest e)⟩
theorem StepE.head {P : Program} {cx' : Ctx} {fr fr0 : Frame} (hk : Kin fr0 fr) {m m1 : Machine} {w' : World} {out : Out Step} (hs : Steps P m m1) (h : StepE P r base cx' fr m1 w' out) : StepE P r base cx' fr0 m w' out := by
  cases out with
  | inr ch => exact FinE.head hk hs h
  | inl p =>
    cases p with
    | fin v up => exact FinE.head hk hs h
    | go af' =>
      obtain ⟨fr', cs', q1, q2, q3⟩ := h
      exact ⟨fr', cs', q1.trans hk, q2, hs.trans q3⟩
/-- A step of the evaluator's. -/
theorem stepA_ok (he : EnvOK E) (c1 : CallOK E call) (c2 : RoundOK E round) (c3 : DeferOK E dcall) {af : AF} {fr : Frame} {cs : List Frame} {s s' : St} {out : Out Step} (h : stepA E call round dcall af s = rOf out s') (hF : FR E.P r af s.cx base fr cs)
    (hr : Rel w0 r s.mem w) (hb : Bnd s) (hf : Fresh r s.next s'.next) :
    ∃ w' r', Goes w0 r s s' r' w' ∧ s'.lim = s.lim ∧ StepE E.P r' base s'.cx fr (lone fr cs w) w' out := by
  by_cases hm : af.mode = .run
  · rw [stepA_run af hm] at h
    obtain ⟨p, hout, h'⟩ := noP_rOf h
    clear h
    subst hout
    have h := h'
    clear h'
    have hsk := skim_ok (P := E.P) (b := fr) (t := fr.tmps) (d := fr.defers) (cs := cs) (w := w) 64 af.todo
    rw [← hF.frm hm] at hsk
    have hF' := hF.to (skim 64 af.todo)
    rw [← hm] at hF'
    have fin : ∃ w' r', Goes w0 r s s' r' w' ∧ s'.lim = s.lim ∧ StepE E.P r' base s'.cx (frm fr fr.tmps fr.defers (skim 64 af.todo)) (lone (frm fr fr.tmps fr.defers (skim 64 af.todo)) cs w) w' (.inl p) := by
      cases ht : skim 64 af.todo with
      | nil => rw [ht] at h hF'; exact leaveF_ok (out := .inl p) h hF' hm hr hF'.csr (.inl ⟨rfl, rfl⟩)
      | cons x k => rw [ht] at h hF'; exact itemF_ok (out := .inl p) he c1 c2 h hF' hm rfl hr hb hf
    obtain ⟨w', r', k1, k2, k3⟩ := fin
    exact ⟨w', r', k1, k2, k3.head rfl hsk⟩
  · rw [stepA_un af hm] at h
    exact unwindF_ok he c3 h hF hm hr hb hf

/-- What holds of whole runs of frames. -/
structure RunOK (E : Env) (run : AF → M (Value × FrameMode)) : Prop where
  loc : ∀ af, Loc (run af)
  ok : ∀ {w0 w : World} {r : Inj} {base : List Deferred × List Frame} {af : AF} {fr : Frame} {cs : List Frame} {s : St} {out : Out (Value × FrameMode)} {s' : St}, run af s = rOf out s' → FR E.P r af s.cx base fr cs → Rel w0 r s.mem w → Bnd s → Fresh r s.next s'.next →
    ∃ w' r', Goes w0 r s s' r' w' ∧ s'.lim = s.lim ∧ FinE E.P r' base s'.cx fr (lone fr cs w) w' out

/-! ### Entering -/
theorem argsT_get {g : Nat} {y : Nat} {v : Value} : ∀ {l : List Value} {i : Nat} {t : T Value}, T.get (argsT g l i t) y = some v → (∃ j, y = i + j ∧ l[j]? = some v ∧ Nat.testBit g y = true) ∨ T.get t y = some v
  | [], _, _, h => .inr h
  | a :: l, i, t, h => by
    replace h : T.get (argsT g l (Nat.succ i) (putG g i a t)) y = some v := h
    rcases argsT_get h with ⟨j, h1, h2, h3⟩ | h
    · exact .inl ⟨j + 1, by omega, by simpa using h2, h3⟩
    · unfold putG at h
      cases hb : Nat.testBit g i with
      | false => rw [hb] at h; exact .inr h
      | true =>
        rw [hb] at h
        simp only [T.get_set] at h
        split at h
        · rename_i hy
          cases h
          exact .inl ⟨0, hy, rfl, by rw [hy]; exact hb⟩
        · exact .inr h
theorem enterF_some {f : Nat} {args : List Value} {kind : CallKind} {s s' : St} {af : AF} (h : enterF E f args kind s = .some af s') : s = s' ∧ ∃ fn c, E.fn.get f = some fn ∧ fn.body = some c ∧ args.length ≤ fn.ntmps ∧
    af = { fn := f, n := fn.ntmps, glob := globOf fn, tmps := argsT (globOf fn) args 0 .E, todo := [.code c], mode := .run, kind, roundOf := none } := by
  unfold enterF at h
  obtain ⟨fn, h1, h⟩ := on_some h
  obtain ⟨c, h2, h⟩ := on_some h
  obtain ⟨h3, h⟩ := chk_some h
  rw [fN_eq, fN_eq] at h
  obtain ⟨rfl, rfl⟩ := pure_some h
  exact ⟨rfl, fn, c, h1, h2, Nat.le_of_ble_eq_true h3, rfl⟩
theorem lo_enterF (f : Nat) (args : List Value) (kind : CallKind) : Loc (enterF E f args kind) := lo_on _ fun _fn => lo_on _ fun _c => lo_chk _ (lo_fN _ fun _n => lo_fN _ fun _g => lo_pure _)
theorem np_enterF (f : Nat) (args : List Value) (kind : CallKind) : NoPan (enterF E f args kind) := np_on _ fun _fn => np_on _ fun _c => np_chk _ (np_fN _ fun _n => np_fN _ fun _g => np_pure _)
theorem enter_ok (he : EnvOK E) {f : Nat} {args args' : List Value} {kind : CallKind} {s s' : St} {af : AF} (h : enterF E f args kind s = .some af s') (ha : VRs r args args') {cx : Ctx} {cs : List Frame} (hcx : CxR r base cx (Frame.enter E.P f args'.toArray kind) [] cs) :
    (∀ w, (callFunc f args'.toArray).run E.P w = .ok (.enter f args'.toArray) w) ∧ FR E.P r af cx base (Frame.enter E.P f args'.toArray kind) cs ∧ s = s' := by
  obtain ⟨rfl, fn, c, h1, h2, h3, rfl⟩ := enterF_some h
  obtain ⟨k1, k2⟩ := he.fn f fn h1
  refine ⟨fun w => ?_, ⟨rfl, ?_, ?_, fun _ => ?_, .run, True.intro, fun e => absurd rfl e, fun _ => ⟨fn, k1⟩, hcx⟩, rfl⟩
  · unfold callFunc
    simp [Sem.run, program, k1, k2, h2]
  · simp only [Frame.enter, k1, Option.map_some, Option.getD_some, Array.size_append, List.size_toArray, Array.size_replicate]
    have := ha.1
    omega
  · intro y v e
    rcases argsT_get e with ⟨j, e1, e2, e3⟩ | e
    · obtain ⟨v', q1, q2⟩ := ha.get e2
      refine ⟨e3, v', ?_, q2⟩
      rw [Nat.zero_add] at e1
      subst e1
      simp only [Frame.enter]
      rw [Array.getElem?_append_left (by simpa using (List.getElem?_eq_some_iff.1 q1).1)]
      simpa using q1
    · cases e
  · simp [Frame.enter, k1, h2]
theorem within_def {α : Type} (c : Ctx) (m : M α) (s : St) : within c m s = match m ⟨s.mem, s.next, s.lim, s.rd, s.wr, c⟩ with
    | .none => .none
    | .some a s1 => .some a ⟨s1.mem, s1.next, s1.lim, s1.rd, s1.wr, s.cx⟩
    | .pan p s1 => .pan p ⟨s1.mem, s1.next, s1.lim, s1.rd, s1.wr, s.cx⟩ := by
  obtain ⟨mem, next, lim, rd, wr, cx⟩ := s
  unfold within
  simp only
  cases m ⟨mem, next, lim, rd, wr, c⟩ <;> rfl
theorem within_rOf {α : Type} {c : Ctx} {m : M α} {s s' : St} {o : Out α} (h : within c m s = rOf o s') : ∃ s1, m ⟨s.mem, s.next, s.lim, s.rd, s.wr, c⟩ = rOf o s1 ∧ s' = ⟨s1.mem, s1.next, s1.lim, s1.rd, s1.wr, s.cx⟩ := by
  rw [within_def] at h
  cases e : m ⟨s.mem, s.next, s.lim, s.rd, s.wr, c⟩ with
  | none => rw [e] at h; exact (rOf_none h).elim
  | some a s1 => rw [e] at h; obtain ⟨rfl, rfl⟩ := rOf_inl h; exact ⟨s1, rfl, rfl⟩
  | pan p s1 => rw [e] at h; obtain ⟨rfl, rfl⟩ := rOf_inr h; exact ⟨s1, rfl, rfl⟩
theorem lo_within {α : Type} (c : Ctx) {m : M α} (h : Loc m) : Loc (within c m) := ⟨fun s o s' e hb => by
  obtain ⟨s1, e1, rfl⟩ := within_rOf e
  obtain ⟨Rd, Wr, dr, dw, g, i1, i2⟩ := h.at' _ o s1 e1 hb
  refine ⟨Rd, Wr, dr, dw, ⟨g.rd, g.wr, g.nxt, g.lim, g.bnd, g.rlt, g.wlt, g.old, fun t e1 e2 e3 e4 => ?_⟩, i1, i2⟩
  obtain ⟨t', q1, q2, q3, q4, q5, q6, q7, q8⟩ := g.any ⟨t.mem, t.next, t.lim, t.rd, t.wr, c⟩ e1 e2 rfl e4
  refine ⟨⟨t'.mem, t'.next, t'.lim, t'.rd, t'.wr, t.cx⟩, ?_, q2, q3, e3, q5, q6, q7, q8⟩
  rw [within_def, q1]
  cases o <;> rfl⟩
theorem fst_rOf {run : AF → M (Value × FrameMode)} {m : M AF} (hm : NoPan m) {s s' : St} {out : Out Value} (h : M.bind (M.bind m run) fstV s = rOf out s') :
    ∃ af s1 o, m s = .some af s1 ∧ run af s1 = rOf o s' ∧ out = (match o with | .inl p => .inl p.1 | .inr c => .inr c) := by
  rcases bind_rOf h with ⟨p, s2, e1, e2⟩ | ⟨c, e1, rfl⟩
  · obtain ⟨af, s1, e3, e4⟩ := bind_some e1
    obtain ⟨rfl, rfl⟩ := rOf_inl (show R.some p.1 s2 = rOf out s' from e2)
    exact ⟨af, s1, .inl p, e3, e4, rfl⟩
  · rcases bind_pan e1 with e3 | ⟨af, s1, e3, e4⟩
    · exact (hm.no _ _ _ e3).elim
    · exact ⟨af, s1, .inr c, e3, e4, rfl⟩
/-- Calls, out of whole runs. -/
theorem callW_ok (he : EnvOK E) {run : AF → M (Value × FrameMode)} (hrun : RunOK E run) : CallOK E (callW E run) where
  loc := fun f args => by
    unfold callW
    cases ho : E.orc.get f with
    | some m => exact he.orcLoc f m ho args
    | none =>
      cases hx : E.ext.get f with
      | some m => exact he.extLoc f m hx args
      | none => exact lo_within _ (lo_bind (lo_bind (lo_enterF _ _ _) hrun.loc) fun p => lo_pure _)
  ok := by
    intro w0 w r f args args' s out s' h hr hb hf ha
    unfold callW at h
    cases ho : E.orc.get f with
    | some m => rw [ho] at h; exact .inl (he.orc ho h hr hb hf ha)
    | none =>
      rw [ho] at h
      cases hx : E.ext.get f with
      | some m => rw [hx] at h; exact .inr ⟨(fun e => by cases e), he.ext hx h hr ha⟩
      | none =>
      rw [hx] at h
      refine .inl ?_
      obtain ⟨s2, e1, rfl⟩ := within_rOf (show within cxN (M.bind (M.bind (enterF E f args .normal) run) fstV) s = rOf out s' from h)
      obtain ⟨af, s1, o, e2, e3, rfl⟩ := fst_rOf (np_enterF _ _ _) e1
      have hen := fun (c : Frame) (cs : List Frame) => enter_ok (base := ([], c :: cs)) (cx := cxN) he e2 ha (cs := c :: cs) ⟨⟨rfl, rfl⟩, rfl, .nil⟩
      refine ⟨(hen default []).1, fun c cs => ?_⟩
      obtain ⟨_, hF, rfl⟩ := hen c cs
      obtain ⟨w', r', k1, k2, cs', k3, k4⟩ := hrun.ok e3 hF hr hb hf
      have hcs : cs' = c :: cs := by
        rcases k3 with k3 | ⟨_, _, _, _, _, k, _⟩
        · exact k3.2
        · cases k
      refine ⟨w', r', ⟨k1.le, k1.nxt, k1.domB, k1.domE, k1.rel⟩, k2, rfl, ?_⟩
      cases o with
      | inl p =>
        obtain ⟨v', q1, q2, q3⟩ := k4
        exact ⟨v', q1, q2 c cs hcs⟩
      | inr ch =>
        obtain ⟨ch', q1, q2⟩ := k4
        exact ⟨ch', q1, q2 c cs hcs⟩

/-! ### Rounds -/
theorem setPs_get {g : Nat} {y : Nat} {v : Value} : ∀ {ps : List Nat} {l : List Value} {t : T Value}, T.get (setPs g ps l t) y = some v → ∀ {_n : Nat} {r : Inj} {tt : Array Value} {l' : List Value}, TmR r g t tt → VRs r l l' → l.length = ps.length → (∀ p ∈ ps, p < tt.size) →
    Nat.testBit g y = true ∧ ∃ v', ((ps.zip l').foldl (fun tmps (x : Nat × Value) => tmps.setIfInBounds x.1 x.2) tt)[y]? = some v' ∧ VR r v v'
  | [], l, t, h, n, r, tt, l', hT, hl, _, _ => by simpa using hT y v h
  | p :: ps, [], t, h, n, r, tt, l', hT, hl, hlen, _ => by simp at hlen
  | p :: ps, a :: l, t, h, n, r, tt, l', hT, hl, hlen, hp => by
    obtain ⟨a', l1, rfl, q1, q2⟩ := hl.inv
    replace h : T.get (setPs g ps l (putG g p a t)) y = some v := h
    have hps : p < tt.size := hp p List.mem_cons_self
    have := setPs_get h (_n := n) (r := r) (tt := tt.setIfInBounds p a') (l' := l1) (fun x u e => by
      unfold putG at e
      cases hb : Nat.testBit g p with
      | true =>
        rw [hb] at e
        simp only [T.get_set] at e
        split at e
        · rename_i hx
          cases e
          subst hx
          exact ⟨hb, a', by simp [hps], q1⟩
        · rename_i hx
          obtain ⟨z1, u', z2, z3⟩ := hT x u e
          exact ⟨z1, u', by rw [Array.getElem?_setIfInBounds_ne (fun e => hx e.symm)]; exact z2, z3⟩
      | false =>
        rw [hb] at e
        obtain ⟨z1, u', z2, z3⟩ := hT x u e
        refine ⟨z1, u', ?_, z3⟩
        rw [Array.getElem?_setIfInBounds_ne]
        · exact z2
        · intro hx
          subst hx
          rw [z1] at hb
          cases hb) q2 (by simpa using hlen) (fun x hx => by rw [Array.size_setIfInBounds]; exact hp x (List.mem_cons_of_mem _ hx))
    simpa using this
theorem foldl_set_size : ∀ (l : List (Nat × Value)) (tt : Array Value), (l.foldl (fun tmps (x : Nat × Value) => tmps.setIfInBounds x.1 x.2) tt).size = tt.size
  | [], tt => rfl
  | p :: l, tt => by rw [List.foldl_cons, foldl_set_size l]; simp
theorem lo_roundF (l : Nat) (args : List Value) : Loc (roundF l args) := by
  unfold roundF
  refine lo_bind (lo_rdC _) fun c => ?_
  cases c with
  | C a b => exact lo_fail
  | O o => cases o <;> first | exact lo_fail | exact lo_chk _ (lo_pure _)
theorem np_roundF (l : Nat) (args : List Value) : NoPan (roundF l args) := by
  unfold roundF
  refine np_bind (np_rdC _) fun c => ?_
  cases c with
  | C a b => exact np_fail
  | O o => cases o <;> first | exact np_fail | exact np_chk _ (np_pure _)
theorem roundW_ok {run : AF → M (Value × FrameMode)} (hrun : RunOK E run) : RoundOK E (roundW run) where
  loc := fun l args => lo_noP (lo_within _ (lo_bind (lo_bind (lo_roundF _ _) hrun.loc) fun p => lo_pure _))
  ok := by
    intro w0 w r l l' d args args' s out s' h hr hb hf ha hl
    obtain ⟨v, hout, h'⟩ := noP_rOf h
    clear h
    subst hout
    have h := h'
    clear h'
    obtain ⟨s2, e1, rfl⟩ := within_rOf (o := .inl v) h
    obtain ⟨af, s1, o, e2, e3, e4⟩ := fst_rOf (np_roundF _ _) e1
    cases o with
    | inr c => cases e4
    | inl p =>
      cases e4
      unfold roundF at e2
      obtain ⟨c, s3, e5, e6⟩ := bind_some e2
      obtain ⟨z1, z2⟩ := rdC_some e5
      cases c with
      | C a b => cases e6
      | O o =>
        cases o with
        | loop st pe f n g tm ps as bd df =>
          obtain ⟨e7, e8⟩ := chk_some e6
          obtain ⟨rfl, rfl⟩ := pure_some e8
          rw [Bool.and_eq_true] at e7
          obtain ⟨b', d', o', y1, y2, y3⟩ := hr.obj _ _ z1 rfl
          rw [hl] at y1
          cases y1
          cases o' with
          | loop L =>
            obtain ⟨j1, j2, j3, j4, j5, j6, j7, j8, j9⟩ := y3
            have hlen : args.length = ps.length := Nat.eq_of_beq_eq_true e7.1
            have hps : ∀ p ∈ ps, p < L.tmps.size := fun p hp => by
              rw [j4]
              exact blt_lt (List.all_eq_true.1 e7.2 p hp)
            have hsize : args'.toArray.size = L.params.size := by
              rw [List.size_toArray, ← ha.1, hlen, ← j6, Array.length_toList]
            have hzip : (L.params.zip args'.toArray).foldl (fun tmps (x : Nat × Value) => tmps.setIfInBounds x.1 x.2) L.tmps = (ps.zip args').foldl (fun tmps (x : Nat × Value) => tmps.setIfInBounds x.1 x.2) L.tmps := by
              rw [← Array.foldl_toList, Array.toList_zip, j6]
            refine ⟨L.fn, (ps.zip args').foldl (fun tmps (x : Nat × Value) => tmps.setIfInBounds x.1 x.2) L.tmps, L.assign, L.body, ?_, fun c cs => ?_⟩
            · simp only [Instr.yield, Sem.run_bind, run_getLoop y2, Result.andThen_ok]
              rw [if_neg (by simpa using hsize)]
              simp only [Sem.run_pure, ← hzip]
            · have hF : FR E.P r { fn := f, n, glob := g, tmps := setPs g ps args tm, todo := [.code as, .beginRound, .code bd], mode := .run, kind := .normal, roundOf := some l } cxR ([], c :: cs)
                  (Frame.round l' L.fn ((ps.zip args').foldl (fun tmps (x : Nat × Value) => tmps.setIfInBounds x.1 x.2) L.tmps) L.assign L.body .normal) (c :: cs) := by
                refine ⟨j3, by simp only [Frame.round]; rw [foldl_set_size, j4], fun y v e => setPs_get e (_n := n) j5 ha hlen hps, fun _ => ?_, .run, ⟨d, hl⟩, fun _ => rfl, (fun e => by cases e), ⟨⟨rfl, rfl⟩, (by simp [Frame.round]), rfl⟩⟩
                simp only [Frame.round, j7, j8]
              have z2' : s3.mem = s.mem ∧ s3.next = s.next ∧ s3.lim = s.lim ∧ s3.cx = cxR := z2
              obtain ⟨w', r', k1, k2, cs', k3, k4⟩ := hrun.ok (out := .inl p) e3 (by rw [z2'.2.2.2]; exact hF) (by rw [z2'.1]; exact hr) (show s3.lim ≤ s3.next by rw [z2'.2.2.1, z2'.2.1]; exact hb) (by rw [z2'.2.1]; exact hf)
              have hcs : cs' = c :: cs := by
                rcases k3 with k3 | ⟨_, _, _, _, _, k, _⟩
                · exact k3.2
                · cases k
              obtain ⟨v', q1, q2, q3⟩ := k4
              refine ⟨w', r', ⟨k1.le, by rw [← z2'.2.1]; exact k1.nxt, fun b hb => by rw [← z2'.2.1]; exact k1.domB b hb, fun b hb => by rw [← z2'.2.1]; exact k1.domE b hb, k1.rel⟩, by rw [← z2'.2.2.1]; exact k2, rfl, v', q1, q2 c cs hcs⟩
          | _ => exact y3.elim
        | _ => cases e6

/-! ### Deferred calls -/
theorem deferW_ok (he : EnvOK E) {run : AF → M (Value × FrameMode)} (hrun : RunOK E run) : DeferOK E (deferW E run) where
  loc := fun f args m => lo_within _ (by
    refine lo_catch (m := M.bind (enterF E f args .deferred) run) (f := fun p => M.pure (none, p.2)) (g := fun c => M.bind getCx fun cx => M.pure (some c, upOf cx)) (lo_bind (lo_enterF _ _ _) hrun.loc) (fun p => lo_pure _) fun c => lo_bind lo_getCx fun cx => lo_pure _)
  ok := by
    intro w0 w r f args args' m m' s out s' h hr hb hf ha hm
    obtain ⟨s2, e1, rfl⟩ := within_rOf h
    have e1' : R.rec (motive := fun _ => R (Option (List PanicEntry) × FrameMode)) .none (fun p s => .some (none, p.2) s) (fun c s => .some (some c, upOf s.cx) s) (M.bind (enterF E f args .deferred) run ⟨s.mem, s.next, s.lim, s.rd, s.wr, .cx (some m) (some [])⟩) = rOf out s2 := e1
    have main : ∃ af s1 o, enterF E f args .deferred ⟨s.mem, s.next, s.lim, s.rd, s.wr, .cx (some m) (some [])⟩ = .some af s1 ∧ run af s1 = rOf o s2 ∧ out = .inl (match o with | .inl p => (none, p.2) | .inr c => (some c, upOf s2.cx)) := by
      cases e2 : M.bind (enterF E f args .deferred) run ⟨s.mem, s.next, s.lim, s.rd, s.wr, .cx (some m) (some [])⟩ with
      | none => rw [e2] at e1'; exact (rOf_none e1').elim
      | some p s3 =>
        rw [e2] at e1'
        obtain ⟨rfl, rfl⟩ := rOf_inl (show R.some (none, p.2) s3 = rOf out s2 from e1')
        obtain ⟨af, s1, e3, e4⟩ := bind_some e2
        exact ⟨af, s1, .inl p, e3, e4, rfl⟩
      | pan c s3 =>
        rw [e2] at e1'
        obtain ⟨rfl, rfl⟩ := rOf_inl (show R.some (some c, upOf s3.cx) s3 = rOf out s2 from e1')
        rcases bind_pan e2 with e3 | ⟨af, s1, e3, e4⟩
        · exact ((np_enterF _ _ _).no _ _ _ e3).elim
        · exact ⟨af, s1, .inr c, e3, e4, rfl⟩
    obtain ⟨af, s1, o, e2, e3, rfl⟩ := main
    have hen := fun (c : Frame) (cs : List Frame) (hc : c.mode = m') => enter_ok (base := ([], c :: cs)) (cx := .cx (some m) (some [])) he e2 ha (cs := c :: cs) ⟨⟨rfl, c, cs, m', rfl, by rw [← hc], hm⟩, rfl, .nil⟩
    refine ⟨(hen { (default : Frame) with mode := m' } [] rfl).1, fun c cs hc => ?_⟩
    obtain ⟨_, hF, rfl⟩ := hen c cs hc
    obtain ⟨w', r', k1, k2, cs', k3, k4⟩ := hrun.ok e3 hF hr hb hf
    rcases k3 with ⟨k3, _⟩ | ⟨u, c0, rest, m2, k5, k6, k7, k8, k9, k10⟩
    · cases k3
    · cases k7
      refine ⟨w', r', _, m2, rfl, ⟨k1.le, k1.nxt, k1.domB, k1.domE, k1.rel⟩, k2, rfl, ?_, ?_⟩
      · cases o with
        | inl p => rw [show p.2 = u from k10 p.1 p.2 rfl]; exact k9
        | inr ch => rw [show upOf s2.cx = u by rw [k5]; rfl]; exact k9
      · cases o with
        | inl p =>
          obtain ⟨v', q1, q2, q3⟩ := k4
          exact ⟨v', q2 _ _ k8⟩
        | inr ch =>
          obtain ⟨ch', q1, q2⟩ := k4
          exact ⟨ch', q1, q2 _ _ k8⟩

/-! ### All frames, by fuel -/
theorem runF_ok (he : EnvOK E) : ∀ fuel, RunOK E (runF E fuel)
  | 0 => ⟨fun _ => lo_fail, fun h => (rOf_none h).elim⟩
  | fuel + 1 => by
    have ih := runF_ok he fuel
    have c1 := callW_ok he ih
    have c2 := roundW_ok ih
    have c3 := deferW_ok he ih
    have h0 : ∀ af, runF E (fuel + 1) af = M.bind (stepA E (callW E (runF E fuel)) (roundW (runF E fuel)) (deferW E (runF E fuel)) af) (stepR (runF E fuel)) := fun _ => rfl
    have lR : ∀ p, Loc (stepR (runF E fuel) p) := fun p => by
      cases p with
      | go af => exact ih.loc af
      | fin v u => exact lo_pure _
    refine ⟨fun af => by rw [h0]; exact lo_bind (lo_stepA he c1 c2 c3 af) lR, ?_⟩
    intro w0 w r base af fr cs s out s' h hF hr hb hf
    rw [h0] at h
    rcases bind_rOf h with ⟨p, s1, e1, e2⟩ | ⟨c, e1, rfl⟩
    · have L1 := (lo_stepA he c1 c2 c3 af).at' s (.inl p) s1 e1 hb
      have L2 := (lR p).at' s1 out s' e2 L1.bnd
      obtain ⟨w1, r1, k1, k2, k3⟩ := stepA_ok (out := .inl p) he c1 c2 c3 e1 hF hr hb (fun b x y => hf b x (Nat.lt_of_lt_of_le y L2.next))
      cases p with
      | go af' =>
        obtain ⟨fr', cs', k4, k5, k6⟩ := k3
        obtain ⟨w2, r2, q1, q2, q3⟩ := ih.ok (show runF E fuel af' s1 = rOf out s' from e2) k5 k1.rel L1.bnd (k1.fresh hf)
        exact ⟨w2, r2, k1.trans q1, q2.trans k2, q3.head k4 k6⟩
      | fin v u =>
        obtain ⟨rfl, rfl⟩ := rOf_inl (show R.some (v, u) s1 = rOf out s' from e2)
        exact ⟨w1, r1, k1, k2, k3⟩
    · obtain ⟨w1, r1, k1, k2, k3⟩ := stepA_ok (out := .inr c) he c1 c2 c3 e1 hF hr hb hf
      exact ⟨w1, r1, k1, k2, k3⟩
end
/-- WHAT THE EVALUATOR SAYS OF A CALL IS SO. -/
theorem callF_ok {E : Env} (he : EnvOK E) (fuel : Nat) : CallOK E (callF E fuel) := callW_ok he (runF_ok he fuel)
theorem Rel.empty (w : World) {K : Know} (hK : K.sure w) : Rel w (.nil K) .E w :=
  ⟨.refl _ _, (fun b b' d e => by cases e), (fun l b v e => by cases e), (fun l1 l2 b1 v1 b2 v2 b' d1 d2 e => by cases e), (fun l o e => by cases e), (fun l1 l2 o1 o2 b' d1 d2 e => by cases e), (fun t sz e => by cases e), (fun t1 t2 s1 s2 k1 k2 e => by cases e), hK, (fun l n e => by cases e), ⟨(fun l b v e => by cases e), (fun l b v b' d e => by cases e), (fun l o b' d e => by cases e), (fun l n b' d e => by cases e)⟩⟩
/-- Where an evaluation begins. -/
noncomputable def st0 : St := ⟨.E, 0, 0, [], [], .no⟩
/-- A call of a closed function, from any world: it returns what the evaluator says, if that has no address in it; nothing that was there is touched. -/
theorem calls_closed {E : Env} (he : EnvOK E) {fuel f : Nat} {v : Value} {s' : St} (ho : E.orc.get f = none) (hx : E.ext.get f = none) (h : callF E fuel f [] st0 = .some v s') (hp : plain v = true) (w : World) : Calls E.P f #[] w fun e w' => e = .returned v ∧ Below w.heap.size w w' := by
  intro cs
  replace h : callW E (runF E fuel) f [] st0 = .some v s' := h
  unfold callW at h
  rw [ho, hx] at h
  obtain ⟨s2, e1, rfl⟩ := within_rOf (o := .inl v) (show within cxN (M.bind (M.bind (enterF E f [] .normal) (runF E fuel)) fstV) st0 = rOf (.inl v) s' from h)
  obtain ⟨af, s1, o, e2, e3, e4⟩ := fst_rOf (np_enterF _ _ _) e1
  obtain ⟨_, hF, rfl⟩ := enter_ok (r := .nil .no) (base := ([], cs)) (cx := cxN) he e2 .nil (cs := cs) ⟨⟨rfl, rfl⟩, rfl, .nil⟩
  obtain ⟨w', r', k1, k2, cs', k3, k4⟩ := (runF_ok he fuel).ok e3 hF (Rel.empty w (Know.no_sure w)) (Nat.le_refl _) (fun _ _ _ => ⟨rfl, rfl⟩)
  cases o with
  | inr c => cases e4
  | inl p =>
    cases e4
    obtain ⟨v', q1, q2, q3⟩ := k4
    obtain ⟨fr', x1, x2, x3⟩ := q3 rfl rfl
    have hcs : cs' = cs := by
      rcases k3 with k3 | ⟨_, _, _, _, _, k, _⟩
      · exact k3.2
      · cases k
    subst hcs
    exact ⟨.returned v', w', fr', ⟨by rw [q1.eq_of_plain hp], k1.rel.below⟩, x3, x1, x2⟩
end Go.Proofs.Ytofanlcjeohcjaa.Am
/- The evaluator's tables, out of any program. -/
namespace Go.Proofs.Ytofanlcjeohcjaa.Am
open Go.RowKit

/-- A table of what a function says of the numbers a, a + s, a + 2 s ..: each looked at when it is asked for. -/
noncomputable def T.tab {α : Type} (f : Nat → Option α) (fuel : Nat) : Nat → Nat → T α :=
  Nat.rec (motive := fun _ => Nat → Nat → T α) (fun _ _ => .E) (fun _ ih a s => fN (Nat.add a s) fun b => fN (Nat.add b s) fun c => fN (Nat.add s s) fun d => .N (f a) (ih b d) (ih c d)) fuel
theorem T.tab_succ {α : Type} (f : Nat → Option α) (n a s : Nat) : T.tab f (n + 1) a s = .N (f a) (T.tab f n (a + s) (s + s)) (T.tab f n (a + s + s) (s + s)) := by
  show fN (Nat.add a s) (fun b => fN (Nat.add b s) fun c => fN (Nat.add s s) fun d => T.N (f a) (T.tab f n b d) (T.tab f n c d)) = _
  rw [fN_eq, fN_eq, fN_eq]
  rfl
theorem T.tab_some {α : Type} (f : Nat → Option α) : ∀ (n a s k : Nat) {x : α}, T.get (T.tab f n a s) k = some x → f (a + s * k) = some x
  | 0, _, _, _, _, h => by cases h
  | n + 1, a, s, 0, x, h => by
    rw [T.tab_succ, T.get_zero] at h
    simpa using h
  | n + 1, a, s, k + 1, x, h => by
    rw [T.tab_succ, T.get_succ] at h
    split at h
    · rename_i hk
      have := T.tab_some f n _ _ _ h
      rw [← this]
      congr 1
      have e : k = 2 * (k / 2) := by omega
      rw [Nat.add_mul, Nat.mul_add, ← Nat.two_mul, Nat.mul_left_comm, ← e]
      omega
    · rename_i hk
      have := T.tab_some f n _ _ _ h
      rw [← this]
      congr 1
      have e : k = 2 * (k / 2) + 1 := by omega
      have e2 : s * (k + 1) = s * (2 * (k / 2)) + s + s := by rw [e]; rw [show 2 * ((2 * (k / 2) + 1) / 2) = 2 * (k / 2) by omega]; rw [Nat.mul_add, Nat.mul_add]; omega
      rw [e2, Nat.add_mul, ← Nat.two_mul, Nat.mul_left_comm]
      omega
theorem T.tab_get {α : Type} (f : Nat → Option α) : ∀ (n a s k : Nat), k + 1 < 2 ^ n → T.get (T.tab f n a s) k = f (a + s * k)
  | 0, _, _, k, h => by simp at h
  | n + 1, a, s, 0, _ => by rw [T.tab_succ]; rfl
  | n + 1, a, s, k + 1, h => by
    rw [T.tab_succ, T.get_succ]
    split
    · rename_i hk
      rw [T.tab_get f n _ _ _ (by rw [Nat.pow_succ] at h; omega)]
      congr 1
      have e : k = 2 * (k / 2) := by omega
      rw [Nat.add_mul, Nat.mul_add, ← Nat.two_mul, Nat.mul_left_comm, ← e]
      omega
    · rename_i hk
      rw [T.tab_get f n _ _ _ (by rw [Nat.pow_succ] at h; omega)]
      congr 1
      have e : k = 2 * (k / 2) + 1 := by omega
      have e2 : s * (k + 1) = s * (2 * (k / 2)) + s + s := by rw [e]; rw [show 2 * ((2 * (k / 2) + 1) / 2) = 2 * (k / 2) by omega]; rw [Nat.mul_add, Nat.mul_add]; omega
      rw [e2, Nat.add_mul, ← Nat.two_mul, Nat.mul_left_comm]
      omega

/-- A type, as the evaluator reads it. -/
noncomputable def ti0 (P : Program) (t : Nat) : Option TI :=
  match P.info? t, P.underlying t with
  | some n, some u => (match n.zero with
    | some z => Bool.rec (motive := fun _ => Option TI) none (some ⟨u, n.size, aggD u, z.cells.toList, n.bytes⟩) (Nat.beq z.cells.toList.length n.size && z.cells.toList.all plain && (aggV z == aggD u))
    | none => none)
  | _, _ => none
noncomputable def fldsB (ok : Nat → Bool) (u : TypeDesc) : Bool :=
  match u with
  | .struct fs => fs.toList.all fun f => ok f.type
  | _ => true
noncomputable def tyB (P : Program) (n : Nat) : Nat → Bool :=
  Nat.rec (motive := fun _ => Nat → Bool) (fun _ => false) (fun _ ih t => Nat.blt t 4095 && Option.rec (motive := fun _ => Bool) false (fun i => fldsB ih i.u) (ti0 P t)) n
noncomputable def tyAt (P : Program) (t : Nat) : Option TI := Bool.rec (motive := fun _ => Option TI) none (ti0 P t) (tyB P 8 t)
noncomputable def fnAt (P : Program) (f : Nat) : Option Func :=
  match P.funcs[f]? with
  | some fn => Bool.rec (motive := fun _ => Option Func) (some fn) none (fn.name == "runtime.NumGoroutine")
  | none => none
noncomputable def envOf (P : Program) (orc ext : T (List Value → M Value)) : Env := ⟨P, T.tab (tyAt P) 12 0 1, T.tab (fnAt P) 12 0 1, orc, ext⟩

theorem ti0_ok {P : Program} {t : Nat} {i : TI} (h : ti0 P t = some i) : TyOK P t i := by
  unfold ti0 at h
  split at h
  · rename_i n u h1 h2
    split at h
    · rename_i z h3
      cases hb : (Nat.beq z.cells.toList.length n.size && z.cells.toList.all plain && (aggV z == aggD u)) with
      | false => rw [hb] at h; cases h
      | true =>
        rw [hb] at h
        cases h
        rw [Bool.and_eq_true, Bool.and_eq_true] at hb
        refine ⟨⟨n, h1, rfl, rfl, z, h3, rfl⟩, h2, rfl, Nat.eq_of_beq_eq_true hb.1.1, fun v hv => List.all_eq_true.1 hb.1.2 v hv, fun n' z' e1 e2 => ?_⟩
        rw [h1] at e1
        cases e1
        rw [h3] at e2
        cases e2
        exact eq_of_beq hb.2
    · cases h
  · cases h
theorem tyB_succ {P : Program} {n t : Nat} : tyB P (n + 1) t = (Nat.blt t 4095 && Option.rec (motive := fun _ => Bool) false (fun i => fldsB (tyB P n) i.u) (ti0 P t)) := rfl
theorem tyB_mono {P : Program} : ∀ {n t : Nat}, tyB P n t = true → tyB P (n + 1) t = true
  | 0, _, h => by cases h
  | n + 1, t, h => by
    rw [tyB_succ, Bool.and_eq_true] at h ⊢
    refine ⟨h.1, ?_⟩
    have h2 := h.2
    cases e : ti0 P t with
    | none => rw [e] at h2; cases h2
    | some i =>
      rw [e] at h2
      replace h2 : fldsB (tyB P n) i.u = true := h2
      show fldsB (tyB P (n + 1)) i.u = true
      unfold fldsB at h2 ⊢
      cases hu : i.u with
      | struct fs =>
        rw [hu] at h2
        simp only at h2 ⊢
        exact List.all_eq_true.2 fun f hf => tyB_mono (List.all_eq_true.1 h2 f hf)
      | _ => rfl
theorem tyAt_some {P : Program} {t : Nat} {i : TI} (h : tyAt P t = some i) : tyB P 8 t = true ∧ ti0 P t = some i := by
  unfold tyAt at h
  cases e : tyB P 8 t with
  | false => rw [e] at h; cases h
  | true => rw [e] at h; exact ⟨rfl, h⟩
theorem envOf_ty (P : Program) (orc ext : T (List Value → M Value)) : EnvTy (envOf P orc ext) where
  ok := fun t i h => by
    have h1 := T.tab_some (tyAt P) 12 0 1 t h
    rw [Nat.zero_add, Nat.one_mul] at h1
    exact ti0_ok (tyAt_some h1).2
  flds := fun t i fs h hu f hf => by
    have h1 := T.tab_some (tyAt P) 12 0 1 t h
    rw [Nat.zero_add, Nat.one_mul] at h1
    obtain ⟨h2, h3⟩ := tyAt_some h1
    rw [show (8 : Nat) = 7 + 1 from rfl, tyB_succ, Bool.and_eq_true, h3] at h2
    have h4 : fldsB (tyB P 7) i.u = true := h2.2
    unfold fldsB at h4
    rw [hu] at h4
    have h5 : tyB P 7 f.type = true := List.all_eq_true.1 h4 f (by simpa using hf)
    have h6 := tyB_mono h5
    have h7 := h6
    rw [tyB_succ, Bool.and_eq_true] at h7
    have h8 : f.type < 4095 := blt_lt h7.1
    have h9 : T.get (envOf P orc ext).ty f.type = tyAt P f.type := by
      have := T.tab_get (tyAt P) 12 0 1 f.type (Nat.succ_lt_succ h8)
      rw [Nat.zero_add, Nat.one_mul] at this
      exact this
    rw [h9]
    unfold tyAt
    rw [h6]
    cases e : ti0 P f.type with
    | none => rw [e] at h7; cases h7.2
    | some fi => exact ⟨fi, rfl⟩
theorem envOf_fn (P : Program) (orc ext : T (List Value → M Value)) (f : Nat) (fn : Func) (h : T.get (envOf P orc ext).fn f = some fn) : P.funcs[f]? = some fn ∧ fn.name ≠ "runtime.NumGoroutine" := by
  have h1 := T.tab_some (fnAt P) 12 0 1 f h
  rw [Nat.zero_add, Nat.one_mul] at h1
  unfold fnAt at h1
  split at h1
  · rename_i fn' h2
    cases hb : (fn'.name == "runtime.NumGoroutine") with
    | true => rw [hb] at h1; cases h1
    | false =>
      rw [hb] at h1
      cases h1
      exact ⟨h2, fun e => by rw [e] at hb; simp at hb⟩
  · cases h1
/-- The evaluator with no contracts of others in it. -/
theorem envOf_ok (P : Program) (h : P.follows .mixedOrders = true) : EnvOK (envOf P .E .E) :=
  ⟨envOf_ty P .E .E, envOf_fn P .E .E, h, (fun f m e => by cases e), (fun e => by cases e), (fun f m e => by cases e), (fun e => by cases e)⟩
end Go.Proofs.Ytofanlcjeohcjaa.Am
/- Contracts of closed calls, within the evaluator. -/
namespace Go.Proofs.Ytofanlcjeohcjaa.Am
open Go.RowKit

/-- What a contract gives, in the evaluator's words. -/
structure OrcOK (P : Program) (f : Nat) (m : List Value → M Value) : Prop where
  loc : ∀ args, Loc (m args)
  ok : ∀ {w0 w : World} {r : Inj} {args args' : List Value} {s : St} {out : Out Value} {s' : St}, m args s = rOf out s' → Rel w0 r s.mem w → Bnd s → Fresh r s.next s'.next → VRs r args args' →
    (∀ w, (callFunc f args'.toArray).run P w = .ok (.enter f args'.toArray) w) ∧
    ∀ c cs, ∃ w' r', Goes w0 r s s' r' w' ∧ s'.lim = s.lim ∧ s'.cx = s.cx ∧ Ends P r' out (lone (Frame.enter P f args'.toArray .normal) (c :: cs) w) c cs w'
def OrcT (P : Program) (orc : T (List Value → M Value)) : Prop := ∀ f m, T.get orc f = some m → OrcOK P f m
theorem OrcT.E (P : Program) : OrcT P .E := fun f m h => by cases h
theorem OrcT.set {P : Program} {orc : T (List Value → M Value)} (h : OrcT P orc) {f : Nat} {m : List Value → M Value} (k : OrcOK P f m) : OrcT P (T.set orc f m) := fun g n e => by
  rw [T.get_set] at e
  split at e
  · rename_i hg
    cases e
    rw [hg]
    exact k
  · exact h g n e
theorem envOf_orc (P : Program) (h : P.follows .mixedOrders = true) {orc : T (List Value → M Value)} (ho : OrcT P orc) : EnvOK (envOf P orc .E) :=
  ⟨envOf_ty P orc .E, envOf_fn P orc .E, h, fun f m e => (ho f m e).loc, fun e => (ho _ _ e).ok, (fun f m e => by cases e), (fun e => by cases e)⟩

noncomputable def valR (r : R Value) : Option Value := R.rec (motive := fun _ => Option Value) none (fun v _ => some v) (fun _ _ => none) r
theorem valR_some {r : R Value} {v : Value} (h : valR r = some v) : ∃ s, r = .some v s := by
  cases r with
  | none => cases h
  | some a s => cases h; exact ⟨s, rfl⟩
  | pan c s => cases h
/-- A closed call's value, at once. -/
noncomputable def closedM (v : Value) (args : List Value) : M Value := List.rec (motive := fun _ => M Value) (M.pure v) (fun _ _ _ => M.fail) args
theorem enters {E : Env} (he : EnvOK E) {fuel f : Nat} {args : List Value} {v : Value} {s s' : St} (ho : E.orc.get f = none) (hx : E.ext.get f = none) (h : callF E fuel f args s = .some v s') (args' : Array Value) (w : World) : (callFunc f args').run E.P w = .ok (.enter f args') w := by
  replace h : callW E (runF E fuel) f args s = .some v s' := h
  unfold callW at h
  rw [ho, hx] at h
  obtain ⟨s2, e1, rfl⟩ := within_rOf (o := .inl v) (show within cxN (M.bind (M.bind (enterF E f args .normal) (runF E fuel)) fstV) s = rOf (.inl v) s' from h)
  obtain ⟨af, s1, o, e2, _⟩ := fst_rOf (np_enterF _ _ _) e1
  obtain ⟨_, fn, c, h1, h2, _⟩ := enterF_some e2
  obtain ⟨k1, k2⟩ := he.fn f fn h1
  unfold callFunc
  simp [Sem.run, program, k1, k2, h2]
theorem orc_closed {E : Env} (he : EnvOK E) {fuel f : Nat} {v : Value} (ho : E.orc.get f = none) (hx : E.ext.get f = none) (h : valR (callF E fuel f [] st0) = some v) (hp : plain v = true) : OrcOK E.P f (closedM v) where
  loc := fun args => by cases args <;> first | exact lo_pure _ | exact lo_fail
  ok := by
    intro w0 w r args args' s out s' e hr hb hf ha
    obtain ⟨s1, h⟩ := valR_some h
    cases args with
    | cons a l => exact (rOf_none e).elim
    | nil =>
      obtain ⟨rfl, rfl⟩ := rOf_inl (show R.some v s = rOf out s' from e)
      rw [ha.inv_nil]
      refine ⟨fun w => enters he ho hx h _ w, fun c cs => ?_⟩
      obtain ⟨e, w', fr, ⟨rfl, hbl⟩, hs, _, hl⟩ := calls_closed he ho hx h hp w (c :: cs)
      exact ⟨w', r, .of_rel rfl (hr.beyond hbl), rfl, rfl, v, .of_plain hp, hs.trans (.one (step_leave_returned hl))⟩
/-- A closed call, for a walk. -/
theorem calls_of {E : Env} (he : EnvOK E) {fuel f : Nat} {v : Value} (ho : E.orc.get f = none) (hx : E.ext.get f = none) (h : valR (callF E fuel f [] st0) = some v) (hp : plain v = true) (w : World) : Calls E.P f #[] w fun e w' => e = .returned v ∧ Below w.heap.size w w' := by
  obtain ⟨s1, h⟩ := valR_some h
  exact calls_closed he ho hx h hp w
end Go.Proofs.Ytofanlcjeohcjaa.Am
/- Functions without a body, within the evaluator: those of sync/atomic that the program calls. -/
namespace Go.Proofs.Ytofanlcjeohcjaa.Am
open Go.RowKit

/-- What an entry gives, in the evaluator's words. -/
structure ExtOK (P : Program) (f : Nat) (m : List Value → M Value) : Prop where
  loc : ∀ args, Loc (m args)
  ok : ∀ {w0 w : World} {r : Inj} {args args' : List Value} {s : St} {out : Out Value} {s' : St}, m args s = rOf out s' → Rel w0 r s.mem w → VRs r args args' → AtOnce P w0 w r s f args' out s'
def ExtT (P : Program) (ext : T (List Value → M Value)) : Prop := ∀ f m, T.get ext f = some m → ExtOK P f m
theorem ExtT.E (P : Program) : ExtT P .E := fun f m h => by cases h
theorem ExtT.set {P : Program} {ext : T (List Value → M Value)} (h : ExtT P ext) {f : Nat} {m : List Value → M Value} (k : ExtOK P f m) : ExtT P (T.set ext f m) := fun g n e => by
  rw [T.get_set] at e
  split at e
  · rename_i hg
    cases e
    rw [hg]
    exact k
  · exact h g n e
theorem envOf_all (P : Program) (h : P.follows .mixedOrders = true) {orc ext : T (List Value → M Value)} (ho : OrcT P orc) (hx : ExtT P ext) : EnvOK (envOf P orc ext) :=
  ⟨envOf_ty P orc ext, envOf_fn P orc ext, h, fun f m e => (ho f m e).loc, fun e => (ho _ _ e).ok, fun f m e => (hx f m e).loc, fun e => (hx _ _ e).ok⟩

section
variable {P : Program} {f : Nat} {fn : Func}
/-- A function without a body that has a plain entry: the entry's answer. -/
theorem call_ext {e : Array Value → Sem Value} (hf : P.funcs[f]? = some fn) (h1 : (fn.name == "runtime.NumGoroutine") = false) (h2 : fn.body = none) (h3 : Extern.findNext fn = none) (h4 : Extern.find fn = some e)
    (args : Array Value) {w w' : World} {v : Value} (h : (e args).run P w = .ok v w') : (callFunc f args).run P w = .ok (.value v) w' := by
  have h1' : ¬fn.name = "runtime.NumGoroutine" := by simpa using h1
  unfold callFunc
  simp [run_program, Sem.run_bind, hf, h1', h2, h3, h4, h]
theorem loadT_one (t : Extern.Atomic.T) (x : Value) : Extern.Atomic.loadT t #[x] = (do Extern.Atomic.read t (← asAddr x)) := rfl
theorem update_two (op : IntKind → Int → Int → Sem Value) (k : IntKind) (b : Bool) (x y : Value) : Extern.Atomic.update op k b #[x, y] = (do
    let a ← asAddr x
    let old ← Extern.Atomic.read (.int k) a
    let new ← op k (← asInt old) (← asInt y)
    store a new .atomic
    pure (if b then new else old)) := rfl

noncomputable def load64 (args : List Value) : M Value :=
  match args with
  | [.pointer (some a)] => M.bind (rdV a) fun v => match v with
    | .int .i64 n => M.pure (.int .i64 n)
    | _ => M.fail
  | _ => M.fail
noncomputable def add64 (args : List Value) : M Value :=
  match args with
  | [.pointer (some a), .int .i64 y] => M.bind (rdV a) fun v => match v with
    | .int .i64 x => fI (wrap64 (addI x y)) fun n => M.bind (wrV a (.int .i64 n)) fun _ => M.pure (.int .i64 n)
    | _ => M.fail
  | _ => M.fail

theorem ext_load64 (hf : P.funcs[f]? = some fn) (h1 : (fn.name == "runtime.NumGoroutine") = false) (h2 : fn.body = none) (h3 : Extern.findNext fn = none) (h4 : Extern.find fn = some (Extern.Atomic.loadT (.int .i64))) : ExtOK P f load64 where
  loc := fun args => by
    unfold load64
    split
    · refine lo_bind (lo_rdV _) fun v => ?_
      split
      · exact lo_pure _
      · exact lo_fail
    · exact lo_fail
  ok := by
    intro w0 w r args args' s out s' e hr ha
    unfold load64 at e
    split at e
    · rename_i a
      obtain ⟨p', l', rfl, q1, q2⟩ := ha.inv
      obtain ⟨a', rfl, qa⟩ := q1.ptr_inv
      have := q2.inv_nil
      subst this
      rcases bind_rOf e with ⟨v, s1, e1, e2⟩ | ⟨c, e1, _⟩
      case inr => exact ((np_rdV _).no _ _ _ e1).elim
      obtain ⟨v', g1, g2, g3⟩ := rdV_ok e1 hr qa
      split at e2
      · rename_i n
        obtain ⟨rfl, rfl⟩ := rOf_inl (show R.some (Value.int .i64 n) s1 = rOf out s' from e2)
        have := g2.int_inv
        subst this
        refine ⟨_, _, w, r, rfl, g2, .same g3 hr, g3.2.2.1, g3.2.2.2, call_ext hf h1 h2 h3 h4 _ ?_⟩
        show (Extern.Atomic.loadT (.int .i64) #[.pointer (some a')]).run P w = _
        rw [loadT_one]
        simp [Extern.Atomic.read, asAddr, load, Sem.run, g1]
      · exact (rOf_none e2).elim
    · exact (rOf_none e).elim
theorem ext_add64 (hf : P.funcs[f]? = some fn) (h1 : (fn.name == "runtime.NumGoroutine") = false) (h2 : fn.body = none) (h3 : Extern.findNext fn = none) (h4 : Extern.find fn = some (Extern.Atomic.update (Op.intArith .add) .i64 true)) : ExtOK P f add64 where
  loc := fun args => by
    unfold add64
    split
    · refine lo_bind (lo_rdV _) fun v => ?_
      split
      · exact lo_fI _ fun n => lo_bind (lo_wrV _ _) fun _ => lo_pure _
      · exact lo_fail
    · exact lo_fail
  ok := by
    intro w0 w r args args' s out s' e hr ha
    unfold add64 at e
    split at e
    · rename_i a y
      obtain ⟨p', l', rfl, q1, q2⟩ := ha.inv
      obtain ⟨y', l2, rfl, q3, q4⟩ := q2.inv
      obtain ⟨a', rfl, qa⟩ := q1.ptr_inv
      have := q4.inv_nil
      subst this
      have := q3.int_inv
      subst this
      rcases bind_rOf e with ⟨v, s1, e1, e2⟩ | ⟨c, e1, _⟩
      case inr => exact ((np_rdV _).no _ _ _ e1).elim
      obtain ⟨v', g1, g2, g3⟩ := rdV_ok e1 hr qa
      split at e2
      · rename_i x
        have := g2.int_inv
        subst this
        rw [fI_eq, wrap64_eq, addI_eq] at e2
        rcases bind_rOf e2 with ⟨u, s2, e3, e4⟩ | ⟨c, e3, _⟩
        case inr => exact ((np_wrV _ _).no _ _ _ e3).elim
        obtain ⟨rfl, rfl⟩ := rOf_inl (show R.some (Value.int .i64 (IntKind.i64.wrap (x + y))) s2 = rOf out s' from e4)
        obtain ⟨k1, k2, k3, k4, k5, k6, k7⟩ := wrV_ok (P := P) (v' := .int .i64 (IntKind.i64.wrap (x + y))) e3 (by rw [g3.1]; exact hr) qa (.of_plain rfl)
        refine ⟨.int .i64 (IntKind.i64.wrap (x + y)), .int .i64 (IntKind.i64.wrap (x + y)), w.setCell a' (.int .i64 (IntKind.i64.wrap (x + y))), r, rfl, .of_plain rfl, .of_rel (by rw [k3]; exact g3.2.1) k2, by rw [k4]; exact g3.2.2.1, by rw [k5]; exact g3.2.2.2, call_ext hf h1 h2 h3 h4 _ ?_⟩
        show (Extern.Atomic.update (Op.intArith .add) .i64 true #[.pointer (some a'), .int .i64 y]).run P w = _
        rw [update_two]
        simp [Extern.Atomic.read, asAddr, asInt, asIntOf, load, store, Sem.run, g1, Op.intArith, k7]
      · exact (rOf_none e2).elim
    · exact (rOf_none e).elim
end
end Go.Proofs.Ytofanlcjeohcjaa.Am
/- SHA-256, in plain numbers. -/
namespace Go.Proofs.Ytofanlcjeohcjaa

/-- A word turned right by n places. -/
def rot (x n : Nat) : Nat := x / 2 ^ n ||| x * 2 ^ (32 - n) % 4294967296
theorem rot_lt (x n : Nat) (h : x < 4294967296) : rot x n < 4294967296 := by
  unfold rot
  exact Nat.or_lt_two_pow (n := 32) (Nat.lt_of_le_of_lt (Nat.div_le_self _ _) h) (Nat.mod_lt _ (by decide))
namespace Sha
def s0 (x : Nat) : Nat := rot x 7 ^^^ rot x 18 ^^^ x / 2 ^ 3
def s1 (x : Nat) : Nat := rot x 17 ^^^ rot x 19 ^^^ x / 2 ^ 10
theorem xor_lt {a b : Nat} (ha : a < 4294967296) (hb : b < 4294967296) : a ^^^ b < 4294967296 := Nat.xor_lt_two_pow (n := 32) ha hb
theorem or_lt {a b : Nat} (ha : a < 4294967296) (hb : b < 4294967296) : a ||| b < 4294967296 := Nat.or_lt_two_pow (n := 32) ha hb
theorem s0_lt {x : Nat} (h : x < 4294967296) : s0 x < 4294967296 := xor_lt (xor_lt (rot_lt _ _ h) (rot_lt _ _ h)) (Nat.lt_of_le_of_lt (Nat.div_le_self _ _) h)
theorem s1_lt {x : Nat} (h : x < 4294967296) : s1 x < 4294967296 := xor_lt (xor_lt (rot_lt _ _ h) (rot_lt _ _ h)) (Nat.lt_of_le_of_lt (Nat.div_le_self _ _) h)
/-- Four bytes, the highest first. -/
def be (a b c d : Nat) : Nat := a * 2 ^ 24 ||| b * 2 ^ 16 ||| c * 2 ^ 8 ||| d
/-- The words of 64 bytes, and those that are made of them. -/
def sch (B : Nat → Nat) (i : Nat) : Nat :=
  if i < 16 then be (B (4 * i)) (B (4 * i + 1)) (B (4 * i + 2)) (B (4 * i + 3))
  else (((sch B (i - 16) + s0 (sch B (i - 15))) % 4294967296 + sch B (i - 7)) % 4294967296 + s1 (sch B (i - 2))) % 4294967296
termination_by i
decreasing_by all_goals omega
theorem be_lt {a b c d : Nat} (ha : a < 256) (hb : b < 256) (hc : c < 256) (hd : d < 256) : be a b c d < 4294967296 :=
  or_lt (or_lt (or_lt (by omega) (by omega)) (by omega)) (by omega)
theorem sch_lt {B : Nat → Nat} (hB : ∀ j, B j < 256) (i : Nat) : sch B i < 4294967296 := by
  unfold sch
  split
  · exact be_lt (hB _) (hB _) (hB _) (hB _)
  · exact Nat.mod_lt _ (by decide)
theorem sch_lo {B : Nat → Nat} {i : Nat} (h : i < 16) : sch B i = be (B (4 * i)) (B (4 * i + 1)) (B (4 * i + 2)) (B (4 * i + 3)) := by
  rw [sch, if_pos h]
theorem sch_hi {B : Nat → Nat} {i : Nat} (h : 16 ≤ i) : sch B i = (((sch B (i - 16) + s0 (sch B (i - 15))) % 4294967296 + sch B (i - 7)) % 4294967296 + s1 (sch B (i - 2))) % 4294967296 := by
  rw [sch, if_neg (by omega)]

/-- A state: eight words. -/
structure St8 where
  a : Nat
  b : Nat
  c : Nat
  d : Nat
  e : Nat
  f : Nat
  g : Nat
  h : Nat
structure St8.Ok (s : St8) : Prop where
  a : s.a < 4294967296
  b : s.b < 4294967296
  c : s.c < 4294967296
  d : s.d < 4294967296
  e : s.e < 4294967296
  f : s.f < 4294967296
  g : s.g < 4294967296
  h : s.h < 4294967296
def t1 (s : St8) (k w : Nat) : Nat :=
  ((((s.h + (rot s.e 6 ^^^ rot s.e 11 ^^^ rot s.e 25)) % 4294967296 + (s.e &&& s.f ^^^ (4294967295 ^^^ s.e) &&& s.g)) % 4294967296 + k) % 4294967296 + w) % 4294967296
def t2 (s : St8) : Nat :=
  ((rot s.a 2 ^^^ rot s.a 13 ^^^ rot s.a 22) + (s.a &&& s.b ^^^ s.a &&& s.c ^^^ s.b &&& s.c)) % 4294967296
def rnd (s : St8) (k w : Nat) : St8 := ⟨(t1 s k w + t2 s) % 4294967296, s.a, s.b, s.c, (s.d + t1 s k w) % 4294967296, s.e, s.f, s.g⟩
theorem rnd_ok {s : St8} (h : s.Ok) (k w : Nat) : (rnd s k w).Ok := ⟨Nat.mod_lt _ (by decide), h.a, h.b, h.c, Nat.mod_lt _ (by decide), h.e, h.f, h.g⟩
/-- Behind so many rounds. -/
def rnds (K W : Nat → Nat) (s : St8) : Nat → St8
  | 0 => s
  | n + 1 => rnd (rnds K W s n) (K n) (W n)
theorem rnds_ok {K W : Nat → Nat} {s : St8} (h : s.Ok) : ∀ n, (rnds K W s n).Ok
  | 0 => h
  | n + 1 => rnd_ok (rnds_ok h n) _ _
def plus (s r : St8) : St8 := ⟨(r.a + s.a) % 4294967296, (r.b + s.b) % 4294967296, (r.c + s.c) % 4294967296, (r.d + s.d) % 4294967296, (r.e + s.e) % 4294967296, (r.f + s.f) % 4294967296, (r.g + s.g) % 4294967296, (r.h + s.h) % 4294967296⟩
def ks : List Nat := [0x428a2f98, 0x71374491, 0xb5c0fbcf, 0xe9b5dba5, 0x3956c25b, 0x59f111f1, 0x923f82a4, 0xab1c5ed5, 0xd807aa98, 0x12835b01, 0x243185be, 0x550c7dc3, 0x72be5d74, 0x80deb1fe, 0x9bdc06a7, 0xc19bf174, 0xe49b69c1, 0xefbe4786, 0x0fc19dc6, 0x240ca1cc, 0x2de92c6f, 0x4a7484aa, 0x5cb0a9dc, 0x76f988da, 0x983e5152, 0xa831c66d, 0xb00327c8, 0xbf597fc7, 0xc6e00bf3, 0xd5a79147, 0x06ca6351, 0x14292967, 0x27b70a85, 0x2e1b2138, 0x4d2c6dfc, 0x53380d13, 0x650a7354, 0x766a0abb, 0x81c2c92e, 0x92722c85, 0xa2bfe8a1, 0xa81a664b, 0xc24b8b70, 0xc76c51a3, 0xd192e819, 0xd6990624, 0xf40e3585, 0x106aa070, 0x19a4c116, 0x1e376c08, 0x2748774c, 0x34b0bcb5, 0x391c0cb3, 0x4ed8aa4a, 0x5b9cca4f, 0x682e6ff3, 0x748f82ee, 0x78a5636f, 0x84c87814, 0x8cc70208, 0x90befffa, 0xa4506ceb, 0xbef9a3f7, 0xc67178f2]
def K (i : Nat) : Nat := ks.getD i 0
theorem ks_len : ks.length = 64 := by rfl
/-- The state behind 64 bytes more. -/
def next (s : St8) (B : Nat → Nat) : St8 := plus s (rnds K (sch B) s 64)
theorem plus_ok (s r : St8) : (plus s r).Ok := ⟨Nat.mod_lt _ (by decide), Nat.mod_lt _ (by decide), Nat.mod_lt _ (by decide), Nat.mod_lt _ (by decide), Nat.mod_lt _ (by decide), Nat.mod_lt _ (by decide), Nat.mod_lt _ (by decide), Nat.mod_lt _ (by decide)⟩
end Sha
end Go.Proofs.Ytofanlcjeohcjaa
/- Small laws for the walks of this seat: shifts by a variable amount, bits as numbers. -/
namespace Go.Proofs.Ytofanlcjeohcjaa
open Go.RowKit

theorem run_shl32 (P : Program) (w : World) (k : IntKind) (x : Int) (n : Nat) : (Op.shift .shl .u32 x k (n : Int)).run P w = .ok (.int .u32 (IntKind.u32.wrap (x * 2 ^ min n 32))) w := by
  simp [Op.shift, Sem.run_pure, IntKind.bits]; omega
theorem run_shr32 (P : Program) (w : World) (k : IntKind) (x : Int) (n : Nat) : (Op.shift .shr .u32 x k (n : Int)).run P w = .ok (.int .u32 (x.fdiv (2 ^ min n 32))) w := by
  simp [Op.shift, Sem.run_pure, IntKind.bits]; omega

theorem rot_bits (x n : Nat) (h : x < 4294967296) : bits .or .u32 ((x : Int) / 2 ^ n) ((x : Int) * 2 ^ (32 - n) % 4294967296) = ((rot x n : Nat) : Int) := by
  have e1 : ((x : Int) / 2 ^ n) = ((x / 2 ^ n : Nat) : Int) := by simp
  have e2 : ((x : Int) * 2 ^ (32 - n) % 4294967296) = ((x * 2 ^ (32 - n) % 4294967296 : Nat) : Int) := by simp
  rw [e1, e2, u32_or_nat _ _ (Nat.lt_of_le_of_lt (Nat.div_le_self _ _) h) (Nat.mod_lt _ (by decide))]
  rfl
theorem rot_bits' (x n : Nat) (h : x < 4294967296) : bits .or .u32 ((x : Int) * 2 ^ (32 - n) % 4294967296) ((x : Int) / 2 ^ n) = ((rot x n : Nat) : Int) := by
  have e1 : ((x : Int) / 2 ^ n) = ((x / 2 ^ n : Nat) : Int) := by simp
  have e2 : ((x : Int) * 2 ^ (32 - n) % 4294967296) = ((x * 2 ^ (32 - n) % 4294967296 : Nat) : Int) := by simp
  rw [e1, e2, u32_or_nat _ _ (Nat.mod_lt _ (by decide)) (Nat.lt_of_le_of_lt (Nat.div_le_self _ _) h), Nat.or_comm]
  rfl
end Go.Proofs.Ytofanlcjeohcjaa

namespace Go.Proofs.Ytofanlcjeohcjaa
open Go.RowKit
theorem ret_u32 {a b : Int} (h : a = b) : Ending.returned (.int .u32 a) = .returned (.int .u32 b) := by rw [h]
theorem and31 : ∀ n : Fin 32, bits .and .u64 (IntKind.u64.wrap (-(n.val : Int))) 31 = (((32 - n.val) % 32 : Nat) : Int) := by decide
set_option maxHeartbeats 400000 in
theorem rotl_calls (x n : Nat) (w : World) (hx : x < 4294967296) (hn0 : 1 ≤ n) (hn1 : n ≤ 31) :
    Calls Try.prog 152 #[.int .u32 x, .int .i64 (-(n : Int))] w fun e w' => e = .returned (.int .u32 (rot x n)) ∧ w = w' := by
  have ha := and31 ⟨n, by omega⟩
  have e0 : (32 - n) % 32 = 32 - n := by omega
  simp only [e0] at ha
  have h1 := fun w => run_shr32 Try.prog w .u64 x n
  have h2 := fun w => run_shl32 Try.prog w .u64 x (32 - n)
  have e1 : ((32 - n : Nat) : Int) = 32 - (n : Int) := by omega
  have e2 : IntKind.u64.wrap (32 - (32 - (n : Int))) = n := by rw [IntKind.wrap_u64]; omega
  rw [e1] at h2 ha
  clear e0 e1
  go_enter Try.func152, Try.ntmps152
  go_wp2
  go_ret
  exact ⟨ret_u32 (rot_bits' x n hx), rfl⟩
set_option maxHeartbeats 400000 in
theorem down_calls (x n : Nat) (w : World) (hx : x < 4294967296) (hn0 : 1 ≤ n) (hn1 : n ≤ 31) :
    Calls Try.prog 151 #[.int .u32 x, .int .i64 n] w fun e w' => e = .returned (.int .u32 (rot x n)) ∧ w = w' := by
  go_enter Try.func151, Try.ntmps151
  go_wp2_with (go_at_call 152; refine (rotl_calls x n _ hx hn0 hn1).mono ?_; rintro e w' ⟨rfl, rfl⟩)
  go_ret
  exact ⟨rfl, rfl⟩
end Go.Proofs.Ytofanlcjeohcjaa
