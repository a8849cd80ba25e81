/- Functions without a body that ask nothing of memory, within the evaluator: at plain arguments (math's floors). -/
import Derived.Test.YtapojfiplajfaaaGreatDoorWnn09
import Derived.Test.YtapojfiplajfaaaGreatDoorProg
import Derived.Test.YtapojfiplajfaaaGreatDoorWnn18
namespace Go.Proofs.YtapojfiplajfaaaGreatDoor.Am
open Go.RowKit

noncomputable def extP (P : Program) (e : Array Value → Sem Value) (args : List Value) : M Value := M.chk (args.all plain) (M.on (semP P (e args.toArray)) pV)
theorem ext_pure {P : Program} {f : Nat} {fn : Func} {e : Array Value → Sem Value} (hf : P.funcs[f]? = some fn) (h1 : (fn.name == "runtime.NumGoroutine") = false) (h2 : fn.body = none) (h3 : Extern.findNext fn = none) (h4 : Extern.find fn = some e) : ExtOK P f (extP P e) where
  loc := fun args => lo_chk _ (lo_on _ fun _ => lo_pV _)
  ok := by
    intro w0 w r args args' s out s' h hr ha
    cases out with
    | inr c => exact ((np_chk _ (np_on _ fun _ => np_pV _) : NoPan (extP P e args)).no _ _ _ h).elim
    | inl v =>
      have h : extP P e args s = .some v s' := h
      unfold extP at h
      obtain ⟨g1, h⟩ := chk_some h
      obtain ⟨v1, g2, h⟩ := on_some h
      obtain ⟨rfl, rfl, g3⟩ := pV_some h
      have ea : args' = args := plain_VRs_eq ha g1
      subst ea
      exact ⟨v, v, w, r, rfl, .of_plain g3, .of_rel rfl hr, rfl, rfl, call_ext hf h1 h2 h3 h4 _ (semP_run g2)⟩
noncomputable def ceilX : List Value → M Value := extP Tryz.prog (Extern.MathFloor.toIntegral "math.archCeil" .up)
theorem ext_ceil {f : Nat} {fn : Func} (hf : Tryz.prog.funcs[f]? = some fn) (h1 : (fn.name == "runtime.NumGoroutine") = false) (h2 : fn.body = none) (h3 : Extern.findNext fn = none) (h4 : Extern.find fn = some (Extern.MathFloor.toIntegral "math.archCeil" .up)) : ExtOK Tryz.prog f ceilX := ext_pure hf h1 h2 h3 h4
noncomputable def floorX : List Value → M Value := extP Tryz.prog (Extern.MathFloor.toIntegral "math.archFloor" .down)
theorem ext_floor {f : Nat} {fn : Func} (hf : Tryz.prog.funcs[f]? = some fn) (h1 : (fn.name == "runtime.NumGoroutine") = false) (h2 : fn.body = none) (h3 : Extern.findNext fn = none) (h4 : Extern.find fn = some (Extern.MathFloor.toIntegral "math.archFloor" .down)) : ExtOK Tryz.prog f floorX := ext_pure hf h1 h2 h3 h4
noncomputable def truncX : List Value → M Value := extP Tryz.prog (Extern.MathFloor.toIntegral "math.archTrunc" .zero)
theorem ext_trunc {f : Nat} {fn : Func} (hf : Tryz.prog.funcs[f]? = some fn) (h1 : (fn.name == "runtime.NumGoroutine") = false) (h2 : fn.body = none) (h3 : Extern.findNext fn = none) (h4 : Extern.find fn = some (Extern.MathFloor.toIntegral "math.archTrunc" .zero)) : ExtOK Tryz.prog f truncX := ext_pure hf h1 h2 h3 h4
noncomputable def bitsX : List Value → M Value := extP Tryz.prog (Extern.MathFloatBits.float64bits)
theorem ext_bits {f : Nat} {fn : Func} (hf : Tryz.prog.funcs[f]? = some fn) (h1 : (fn.name == "runtime.NumGoroutine") = false) (h2 : fn.body = none) (h3 : Extern.findNext fn = none) (h4 : Extern.find fn = some (Extern.MathFloatBits.float64bits)) : ExtOK Tryz.prog f bitsX := ext_pure hf h1 h2 h3 h4
noncomputable def fromX : List Value → M Value := extP Tryz.prog (Extern.MathFloatBits.float64frombits)
theorem ext_fromb {f : Nat} {fn : Func} (hf : Tryz.prog.funcs[f]? = some fn) (h1 : (fn.name == "runtime.NumGoroutine") = false) (h2 : fn.body = none) (h3 : Extern.findNext fn = none) (h4 : Extern.find fn = some (Extern.MathFloatBits.float64frombits)) : ExtOK Tryz.prog f fromX := ext_pure hf h1 h2 h3 h4
end Go.Proofs.YtapojfiplajfaaaGreatDoor.Am
/- A run cut in pieces: each piece in a declaration of its own, from a state that is written out. -/
namespace Go.Proofs.YtapojfiplajfaaaGreatDoor.Am
open Go.RowKit

noncomputable def goOn (ih : AF → M AF) (p : Step) : M AF := Step.rec (motive := fun _ => M AF) (fun af => ih af) (fun _ _ => M.fail) p
/-- So many steps of a frame, to no end of it. -/
noncomputable def runN (E : Env) (fuel n : Nat) : AF → M AF :=
  Nat.rec (motive := fun _ => AF → M AF) (fun af => M.pure af) (fun _ ih af => M.bind (stepA E (callW E (runF E fuel)) (roundW (runF E fuel)) (deferW E (runF E fuel)) af) (goOn ih)) n
/-- What is kept of a table. -/
noncomputable def keepL {α : Type} (t : T α) (ls : List Nat) : T α := List.rec (motive := fun _ => T α) .E (fun l _ ih => Option.rec (motive := fun _ => T α) ih (fun x => T.set ih l x) (T.get t l)) ls
noncomputable def cutR (ls tl : List Nat) (r : R AF) : Option (AF × St) :=
  R.rec (motive := fun _ => Option (AF × St)) none (fun af s => some ({ af with tmps := keepL af.tmps tl }, ⟨keepL s.mem ls, s.next, 0, [], [], s.cx⟩)) (fun _ _ => none) r
theorem keepL_get {α : Type} {t : T α} {l : Nat} {x : α} : ∀ {ls : List Nat}, T.get (keepL t ls) l = some x → T.get t l = some x
  | [], h => by cases h
  | a :: ls, h => by
    have h0 : keepL t (a :: ls) = Option.rec (motive := fun _ => T α) (keepL t ls) (fun x => T.set (keepL t ls) a x) (T.get t a) := rfl
    rw [h0] at h
    cases e : T.get t a with
    | none => rw [e] at h; exact keepL_get h
    | some y =>
      rw [e] at h
      simp only [T.get_set] at h
      split at h
      · rename_i hl
        cases h
        rw [hl]
        exact e
      · exact keepL_get h
/-- The frame of a call of a closed function has come here, from wherever it began. -/
def Reach (E : Env) (f : Nat) (af : AF) (s : St) : Prop :=
  ∀ (w : World) (cs : List Frame), ∃ w' r fr, Rel w r s.mem w' ∧ Bnd s ∧ (∀ b, s.next ≤ b → r.blk b = none ∧ r.ext b = none) ∧ FR E.P r af s.cx ([], cs) fr cs ∧ (fr.kind, fr.roundOf, fr.fn) = (.normal, none, f) ∧ Steps E.P (lone (Frame.enter E.P f #[] .normal) cs w) (lone fr cs w')
section
variable {E : Env} {f : Nat}
theorem reach_start (he : EnvOK E) {af : AF} {s' : St} (h : enterF E f [] .normal ⟨.E, 0, 0, [], [], cxN⟩ = .some af s') : Reach E f af ⟨.E, 0, 0, [], [], cxN⟩ := fun w cs => by
  obtain ⟨_, hF, _⟩ := enter_ok (r := .nil .no) (base := ([], cs)) (cx := cxN) he h .nil (cs := cs) ⟨⟨rfl, rfl⟩, rfl, .nil⟩
  exact ⟨w, .nil .no, _, Rel.empty w (Know.no_sure w), Nat.le_refl _, fun _ _ => ⟨rfl, rfl⟩, hF, rfl, .refl _ _⟩
theorem runN_loc (he : EnvOK E) (fuel : Nat) : ∀ (n : Nat) (af : AF), Loc (runN E fuel n af)
  | 0, af => lo_pure _
  | n + 1, af => lo_bind (lo_stepA he (callW_ok he (runF_ok he fuel)) (roundW_ok (runF_ok he fuel)) (deferW_ok he (runF_ok he fuel)) af) fun p => by
      cases p with
      | go af => exact runN_loc he fuel n af
      | fin v u => exact lo_fail
theorem runN_ok (he : EnvOK E) (fuel : Nat) : ∀ (n : Nat) {w0 w : World} {r : Inj} {base : List Deferred × List Frame} {af af1 : AF} {fr : Frame} {cs : List Frame} {s s1 : St}, runN E fuel n af s = .some af1 s1 → FR E.P r af s.cx base fr cs → Rel w0 r s.mem w → Bnd s → Fresh r s.next s1.next →
    ∃ w' r' fr' cs', Goes w0 r s s1 r' w' ∧ s1.lim = s.lim ∧ Kin fr fr' ∧ FR E.P r' af1 s1.cx base fr' cs' ∧ Steps E.P (lone fr cs w) (lone fr' cs' w')
  | 0, w0, w, r, base, af, af1, fr, cs, s, s1, h, hF, hr, hb, hf => by
    obtain ⟨rfl, rfl⟩ := pure_some (show M.pure af s = .some af1 s1 from h)
    exact ⟨w, r, fr, cs, .of_rel rfl hr, rfl, rfl, hF, .refl _ _⟩
  | n + 1, w0, w, r, base, af, af1, fr, cs, s, s1, h, hF, hr, hb, hf => by
    have c1 := callW_ok he (runF_ok he fuel)
    have c2 := roundW_ok (E := E) (runF_ok he fuel)
    have c3 := deferW_ok he (runF_ok he fuel)
    obtain ⟨p, s2, e1, e2⟩ := bind_some (show M.bind (stepA E (callW E (runF E fuel)) (roundW (runF E fuel)) (deferW E (runF E fuel)) af) (goOn (runN E fuel n)) s = .some af1 s1 from h)
    cases p with
    | fin v u => cases e2
    | go af' =>
      have L1 := (lo_stepA he c1 c2 c3 af).at' s (.inl (.go af')) s2 e1 hb
      have e2' : runN E fuel n af' s2 = .some af1 s1 := e2
      have L2 := (runN_loc he fuel n af').at' s2 (.inl af1) s1 e2' L1.bnd
      obtain ⟨w1, r1, k1, k2, fr', cs', k4, k5, k6⟩ := stepA_ok (out := .inl (.go af')) he c1 c2 c3 e1 hF hr hb (fun b x y => hf b x (Nat.lt_of_lt_of_le y L2.next))
      obtain ⟨w2, r2, fr2, cs2, q1, q2, q3, q4, q5⟩ := runN_ok he fuel n e2' k5 k1.rel L1.bnd (k1.fresh hf)
      exact ⟨w2, r2, fr2, cs2, k1.trans q1, q2.trans k2, q3.trans k4, q4, k6.trans q5⟩
/-- A piece more. -/
theorem reach_cut (he : EnvOK E) {fuel n : Nat} {af af1 : AF} {s s1 : St} {ls tl : List Nat} {d : Option (List Deferred)} (hR : Reach E f af s) (h : cutR ls tl (runN E fuel n af s) = some (af1, s1)) (hc : s1.cx = .cx none d) : Reach E f af1 s1 := fun w cs => by
  obtain ⟨w1, r1, fr1, g1, g2, g3, g4, g5, g6⟩ := hR w cs
  cases e : runN E fuel n af s with
  | none => rw [e] at h; cases h
  | pan c s2 => rw [e] at h; cases h
  | some af2 s2 =>
    rw [e] at h
    have h' : some (({ af2 with tmps := keepL af2.tmps tl } : AF), (⟨keepL s2.mem ls, s2.next, 0, [], [], s2.cx⟩ : St)) = some (af1, s1) := h
    simp only [Option.some.injEq, Prod.mk.injEq] at h'
    obtain ⟨rfl, rfl⟩ := h'
    obtain ⟨w2, r2, fr2, cs2, k1, k2, k3, k4, k5⟩ := runN_ok he fuel n e g4 g1 g2 (fun b x _ => g3 b x)
    have hcs : cs2 = cs := by
      have := k4.cx
      rw [show s2.cx = .cx none d from hc] at this
      exact this.1.2
    subst hcs
    refine ⟨w2, r2, fr2, k1.rel.less fun l c q => keepL_get q, Nat.zero_le _, fun b hb => ⟨?_, ?_⟩, ⟨k4.fn, k4.size, fun t v q => k4.tm t v (keepL_get q), k4.todo, k4.mode, k4.round, k4.rk, k4.known, k4.cx⟩, k3.trans g5, g6.trans k5⟩
    · cases q : r2.blk b with
      | none => rfl
      | some x =>
        have hb' : s2.next ≤ b := hb
        have hsn : s.next ≤ s2.next := k1.nxt
        rcases k1.domB b (by rw [q]; simp) with p | p
        · exact absurd (g3 b (by omega)).1 p
        · omega
    · cases q : r2.ext b with
      | none => rfl
      | some x =>
        have hb' : s2.next ≤ b := hb
        have hsn : s.next ≤ s2.next := k1.nxt
        rcases k1.domE b (by rw [q]; simp) with p | p
        · exact absurd (g3 b (by omega)).2 p
        · omega
/-- The last piece. -/
theorem reach_end (he : EnvOK E) {fuel : Nat} {af : AF} {s s' : St} {v : Value} {u : FrameMode} (hR : Reach E f af s) (h : runF E fuel af s = .some (v, u) s') (hp : plain v = true) (w : World) : Calls E.P f #[] w fun e w' => e = .returned v ∧ Below w.heap.size w w' := by
  intro cs
  obtain ⟨w1, r1, fr1, g1, g2, g3, g4, g5, g6⟩ := hR w cs
  simp only [Prod.mk.injEq] at g5
  obtain ⟨p1, p2, p3⟩ := g5
  obtain ⟨w', r', k1, k2, cs', k3, k4⟩ := (runF_ok he fuel).ok (out := .inl (v, u)) h g4 g1 g2 (fun b x _ => g3 b x)
  obtain ⟨v', q1, q2, q3⟩ := k4
  obtain ⟨fr', x1, x2, x3⟩ := q3 p2 p1
  have hcs : cs' = cs := by
    rcases k3 with k3 | ⟨_, _, _, _, _, k, _⟩
    · exact k3.2
    · rw [p1] at k; cases k
  subst hcs
  exact ⟨.returned v', w', fr', ⟨by rw [q1.eq_of_plain hp], k1.rel.below⟩, g6.trans x3, x1.trans p3, x2⟩
end
/-- A table, entry by entry. -/
noncomputable def layT {α : Type} (es : List (Nat × α)) : T α := List.rec (motive := fun _ => T α) .E (fun e _ ih => T.set ih e.1 e.2) es
noncomputable def valP (r : R (Value × FrameMode)) : Option Value := R.rec (motive := fun _ => Option Value) none (fun p _ => some p.1) (fun _ _ => none) r
theorem reach_val {E : Env} (he : EnvOK E) {f fuel : Nat} {af : AF} {s : St} {v : Value} (hR : Reach E f af s) (h : valP (runF E fuel af s) = some v) (hp : plain v = true) (w : World) : Calls E.P f #[] w fun e w' => e = .returned v ∧ Below w.heap.size w w' := by
  cases e : runF E fuel af s with
  | none => rw [e] at h; cases h
  | pan c s' => rw [e] at h; cases h
  | some p s' =>
    rw [e] at h
    obtain ⟨v', u⟩ := p
    have h' : some v' = some v := h
    cases h'
    exact reach_end he hR e hp w
/-- What is to be done behind so many steps, the branches being these. -/
def wayL : Nat → List Bool → List Item → List Item
  | 0, _, l => l
  | n + 1, bs, l =>
    match skim 64 l, bs with
    | .code (.region _ _ _) :: k, bs => wayL n bs k
    | .code (.cond _ a b) :: k, t :: bs => wayL n bs ((if t then .code a else .code b) :: k)
    | l, _ => l
end Go.Proofs.YtapojfiplajfaaaGreatDoor.Am
