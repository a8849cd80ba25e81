/- What is not known of a call's arguments, by their types; arguments that read behind a call as before. -/
import Derived.Test.YtnhmbhpkebjjaaaAmFork2
import GoSem.ClaimWide
import Derived.Carry
import Derived.ChangeSame
namespace Go.Proofs.Ytnhmbhpkebjjaaa.Am
open Go.RowKit Go.ChangeShapes

noncomputable def topD (u : TypeDesc) : Value :=
  match u with
  | .bool => .complex .f32 2 0
  | .int k => .complex .f32 1 (kNum k)
  | .string => .complex .f32 4 0
  | .slice _ => .complex .f32 3 0
  | _ => .complex .f32 0 0
noncomputable def topC (P : Program) (t : Nat) : Value :=
  match P.underlying t with
  | some u => topD u
  | none => .complex .f32 0 0
noncomputable def topT (P : Program) (t : Nat) : Option Value :=
  match P.underlying t with
  | some (.struct _) | some (.array _ _) => onO (P.cellTypes P.depth t) fun ts => Bool.rec (motive := fun _ => Option Value) none (some (.agg (ts.map (topC P)).toArray)) (Nat.beq ts.length (P.cellsOf t))
  | _ => some (topC P t)
/-- All that arguments of these types may be. -/
noncomputable def topL (P : Program) (ts : List Nat) : Option (List Value) := List.rec (motive := fun _ => Option (List Value)) (some []) (fun t _ ih => onO (topT P t) fun v => onO ih fun l => some (v :: l)) ts

section
variable {P : Program} {w : World} {rc : Reach} {base : Nat} {r : Inj}
theorem cell_top {t : Nat} {v : Value} (h : Cell.okWide P w rc base t v) : VR r (topC P t) v := by
  unfold topC
  cases hu : P.underlying t with
  | none => unfold Cell.okWide Cell.ok at h; rw [hu] at h; exact h.elim
  | some u =>
    have hone : ∀ {a b : Nat}, TopR r.known a b v → VR r (.complex .f32 a b) v := fun h => .complex h
    cases u <;> cases v <;> simp [Cell.okWide, Cell.ok, hu] at h <;> simp only [topD] <;> first
      | exact hone (show TopR _ 0 0 _ from rfl)
      | exact hone ⟨_, rfl⟩
      | exact hone ⟨_, _, rfl, by rw [h.1]⟩
      | exact hone ⟨_, _, _, rfl⟩
theorem value_top {t : Nat} {v a : Value} (h : Value.okWide P w rc base t v) (ha : topT P t = some a) : VR r a v := by
  have agg : (∃ cs, v = .agg cs ∧ cs.size = P.cellsOf t ∧ Row.okWide P w rc base t cs) →
      (onO (P.cellTypes P.depth t) fun ts => Bool.rec (motive := fun _ => Option Value) none (some (.agg (ts.map (topC P)).toArray)) (Nat.beq ts.length (P.cellsOf t))) = some a → VR r a v := by
    rintro ⟨cs, rfl, hsz, ts, h1, _, h3⟩ ha
    obtain ⟨ts', e1, e2⟩ := onO_some ha
    rw [h1] at e1
    cases e1
    cases hb : Nat.beq ts.length (P.cellsOf t) with
    | false => rw [hb] at e2; cases e2
    | true =>
      rw [hb] at e2
      cases e2
      have hlen : ts.length = cs.size := by rw [hsz]; exact Nat.eq_of_beq_eq_true hb
      refine .agg (by simpa using hlen) fun i x v' q1 q2 => ?_
      obtain ⟨u, q3, q4⟩ := h3 i v' q2
      have hi : i < cs.size := (Array.getElem?_eq_some_iff.1 q2).1
      rw [Nat.mod_eq_of_lt (by rw [hlen]; exact hi)] at q3
      simp only [List.getElem?_toArray, List.getElem?_map, q3, Option.map_some, Option.some.injEq] at q1
      rw [← q1]
      exact cell_top q4
  unfold topT at ha
  unfold Value.okWide at h
  split at ha
  · rename_i e; rw [e] at h; exact agg h ha
  · rename_i e; rw [e] at h; exact agg h ha
  · cases ha
    split at h
    · simp_all
    · simp_all
    · exact cell_top h
theorem topL_ok : ∀ {ts : List Nat} {l vs : List Value}, topL P ts = some l → vs.length = ts.length → (∀ (j : Nat) t v, ts[j]? = some t → vs[j]? = some v → Value.okWide P w rc base t v) → VRs r l vs
  | [], l, vs, h, hl, _ => by
    cases h
    have : vs = [] := List.eq_nil_of_length_eq_zero (by simpa using hl)
    rw [this]
    exact .nil
  | t :: ts, l, [], _, hl, _ => by simp at hl
  | t :: ts, l, v :: vs, h, hl, hv => by
    obtain ⟨a, e1, e2⟩ := onO_some (show onO (topT P t) (fun v => onO (topL P ts) fun l => some (v :: l)) = some l from h)
    obtain ⟨l1, e3, e4⟩ := onO_some e2
    cases e4
    exact .cons (value_top (hv 0 t v rfl rfl) e1) (topL_ok e3 (by simpa using hl) fun j t v q1 q2 => hv (j + 1) t v (by simpa using q1) (by simpa using q2))
end

/-- A type's zero. -/
noncomputable def zeroT (P : Program) (t : Nat) : Value := ((P.info? t).bind (·.zero)).getD .nilFunc
/-- A call with any arguments of its types, from any world. -/
theorem calls_top {E : Env} (he : EnvOK E) {fuel n f : Nat} {fn : Func} {v : Value} {l : List Value} (hl : topL E.P fn.params.toList = some l) (h : valR (callK E fuel n f l st0) = some v) (hp : plain v = true) {w : World} {rc : Reach} {base : Nat} {args : Array Value} (hsz : args.toList.length = fn.params.toList.length)
    (hv : ∀ (j : Nat) t v, fn.params[j]? = some t → args[j]? = some v → Value.okWide E.P w rc base t v) : Calls E.P f args w fun e w' => e = .returned v ∧ Below w.heap.size w w' :=
  calls_fork (K := .no) he h hp (topL_ok hl hsz fun j t v q1 q2 => hv j t v (by simpa using q1) (by simpa using q2)) w (Know.no_sure w)

theorem calls_topP {E : Env} (he : EnvOK E) {P : Program} (hP : E.P = P) {fuel n f : Nat} {fn : Func} {v : Value} {l : List Value} (hl : topL P fn.params.toList = some l) (h : valR (callK E fuel n f l st0) = some v) (hp : plain v = true) {w : World} {base : Nat} {args : Array Value} (hsz : args.toList.length = fn.params.toList.length)
    (hv : ∀ (j : Nat) t v, fn.params[j]? = some t → args[j]? = some v → Value.okWide P w .any base t v) : Calls P f args w fun e w' => e = .returned v ∧ Below w.heap.size w w' := by
  subst hP
  exact calls_top he hl h hp hsz hv

section
variable {H : Type} {enc : TypeId × Value → H} {P : Program} {W W' : World}
/-- Arguments read behind the call as they did before it. -/
theorem below_all (hl : laidOutB P = true) (hb : Below W.heap.size W W') {sp : Nat → Bool} : ∀ {ts : List TypeId} {vs : List Value} {ds : List (DataW H)} {ps : List MemPlace}, (ts.all fun t => P.readableRec t && decide (t < P.types.size)) = true → DataW.TrodAll enc P W 0 (fun _ => true) true ts vs ds ps → (∀ x ∈ ps, x.block < W.heap.size) → (∀ x ∈ ps, sp x.block = true) →
    DataW.TrodAll enc P W' 0 sp true ts vs ds ps
  | [], _, _, _, _, h, _, _ => by
    obtain ⟨rfl, rfl, rfl⟩ := trodAll_nil h
    exact trodAll_mk0
  | t :: ts, _, _, _, hr, h, hlt, hsp => by
    obtain ⟨v, vs, d, ds, p, q, rfl, rfl, rfl, h1, h2⟩ := trodAll_cons h
    rw [List.all_cons, Bool.and_eq_true, Bool.and_eq_true] at hr
    refine ⟨p, q, WideElems.Trod_stays hl hr.1.1 (of_decide_eq_true hr.1.2) h1 (fun x hx => hb.same (hlt x (List.mem_append_left _ hx))) (fun x hx => hsp x (List.mem_append_left _ hx)), ?_, rfl⟩
    exact below_all hl hb hr.2 h2 (fun x hx => hlt x (List.mem_append_right _ hx)) (fun x hx => hsp x (List.mem_append_right _ hx))
end
end Go.Proofs.Ytnhmbhpkebjjaaa.Am
