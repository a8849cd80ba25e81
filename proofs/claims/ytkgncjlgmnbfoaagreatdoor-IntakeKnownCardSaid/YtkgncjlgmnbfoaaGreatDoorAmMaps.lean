/- Maps against the model's. -/
import Derived.Test.YtkgncjlgmnbfoaaGreatDoorAmOps5
import Derived.Test.YtkgncjlgmnbfoaaGreatDoorAmObj
namespace Go.Proofs.YtkgncjlgmnbfoaaGreatDoor.Am
open Go.RowKit

theorem semP_bind {α β : Type} {P : Program} (x : Sem α) (f : α → Sem β) : semP P (x >>= f) = (semP P x).bind fun a => semP P (f a) := by
  show semP P (Sem.bind x f) = _
  induction x with
  | pure a => rfl
  | program k ih => exact ih P
  | _ => rfl
theorem semP_pure {α : Type} {P : Program} (a : α) : semP P (pure a : Sem α) = some a := rfl
theorem obind_some {α β : Type} {x : Option α} {f : α → Option β} {b : β} (h : x.bind f = some b) : ∃ a, x = some a ∧ f a = some b := by
  cases x with
  | none => cases h
  | some a => exact ⟨a, rfl, h⟩

/-- The same keys. -/
def KeyR (es es' : List MapEntry) : Prop := es.length = es'.length ∧ ∀ (i : Nat) (e e' : MapEntry), es[i]? = some e → es'[i]? = some e' → e'.key = e.key
theorem KeyR.inv {e : MapEntry} {es es' : List MapEntry} (h : KeyR (e :: es) es') : ∃ e' l, es' = e' :: l ∧ e'.key = e.key ∧ KeyR es l := by
  cases es' with
  | nil => have := h.1; simp at this
  | cons e' l => exact ⟨e', l, rfl, h.2 0 e e' rfl rfl, by simpa using h.1, fun i a b x y => h.2 (i + 1) a b (by simpa using x) (by simpa using y)⟩
theorem KeyR.inv_nil {es' : List MapEntry} (h : KeyR [] es') : es' = [] := List.eq_nil_of_length_eq_zero h.1.symm
/-- What is found under a key: nothing on both sides, or the same place. -/
def FoundR (es es' : List MapEntry) (i : Nat) (a b : Option (Nat × Value)) : Prop := (a = none ∧ b = none) ∨ ∃ j e e', a = some (i + j, e.val) ∧ b = some (i + j, e'.val) ∧ es[j]? = some e ∧ es'[j]? = some e'
theorem FoundR.skip {e e' : MapEntry} {es es' : List MapEntry} {i : Nat} {a b : Option (Nat × Value)} (h : FoundR es es' (i + 1) a b) : FoundR (e :: es) (e' :: es') i a b := by
  rcases h with h | ⟨j, x, x', h1, h2, h3, h4⟩
  · exact .inl h
  · exact .inr ⟨j + 1, x, x', by rw [h1]; congr 2; omega, by rw [h2]; congr 2; omega, by simpa using h3, by simpa using h4⟩
theorem findNow_keys (kind : TypeDesc) (k : Value) : ∀ (es es' : List MapEntry) (i : Nat), KeyR es es' → (Instr.findNow kind k es i = none ∧ Instr.findNow kind k es' i = none) ∨ ∃ a b, Instr.findNow kind k es i = some a ∧ Instr.findNow kind k es' i = some b ∧ FoundR es es' i a b
  | [], es', i, h => by rw [h.inv_nil]; exact .inr ⟨none, none, rfl, rfl, .inl ⟨rfl, rfl⟩⟩
  | e :: es, es', i, h => by
    obtain ⟨e', l, rfl, hk, hr⟩ := h.inv
    unfold Instr.findNow
    rw [hk]
    cases Instr.sameNow kind k e.key with
    | none => exact .inl ⟨rfl, rfl⟩
    | some t =>
      cases t with
      | true => exact .inr ⟨_, _, rfl, rfl, .inr ⟨0, e, e', rfl, rfl, rfl, rfl⟩⟩
      | false =>
        rcases findNow_keys kind k es l (i + 1) hr with h1 | ⟨a, b, h1, h2, h3⟩
        · exact .inl h1
        · exact .inr ⟨a, b, h1, h2, h3.skip⟩
theorem findAsking_keys {P : Program} (kt : TypeId) (k : Value) : ∀ (es es' : List MapEntry) (i : Nat) (a : Option (Nat × Value)), KeyR es es' → semP P (Instr.findAsking kt k es i) = some a → ∃ b, semP P (Instr.findAsking kt k es' i) = some b ∧ FoundR es es' i a b
  | [], es', i, a, h, e => by
    rw [h.inv_nil]
    have : a = none := by have e' : some none = some a := e; cases e'; rfl
    subst this
    exact ⟨none, rfl, .inl ⟨rfl, rfl⟩⟩
  | x :: es, es', i, a, h, e => by
    obtain ⟨x', l, rfl, hk, hr⟩ := h.inv
    unfold Instr.findAsking at e ⊢
    rw [semP_bind] at e ⊢
    obtain ⟨t, e1, e2⟩ := obind_some e
    rw [hk, e1]
    cases t with
    | true =>
      have : a = some (i, x.val) := by
        have e' : some (some (i, x.val)) = some a := e2
        exact (Option.some.inj e').symm
      subst this
      exact ⟨some (i, x'.val), rfl, .inr ⟨0, x, x', rfl, rfl, rfl, rfl⟩⟩
    | false =>
      obtain ⟨b, h1, h2⟩ := findAsking_keys kt k es l (i + 1) a hr e2
      exact ⟨b, h1, h2.skip⟩
theorem findKey_keys {P : Program} (kt : TypeId) (k : Value) (es es' : List MapEntry) (a : Option (Nat × Value)) (h : KeyR es es') (e : semP P (Instr.findKey kt k es) = some a) : ∃ b, semP P (Instr.findKey kt k es') = some b ∧ FoundR es es' 0 a b := by
  unfold Instr.findKey at e ⊢
  rw [semP_bind] at e ⊢
  obtain ⟨kind, e1, e2⟩ := obind_some e
  rw [e1]
  simp only [Option.bind_some] at e2 ⊢
  rcases findNow_keys kind k es es' 0 h with ⟨h1, h2⟩ | ⟨x, y, h1, h2, h3⟩
  · rw [h1] at e2
    rw [h2]
    exact findAsking_keys kt k es es' 0 a h e2
  · rw [h1] at e2
    rw [h2]
    have : a = x := by
      have e' : some x = some a := e2
      exact (Option.some.inj e').symm
    subst this
    exact ⟨y, rfl, h3⟩
theorem keyEs_get (es : List MapEntry) (i : Nat) : (keyEs es)[i]? = (es[i]?).map fun e => { e with val := undef } := by unfold keyEs; rw [List.getElem?_map]

section
variable {E : Env} {w0 w : World} {r : Inj} {t : Nat}
theorem findM_ok {emp : Bool} {kt : Nat} {k : Value} {es es' : List MapEntry} {a : Option Nat} {s s' : St} (h : findM E emp kt k es s = .some a s') (hes : EsR r es es') :
    s = s' ∧ plain k = true ∧ (∀ w, (Instr.checkKey emp 10000 kt k).run E.P w = .ok () w) ∧
      ((a = none ∧ ∀ w, (Instr.findKey kt k es').run E.P w = .ok none w) ∨ ∃ j e e', a = some j ∧ es[j]? = some e ∧ es'[j]? = some e' ∧ ∀ w, (Instr.findKey kt k es').run E.P w = .ok (some (j, e'.val)) w) := by
  obtain ⟨hp, h⟩ := chk_some h
  obtain ⟨a0, h1, h2⟩ := on_some h
  obtain ⟨rfl, rfl⟩ := pure_some h2
  rw [semP_bind] at h1
  obtain ⟨u, h3, h4⟩ := obind_some h1
  have hk : KeyR (keyEs es) es' := by
    refine ⟨by unfold keyEs; simp [hes.1], fun i e e' x y => ?_⟩
    rw [keyEs_get] at x
    cases e0 : es[i]? with
    | none => rw [e0] at x; cases x
    | some e1 =>
      rw [e0] at x
      cases x
      exact (hes.2 i e1 e' e0 y).2.1
  obtain ⟨b, h5, h6⟩ := findKey_keys kt k (keyEs es) es' a0 hk h4
  refine ⟨rfl, hp, fun w => semP_run h3, ?_⟩
  rcases h6 with ⟨rfl, rfl⟩ | ⟨j, e, e', rfl, rfl, q1, q2⟩
  · exact .inl ⟨rfl, fun w => semP_run h5⟩
  · rw [keyEs_get] at q1
    cases e0 : es[j]? with
    | none => rw [e0] at q1; cases q1
    | some e1 => exact .inr ⟨j, e1, e', by simp, e0, q2, fun w => by have := semP_run (w := w) h5; rw [Nat.zero_add] at this; exact this⟩
theorem mapAt_some {l : Nat} {s s' : St} {p : List MapEntry × Nat} (h : mapAt l s = .some p s') : T.get s.mem l = some (.O (.map p.1 p.2)) ∧ Same s s' := by
  obtain ⟨c, s1, h1, h2⟩ := bind_some h
  obtain ⟨h3, h4⟩ := rdC_some h1
  cases c with
  | C a b => cases h2
  | O o =>
    cases o with
    | map es n =>
      obtain ⟨rfl, rfl⟩ := pure_some h2
      exact ⟨h3, h4⟩
    | _ => cases h2
theorem mapT_some {s s' : St} {ke : Nat × Nat} (he : EnvTy E) (h : mapT E t s = .some ke s') : s = s' ∧ ∀ w, (underlying t).run E.P w = .ok (.map ke.1 ke.2) w := by
  obtain ⟨i, s1, h1, h2⟩ := bind_some h
  obtain ⟨h3, rfl⟩ := ti_some h1 he
  cases hu : i.u with
  | map kt et =>
    rw [hu] at h2
    obtain ⟨rfl, rfl⟩ := pure_some h2
    exact ⟨rfl, fun w => by rw [h3.run_und, hu]⟩
  | _ => rw [hu] at h2; cases h2
/-- The map behind a number. -/
theorem Rel.mapObj {mem : T Cell} (h : Rel w0 r mem w) {l l' d n : Nat} {es : List MapEntry} (hc : T.get mem l = some (.O (.map es n))) (hb : r.blk l = some (l', d)) : ∃ es', w.heap[l']? = some (.map es' n) ∧ EsR r es es'.toList := by
  obtain ⟨b', d', o', g1, g2, g3⟩ := h.obj _ _ hc rfl
  rw [hb] at g1
  cases g1
  unfold OR at g3
  cases o' with
  | map es' c' => exact ⟨es', by rw [g2, g3.1], g3.2⟩
  | _ => exact g3.elim
theorem VR.map_inv {m : Option Nat} {v' : Value} (h : VR r (.map m) v') : (m = none ∧ v' = .map none) ∨ ∃ l l' d, m = some l ∧ v' = .map (some l') ∧ r.blk l = some (l', d) := by
  cases h with
  | mapNil => exact .inl ⟨rfl, rfl⟩
  | map e => exact .inr ⟨_, _, _, rfl, rfl, e⟩
theorem run_getMap {P : Program} {l : Nat} {es : Array MapEntry} {n : Nat} (h : w.heap[l]? = some (.map es n)) : (getObj l).run P w = .ok (.map es n) w := by simp [getObj, Sem.run, h]
theorem run_setMap {P : Program} {l : Nat} {es : Array MapEntry} {n : Nat} (h : w.heap[l]? = some (.map es n)) (o : Obj) : (setObj l o).run P w = .ok () (World.setO w l o) := by simp [setObj, Sem.run, h, World.setO]
theorem zeroOf_ok {et : Nat} {z : Value} {s s' : St} (he : EnvTy E) (h : zeroOf E et s = .some z s') : s = s' ∧ (∀ w, (zeroValue et).run E.P w = .ok z w) ∧ VR r z z := by
  obtain ⟨i, s1, h1, h2⟩ := bind_some h
  obtain ⟨h3, rfl⟩ := ti_some h1 he
  obtain ⟨rfl, _, h5⟩ := zeroV_ok (w := default) (r := r) h3 h2
  exact ⟨rfl, fun w => (zeroV_ok (w := w) (r := r) h3 h2).2.1, h5⟩
theorem pickOk_ok {c ok : Bool} {v v' u : Value} {s s' : St} (h : pickOk c v ok s = .some u s') (hv : VR r v v') : s = s' ∧ VR r u (if c then .tuple #[v', .bool ok] else v') := by
  cases c with
  | true => obtain ⟨rfl, rfl⟩ := pure_some (show M.pure (.tuple #[v, .bool ok]) s = .some u s' from h); exact ⟨rfl, hv.pair (.bool _)⟩
  | false => obtain ⟨rfl, rfl⟩ := pure_some (show M.pure v s = .some u s' from h); exact ⟨rfl, hv⟩
theorem empty_eq {es : List MapEntry} {es' : Array MapEntry} (h : EsR r es es'.toList) : es'.isEmpty = es.isEmpty := by
  have := h.1
  rw [Array.length_toList] at this
  cases es with
  | nil => simp at this; simp [Array.isEmpty, ← this]
  | cons a l => simp at this; simp [Array.isEmpty, ← this]
theorem kLook_ok {c : Bool} {x x' k k' v : Value} {s s' : St} (he : EnvTy E) (h : kLook E t c x k s = .some v s') (hr : Rel w0 r s.mem w) (hx : VR r x x') (hk : VR r k k') : Yields E w0 r s s' v w (Instr.lookup t x' k' c) := by
  obtain ⟨ke, s1, h1, h⟩ := bind_some h
  obtain ⟨rfl, hu⟩ := mapT_some he h1
  cases x with
  | map m =>
    rcases hx.map_inv with ⟨rfl, rfl⟩ | ⟨l, l', d, rfl, rfl, hb⟩
    · obtain ⟨a, s2, h2, h⟩ := bind_some (show M.bind (findM E true ke.1 k []) (fun r => match r with | none => M.bind (zeroOf E ke.2) fun z => pickOk c z false | some _ => M.fail) s = .some v s' from h)
      obtain ⟨rfl, hp, q1, q2⟩ := findM_ok (r := r) (es' := []) h2 ⟨rfl, fun i e e' x => by simp at x⟩
      have hk' := hk.eq_of_plain hp
      subst hk'
      rcases q2 with ⟨rfl, q2⟩ | ⟨j, e, e', _, q3, _⟩
      · obtain ⟨z, s3, h3, h⟩ := bind_some h
        obtain ⟨rfl, z1, z2⟩ := zeroOf_ok (r := r) he h3
        obtain ⟨rfl, z3⟩ := pickOk_ok h z2
        refine .pure ?_ hr z3
        simp only [Instr.lookup, Sem.run_bind, hu, Result.andThen_ok, Sem.run_pure, Array.isEmpty_empty, q1, q2, z1]
        try (cases c <;> rfl)
      · simp at q3
    · obtain ⟨p, s2, h2, h⟩ := bind_some (show M.bind (mapAt l) (fun p => kLookL E ke.1 ke.2 k c p.1) s = .some v s' from h)
      obtain ⟨g1, g2⟩ := mapAt_some h2
      obtain ⟨es', g3, g4⟩ := hr.mapObj g1 hb
      obtain ⟨a, s3, h3, h⟩ := bind_some h
      obtain ⟨rfl, hp, q1, q2⟩ := findM_ok h3 g4
      have hk' := hk.eq_of_plain hp
      subst hk'
      rcases q2 with ⟨rfl, q2⟩ | ⟨j, e, e', rfl, q3, q4, q2⟩
      · obtain ⟨z, s4, h4, h⟩ := bind_some h
        obtain ⟨rfl, z1, z2⟩ := zeroOf_ok (r := r) he h4
        obtain ⟨rfl, z3⟩ := pickOk_ok h z2
        refine .same ?_ g2 hr z3
        simp only [Instr.lookup, Sem.run_bind, hu, Result.andThen_ok, run_getMap g3, Sem.run_pure, empty_eq g4, q1, q2, z1]
        try (cases c <;> rfl)
      · obtain ⟨e1, h4, h⟩ := on_some h
        rw [q3] at h4
        cases h4
        obtain ⟨rfl, z3⟩ := pickOk_ok h (g4.2 j e e' q3 q4).2.2.2
        refine .same ?_ g2 hr z3
        simp only [Instr.lookup, Sem.run_bind, hu, Result.andThen_ok, run_getMap g3, Sem.run_pure, empty_eq g4, q1, q2]
        try (cases c <;> rfl)
  | _ => cases h
theorem kMkMap_ok {s s' : St} {v : Value} (h : kMkMap s = .some v s') (hr : Rel w0 r s.mem w) (hf : Fresh r s.next s'.next) : Yields E w0 r s s' v w (Instr.makeMap t none) := by
  obtain ⟨b, s1, h1, h2⟩ := bind_some h
  obtain ⟨rfl, rfl⟩ := pure_some h2
  obtain ⟨q1, q2, q3, q4, q5⟩ := newO_ok (o' := .map #[] 0) h1 hr hf rfl ⟨rfl, rfl, fun i e e' x => by simp at x⟩
  exact ⟨_, _, _, by simp [Instr.makeMap, newObj, Sem.run], q2, .map q3, q4, q5⟩
theorem kMkMapR_ok {s s' : St} {x x' v : Value} (he : EnvTy E) (h : kMkMapR E t x s = .some v s') (hr : Rel w0 r s.mem w) (hf : Fresh r s.next s'.next) (hx : VR r x x') : Yields E w0 r s s' v w (Instr.makeMap t (some x')) := by
  obtain ⟨ke, s1, h1, h⟩ := bind_some h
  obtain ⟨rfl, hu⟩ := mapT_some he h1
  cases x with
  | int k n =>
    have hx' := hx.int_inv
    subst hx'
    obtain ⟨v', w', r', k1, k2⟩ := kMkMap_ok (E := E) (t := t) (show kMkMap s = .some v s' from h) hr hf
    refine ⟨v', w', r', ?_, k2⟩
    rw [← k1]
    simp [Instr.makeMap, hu, asInt, asIntOf]
  | _ => cases h

/-! ### Maps turned -/
theorem EsR.set {es es' : List MapEntry} (h : EsR r es es') {j : Nat} {a a' : MapEntry} (hp : plain a.key = true) (hk : a'.key = a.key) (hb : a'.born = a.born) (hv : VR r a.val a'.val) : EsR r (es.set j a) (es'.set j a') := by
  refine ⟨by simp [h.1], fun i e e' x y => ?_⟩
  rw [List.getElem?_set] at x y
  by_cases hij : j = i
  · rw [if_pos hij] at x y
    by_cases hl : j < es.length
    · rw [if_pos hl] at x
      rw [if_pos (by rw [← h.1]; exact hl)] at y
      cases x
      cases y
      exact ⟨hp, hk, hb, hv⟩
    · rw [if_neg hl] at x
      cases x
  · rw [if_neg hij] at x y
    exact h.2 i e e' x y
theorem EsR.snoc {es es' : List MapEntry} (h : EsR r es es') {a a' : MapEntry} (hp : plain a.key = true) (hk : a'.key = a.key) (hb : a'.born = a.born) (hv : VR r a.val a'.val) : EsR r (es ++ [a]) (es' ++ [a']) := by
  refine ⟨by simp [h.1], fun i e e' x y => ?_⟩
  by_cases hi : i < es.length
  · rw [List.getElem?_append_left hi] at x
    rw [List.getElem?_append_left (by rw [← h.1]; exact hi)] at y
    exact h.2 i e e' x y
  · rw [List.getElem?_append_right (by omega)] at x
    rw [List.getElem?_append_right (by rw [← h.1]; omega), ← h.1] at y
    cases hz : i - es.length with
    | zero =>
      rw [hz] at x y
      simp at x y
      subst x
      subst y
      exact ⟨hp, hk, hb, hv⟩
    | succ n => rw [hz] at x; simp at x
theorem EsR.erase {es es' : List MapEntry} (h : EsR r es es') (j : Nat) : EsR r (es.eraseIdx j) (es'.eraseIdx j) := by
  refine ⟨by rw [List.length_eraseIdx, List.length_eraseIdx, h.1], fun i e e' x y => ?_⟩
  rw [List.getElem?_eraseIdx] at x y
  split at x
  · rename_i hi; rw [if_pos hi] at y; exact h.2 i e e' x y
  · rename_i hi; rw [if_neg hi] at y; exact h.2 (i + 1) e e' x y
theorem modify_list (es : Array MapEntry) (j : Nat) (f : MapEntry → MapEntry) {e : MapEntry} (he : es[j]? = some e) : (es.modify j f).toList = es.toList.set j (f e) := by
  apply List.ext_getElem?
  intro i
  rw [Array.getElem?_toList, Array.getElem?_modify, List.getElem?_set]
  by_cases h : j = i
  · subst h
    have hl : j < es.toList.length := by rw [Array.length_toList]; exact (Array.getElem?_eq_some_iff.1 he).1
    rw [if_pos rfl, if_pos rfl, if_pos hl, he]
    rfl
  · rw [if_neg h, if_neg h, Array.getElem?_toList]
theorem stays {old new : Value} (h : Instr.sameBits 10000 old new = true) (w : World) : (Instr.keyThatStays old new).run E.P w = .ok new w := by
  unfold Instr.keyThatStays
  rw [if_pos h]
  rfl
/-- A map laid anew, in the evaluator's memory and in the world. -/
theorem mapPut_ok {l l' d n : Nat} {es es2 : List MapEntry} {es2' : Array MapEntry} {m : Nat} {s s1 s' : St} {u : Unit} (hs : Same s s1) (h : wrC l (.O (.map es2 m)) s1 = .some u s') (hr : Rel w0 r s.mem w) (hc : T.get s.mem l = some (.O (.map es n))) (hb : r.blk l = some (l', d)) (hes : EsR r es2 es2'.toList) :
    Goes w0 r s s' r (World.setO w l' (.map es2' m)) ∧ s'.lim = s.lim ∧ s'.cx = s.cx := by
  obtain ⟨h1, h2, h3⟩ := wrO_ok (o2' := .map es2' m) h (by rw [hs.1]; exact hr) (by rw [hs.1]; exact hc) rfl hb ⟨rfl, hes⟩ rfl
  exact ⟨(Goes.same hs hr).trans h1, h2.trans hs.2.2.1, h3.trans hs.2.2.2⟩
theorem putE_ok {kt l l' d : Nat} {k x x' : Value} {p : List MapEntry × Nat} {es' : Array MapEntry} {s s1 s' : St} {u : Unit} (hs : Same s s1) (h : putE E kt k x l p s1 = .some u s') (hr : Rel w0 r s.mem w) (hc : T.get s.mem l = some (.O (.map p.1 p.2))) (hb : r.blk l = some (l', d)) (hw : w.heap[l']? = some (.map es' p.2)) (hes : EsR r p.1 es'.toList) (hx : VR r x x') :
    plain k = true ∧ ∃ w', (do Instr.checkKey false 10000 kt k
                               match ← Instr.findKey kt k es'.toList with
                               | some (i, _) => do
                                 let key ← Instr.keyThatStays (((es'[i]?).map (·.key)).getD k) k
                                 setObj l' (.map (es'.modify i fun e => { e with key, val := x' }) p.2)
                               | none => setObj l' (.map (es'.push { key := k, val := x', born := p.2 }) (p.2 + 1)) : Sem Unit).run E.P w = .ok () w' ∧ Goes w0 r s s' r w' ∧ s'.lim = s.lim ∧ s'.cx = s.cx := by
  obtain ⟨a, s2, h1, h⟩ := bind_some h
  obtain ⟨rfl, hp, q1, q2⟩ := findM_ok h1 hes
  refine ⟨hp, ?_⟩
  rcases q2 with ⟨rfl, q2⟩ | ⟨j, e, e', rfl, q3, q4, q2⟩
  · obtain ⟨g1, g2, g3⟩ := mapPut_ok (es2' := es'.push { key := k, val := x', born := p.2 }) hs h hr hc hb (by rw [Array.toList_push]; exact hes.snoc hp rfl rfl hx)
    refine ⟨_, ?_, g1, g2, g3⟩
    simp only [Sem.run_bind, q1, Result.andThen_ok, q2, run_setMap hw]
  · obtain ⟨e1, h2, h⟩ := on_some h
    rw [q3] at h2
    cases h2
    obtain ⟨h3, h⟩ := chk_some h
    have hkey := (hes.2 j e e' q3 q4).2.1
    have q4' : es'[j]? = some e' := by rw [← Array.getElem?_toList]; exact q4
    obtain ⟨g1, g2, g3⟩ := mapPut_ok (es2' := es'.modify j fun e => { e with key := k, val := x' }) hs h hr hc hb (by
      rw [modify_list _ _ _ q4']
      exact hes.set hp rfl (hes.2 j e e' q3 q4).2.2.1 hx)
    refine ⟨_, ?_, g1, g2, g3⟩
    have hst := stays (E := E) (old := e'.key) (new := k) (by rw [hkey]; exact h3) w
    simp only [Sem.run_bind, q1, Result.andThen_ok, q2, q4', Option.map_some, Option.getD_some, hst, run_setMap hw]
theorem kMapUp_ok {m m' k k' x x' v : Value} {s s' : St} (he : EnvTy E) (h : kMapUp E t m k x s = .some v s') (hr : Rel w0 r s.mem w) (hm : VR r m m') (hk : VR r k k') (hx : VR r x x') :
    v = undef ∧ ∃ w', (Instr.mapUpdate t m' k' x').run E.P w = .ok () w' ∧ Goes w0 r s s' r w' ∧ s'.lim = s.lim ∧ s'.cx = s.cx := by
  obtain ⟨ke, s1, h1, h⟩ := bind_some h
  obtain ⟨rfl, hu⟩ := mapT_some he h1
  cases m with
  | map mo =>
    rcases hm.map_inv with ⟨rfl, rfl⟩ | ⟨l, l', d, rfl, rfl, hb⟩
    · cases h
    · obtain ⟨p, s2, h2, h⟩ := bind_some (show M.bind (mapAt l) (fun p => M.bind (putE E ke.1 k x l p) fun _ => M.pure undef) s = .some v s' from h)
      obtain ⟨g1, g2⟩ := mapAt_some h2
      obtain ⟨es', g3, g4⟩ := hr.mapObj g1 hb
      obtain ⟨u, s3, h3, h⟩ := bind_some h
      obtain ⟨rfl, rfl⟩ := pure_some h
      obtain ⟨hp, w', q1, q2, q3, q4⟩ := putE_ok g2 h3 hr g1 hb g3 g4 hx
      have hk' := hk.eq_of_plain hp
      subst hk'
      refine ⟨rfl, w', ?_, q2, q3, q4⟩
      rw [← q1]
      simp only [Instr.mapUpdate, Sem.run_bind, hu, Result.andThen_ok, run_getMap g3]
      rfl
  | _ => cases h
theorem kMapEnt_ok {m m' k k' v : Value} {s s' : St} (he : EnvTy E) (h : kMapEnt E t m k s = .some v s') (hr : Rel w0 r s.mem w) (hm : VR r m m') (hk : VR r k k') : Yields E w0 r s s' v w (Instr.mapEntry t m' k') := by
  obtain ⟨ke, s1, h1, h⟩ := bind_some h
  obtain ⟨rfl, hu⟩ := mapT_some he h1
  cases m with
  | map mo =>
    rcases hm.map_inv with ⟨rfl, rfl⟩ | ⟨l, l', d, rfl, rfl, hb⟩
    · cases h
    · obtain ⟨p, s2, h2, h⟩ := bind_some (show M.bind (mapAt l) (fun p => entE E ke.1 ke.2 k l p) s = .some v s' from h)
      obtain ⟨g1, g2⟩ := mapAt_some h2
      obtain ⟨es', g3, g4⟩ := hr.mapObj g1 hb
      obtain ⟨a, s3, h3, h⟩ := bind_some h
      obtain ⟨rfl, hp, q1, q2⟩ := findM_ok h3 g4
      have hk' := hk.eq_of_plain hp
      subst hk'
      rcases q2 with ⟨rfl, q2⟩ | ⟨j, e, e', rfl, q3, q4, q2⟩
      · obtain ⟨z, s4, h4, h⟩ := bind_some h
        obtain ⟨rfl, z1, z2⟩ := zeroOf_ok (r := r) he h4
        obtain ⟨u, s5, h5, h⟩ := bind_some h
        obtain ⟨rfl, rfl⟩ := pure_some h
        obtain ⟨x1, x2, x3⟩ := mapPut_ok (es2' := es'.push { key := k', val := z, born := p.2 }) g2 h5 hr g1 hb (by rw [Array.toList_push]; exact g4.snoc hp rfl rfl z2)
        refine ⟨_, _, r, ?_, x1, z2.pair (.int _ _), x2, x3⟩
        simp only [Instr.mapEntry, Sem.run_bind, hu, Result.andThen_ok, run_getMap g3, q1, q2, z1, run_setMap g3, Sem.run_pure]
        rfl
      · obtain ⟨e1, h4, h⟩ := on_some h
        rw [q3] at h4
        cases h4
        obtain ⟨h5, h⟩ := chk_some h
        obtain ⟨u, s5, h6, h⟩ := bind_some h
        obtain ⟨rfl, rfl⟩ := pure_some h
        have hrel := g4.2 j e e' q3 q4
        have q4' : es'[j]? = some e' := by rw [← Array.getElem?_toList]; exact q4
        obtain ⟨x1, x2, x3⟩ := mapPut_ok (es2' := es'.modify j fun e => { e with key := k' }) g2 h6 hr g1 hb (by
          rw [modify_list _ _ _ q4']
          exact g4.set hp rfl hrel.2.2.1 hrel.2.2.2)
        have hst := stays (E := E) (old := e'.key) (new := k') (by rw [hrel.2.1]; exact h5) w
        refine ⟨_, _, r, ?_, x1, hrel.2.2.2.pair (.int _ _), x2, x3⟩
        simp only [Instr.mapEntry, Sem.run_bind, hu, Result.andThen_ok, run_getMap g3, q1, q2, q4', Option.map_some, Option.getD_some, hst, run_setMap g3, Sem.run_pure, hrel.2.2.1]
        rfl
  | _ => cases h
theorem findIdx_eq {es es' : List MapEntry} (h : EsR r es es') (b : Int) : es'.findIdx? (fun e => (e.born : Int) == b) = es.findIdx? (fun e => (e.born : Int) == b) := by
  induction es generalizing es' with
  | nil => rw [show es' = [] from List.eq_nil_of_length_eq_zero h.1.symm]
  | cons e es ih =>
    cases es' with
    | nil => have := h.1; simp at this
    | cons e' l =>
      have h0 := h.2 0 e e' rfl rfl
      rw [List.findIdx?_cons, List.findIdx?_cons, h0.2.2.1, ih ⟨by simpa using h.1, fun i a b x y => h.2 (i + 1) a b (by simpa using x) (by simpa using y)⟩]
theorem kEntSt_ok {m m' st st' x x' v : Value} {s s' : St} (h : kEntSt m st x s = .some v s') (hr : Rel w0 r s.mem w) (hm : VR r m m') (hst : VR r st st') (hx : VR r x x') :
    v = undef ∧ ∃ w', (Instr.entryStore t m' st' x').run E.P w = .ok () w' ∧ Goes w0 r s s' r w' ∧ s'.lim = s.lim ∧ s'.cx = s.cx := by
  unfold kEntSt at h
  split at h
  · rename_i l kd b
    rcases hm.map_inv with ⟨e, _⟩ | ⟨l0, l', d, e, rfl, hb⟩
    · cases e
    · cases e
      have hst' := hst.int_inv
      subst hst'
      obtain ⟨p, s2, h2, h⟩ := bind_some h
      obtain ⟨g1, g2⟩ := mapAt_some h2
      obtain ⟨es', g3, g4⟩ := hr.mapObj g1 hb
      obtain ⟨j, h3, h⟩ := on_some h
      obtain ⟨e, h4, h⟩ := on_some h
      obtain ⟨u, s5, h6, h⟩ := bind_some h
      obtain ⟨rfl, rfl⟩ := pure_some h
      have hj : j < es'.toList.length := by rw [← g4.1]; exact (List.getElem?_eq_some_iff.1 h4).1
      have q4 : es'.toList[j]? = some (es'.toList[j]) := List.getElem?_eq_getElem hj
      have hrel := g4.2 j e _ h4 q4
      have q4' : es'[j]? = some (es'.toList[j]) := by rw [← Array.getElem?_toList]; exact q4
      obtain ⟨x1, x2, x3⟩ := mapPut_ok (es2' := es'.modify j fun e => { e with val := x' }) g2 h6 hr g1 hb (by
        rw [modify_list _ _ _ q4']
        exact g4.set hrel.1 hrel.2.1 hrel.2.2.1 hx)
      refine ⟨rfl, _, ?_, x1, x2, x3⟩
      have hf : es'.findIdx? (fun e => (e.born : Int) == b) = some j := by
        have e0 : es'.findIdx? (fun e => (e.born : Int) == b) = es'.toList.findIdx? (fun e => (e.born : Int) == b) := by rw [← List.findIdx?_toArray]
        rw [e0, findIdx_eq g4]
        exact h3
      simp only [Instr.entryStore, Sem.run_bind, run_getMap g3, Result.andThen_ok, asInt, asIntOf, Sem.run_pure, hf, run_setMap g3]
  · cases h
theorem kLenM_ok {x x' v : Value} {s s' : St} {ts : Array TypeId} {ty : TypeId} {kt et : TypeId} (hts : ts[0]? = some t) (hu : ∀ w, (underlying t).run E.P w = .ok (.map kt et) w) (h : kLenM x s = .some v s') (hr : Rel w0 r s.mem w) (hx : VR r x x') : Yields E w0 r s s' v w (Builtin.len_ ts ty #[x']) := by
  cases x with
  | map m =>
    rcases hx.map_inv with ⟨rfl, rfl⟩ | ⟨l, l', d, rfl, rfl, hb⟩
    · obtain ⟨rfl, rfl⟩ := pN_some (show pN 0 s = .some v s' from h)
      refine .pure ?_ hr (.int _ _)
      simp [Builtin.len_, hts, hu, goInt]
    · obtain ⟨p, s2, h2, h⟩ := bind_some (show M.bind (mapAt l) (fun p => pN p.1.length) s = .some v s' from h)
      obtain ⟨g1, g2⟩ := mapAt_some h2
      obtain ⟨es', g3, g4⟩ := hr.mapObj g1 hb
      obtain ⟨rfl, rfl⟩ := pN_some h
      refine .same ?_ g2 hr (.int _ _)
      have := g4.1
      rw [Array.length_toList] at this
      simp [Builtin.len_, hts, hu, goInt, run_getMap g3, this]
  | _ => cases h
theorem kDel_ok {m m' k k' v : Value} {s s' : St} {ts : Array TypeId} {ty : TypeId} (hts : ts[0]? = some t) (he : EnvTy E) (h : kDel E t m k s = .some v s') (hr : Rel w0 r s.mem w) (hm : VR r m m') (hk : VR r k k') : Yields E w0 r s s' v w (Builtin.delete_ ts ty #[m', k']) := by
  obtain ⟨ke, s1, h1, h⟩ := bind_some h
  obtain ⟨rfl, hu⟩ := mapT_some he h1
  cases m with
  | map mo =>
    rcases hm.map_inv with ⟨rfl, rfl⟩ | ⟨l, l', d, rfl, rfl, hb⟩
    · obtain ⟨a, s2, h2, h⟩ := bind_some (show M.bind (findM E true ke.1 k []) (fun _ => M.pure undef) s = .some v s' from h)
      obtain ⟨rfl, hp, q1, q2⟩ := findM_ok (r := r) (es' := []) h2 ⟨rfl, fun i e e' x => by simp at x⟩
      obtain ⟨rfl, rfl⟩ := pure_some h
      have hk' := hk.eq_of_plain hp
      subst hk'
      refine .pure ?_ hr .undef
      simp [Builtin.delete_, hts, hu, q1]
      rfl
    · obtain ⟨p, s2, h2, h⟩ := bind_some (show M.bind (mapAt l) (fun p => M.bind (findM E p.1.isEmpty ke.1 k p.1) fun r => (match r with | some j => M.bind (wrC l (.O (.map (p.1.eraseIdx j) p.2))) fun _ => M.pure undef | none => M.bind (wrC l (.O (.map p.1 p.2))) fun _ => M.pure undef)) s = .some v s' from h)
      obtain ⟨g1, g2⟩ := mapAt_some h2
      obtain ⟨es', g3, g4⟩ := hr.mapObj g1 hb
      obtain ⟨a, s3, h3, h⟩ := bind_some h
      obtain ⟨rfl, hp, q1, q2⟩ := findM_ok h3 g4
      have hk' := hk.eq_of_plain hp
      subst hk'
      rcases q2 with ⟨rfl, q2⟩ | ⟨j, e, e', rfl, q3, q4, q2⟩
      · obtain ⟨u, s5, h6, h⟩ := bind_some h
        obtain ⟨rfl, rfl⟩ := pure_some h
        obtain ⟨x1, x2, x3⟩ := mapPut_ok (es2' := es') g2 h6 hr g1 hb g4
        refine ⟨_, _, r, ?_, x1, .undef, x2, x3⟩
        simp [Builtin.delete_, hts, hu, run_getMap g3, empty_eq g4, q1, q2, run_setMap g3]
        rfl
      · obtain ⟨u, s5, h6, h⟩ := bind_some h
        obtain ⟨rfl, rfl⟩ := pure_some h
        obtain ⟨x1, x2, x3⟩ := mapPut_ok (es2' := es'.eraseIdxIfInBounds j) g2 h6 hr g1 hb (by rw [Array.toList_eraseIdxIfInBounds]; exact g4.erase j)
        refine ⟨_, _, r, ?_, x1, .undef, x2, x3⟩
        simp [Builtin.delete_, hts, hu, run_getMap g3, empty_eq g4, q1, q2, run_setMap g3]
        rfl
  | _ => cases h
theorem aLen_ok {x x' v : Value} {s s' : St} {ts : Array TypeId} {ty : TypeId} (hts : ts[0]? = some t) (he : EnvTy E) (h : aLen E t x s = .some v s') (hr : Rel w0 r s.mem w) (hx : VR r x x') : Yields E w0 r s s' v w (Builtin.len_ ts ty #[x']) := by
  obtain ⟨i, s1, h1, h2⟩ := bind_some h
  obtain ⟨hi, rfl⟩ := ti_some h1 he
  have hund := hi.run_und (w := w)
  have hall : ∀ w, (underlying t).run E.P w = .ok i.u w := fun w => hi.run_und
  generalize i.u = u at h2 hund hall
  split at h2
  · obtain ⟨rfl, rfl⟩ := pN_some h2
    cases hx <;> exact .pure (v' := .int .i64 _) (by simp [Builtin.len_, hts, hund, goInt]) hr (.int _ _)
  · obtain ⟨rfl, rfl⟩ := pN_some h2
    cases hx
    exact .pure (v' := .int .i64 _) (by simp [Builtin.len_, hts, hund, goInt]) hr (.int _ _)
  · exact kLenM_ok hts hall h2 hr hx
  · obtain ⟨rfl, rfl⟩ := pure_some h2
    cases hx with
    | complex e =>
      obtain ⟨p, n, c, rfl⟩ := e
      exact .pure (v' := .int .i64 n) (by simp [Builtin.len_, hts, hund, goInt]) hr (.complex ⟨.i64, _, rfl, rfl⟩)
  · obtain ⟨rfl, rfl⟩ := pure_some h2
    cases hx with
    | complex e =>
      obtain ⟨_, p, n, c, rfl⟩ := e
      exact .pure (v' := .int .i64 n) (by simp [Builtin.len_, hts, hund, goInt]) hr (.complex ⟨.i64, _, rfl, rfl⟩)
  · obtain ⟨rfl, rfl⟩ := pure_some h2
    cases hx with
    | complex e =>
      obtain ⟨p, rfl⟩ := e
      exact .pure (v' := .int .i64 p.size) (by simp [Builtin.len_, hts, hund, goInt]) hr (.complex ⟨.i64, _, rfl, rfl⟩)
  · cases h2

/-! ### Strings, rune by rune -/
theorem kRange_ok {x x' v : Value} {s s' : St} (he : EnvTy E) (h : kRange E t x s = .some v s') (hr : Rel w0 r s.mem w) (hf : Fresh r s.next s'.next) (hx : VR r x x') : Yields E w0 r s s' v w (Instr.range t x') := by
  obtain ⟨i, s1, h1, h2⟩ := bind_some h
  obtain ⟨hi, rfl⟩ := ti_some h1 he
  have hund := hi.run_und (w := w)
  generalize i.u = u at h2 hund
  split at h2
  · rename_i b
    obtain ⟨l, s2, h3, h4⟩ := bind_some h2
    obtain ⟨rfl, rfl⟩ := pure_some h4
    cases hx
    obtain ⟨q1, q2, q3, q4, q5⟩ := newO_ok (o' := .stringIter b 0) h3 hr hf rfl ⟨rfl, rfl⟩
    exact ⟨_, _, _, by simp [Instr.range, hund, newObj, Sem.run], q2, .iter q3, q4, q5⟩
  · cases h2
theorem kNext_ok {x x' v : Value} {ty : TypeId} {s s' : St} (h : kNext x s = .some v s') (hr : Rel w0 r s.mem w) (hx : VR r x x') : Yields E w0 r s s' v w (Instr.next x' true ty) := by
  unfold kNext at h
  split at h
  · rename_i l
    cases hx with
    | @iter _ l' hb =>
      obtain ⟨c, s1, h1, h2⟩ := bind_some h
      obtain ⟨h3, h4⟩ := rdC_some h1
      have fin : ∃ b pos, c = .O (.sit b pos) ∧ sitN l b pos s1 = .some v s' := by
        cases c with
        | C a b => cases h2
        | O o =>
          cases o with
          | sit b pos =>
            replace h2 : fN pos (fun pos => sitN l b pos) s1 = .some v s' := h2
            rw [fN_eq] at h2
            exact ⟨b, pos, rfl, h2⟩
          | _ => cases h2
      obtain ⟨b, pos, hc, hs2⟩ := fin
      clear h2
      subst hc
      have h2 := hs2
      clear hs2
      obtain ⟨b', d', o', g1, g2, g3⟩ := hr.obj _ _ h3 rfl
      rw [hb] at g1
      cases g1
      cases o' with
      | stringIter b2 p2 =>
        obtain ⟨rfl, rfl⟩ := g3
        unfold sitN at h2
        rw [if_eq] at h2
        have hget : (getObj l').run E.P w = .ok (.stringIter b2 p2) w := by simp [getObj, Sem.run, g2]
        cases hlt : Nat.blt p2 b2.size with
        | true =>
          rw [hlt] at h2
          obtain ⟨u, s2, h5, h6⟩ := bind_some h2
          rw [fN_eq, fN_eq] at h6
          obtain ⟨rfl, rfl⟩ := pure_some h6
          obtain ⟨x1, x2, x3⟩ := wrO_ok (o2' := .stringIter b2 (p2 + (Utf8.decode b2 p2).2)) h5 (by rw [h4.1]; exact hr) (by rw [h4.1]; exact h3) rfl hb ⟨rfl, rfl⟩ rfl
          refine ⟨.tuple #[.bool true, .int .i64 (.ofNat p2), .int .i32 (.ofNat (Utf8.decode b2 p2).1)], _, r, ?_, (Goes.same h4 hr).trans x1, ?_, x2.trans h4.2.2.1, x3.trans h4.2.2.2⟩
          · have hl : p2 < b2.size := blt_lt hlt
            simp [Instr.next, hget, hl, setObj, Sem.run, g2, goInt, World.setO]
          · exact VRs.tuple (l := [_, _, _]) (l' := [_, _, _]) (.cons (.bool _) (.cons (.int _ _) (.cons (.int _ _) .nil)))
        | false =>
          rw [hlt] at h2
          obtain ⟨rfl, rfl⟩ := pure_some h2
          refine .same (v' := .tuple #[.bool false]) ?_ h4 hr (VRs.tuple (l := [_]) (l' := [_]) (.cons (.bool _) .nil))
          have hl : ¬ p2 < b2.size := by
            intro hl
            rw [show Nat.blt p2 b2.size = true from Nat.ble_eq_true_of_le hl] at hlt
            cases hlt
          simp [Instr.next, hget, hl]
      | _ => exact g3.elim
  · cases h
end
end Go.Proofs.YtkgncjlgmnbfoaaGreatDoor.Am
