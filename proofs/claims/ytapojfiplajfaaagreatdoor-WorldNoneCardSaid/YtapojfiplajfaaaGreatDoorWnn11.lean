/- Disk.Used as a contract within the evaluator: whatever order the map is gone through in. -/
import Derived.Test.YtapojfiplajfaaaGreatDoorWnn10
namespace Go.Proofs.YtapojfiplajfaaaGreatDoor.Am
open Go.RowKit

noncomputable def fileLen (v : Value) : M Int :=
  match v with
  | .pointer (some a) => M.bind (rdV a) fun x => M.bind (rdV ⟨a.block, a.off + 1, a.spot⟩) fun y => match x, y with
    | .slice _ n _, .slice _ k _ => fI (Int.ofNat n + Int.ofNat k) fun i => M.pure i
    | _, _ => M.fail
  | _ => M.fail
noncomputable def filesLen (es : List MapEntry) : M Int :=
  List.rec (motive := fun _ => M Int) (M.pure 0) (fun e _ ih => M.bind (fileLen e.val) fun n => M.bind ih fun k => fI (n + k) fun i => M.pure i) es
/-- The stamps rise, and stay below the clock. -/
def bornsOk : List MapEntry → Nat → Nat → Bool
  | [], _, _ => true
  | e :: l, lo, n => Nat.ble lo e.born && Nat.blt e.born n && bornsOk l (e.born + 1) n
noncomputable def usedM (args : List Value) : M Value :=
  match args with
  | [.pointer (some a)] => M.bind (rdV a) fun x => match x with
    | .bool true => M.bind (rdV ⟨a.block, a.off + 1, a.spot⟩) fun y => match y with
      | .map (some l) => M.bind (mapAt l) fun p => M.chk (bornsOk p.1 0 p.2) (M.bind (filesLen p.1) fun n => fI (wrap64 n) fun n => M.pure (.int .i64 n))
      | _ => M.fail
    | _ => M.fail
  | _ => M.fail

theorem bornsOk_lt : ∀ {l : List MapEntry} {lo n : Nat}, bornsOk l lo n = true → ∀ x ∈ l, lo ≤ x.born ∧ x.born < n
  | [], _, _, _, x, hx => by cases hx
  | e :: l, lo, n, h, x, hx => by
    unfold bornsOk at h
    rw [Bool.and_eq_true, Bool.and_eq_true] at h
    have h1 := Nat.le_of_ble_eq_true h.1.1
    have h2 : e.born < n := Nat.le_of_ble_eq_true h.1.2
    rcases List.mem_cons.1 hx with rfl | hx
    · exact ⟨h1, h2⟩
    · have := bornsOk_lt h.2 x hx
      exact ⟨by omega, this.2⟩
theorem bornsOk_nodup : ∀ {l : List MapEntry} {lo n : Nat}, bornsOk l lo n = true → (l.map (·.born)).Nodup
  | [], _, _, _ => List.nodup_nil
  | e :: l, lo, n, h => by
    unfold bornsOk at h
    rw [Bool.and_eq_true] at h
    refine List.nodup_cons.2 ⟨fun hm => ?_, bornsOk_nodup h.2⟩
    obtain ⟨x, hx, he⟩ := List.mem_map.1 hm
    have := (bornsOk_lt h.2 x hx).1
    have he : x.born = e.born := he
    omega
theorem EsR.borns {r : Inj} : ∀ {es es' : List MapEntry}, EsR r es es' → es'.map (·.born) = es.map (·.born) := fun {es es'} h => by
  refine List.ext_getElem? fun i => ?_
  rw [List.getElem?_map, List.getElem?_map]
  cases e1 : es[i]? with
  | none =>
    have : es'[i]? = none := by
      rw [List.getElem?_eq_none_iff] at e1 ⊢
      rw [← h.1]
      exact e1
    rw [this]
  | some e =>
    have hlt : i < es'.length := by
      rw [← h.1]
      exact (List.getElem?_eq_some_iff.1 e1).1
    rw [List.getElem?_eq_getElem hlt]
    have := (h.2 i e es'[i] e1 (List.getElem?_eq_getElem hlt)).2.2.1
    simp [this]

section
variable {w0 w : World} {r : Inj}
theorem lo_fileLen (v : Value) : Loc (fileLen v) := by
  unfold fileLen
  split
  · refine lo_bind (lo_rdV _) fun x => lo_bind (lo_rdV _) fun y => ?_
    split
    · exact lo_fI _ fun _ => lo_pure _
    · exact lo_fail
  · exact lo_fail
theorem np_fileLen (v : Value) : NoPan (fileLen v) := by
  unfold fileLen
  split
  · refine np_bind (np_rdV _) fun x => np_bind (np_rdV _) fun y => ?_
    split
    · exact np_fI _ fun _ => np_pure _
    · exact np_fail
  · exact np_fail
theorem np_filesLen (es : List MapEntry) : NoPan (filesLen es) := by
  induction es with
  | nil => exact np_pure _
  | cons e l ih => exact np_bind (np_fileLen _) fun _ => np_bind ih fun _ => np_fI _ fun _ => np_pure _
theorem lo_filesLen (es : List MapEntry) : Loc (filesLen es) := by
  induction es with
  | nil => exact lo_pure _
  | cons e l ih => exact lo_bind (lo_fileLen _) fun _ => lo_bind ih fun _ => lo_fI _ fun _ => lo_pure _
theorem fileLen_ok {v v' : Value} {s s' : St} {n : Int} (h : fileLen v s = .some n s') (hr : Rel w0 r s.mem w) (hv : VR r v v') : Used.FileAt w v' ∧ Used.lenAt w v' = n ∧ Same s s' := by
  unfold fileLen at h
  split at h
  · rename_i a
    obtain ⟨a', rfl, ha⟩ := hv.ptr_inv
    obtain ⟨x, s1, e1, e2⟩ := bind_some h
    obtain ⟨y, s2, e3, e4⟩ := bind_some e2
    obtain ⟨x', c1, v1, m1⟩ := rdV_ok e1 hr ha
    obtain ⟨b, o, b', d, rfl, rfl, hb⟩ := ha
    obtain ⟨y', c2, v2, m2⟩ := rdV_ok (a' := ⟨b', o + d + 1, none⟩) e3 (by rw [m1.1]; exact hr) ⟨b, o + 1, b', d, rfl, by congr 1; omega, hb⟩
    split at e4
    · rename_i sa n1 ca sb n2 cb
      rw [fI_eq] at e4
      obtain ⟨rfl, rfl⟩ := pure_some e4
      have q1 : ∃ sa' ca', x' = .slice sa' n1 ca' := by cases v1 <;> exact ⟨_, _, rfl⟩
      have q2 : ∃ sb' cb', y' = .slice sb' n2 cb' := by cases v2 <;> exact ⟨_, _, rfl⟩
      obtain ⟨sa', ca', rfl⟩ := q1
      obtain ⟨sb', cb', rfl⟩ := q2
      refine ⟨⟨b', o + d, sa', n1, ca', sb', n2, cb', rfl, c1, c2⟩, ?_, m1.trans m2⟩
      show Used.lenCell (w.cell? ⟨b', o + d, none⟩) + Used.lenCell (w.cell? ⟨b', o + d + 1, none⟩) = _
      rw [c1, c2]
      rfl
    · cases e4
  · cases h
theorem filesLen_ok : ∀ {es es' : List MapEntry} {s s' : St} {n : Int}, filesLen es s = .some n s' → Rel w0 r s.mem w → EsR r es es' → (∀ x ∈ es', Used.FileAt w x.val) ∧ (es'.map fun e => Used.lenAt w e.val).sum = n ∧ Same s s'
  | [], es', s, s', n, h, hr, he => by
    have : es' = [] := List.eq_nil_of_length_eq_zero he.1.symm
    subst this
    obtain ⟨rfl, rfl⟩ := pure_some h
    exact ⟨fun x hx => (by cases hx), rfl, .refl _⟩
  | e :: es, es', s, s', n, h, hr, he => by
    cases es' with
    | nil => have := he.1; simp at this
    | cons e' l =>
      replace h : M.bind (fileLen e.val) (fun n => M.bind (filesLen es) fun k => fI (n + k) fun i => M.pure i) s = .some n s' := h
      obtain ⟨n1, s1, e1, e2⟩ := bind_some h
      obtain ⟨k1, s2, e3, e4⟩ := bind_some e2
      rw [fI_eq] at e4
      obtain ⟨rfl, rfl⟩ := pure_some e4
      obtain ⟨f1, f2, f3⟩ := fileLen_ok e1 hr (he.2 0 e e' rfl rfl).2.2.2
      obtain ⟨g1, g2, g3⟩ := filesLen_ok e3 (by rw [f3.1]; exact hr) (⟨by simpa using he.1, fun i a b x y => he.2 (i + 1) a b (by simpa using x) (by simpa using y)⟩ : EsR r es l)
      refine ⟨fun x hx => ?_, by rw [List.map_cons, List.sum_cons, f2, g2], f3.trans g3⟩
      rcases List.mem_cons.1 hx with rfl | hx
      · exact f1
      · exact g1 x hx
/-- A function with a body is entered. -/
theorem call_enters {P : Program} {f : Nat} {fn : Func} (hf : P.funcs[f]? = some fn) (h1 : (fn.name == "runtime.NumGoroutine") = false) (h2 : fn.body.isNone = false) (args : Array Value) (w : World) : (callFunc f args).run P w = .ok (.enter f args) w := by
  have h1' : ¬fn.name = "runtime.NumGoroutine" := by simpa using h1
  have h2' : ¬fn.body = none := fun e => by rw [e] at h2; cases h2
  unfold callFunc
  simp [run_program, Sem.run_bind, hf, h1', h2']
theorem Kin.below {w1 w : World} (h : Used.Kin w1 w) (o : Go.Obj) : Below w.heap.size w (w1.alloc o) :=
  Below.alloc (B := w.heap.size) ⟨h.1.2.1, h.2, h.1.2.2, by rw [h.1.1]; exact Nat.le_refl _, fun k _ => by rw [h.1.1]⟩ (by rw [h.1.1]; exact Nat.le_refl _) o

theorem lo_usedM (args : List Value) : Loc (usedM args) := by
  unfold usedM
  split
  · refine lo_bind (lo_rdV _) fun x => ?_
    split
    · refine lo_bind (lo_rdV _) fun y => ?_
      split
      · refine lo_bind (lo_mapAt _) fun p => lo_chk _ (lo_bind (lo_filesLen _) fun _ => lo_fI _ fun _ => lo_pure _)
      · exact lo_fail
    · exact lo_fail
  · exact lo_fail
theorem orc_used : OrcOK Tryz.prog 174 usedM where
  loc := lo_usedM
  ok := by
    intro w0 w r args args' s out s' e hr hb hfr ha
    unfold usedM at e
    split at e
    · rename_i a
      obtain ⟨p', l', rfl, q1, q2⟩ := ha.inv
      obtain ⟨a', rfl, qa⟩ := q1.ptr_inv
      have := q2.inv_nil
      subst this
      rcases bind_rOf e with ⟨x, s1, e1, e2⟩ | ⟨c, e1, _⟩
      case inr => exact ((np_rdV _).no _ _ _ e1).elim
      obtain ⟨x', c1, v1, m1⟩ := rdV_ok e1 hr qa
      split at e2
      · rcases bind_rOf e2 with ⟨y, s2, e3, e4⟩ | ⟨c, e3, _⟩
        case inr => exact ((np_rdV _).no _ _ _ e3).elim
        obtain ⟨b, o, b', d, rfl, rfl, hbk⟩ := qa
        obtain ⟨y', c2, v2, m2⟩ := rdV_ok (a' := ⟨b', o + d + 1, none⟩) e3 (by rw [m1.1]; exact hr) ⟨b, o + 1, b', d, rfl, by congr 1; omega, hbk⟩
        have hx' := v1.eq_of_plain rfl
        subst hx'
        split at e4
        · rename_i l
          rcases v2.map_inv with ⟨k, _⟩ | ⟨l0, lm, dm, k1, k2, hlb⟩
          · cases k
          cases k1
          subst k2
          rcases bind_rOf e4 with ⟨p, s3, e5, e6⟩ | ⟨c, e5, _⟩
          case inr => exact ((np_mapAt _).no _ _ _ e5).elim
          obtain ⟨g1, g2⟩ := mapAt_some e5
          have m12 := m1.trans m2
          obtain ⟨es', h1, h2⟩ := hr.mapObj (by rw [← m12.1]; exact g1) hlb
          cases hbo : bornsOk p.1 0 p.2 with
          | false => rw [hbo] at e6; exact (rOf_none e6).elim
          | true =>
            rw [hbo] at e6
            rcases bind_rOf (show M.bind (filesLen p.1) (fun n => fI (wrap64 n) fun n => M.pure (Value.int .i64 n)) s3 = rOf out s' from e6) with ⟨n, s4, e7, e8⟩ | ⟨c, e7, _⟩
            case inr => exact ((np_filesLen _).no _ _ _ e7).elim
            have m3 := m12.trans g2
            obtain ⟨f1, f2, f3⟩ := filesLen_ok e7 (by rw [m3.1]; exact hr) h2
            rw [fI_eq] at e8
            obtain ⟨rfl, rfl⟩ := rOf_inl (show R.some (Value.int .i64 (wrap64 n)) s4 = rOf out s' from e8)
            have m4 := m3.trans f3
            refine ⟨fun w => call_enters Tryz.func174 (by kernel_rfl) (by kernel_rfl) _ w, fun c cs => ?_⟩
            have hlt : ∀ x ∈ es'.toList, x.born < p.2 := fun x hx => by
              have hm : x.born ∈ es'.toList.map (·.born) := List.mem_map_of_mem hx
              rw [h2.borns] at hm
              obtain ⟨y, hy, he⟩ := List.mem_map.1 hm
              have he : y.born = x.born := he
              rw [← he]
              exact (bornsOk_lt hbo y hy).2
            have hnd : (es'.toList.map (·.born)).Nodup := by rw [h2.borns]; exact bornsOk_nodup hbo
            obtain ⟨e, w', fr, ⟨rfl, w1, seen, hk, rfl⟩, hs, _, hl⟩ := Used.used_walk b' (o + d) lm es' p.2 w c1 c2 h1 ⟨hlt, hnd⟩ f1 (c :: cs)
            exact ⟨_, r, .of_rel m4.2.1 (by rw [m4.1]; exact hr.beyond (Kin.below hk _)), m4.2.2.1, m4.2.2.2, _, by rw [f2, ← wrap64_eq]; exact .of_plain rfl, hs.trans (.one (step_leave_returned hl))⟩
        · exact (rOf_none e4).elim
      · exact (rOf_none e2).elim
    · exact (rOf_none e).elim
end
end Go.Proofs.YtapojfiplajfaaaGreatDoor.Am
