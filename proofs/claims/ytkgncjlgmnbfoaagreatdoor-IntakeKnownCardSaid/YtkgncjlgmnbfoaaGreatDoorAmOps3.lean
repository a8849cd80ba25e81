/- The evaluator's operations, each against the model's own: make, conversions, arithmetic, lengths. -/
import Derived.Test.YtkgncjlgmnbfoaaGreatDoorAmOps2
import Derived.Laws.MakeOwn
namespace Go.Proofs.YtkgncjlgmnbfoaaGreatDoor.Am
open Go.RowKit

theorem semP_run {α : Type} {P : Program} : ∀ {s : Sem α} {a : α} {w : World}, semP P s = some a → s.run P w = .ok a w
  | .pure b, a, w, h => by cases h; rfl
  | .program k, a, w, h => semP_run (s := k P) h
  | .load .., _, _, h | .store .., _, _, h | .new .., _, _, h | .shape .., _, _, h | .freeze .., _, _, h | .frozen .., _, _, h | .getObj .., _, _, h | .setObj .., _, _, h | .choose .., _, _, h | .sys .., _, _, h | .mark .., _, _, h | .halt .., _, _, h => by cases h

section
variable {E : Env} {w0 w : World} {r : Inj} {t : Nat}

theorem plain_VRs_eq {l l' : List Value} (h : VRs r l l') (hp : l.all plain = true) : l' = l := by
  apply List.ext_getElem?
  intro i
  by_cases hi : i < l.length
  · have hi' : i < l'.length := by rw [← h.1]; exact hi
    rw [List.getElem?_eq_getElem hi, List.getElem?_eq_getElem hi']
    have := h.2 i _ _ (List.getElem?_eq_getElem hi) (List.getElem?_eq_getElem hi')
    rw [this.eq_of_plain (List.all_eq_true.1 hp _ (List.getElem_mem hi))]
  · rw [List.getElem?_eq_none (by rw [← h.1]; omega), List.getElem?_eq_none (by omega)]
/-- A value that the program's own reckoning gives: if it has no address. -/
theorem onP_ok {m : Sem Value} {s s' : St} {v : Value} (h : M.on (semP E.P m) pV s = .some v s') : s = s' ∧ m.run E.P w = .ok v w ∧ plain v = true := by
  obtain ⟨a, h1, h2⟩ := on_some h
  obtain ⟨rfl, rfl, hp⟩ := pV_some h2
  exact ⟨rfl, semP_run h1, hp⟩

theorem aBuildS_ok {s s' : St} {n : Nat} {ps : List (Nat × Value)} {ps' : Array (Nat × Value)} {v : Value} (he : EnvTy E) (h : aBuildS E t n ps s = .some v s') (hr : Rel w0 r s.mem w) (hf : Fresh r s.next s'.next) (hp : PRs r ps ps'.toList) :
    Yields E w0 r s s' v w (Instr.buildSlice t n ps') := by
  obtain ⟨i, s1, h3, h4⟩ := bind_some h
  obtain ⟨hi, rfl⟩ := ti_some h3 he
  generalize hu : i.u = u at h4
  have hund := hi.run_und (w := w)
  rw [hu] at hund
  cases u with
  | slice e =>
    obtain ⟨ie, s1, h9, h10⟩ := bind_some h4
    obtain ⟨hie, rfl⟩ := ti_some h9 he
    obtain ⟨hb, h10⟩ := chk_some h10
    obtain ⟨res, s1, h5, h6⟩ := bind_some h10
    obtain ⟨h7, rfl⟩ := ofOpt_some h5
    obtain ⟨b, s2, h8, h11⟩ := bind_some h6
    obtain ⟨u0, s3, h12, h13⟩ := bind_some h11
    obtain ⟨rfl, rfl⟩ := pure_some h13
    obtain ⟨y1, y2, y3, y4⟩ := wrC_some h12
    rw [Bool.and_eq_true] at hb
    have hsz := Nat.le_of_ble_eq_true hb.1
    obtain ⟨z, g1, g2⟩ := hie.run_zero (w := w)
    have hzs : z.cells.size = ie.size := by rw [← Array.length_toList, g2, hie.len]
    -- the zeros
    have hz1 : (madeCells z.cells (n * ie.size)).toList = rep n ie.zero := by
      by_cases h0 : n * ie.size = 0
      · rw [h0]
        have : (rep n ie.zero).length = 0 := by rw [rep_length, hie.len, h0]
        rw [List.eq_nil_of_length_eq_zero this]; simp [madeCells]
      · have hpos : 0 < z.cells.size := by rw [hzs]; exact Nat.pos_of_ne_zero fun q => h0 (by rw [q, Nat.mul_zero])
        rw [← hzs, ← g2]; exact rep_eq _ _ hpos
    have hzr : VRs r (rep n ie.zero) (madeCells z.cells (n * ie.size)).toList := by rw [hz1]; exact plain_VRs (rep_VRs hie.pl n)
    obtain ⟨res', k1, k2⟩ := fill_ok (place' := fun k => some (k * ie.size, ie.size)) (fun _ _ h => h) ps ps'.toList _ _ _ h7 hp hzr
    obtain ⟨q1, q2, q3, q4, q5⟩ := newL_ok h8 hr (fun x p1 p2 => hf x p1 (by rw [y2]; exact p2)) k2 (c := res') e (fun i v e => by simpa using e)
    subst q1
    have hsz2 : SzB (r.add s.next (w.heap.size, 0)) (w.alloc (.cells res' e)) s.next res.length := by
      have hl2 : res.length = res'.size := by rw [k2.1, Array.length_toList]
      have : (w.alloc (.cells res' e)).heap[w.heap.size]? = some (.cells res' e) := by
        show (w.heap.push (.cells res' e))[w.heap.size]? = _
        simp
      exact ⟨w.heap.size, Inj.add_self _ _ _, res', e, 0, 0, this, hl2.symm, Nat.le_refl _⟩
    have hrel3 : Rel w0 (r.add s.next (w.heap.size, 0)) s3.mem (w.alloc (.cells res' e)) := by
      rw [y1]
      exact q2.rel.markSz hsz2 fun b' d q => by
        rw [Inj.add_self] at q
        cases q
        exact hr.below.size
    replace q2 := q2.trans (.of_rel y2 hrel3)
    replace q4 := y3.trans q4
    replace q5 := y4.trans q5
    refine ⟨.slice (some ⟨w.heap.size, 0, none⟩) n n, _, _, ?_, q2, ?_, q4, q5⟩
    · have : ¬ (n * ie.size > 2 ^ 24) := by omega
      unfold madeCells at k1
      by_cases h0 : n * ie.size = 0
      · have e0 : ∀ f : Nat → Value, Array.map f (Array.range 0) = #[] := fun f => Array.eq_empty_of_size_eq_zero (by rw [Array.size_map, Array.size_range])
        rw [h0, e0] at k1
        have k3 : ∀ f : Nat → Value, Instr.fill (fun k => some (k * ie.size, ie.size)) (Array.map f (Array.range 0)) ps'.toList = some res' := fun f => by rw [e0 f]; exact k1
        simp [Instr.buildSlice, hund, hie.run_size, h0, k3, run_newRow]
      · have h2 : ¬ (16777216 < n * ie.size) := by omega
        simp [Instr.buildSlice, hund, hie.run_size, h0, h2, g1, k1, run_newRow]
    · have hn : n < capU := blt_lt hb.2
      exact .slice q3 (.exact hn) (by rw [Nat.mod_eq_of_lt hn]; exact Nat.le_refl _)
  | _ => cases h4
theorem kMkSl_ok {s s' : St} {l l' c c' v : Value} (he : EnvTy E) (h : kMkSl E t l c s = .some v s') (hr : Rel w0 r s.mem w) (hf : Fresh r s.next s'.next) (hl : VR r l l') (hc : VR r c c') : Yields E w0 r s s' v w (Instr.makeSlice t l' c') := by
  obtain ⟨i, s1, h3, h4⟩ := bind_some h
  obtain ⟨hi, rfl⟩ := ti_some h3 he
  obtain ⟨l, s1, h5, h6⟩ := bind_some h4
  obtain ⟨⟨k1, rfl⟩, rfl⟩ := asN_some h5
  obtain ⟨c, s1, h7, h8⟩ := bind_some h6
  obtain ⟨⟨k2, rfl⟩, rfl⟩ := asN_some h7
  have e1 := hl.int_inv
  have e2 := hc.int_inv
  subst e1; subst e2
  generalize hu : i.u = u at h8
  have hund := hi.run_und (w := w)
  rw [hu] at hund
  unfold mkSl at h8
  cases u with
  | slice e =>
    obtain ⟨ie, s1, h9, h10⟩ := bind_some h8
    obtain ⟨hie, rfl⟩ := ti_some h9 he
    obtain ⟨hb, h10⟩ := chk_some h10
    obtain ⟨b, s2, h11, h12⟩ := bind_some h10
    obtain ⟨rfl, rfl⟩ := pure_some h12
    rw [Bool.and_eq_true] at hb
    have hlc := Nat.le_of_ble_eq_true hb.1
    have hby := Nat.le_of_ble_eq_true hb.2
    obtain ⟨n, i1, i2, i3, z, i4, i5⟩ := hie.info
    have hzs : z.cells.size = ie.size := by rw [← Array.length_toList, i5, hie.len]
    have hc1 : c * ie.bytes ≤ 16777216 := by rw [Nat.mul_add] at hby; omega
    have hc2 : c ≤ 16777216 := by rw [Nat.mul_add] at hby; omega
    have hz1 : (madeCells z.cells (c * ie.size)).toList = rep c ie.zero := by
      by_cases h0 : c * ie.size = 0
      · rw [h0]
        have : (rep c ie.zero).length = 0 := by rw [rep_length, hie.len, h0]
        rw [List.eq_nil_of_length_eq_zero this]; simp [madeCells]
      · have hpos : 0 < z.cells.size := by rw [hzs]; exact Nat.pos_of_ne_zero fun q => h0 (by rw [q, Nat.mul_zero])
        rw [← hzs, ← i5]; exact rep_eq _ _ hpos
    obtain ⟨q1, q2, q3, q4, q5⟩ := newL_ok h11 hr hf (plain_VRs (rep_VRs hie.pl c)) (c := madeCells z.cells (c * ie.size)) e (fun i v e => by rw [← hz1] at e; simpa using e)
    subst q1
    refine ⟨.slice (some ⟨w.heap.size, 0, none⟩) l c, _, _, ?_, q2, ?_, q4, q5⟩
    · have n1 : (n.bytes : Int) * c ≤ 281474976710656 := by
        rw [i3]
        have : (ie.bytes : Int) * c = ((c * ie.bytes : Nat) : Int) := by rw [Int.natCast_mul, Int.mul_comm]
        omega
      have := run_make (P := E.P) (w := w) t e n z (by rw [← hu]; exact hi.und) i1 i4 k1 k2 l c (by omega) (by omega) n1 (by omega)
      simpa [i2] using this
    · have hn : c < capU := by unfold capU; omega
      exact .slice q3 (.exact hn) (by rw [Nat.mod_eq_of_lt hn]; exact hlc)
  | _ => cases h8
end
end Go.Proofs.YtkgncjlgmnbfoaaGreatDoor.Am
