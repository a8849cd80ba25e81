/- New rows: bytes of a string; clear. -/
import Derived.Test.YtkgncjlgmnbfoaaGreatDoorAmApp5
import Derived.Test.YtkgncjlgmnbfoaaGreatDoorAmObj
import Derived.Lib.ConvBytes
namespace Go.Proofs.YtkgncjlgmnbfoaaGreatDoor.Am
open Go.RowKit

theorem fBs_eq {β : Type} : ∀ (l : List UInt8) (K : List Value → β), fBs l K = K (bytesV l)
  | [], K => rfl
  | b :: l, K => by
    have h0 : fBs (b :: l) K = fN b.toNat fun n => fBs l fun vs => K (.int .u8 (.ofNat n) :: vs) := rfl
    rw [h0, fN_eq, fBs_eq l]
    rfl
section
variable {E : Env} {w0 w : World} {r : Inj} {t : Nat}
theorem bytesV_plain (l : List UInt8) : ∀ v ∈ bytesV l, plain v = true := fun v hv => by
  obtain ⟨b, _, rfl⟩ := List.mem_map.1 hv
  rfl
theorem strBs_ok {b : ByteArray} {v : Value} {s s' : St} {e : TypeId} (h : strBs b.data.toList s = .some v s') (hr : Rel w0 r s.mem w) (hf : Fresh r s.next s'.next) :
    ∃ v' r', v' = .slice (some ⟨w.heap.size, 0, none⟩) b.size (grownCap w b.size 0 e) ∧ Goes w0 r s s' r' (Lib.bytesWorld w e b) ∧ VR r' v v' ∧ s'.lim = s.lim ∧ s'.cx = s.cx := by
  unfold strBs at h
  rw [fBs_eq, fN_eq] at h
  unfold rowN at h
  obtain ⟨hlt, h⟩ := chk_some h
  obtain ⟨bl, s1, e1, h⟩ := bind_some h
  obtain ⟨u, s2, e2, h⟩ := bind_some h
  have hlen : (bytesV b.data.toList).length = b.size := by
    show (List.map _ _).length = _
    rw [List.length_map]
    exact Array.length_toList
  have hge : b.size ≤ grownCap w b.size 0 e := grownCap_ge _ _ _ _
  have hr' : Rel w0 r s.mem (Lib.bytesWorld w e b) := hr.beyond ⟨rfl, rfl, rfl, by rw [Lib.bytesWorld_size]; exact Nat.le_succ _, fun k hk => Lib.bytesWorld_at_old w e b k hk⟩
  have hcs : (Lib.bytesCells w e b).size = grownCap w b.size 0 e := by
    show (Array.map _ _ ++ Array.replicate _ _).size = _
    rw [Array.size_append, Array.size_map, Array.size_replicate]
    show b.size + _ = _
    omega
  have cellat : ∀ j, (Lib.bytesWorld w e b).cell? ⟨w.heap.size, 0 + j, none⟩ = (Lib.bytesCells w e b)[j]? := fun j => by
    rw [Nat.zero_add]
    simp [World.cell?, Lib.bytesWorld_at_new]
  obtain ⟨r', k1, k2, k3, k4⟩ := finIn (need := (bytesV b.data.toList).length) (size := 1) (cap' := grownCap w b.size 0 e) (bb := w.heap.size) (o := 0) (vs' := bytesV b.data.toList) hr' e1 e2 h hf (plain_VRs (bytesV_plain _)) (by rw [Nat.mul_one]) (by decide) (by decide) (blt_lt hlt)
    (by rw [hlen]; exact hge) hr.below.size (by rw [Lib.bytesWorld_size]; exact Nat.lt_succ_self _)
    (fun i x hx => by
      have hi : i < (bytesV b.data.toList).length := (List.getElem?_eq_some_iff.1 hx).1
      rw [cellat i]
      have h1 : (Lib.bytesCells w e b)[i]? = (b.data.map fun b => Value.int .u8 b.toNat)[i]? := Array.getElem?_append_left (by rw [Array.size_map]; rw [hlen] at hi; exact hi)
      rw [h1, ← hx]
      show _ = (List.map _ _)[i]?
      rw [List.getElem?_map, Array.getElem?_map]
      simp)
    (fun j hj => by
      rw [Nat.mul_one] at hj
      have hj' : j < (Lib.bytesCells w e b).size := by rw [hcs]; exact hj
      refine ⟨(Lib.bytesCells w e b)[j], by rw [cellat j]; exact Array.getElem?_eq_getElem hj', ?_⟩
      rw [Nat.zero_add]
      simp [World.frozen?, Lib.bytesWorld_at_new]
      omega)
    (fun loc b v d e1 e2 => absurd (hr.dom _ _ _ e2).2 (Nat.lt_irrefl _))
    (fun t2 sz k2 e1 e2 hk => by
      obtain ⟨k, g1, _, _, g2, _⟩ := hr.tok _ _ e1
      rw [g1] at e2
      cases e2
      rw [hk] at g2
      exact absurd g2 (Nat.lt_irrefl _))
  rw [hlen] at k2
  exact ⟨_, r', rfl, k1, k2, k3, k4⟩
/-- What a mark behind a block's last cell changes: nothing that is known. -/
theorem Rel.refreeze {mem : T Cell} (h : Rel w0 r mem w) {b' n : Nat} (hlo : w0.heap.size ≤ b') (hsh : SzW w b' n) (hfr : ∀ j, j < n → w.frozen? ⟨b', j, none⟩ = false) : Rel w0 r mem (w.freeze ⟨b', n, none⟩ 1) := by
  obtain ⟨c, e, lo, hi, hb, hcn, hle⟩ := hsh
  have hw : w.freeze ⟨b', n, none⟩ 1 = { w with heap := w.heap.modify b' fun
      | .cells c elem (lo, hi) => .cells c elem (if lo == hi then (n, n + 1) else (min lo n, max hi (n + 1)))
      | o => o } := if_neg (by decide)
  have hsz : (w.freeze ⟨b', n, none⟩ 1).heap.size = w.heap.size := by rw [hw]; simp
  have hoth : ∀ k, k ≠ b' → (w.freeze ⟨b', n, none⟩ 1).heap[k]? = w.heap[k]? := fun k hk => by rw [hw]; simp only [Array.getElem?_modify]; rw [if_neg (fun e => hk e.symm)]
  have hself : (w.freeze ⟨b', n, none⟩ 1).heap[b']? = some (.cells c e (if lo == hi then (n, n + 1) else (min lo n, max hi (n + 1)))) := by
    rw [hw]
    simp only [Array.getElem?_modify, if_true, hb]
    rfl
  have hcell : ∀ k o, (w.freeze ⟨b', n, none⟩ 1).cell? ⟨k, o, none⟩ = w.cell? ⟨k, o, none⟩ := fun k o => by
    by_cases hk : k = b'
    · subst hk
      simp only [World.cell?, hself, hb]
    · simp only [World.cell?, hoth k hk]
  have hin : ∀ o v, w.cell? ⟨b', o, none⟩ = some v → o < n := fun o v hv => by
    simp only [World.cell?, hb] at hv
    have := (Array.getElem?_eq_some_iff.1 (by simpa using hv)).1
    omega
  have hfrz : ∀ o, o < n → (w.freeze ⟨b', n, none⟩ 1).frozen? ⟨b', o, none⟩ = false := fun o ho => by
    have hlo : lo = hi ∨ n ≤ lo := by
      by_cases h1 : lo = hi
      · exact .inl h1
      · by_cases h2 : n ≤ lo
        · exact .inr h2
        · have := hfr lo (by omega)
          simp [World.frozen?, hb] at this
          exact .inl (by omega)
    have h3 := hfr o ho
    simp only [World.frozen?, hb] at h3
    simp only [World.frozen?, hself]
    split
    · simp; omega
    · rename_i hne
      have hne' : lo ≠ hi := by simpa using hne
      simp at h3 ⊢
      omega
  have hfz : ∀ k o v, w.cell? ⟨k, o, none⟩ = some v → w.frozen? ⟨k, o, none⟩ = false → (w.freeze ⟨b', n, none⟩ 1).frozen? ⟨k, o, none⟩ = false := fun k o v hv hf => by
    by_cases hk : k = b'
    · subst hk
      exact hfrz o (hin o v hv)
    · simp only [World.frozen?, hoth k hk] at hf ⊢
      exact hf
  have hshp : ∀ k m, SzW w k m → SzW (w.freeze ⟨b', n, none⟩ 1) k m := fun k m q => by
    by_cases hk : k = b'
    · subst hk
      obtain ⟨c2, e2, lo2, hi2, q1, q2, q3⟩ := q
      rw [hb] at q1
      cases q1
      by_cases hl : (lo == hi) = true
      · exact ⟨c, e, n, n + 1, by rw [hself, if_pos hl], q2, by omega⟩
      · exact ⟨c, e, min lo n, max hi (n + 1), by rw [hself, if_neg hl], q2, by omega⟩
    · exact q.heap (hoth k hk)
  refine ⟨h.below.trans ⟨by rw [hw], by rw [hw], by rw [hw], by rw [hsz]; exact Nat.le_refl _, fun k hk => hoth k (by omega)⟩, fun x y z e => by rw [hsz]; exact h.dom x y z e, ?_, h.sep, ?_, h.sepO, ?_, h.sepT, h.known, ?_, h.olds⟩
  · intro loc b v e
    obtain ⟨b2, d2, v2, g1, g2, g3, g4, g5⟩ := h.cell _ _ _ e
    exact ⟨b2, d2, v2, g1, g2, by rw [hcell]; exact g3, g4, hfz _ _ _ g3 g5⟩
  · intro loc o e ht
    obtain ⟨b2, d2, o', g1, g2, g3⟩ := h.obj _ _ e ht
    refine ⟨b2, d2, o', g1, ?_, g3⟩
    rw [hoth]
    · exact g2
    · intro hk
      subst hk
      rw [hb] at g2
      cases g2
      exact g3.cells
  · intro t sz e
    obtain ⟨k, g1, g2, g3, g4, g5, g6⟩ := h.tok _ _ e
    refine ⟨k, g1, g2, g3, by rw [hsz]; exact g4, fun j hj => ?_, g6⟩
    obtain ⟨x, q1, q2⟩ := g5 j hj
    exact ⟨x, by rw [hcell]; exact q1, hfz _ _ _ q1 q2⟩
  · intro l m e
    obtain ⟨p, q⟩ := h.szs l m e
    exact ⟨p, q.to (Inj.le_refl r) fun k _ q2 => hshp _ _ q2⟩
theorem convSS_ok {d n c : Nat} {a : Addr} {x' v : Value} {s s' : St} (he : EnvTy E) (h : convSS E t d a n c s = .some v s') (hr : Rel w0 r s.mem w) (hx : VR r (.slice (some a) n c) x') : Yields E w0 r s s' v w (convert t d x') := by
  unfold convSS at h
  obtain ⟨is, s1, h1, h2⟩ := bind_some h
  obtain ⟨his, rfl⟩ := ti_some h1 he
  obtain ⟨id, s1, h3, h4⟩ := bind_some h2
  obtain ⟨hid, rfl⟩ := ti_some h3 he
  generalize hu : is.u = u at h4
  generalize hu2 : id.u = u2 at h4
  split at h4
  · rename_i e0 e
    obtain ⟨ie, s1, h5, h6⟩ := bind_some h4
    obtain ⟨hie, rfl⟩ := ti_some h5 he
    generalize hu3 : ie.u = u3 at h6
    split at h6
    · obtain ⟨hck, h7⟩ := chk_some h6
      rw [Bool.and_eq_true, Bool.and_eq_true] at hck
      obtain ⟨k1, k2, k3⟩ := hck
      have k1 := Nat.eq_of_beq_eq_true k1
      have k2 := Nat.eq_of_beq_eq_true k2
      have k3 := blt_lt k3
      subst k1
      obtain ⟨q, s1, h8, h9⟩ := bind_some h7
      obtain ⟨z1, z2⟩ := rdC_some h8
      cases q with
      | C b v => cases h9
      | O o =>
        cases o with
        | tok used m =>
          cases used with
          | false => cases h9
          | true =>
            obtain ⟨hm, h10⟩ := chk_some h9
            have hm := Nat.eq_of_beq_eq_true hm
            obtain ⟨l, s2, h11, h12⟩ := bind_some h10
            obtain ⟨rfl, rfl⟩ := pure_some h12
            have hr1 : Rel w0 r s1.mem w := by rw [z2.1]; exact hr
            rcases hx.sl_inv with ⟨a2, c2, rfl, ha2, hc, _⟩ | ⟨rfl, _⟩
            · obtain ⟨l', g1, g2, g3, g4⟩ := rdL_ok _ h11 hr1 ha2
              obtain ⟨b, o, b', dd, rfl, rfl, hblk⟩ := ha2
              simp only at k2
              subst k2
              have z1' : T.get s.mem (b + n) = some (.O (.tok true (1024 + n))) := (show T.get s.mem (b + n) = some (.O (.tok true m)) from z1).trans (congrArg (fun m => some (Cell.O (.tok true m))) hm)
              obtain ⟨_, b2, s3, s4⟩ := hr.szs _ _ z1'
              rw [Nat.add_sub_cancel, hblk] at s3
              cases s3
              have hnew : w0.heap.size ≤ b' := hr.olds.newS _ _ _ _ z1' (by rw [Nat.add_sub_cancel]; exact hblk)
              have hfr : ∀ j, j < n → w.frozen? ⟨b', j, none⟩ = false := fun j hj => by
                obtain ⟨v, m1⟩ := rdL_mem _ h11 j hj
                replace m1 := m1.resolve_right fun q => absurd (hr1.oldLt q hblk) (Nat.not_lt_of_le hnew)
                obtain ⟨b3, d3, v3, _, m2, _, _, m3⟩ := hr1.cell _ _ _ m1
                simp only at m2 m3
                rw [hblk] at m2
                cases m2
                have ej : b + 0 + j - b + 0 = j := by omega
                rw [ej] at m3
                exact m3
              have hrun : (convert t t (.slice (some ⟨b', 0 + 0, none⟩) n c2)).run E.P w = .ok (.slice (some ⟨b', 0 + 0, none⟩) n c2) (w.freeze ⟨b', n, none⟩ 1) := by
                have hee : e0 = e := by
                  have q := his.und.symm.trans hid.und
                  rw [hu, hu2] at q
                  cases q
                  rfl
                subst hee
                have e1 := his.run_und (w := w)
                have e3 := hie.run_und (w := w)
                rw [hu] at e1; rw [hu3] at e3
                have e2 := hid.run_und (w := w)
                rw [hu2] at e2
                obtain ⟨c3, et, lo3, hi3, m1, m2, _⟩ := s4
                have hshape : w.shape? b' = some (et, n) := by unfold World.shape?; rw [m1]; exact congrArg (fun z => some (et, z)) m2
                simp [convert, e1, e3, markStringish, hshape]
              exact ⟨_, _, r, hrun, .of_rel (by rw [g4.2.1, z2.2.1]) (by rw [g4.1, z2.1]; exact hr.refreeze hnew s4 hfr), hx, by rw [g4.2.2.1, z2.2.2.1], by rw [g4.2.2.2, z2.2.2.2]⟩
            · exact absurd k3 (Nat.lt_irrefl 0)
        | _ => cases h9
    · cases h6
  · exact kConv_ok he h4 hr hx
theorem kConvB_ok {d : Nat} {x x' v : Value} {s s' : St} (he : EnvTy E) (h : kConvB E t d x s = .some v s') (hr : Rel w0 r s.mem w) (hf : Fresh r s.next s'.next) (hx : VR r x x') : Yields E w0 r s s' v w (convert t d x') := by
  unfold kConvB at h
  split at h
  · rename_i b
    unfold convStr at h
    obtain ⟨is, s1, h1, h2⟩ := bind_some h
    obtain ⟨his, rfl⟩ := ti_some h1 he
    obtain ⟨id, s1, h3, h4⟩ := bind_some h2
    obtain ⟨hid, rfl⟩ := ti_some h3 he
    generalize hu2 : id.u = u2 at h4
    split at h4
    · rename_i e
      obtain ⟨ie, s1, h5, h6⟩ := bind_some h4
      obtain ⟨hie, rfl⟩ := ti_some h5 he
      generalize hu3 : ie.u = u3 at h6
      split at h6
      · have e1 := his.und
        have e2 := hid.und
        have e3 := hie.und
        rw [hu2] at e2; rw [hu3] at e3
        obtain ⟨v', r', rfl, g1, g2, g3, g4⟩ := strBs_ok (e := e) h6 hr hf
        cases hx
        exact ⟨_, _, r', Lib.run_convert_string_bytes w t d e b e1 e2 e3, g1, g2, g3, g4⟩
      · cases h6
    · exact kConv_ok he h4 hr hx
  · exact convSS_ok he h hr hx
  · exact kConv_ok he h hr hx
theorem kClear_ok {x x' v : Value} {s s' : St} {ts : Array TypeId} {ty : TypeId} (hts : ts[0]? = some t) (he : EnvTy E) (h : kClear E t x s = .some v s') (hr : Rel w0 r s.mem w) (hx : VR r x x') :
    Yields E w0 r s s' v w (Builtin.clear_ ts ty #[x']) := by
  obtain ⟨i, s1, h1, h2⟩ := bind_some h
  obtain ⟨hi, rfl⟩ := ti_some h1 he
  have hund := hi.run_und (w := w)
  generalize i.u = u at h2 hund
  split at h2
  · rename_i e a n c
    obtain ⟨ie, s1, h3, h4⟩ := bind_some h2
    obtain ⟨hie, rfl⟩ := ti_some h3 he
    obtain ⟨hck, h5⟩ := chk_some h4
    rw [Bool.and_eq_true] at hck
    obtain ⟨u1, s2, h6, h7⟩ := bind_some h5
    obtain ⟨rfl, rfl⟩ := pure_some h7
    obtain ⟨z, hzz, q5⟩ := hie.run_zero (w := w)
    have hzs : z.cells.size = ie.size := by rw [← Array.length_toList, q5, hie.len]
    have hzr : (Builtin.zeroCells z.cells n).toList = rep n ie.zero := by
      rw [← q5]
      exact rep_eq z.cells n (by rw [hzs]; exact blt_lt hck.1)
    rcases hx.sl_inv with ⟨a2, c2, rfl, ha2, hc, _⟩ | ⟨rfl, _, _, a2, c2, rfl⟩
    · obtain ⟨w', k1, k2, k3, k4, k5⟩ := wrL_ok (P := E.P) (rep n ie.zero) (rep n ie.zero) 0 h6 hr (by simpa [Addr.add] using ha2) (plain_VRs (rep_VRs hie.pl n))
      by_cases h0 : n = 0
      · subst h0
        obtain ⟨_, rfl⟩ := pure_some (show M.pure () s = .some u1 s2 from h6)
        exact .pure (v' := undef) (by simp [Builtin.clear_, hts, hund, undef]) hr .undef
      · refine ⟨undef, w', r, ?_, .of_rel k3 k2, .undef, k4, k5⟩
        obtain ⟨m, rfl⟩ := Nat.exists_eq_succ_of_ne_zero h0
        rw [← hzr] at k1
        simp [Builtin.clear_, hts, hund, hzz, undef]
        simp [k1]
    · obtain ⟨_, rfl⟩ := pure_some (show M.pure () s = .some u1 s2 from h6)
      exact .pure (v' := undef) (by simp [Builtin.clear_, hts, hund, undef]) hr .undef
  · obtain ⟨rfl, rfl⟩ := pure_some h2
    cases hx
    exact .pure (v' := undef) (by simp [Builtin.clear_, hts, hund, undef]) hr .undef
  · cases h2
end
end Go.Proofs.YtkgncjlgmnbfoaaGreatDoor.Am
