/- New rows: bytes of a string; clear. -/
import Derived.Test.YtacpigichlicnaaGreatDoorAmApp5
import Derived.Test.YtacpigichlicnaaGreatDoorAmObj
import Derived.Lib.ConvBytes
namespace Go.Proofs.YtacpigichlicnaaGreatDoor.Am
open Go.RowKit

theorem fBs_eq {β : Type} : ∀ (l : List UInt8) (K : List Value → β), fBs l K = K (bytesV l)
  | [], K => rfl
  | b :: l, K => by
    have h0 : fBs (b :: l) K = fN b.toNat fun n => fBs l fun vs => K (.int .u8 (.ofNat n) :: vs) := rfl
    rw [h0, fN_eq, fBs_eq l]
    rfl
section
variable {E : Env} {w0 w : World} {r : Inj} {t : Nat}
theorem bytesV_plain (l : List UInt8) : ∀ v ∈ bytesV l, plain v = true := fun v hv => by
  obtain ⟨b, _, rfl⟩ := List.mem_map.1 hv
  rfl
theorem strBs_ok {b : ByteArray} {v : Value} {s s' : St} {e : TypeId} (h : strBs b.data.toList s = .some v s') (hr : Rel w0 r s.mem w) (hf : Fresh r s.next s'.next) :
    ∃ v' r', v' = .slice (some ⟨w.heap.size, 0, none⟩) b.size (grownCap w b.size 0 e) ∧ Goes w0 r s s' r' (Lib.bytesWorld w e b) ∧ VR r' v v' ∧ s'.lim = s.lim ∧ s'.cx = s.cx := by
  unfold strBs at h
  rw [fBs_eq, fN_eq] at h
  unfold rowN at h
  obtain ⟨hlt, h⟩ := chk_some h
  obtain ⟨bl, s1, e1, h⟩ := bind_some h
  obtain ⟨u, s2, e2, h⟩ := bind_some h
  have hlen : (bytesV b.data.toList).length = b.size := by
    show (List.map _ _).length = _
    rw [List.length_map]
    exact Array.length_toList
  have hge : b.size ≤ grownCap w b.size 0 e := grownCap_ge _ _ _ _
  have hr' : Rel w0 r s.mem (Lib.bytesWorld w e b) := hr.beyond ⟨rfl, rfl, rfl, by rw [Lib.bytesWorld_size]; exact Nat.le_succ _, fun k hk => Lib.bytesWorld_at_old w e b k hk⟩
  have hcs : (Lib.bytesCells w e b).size = grownCap w b.size 0 e := by
    show (Array.map _ _ ++ Array.replicate _ _).size = _
    rw [Array.size_append, Array.size_map, Array.size_replicate]
    show b.size + _ = _
    omega
  have cellat : ∀ j, (Lib.bytesWorld w e b).cell? ⟨w.heap.size, 0 + j, none⟩ = (Lib.bytesCells w e b)[j]? := fun j => by
    rw [Nat.zero_add]
    simp [World.cell?, Lib.bytesWorld_at_new]
  obtain ⟨r', k1, k2, k3, k4⟩ := finIn (need := (bytesV b.data.toList).length) (size := 1) (cap' := grownCap w b.size 0 e) (bb := w.heap.size) (o := 0) (vs' := bytesV b.data.toList) hr' e1 e2 h hf (plain_VRs (bytesV_plain _)) (by rw [Nat.mul_one]) (by decide) (by decide) (blt_lt hlt)
    (by rw [hlen]; exact hge) hr.below.size (by rw [Lib.bytesWorld_size]; exact Nat.lt_succ_self _)
    (fun i x hx => by
      have hi : i < (bytesV b.data.toList).length := (List.getElem?_eq_some_iff.1 hx).1
      rw [cellat i]
      have h1 : (Lib.bytesCells w e b)[i]? = (b.data.map fun b => Value.int .u8 b.toNat)[i]? := Array.getElem?_append_left (by rw [Array.size_map]; rw [hlen] at hi; exact hi)
      rw [h1, ← hx]
      show _ = (List.map _ _)[i]?
      rw [List.getElem?_map, Array.getElem?_map]
      simp)
    (fun j hj => by
      rw [Nat.mul_one] at hj
      have hj' : j < (Lib.bytesCells w e b).size := by rw [hcs]; exact hj
      refine ⟨(Lib.bytesCells w e b)[j], by rw [cellat j]; exact Array.getElem?_eq_getElem hj', ?_⟩
      rw [Nat.zero_add]
      simp [World.frozen?, Lib.bytesWorld_at_new]
      omega)
    (fun loc b v d e1 e2 => absurd (hr.dom _ _ _ e2).2 (Nat.lt_irrefl _))
    (fun t2 sz k2 e1 e2 hk => by
      obtain ⟨k, g1, _, _, g2, _⟩ := hr.tok _ _ e1
      rw [g1] at e2
      cases e2
      rw [hk] at g2
      exact absurd g2 (Nat.lt_irrefl _))
  rw [hlen] at k2
  exact ⟨_, r', rfl, k1, k2, k3, k4⟩
theorem kConvB_ok {d : Nat} {x x' v : Value} {s s' : St} (he : EnvTy E) (h : kConvB E t d x s = .some v s') (hr : Rel w0 r s.mem w) (hf : Fresh r s.next s'.next) (hx : VR r x x') : Yields E w0 r s s' v w (convert t d x') := by
  unfold kConvB at h
  split at h
  · rename_i b
    unfold convStr at h
    obtain ⟨is, s1, h1, h2⟩ := bind_some h
    obtain ⟨his, rfl⟩ := ti_some h1 he
    obtain ⟨id, s1, h3, h4⟩ := bind_some h2
    obtain ⟨hid, rfl⟩ := ti_some h3 he
    generalize hu2 : id.u = u2 at h4
    split at h4
    · rename_i e
      obtain ⟨ie, s1, h5, h6⟩ := bind_some h4
      obtain ⟨hie, rfl⟩ := ti_some h5 he
      generalize hu3 : ie.u = u3 at h6
      split at h6
      · have e1 := his.und
        have e2 := hid.und
        have e3 := hie.und
        rw [hu2] at e2; rw [hu3] at e3
        obtain ⟨v', r', rfl, g1, g2, g3, g4⟩ := strBs_ok (e := e) h6 hr hf
        cases hx
        exact ⟨_, _, r', Lib.run_convert_string_bytes w t d e b e1 e2 e3, g1, g2, g3, g4⟩
      · cases h6
    · exact kConv_ok he h4 hr hx
  · exact kConv_ok he h hr hx
theorem kClear_ok {x x' v : Value} {s s' : St} {ts : Array TypeId} {ty : TypeId} (hts : ts[0]? = some t) (he : EnvTy E) (h : kClear E t x s = .some v s') (hr : Rel w0 r s.mem w) (hx : VR r x x') :
    Yields E w0 r s s' v w (Builtin.clear_ ts ty #[x']) := by
  obtain ⟨i, s1, h1, h2⟩ := bind_some h
  obtain ⟨hi, rfl⟩ := ti_some h1 he
  have hund := hi.run_und (w := w)
  generalize i.u = u at h2 hund
  split at h2
  · rename_i e a n c
    obtain ⟨ie, s1, h3, h4⟩ := bind_some h2
    obtain ⟨hie, rfl⟩ := ti_some h3 he
    obtain ⟨hck, h5⟩ := chk_some h4
    rw [Bool.and_eq_true] at hck
    obtain ⟨u1, s2, h6, h7⟩ := bind_some h5
    obtain ⟨rfl, rfl⟩ := pure_some h7
    obtain ⟨z, hzz, q5⟩ := hie.run_zero (w := w)
    have hzs : z.cells.size = ie.size := by rw [← Array.length_toList, q5, hie.len]
    have hzr : (Builtin.zeroCells z.cells n).toList = rep n ie.zero := by
      rw [← q5]
      exact rep_eq z.cells n (by rw [hzs]; exact blt_lt hck.1)
    rcases hx.sl_inv with ⟨a2, c2, rfl, ha2, hc, _⟩ | ⟨rfl, _, _, a2, c2, rfl⟩
    · obtain ⟨w', k1, k2, k3, k4, k5⟩ := wrL_ok (P := E.P) (rep n ie.zero) (rep n ie.zero) 0 h6 hr (by simpa [Addr.add] using ha2) (plain_VRs (rep_VRs hie.pl n))
      by_cases h0 : n = 0
      · subst h0
        obtain ⟨_, rfl⟩ := pure_some (show M.pure () s = .some u1 s2 from h6)
        exact .pure (v' := undef) (by simp [Builtin.clear_, hts, hund, undef]) hr .undef
      · refine ⟨undef, w', r, ?_, .of_rel k3 k2, .undef, k4, k5⟩
        obtain ⟨m, rfl⟩ := Nat.exists_eq_succ_of_ne_zero h0
        rw [← hzr] at k1
        simp [Builtin.clear_, hts, hund, hzz, undef]
        simp [k1]
    · obtain ⟨_, rfl⟩ := pure_some (show M.pure () s = .some u1 s2 from h6)
      exact .pure (v' := undef) (by simp [Builtin.clear_, hts, hund, undef]) hr .undef
  · obtain ⟨rfl, rfl⟩ := pure_some h2
    cases hx
    exact .pure (v' := undef) (by simp [Builtin.clear_, hts, hund, undef]) hr .undef
  · cases h2
end
end Go.Proofs.YtacpigichlicnaaGreatDoor.Am
