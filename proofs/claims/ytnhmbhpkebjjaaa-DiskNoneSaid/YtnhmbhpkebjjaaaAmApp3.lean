/- The evaluator's append against the model's own: what is appended, into the room that is there. -/
import Derived.Test.YtnhmbhpkebjjaaaAmApp2
namespace Go.Proofs.Ytnhmbhpkebjjaaa.Am
open Go.RowKit

section
variable {E : Env} {w0 w : World} {r : Inj} {t : Nat}
theorem srcL_ok2 {size k : Nat} {x x' : Value} {l : List Value} {s s' : St} (h : srcL size x k s = .some l s') (hr : Rel w0 r s.mem w) (hx : VR r x x') (hk : ∀ b o c, x = .slice b o c → k ≤ o) :
    ∃ l' : List Value, (∀ w1 : World, (∀ a, w1.cell? a = w.cell? a) → (Builtin.firstCells size k x').run E.P w1 = .ok l'.toArray w1) ∧ VRs r l l' ∧ Same s s' := by
  unfold srcL at h
  split at h
  · rename_i a n c
    rcases hx.sl_inv with ⟨a2, c2, rfl, ha2, hc, _⟩ | ⟨rfl, _, _, a2, c2, rfl⟩
    · obtain ⟨l', g1, g2, g3, g4⟩ := rdL_ok _ h hr ha2
      refine ⟨l', fun w1 hw => ?_, g3, g4⟩
      have hrun := run_loadCells_list (P := E.P) w1 a2 l' (fun j v e => by rw [hw]; exact g2 j v e)
      rw [g1] at hrun
      simpa [Builtin.firstCells] using hrun
    · have hk0 : k = 0 := Nat.le_zero.1 (hk _ _ _ rfl)
      subst hk0
      rw [Nat.zero_mul] at h
      obtain ⟨rfl, rfl⟩ := pure_some h
      exact ⟨[], fun w1 _ => by simp [Builtin.firstCells, loadCells, loadCellsFrom], .nil, .refl _⟩
  · obtain ⟨rfl, rfl⟩ := pure_some h
    cases hx
    exact ⟨[], fun w1 _ => by simp [Builtin.firstCells], .nil, .refl _⟩
  · rename_i st
    obtain ⟨rfl, rfl⟩ := pure_some h
    cases hx
    refine ⟨bytesV (st.data.toList.take k), fun w1 _ => ?_, bytesV_VRs _, .refl _⟩
    simp only [Builtin.firstCells, Sem.run_pure]
    congr 1
    apply Array.ext'
    simp [bytesV, Array.toList_extract]
  · cases h
theorem appN_some {zs : Bool} {by' : Nat} {x : Value} {n : Nat} {s s1 : St} (h : appN zs by' x s = .some n s1) :
    s = s1 ∧ ((zs = false ∧ ((∃ b c, x = .slice b n c) ∨ ∃ st, x = .string st ∧ n = st.size)) ∨ (zs = true ∧ x = .int .i64 n ∧ n * (by' + 1) ≤ 16777216)) := by
  unfold appN at h
  split at h
  · obtain ⟨rfl, rfl⟩ := pure_some h
    exact ⟨rfl, .inl ⟨rfl, .inl ⟨_, _, rfl⟩⟩⟩
  · obtain ⟨rfl, rfl⟩ := pure_some h
    exact ⟨rfl, .inl ⟨rfl, .inr ⟨_, rfl, rfl⟩⟩⟩
  · obtain ⟨h3, h4⟩ := chk_some h
    obtain ⟨rfl, rfl⟩ := pure_some h4
    exact ⟨rfl, .inr ⟨rfl, rfl, Nat.le_of_ble_eq_true h3⟩⟩
  · cases h
theorem src_ok {e : Nat} {ie : TI} {u2 : TypeDesc} {x x' : Value} {n : Nat} {news : List Value} {s s1 s2 : St} (h1 : appN (isIntD u2) ie.bytes x s = .some n s1) (h2 : appL (isIntD u2) ie x n s1 = .some news s2) (hr : Rel w0 r s.mem w) (hx : VR r x x')
    (hie : TyOK E.P e ie) {z : Value} (hz : z.cells.toList = ie.zero) : Same s s2 ∧ (n = 0 → news = []) ∧ ∃ news', VRs r news news' ∧ SrcOK E.P w u2 x' n ie.size ie.bytes z news' := by
  unfold appL at h2
  rw [if_eq] at h2
  obtain ⟨rfl, ⟨hq', hx1⟩ | ⟨hq, rfl, h5⟩⟩ := appN_some h1
  · rw [hq', if_neg (by simp)] at h2
    have hk : ∀ b o c, x = .slice b o c → n ≤ o := by
      intro b o c e1
      rcases hx1 with ⟨b1, c1, e2⟩ | ⟨st, e2, _⟩
      · rw [e2] at e1; cases e1; exact Nat.le_refl _
      · rw [e2] at e1; cases e1
    obtain ⟨l', g1, g2, g3⟩ := srcL_ok2 (E := E) h2 hr hx hk
    refine ⟨g3, fun h => by rw [h] at h2; exact (srcL_zero h2).1, l', g2, .inl ⟨hq', ?_, ?_⟩⟩
    · rcases hx1 with ⟨b1, c1, rfl⟩ | ⟨st, rfl, rfl⟩
      · cases hx <;> simp [Builtin.lenOf]
      · cases hx
        simp [Builtin.lenOf]
    · intro w1 hw1
      refine g1 w1 fun a => ?_
      rcases hw1 with rfl | rfl
      · rfl
      · simp
  · rw [hq, if_pos rfl] at h2
    obtain ⟨rfl, rfl⟩ := pure_some h2
    have h6 : n * (ie.bytes + 1) = n * ie.bytes + n := Nat.mul_succ _ _
    cases hx
    refine ⟨.refl _, fun h => by rw [h]; rfl, rep n ie.zero, plain_VRs (rep_VRs hie.pl n), .inr ⟨hq, rfl, by omega, by omega, ?_⟩⟩
    have hzs : z.cells.size = ie.size := by rw [← Array.length_toList, hz, hie.len]
    by_cases h0 : n * ie.size = 0
    · exact .inl ⟨h0, List.eq_nil_of_length_eq_zero (by rw [rep_length, hie.len, h0])⟩
    · refine .inr ⟨h0, ?_⟩
      apply Array.ext'
      have hpos : 0 < z.cells.size := by rw [hzs]; exact Nat.pos_of_ne_zero fun q => h0 (by rw [q, Nat.mul_zero])
      rw [← hz]
      exact (rep_eq z.cells n hpos).symm

theorem letGo_some : ∀ (n l : Nat) {s s' : St} {u : Unit}, letGo n l s = .some u s' →
    (∀ loc c, T.get s'.mem loc = some c → T.get s.mem loc = some c ∧ ¬ (l ≤ loc ∧ loc < l + n)) ∧ s'.next = s.next ∧ s'.lim = s.lim ∧ s'.cx = s.cx
  | 0, l, s, s', u, h => by
    obtain ⟨_, rfl⟩ := pure_some h
    exact ⟨fun loc c e => ⟨e, by omega⟩, rfl, rfl, rfl⟩
  | n + 1, l, s, s', u, h => by
    have h0 : letGo (n + 1) l = M.bind (delC l) fun _ => letGo n (l + 1) := rfl
    rw [h0] at h
    obtain ⟨u1, s1, h1, h2⟩ := bind_some h
    obtain ⟨g1, g2, g3, g4⟩ := delC_some h1
    obtain ⟨k1, k2, k3, k4⟩ := letGo_some n (l + 1) h2
    refine ⟨fun loc c e => ?_, k2.trans g2, k3.trans g3, k4.trans g4⟩
    obtain ⟨q1, q2⟩ := k1 loc c e
    rw [g1, T.get_del] at q1
    split at q1
    · cases q1
    · exact ⟨q1, by omega⟩

variable {ts : Array TypeId} {ty : TypeId} {t2 e : Nat} {u2 : TypeDesc} {ni : TypeInfo} {z x' : Value} {n len c : Nat} {news news' : List Value} {base : Option Addr} {y' v : Value} {s s' : St}
theorem add_zero' (a : Addr) : a.add 0 = a := by simp [Addr.add]
theorem inRoom_ok (hts0 : ts[0]? = some t) (hts1 : ts[1]? = some t2) (ht : E.P.underlying t = some (.slice e)) (ht2 : E.P.underlying t2 = some u2) (hi : E.P.info? e = some ni) (hz : ni.zero = some z)
    (hs : SrcOK E.P w u2 x' n ni.size ni.bytes z news') (hn : VRs r news news') (hn0 : n = 0 → news = []) (hv : VR r (.slice base len c) y') (h : inRoom ni.size base len c n news s = .some v s') (hle : len + n ≤ c % capU) (hr : Rel w0 r s.mem w) :
    Yields E w0 r s s' v w (Builtin.append_ ts ty #[y', x']) := by
  unfold inRoom at h
  split at h
  · rename_i a
    obtain ⟨u, s1, h1, h2⟩ := bind_some h
    obtain ⟨rfl, rfl⟩ := pSl_some h2
    rcases hv.sl_inv with ⟨a2, c2, rfl, ha2, hc, hlen⟩ | ⟨rfl, q1, q2, a2, c2, rfl⟩
    · have hle2 : c % capU ≤ c2 := by
        rcases hc with ⟨e1, rfl⟩ | ⟨_, k, _, _, e2, _⟩
        · exact Nat.mod_le _ _
        · omega
      have ha3 : AR r (addA a (len * ni.size)) ((a2.add (len * ni.size)).add 0) := by rw [add_zero']; exact ha2.add _
      obtain ⟨w', k1, k2, k3, k4, k5⟩ := wrL_ok (P := E.P) _ _ 0 h1 hr ha3 hn
      exact ⟨_, w', r, run_app_room hts0 hts1 ht ht2 hi hz hs (by omega) k1, .of_rel k3 k2, .slice ha2 hc hle, k4, k5⟩
    · have hn1 : n = 0 := by omega
      have := hn0 hn1
      subst this
      subst hn1
      have := hn.inv_nil
      subst this
      obtain ⟨_, rfl⟩ := pure_some h1
      exact .pure (run_app_room (len := 0) hts0 hts1 ht ht2 hi hz hs (Nat.zero_le _) rfl) hr (.slEnd q1 q2)
  · obtain ⟨rfl, rfl⟩ := pure_some h
    cases hv
    have hn1 : n = 0 := by
      have : 0 % capU = 0 := Nat.zero_mod _
      omega
    subst hn1
    exact .pure (run_app_none hts0 hts1 ht ht2 hi hs) hr .slNil
end
end Go.Proofs.Ytnhmbhpkebjjaaa.Am
