/- guard.More as a contract within the evaluator: the plain function, reckoned at once. -/
import Derived.Test.YtkgncjlgmnbfoaaGreatDoorMore
import Derived.Test.YtkgncjlgmnbfoaaGreatDoorShaOrc
namespace Go.Proofs.YtkgncjlgmnbfoaaGreatDoor.Am
open Go.RowKit

section
variable {β : Type}
noncomputable def crcsK (K : Nat → β) (l : List Nat) : Nat → β := List.rec (motive := fun _ => Nat → β) (fun n => K n) (fun c _ ih n => fN (Nat.xor (Nat.mod n 256) c) fun x => fN (crcT x) fun t => fN (Nat.xor t (Nat.div n 256)) fun m => ih m) l
theorem crcsK_eq (K : Nat → β) : ∀ (l : List Nat) (n : Nat), crcsK K l n = K (crcs n l)
  | [], n => rfl
  | c :: l, n => by
    have h0 : crcsK K (c :: l) n = fN (Nat.xor (Nat.mod n 256) c) fun x => fN (crcT x) fun t => fN (Nat.xor t (Nat.div n 256)) fun m => crcsK K l m := rfl
    rw [h0, fN_eq, fN_eq, fN_eq, crcsK_eq K l]
    rfl
end
noncomputable def moreV (sum : Nat) (bs : List Nat) : M Value := fN (Nat.xor 4294967295 sum) fun n => crcsK (fun m => fN (Nat.xor 4294967295 m) fun m => M.pure (.int .u32 (.ofNat m))) bs n
noncomputable def moreM (args : List Value) : M Value :=
  match args with
  | [.int .u32 (.ofNat sum), .slice (some a) n _] => M.chk (Nat.blt sum 4294967296 && Nat.ble n 4611686018427387904) (M.bind (rdL n a) fun l => M.on (u8s l) fun bs => moreV sum bs)
  | _ => M.fail
theorem moreV_eq (sum : Nat) (bs : List Nat) : moreV sum bs = M.pure (.int .u32 (crcMore sum bs : Nat)) := by
  unfold moreV
  rw [fN_eq, crcsK_eq, fN_eq]
  rfl
theorem lo_moreV (sum : Nat) (bs : List Nat) : Loc (moreV sum bs) := by rw [moreV_eq]; exact lo_pure _
theorem np_moreV (sum : Nat) (bs : List Nat) : NoPan (moreV sum bs) := by rw [moreV_eq]; exact np_pure _
theorem lo_moreM (args : List Value) : Loc (moreM args) := by
  unfold moreM
  split
  · exact lo_chk _ (lo_bind (lo_rdL _ _) fun l => lo_on _ fun bs => lo_moreV _ _)
  · exact lo_fail
theorem np_moreM (args : List Value) : NoPan (moreM args) := by
  unfold moreM
  split
  · exact np_chk _ (np_bind (np_rdL _ _) fun l => np_on _ fun bs => np_moreV _ _)
  · exact np_fail
theorem orc_more : OrcOK Tryz.prog 275 moreM :=
  orc_con Tryz.func275 (by kernel_rfl) (by kernel_rfl) lo_moreM np_moreM (by
    intro w0 w r args args' s s' v e hr hfr ha
    unfold moreM at e
    split at e
    case h_2 => cases e
    rename_i sum a n c
    obtain ⟨v1, l1, rfl, q1, q2⟩ := ha.inv
    obtain ⟨v2, l2, rfl, q3, q4⟩ := q2.inv
    have := q4.inv_nil
    subst this
    have := q1.int_inv
    subst this
    obtain ⟨hck, e3⟩ := chk_some e
    rw [Bool.and_eq_true] at hck
    have hn1 := blt_lt hck.1
    have hn2 := Nat.le_of_ble_eq_true hck.2
    obtain ⟨l, s1, e1, e4⟩ := bind_some e3
    obtain ⟨bs, hbs, e5⟩ := on_some e4
    clear e e3 e4
    obtain ⟨hb1, hb2⟩ := u8s_some hbs
    rw [moreV_eq] at e5
    obtain ⟨rfl, rfl⟩ := pure_some e5
    have fin : ∀ (b' o : Nat) (c2 : Nat), bs.length = n → (∀ j, (h : j < bs.length) → w.cell? ⟨b', o + j, none⟩ = some (.int .u8 (bs[j] : Nat))) → Same s s1 → Owed Tryz.prog 275 w0 w r [.int .u32 (.ofNat sum), .slice (some ⟨b', o, none⟩) n c2] s (.int .u32 (crcMore sum bs : Nat)) s1 := by
      intro b' o c2 hlen hcell g4
      subst hlen
      refine ⟨_, more_calls sum hn1 b' o c2 bs hb2 hn2 w hcell, ?_⟩
      rintro e w' ⟨rfl, hbl⟩
      exact ⟨_, r, rfl, .of_plain (by rfl), .of_rel g4.2.1 (by rw [g4.1]; exact hr.beyond hbl), g4.2.2.1, g4.2.2.2⟩
    rcases q3.sl_inv with ⟨a2, c2, rfl, ha2, hc, _⟩ | ⟨rfl, _, _, a2, c2, rfl⟩
    · obtain ⟨l', g1, g2, g3, g4⟩ := rdL_ok _ e1 hr ha2
      have hl : l' = bs.map (fun n : Nat => Value.int .u8 (n : Int)) := by
        rw [← hb1]
        refine plain_VRs_eq g3 ?_
        rw [List.all_eq_true, hb1]
        intro v hv
        obtain ⟨n, _, rfl⟩ := List.mem_map.1 hv
        rfl
      subst hl
      have hblen : bs.length = n := by simpa using g1
      obtain ⟨b, o, b', d, rfl, rfl, hbk⟩ := ha2
      refine fin b' (o + d) c2 hblen (fun j hj => ?_) g4
      have h1 := g2 j (.int .u8 (bs[j] : Nat)) (by rw [List.getElem?_map, List.getElem?_eq_getElem hj]; rfl)
      rw [addr_add] at h1
      exact h1
    · obtain ⟨rfl, rfl⟩ := pure_some (show M.pure [] s = .some l s1 from e1)
      have hbs0 : bs = [] := by
        have := congrArg List.length hb1
        simpa using this.symm
      subst hbs0
      refine ⟨_, more_nil sum hn1 (some a2) c2 w, ?_⟩
      rintro e w' ⟨rfl, hbl⟩
      exact ⟨_, r, rfl, .of_plain (by rfl), .of_rel rfl (hr.beyond hbl), rfl, rfl⟩)
end Go.Proofs.YtkgncjlgmnbfoaaGreatDoor.Am
