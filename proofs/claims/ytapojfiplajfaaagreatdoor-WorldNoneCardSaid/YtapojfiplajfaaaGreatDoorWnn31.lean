/- digest.state.next as a contract within the evaluator: the plain function, reckoned at once. -/
import Derived.Test.YtapojfiplajfaaaGreatDoorWnn30
import Derived.Test.YtapojfiplajfaaaGreatDoorWnn12
import Derived.Test.YtapojfiplajfaaaGreatDoorWnn17
namespace Go.Proofs.YtapojfiplajfaaaGreatDoor.Am
open Go.RowKit

/-! ### The plain function, step by step -/
section
variable {β : Type}
noncomputable def wordK (bs : List Nat) (n : Nat) : Nat := Sha.be (bs.getD (4 * n) 0) (bs.getD (4 * n + 1) 0) (bs.getD (4 * n + 2) 0) (bs.getD (4 * n + 3) 0)
noncomputable def mkL (f : Nat → Nat) (n : Nat) (K : List Nat → β) : β := Nat.rec (motive := fun _ => (List Nat → β) → β) (fun K => K []) (fun n ih K => ih fun l => fN (f n) fun x => K (x :: l)) n K
noncomputable def nxtK (ws : List Nat) : Nat := (((ws.getD 15 0 + Sha.s0 (ws.getD 14 0)) % 4294967296 + ws.getD 6 0) % 4294967296 + Sha.s1 (ws.getD 1 0)) % 4294967296
noncomputable def extL (g : List Nat → Nat) (m : Nat) (ws : List Nat) (K : List Nat → β) : β := Nat.rec (motive := fun _ => List Nat → β) (fun ws => K ws) (fun _ ih ws => fN (g ws) fun x => ih (x :: ws)) m ws
noncomputable def rndK (s : Sha.St8) (k w : Nat) (K : Sha.St8 → β) : β :=
  Sha.St8.rec (motive := fun _ => β) (fun a b c d e f g h => fN (Sha.t1 ⟨a, b, c, d, e, f, g, h⟩ k w) fun t => fN (Sha.t2 ⟨a, b, c, d, e, f, g, h⟩) fun u => fN ((t + u) % 4294967296) fun x => fN ((d + t) % 4294967296) fun y => K ⟨x, a, b, c, y, e, f, g⟩) s
noncomputable def rndsK (K : Sha.St8 → β) (ks : List Nat) : List Nat → Sha.St8 → β :=
  List.rec (motive := fun _ => List Nat → Sha.St8 → β) (fun _ s => K s) (fun k _ ih ws s => List.rec (motive := fun _ => β) (K s) (fun w ws' _ => rndK s k w fun s' => ih ws' s') ws) ks
noncomputable def plusK (s r : Sha.St8) (K : Sha.St8 → β) : β :=
  Sha.St8.rec (motive := fun _ => β) (fun a b c d e f g h => Sha.St8.rec (motive := fun _ => β) (fun a' b' c' d' e' f' g' h' =>
    fN ((a' + a) % 4294967296) fun a => fN ((b' + b) % 4294967296) fun b => fN ((c' + c) % 4294967296) fun c => fN ((d' + d) % 4294967296) fun d => fN ((e' + e) % 4294967296) fun e => fN ((f' + f) % 4294967296) fun f => fN ((g' + g) % 4294967296) fun g => fN ((h' + h) % 4294967296) fun h => K ⟨a, b, c, d, e, f, g, h⟩) r) s
noncomputable def nextK (s : Sha.St8) (bs : List Nat) (K : Sha.St8 → β) : β := mkL (wordK bs) 16 fun l => extL nxtK 48 l fun ws => rndsK (fun r => plusK s r K) Sha.ks ws.reverse s

/-- f's first n values, the last one first. -/
def revL (f : Nat → Nat) : Nat → List Nat
  | 0 => []
  | n + 1 => f n :: revL f n
theorem revL_get (f : Nat → Nat) : ∀ (n j : Nat), j < n → (revL f n).getD j 0 = f (n - 1 - j)
  | 0, _, h => by omega
  | n + 1, 0, _ => rfl
  | n + 1, j + 1, h => by
    show (revL f n).getD j 0 = _
    rw [revL_get f n j (by omega)]
    congr 1
    omega
theorem revL_reverse (f : Nat → Nat) : ∀ n, (revL f n).reverse = (List.range n).map f
  | 0 => rfl
  | n + 1 => by
    show (f n :: revL f n).reverse = _
    rw [List.reverse_cons, revL_reverse f n, List.range_succ, List.map_append]
    rfl
theorem mkL_eq (f : Nat → Nat) (n : Nat) : ∀ (K : List Nat → β), mkL f n K = K (revL f n) := by
  induction n with
  | zero => intro K; rfl
  | succ n ih =>
    intro K
    have h0 : mkL f (n + 1) K = mkL f n fun l => fN (f n) fun x => K (x :: l) := rfl
    rw [h0, ih, fN_eq]
    rfl
theorem extL_eq {g : List Nat → Nat} {S : Nat → Nat} (hg : ∀ n, 16 ≤ n → g (revL S n) = S n) (K : List Nat → β) (m : Nat) : ∀ (n : Nat), 16 ≤ n → extL g m (revL S n) K = K (revL S (n + m)) := by
  induction m with
  | zero => intro n _; rfl
  | succ m ih =>
    intro n h
    have h0 : extL g (m + 1) (revL S n) K = fN (g (revL S n)) fun x => extL g m (x :: revL S n) K := rfl
    rw [h0, fN_eq, hg n h]
    have := ih (n + 1) (by omega)
    rw [show n + 1 + m = n + (m + 1) by omega] at this
    exact this
theorem nxtK_eq {B : Nat → Nat} (n : Nat) (h : 16 ≤ n) : nxtK (revL (Sha.sch B) n) = Sha.sch B n := by
  unfold nxtK
  rw [revL_get _ _ _ (by omega), revL_get _ _ _ (by omega), revL_get _ _ _ (by omega), revL_get _ _ _ (by omega), Sha.sch_hi h]
  rw [show n - 1 - 15 = n - 16 by omega, show n - 1 - 14 = n - 15 by omega, show n - 1 - 6 = n - 7 by omega, show n - 1 - 1 = n - 2 by omega]
theorem revL_congr {f g : Nat → Nat} (n : Nat) (h : ∀ i, i < n → f i = g i) : revL f n = revL g n := by
  induction n with
  | zero => rfl
  | succ n ih =>
    unfold revL
    rw [ih fun i hi => h i (by omega), h n (by omega)]
theorem rndK_eq (s : Sha.St8) (k w : Nat) (K : Sha.St8 → β) : rndK s k w K = K (Sha.rnd s k w) := by
  obtain ⟨a, b, c, d, e, f, g, h⟩ := s
  have h0 : rndK ⟨a, b, c, d, e, f, g, h⟩ k w K = fN (Sha.t1 ⟨a, b, c, d, e, f, g, h⟩ k w) fun t => fN (Sha.t2 ⟨a, b, c, d, e, f, g, h⟩) fun u => fN ((t + u) % 4294967296) fun x => fN ((d + t) % 4294967296) fun y => K ⟨x, a, b, c, y, e, f, g⟩ := rfl
  rw [h0, fN_eq, fN_eq, fN_eq, fN_eq]
  rfl
theorem plusK_eq (s r : Sha.St8) (K : Sha.St8 → β) : plusK s r K = K (Sha.plus s r) := by
  obtain ⟨a, b, c, d, e, f, g, h⟩ := s
  obtain ⟨a', b', c', d', e', f', g', h'⟩ := r
  have h0 : plusK ⟨a, b, c, d, e, f, g, h⟩ ⟨a', b', c', d', e', f', g', h'⟩ K = fN ((a' + a) % 4294967296) fun a => fN ((b' + b) % 4294967296) fun b => fN ((c' + c) % 4294967296) fun c => fN ((d' + d) % 4294967296) fun d => fN ((e' + e) % 4294967296) fun e => fN ((f' + f) % 4294967296) fun f => fN ((g' + g) % 4294967296) fun g => fN ((h' + h) % 4294967296) fun h => K ⟨a, b, c, d, e, f, g, h⟩ := rfl
  rw [h0, fN_eq, fN_eq, fN_eq, fN_eq, fN_eq, fN_eq, fN_eq, fN_eq]
  rfl
theorem rndsK_eq (K : Sha.St8 → β) (f W : Nat → Nat) (s : Sha.St8) : ∀ (n i : Nat), rndsK K ((List.range' i n).map f) ((List.range' i n).map W) (Sha.rnds f W s i) = K (Sha.rnds f W s (i + n))
  | 0, i => rfl
  | n + 1, i => by
    have h0 : rndsK K ((List.range' i (n + 1)).map f) ((List.range' i (n + 1)).map W) (Sha.rnds f W s i) = rndK (Sha.rnds f W s i) (f i) (W i) fun s' => rndsK K ((List.range' (i + 1) n).map f) ((List.range' (i + 1) n).map W) s' := rfl
    rw [h0, rndK_eq]
    have := rndsK_eq K f W s n (i + 1)
    rw [show i + 1 + n = i + (n + 1) by omega] at this
    exact this
theorem ks_range : Sha.ks = (List.range' 0 64).map Sha.K := by kernel_rfl
theorem word_sch (bs : List Nat) (i : Nat) (h : i < 16) : wordK bs i = Sha.sch (fun j => bs.getD j 0) i := by
  rw [Sha.sch_lo h]
  unfold wordK
  rfl
theorem nextK_eq (s : Sha.St8) (bs : List Nat) (K : Sha.St8 → β) : nextK s bs K = K (Sha.next s fun j => bs.getD j 0) := by
  have h2 := rndsK_eq (fun r => plusK s r K) Sha.K (Sha.sch fun j => bs.getD j 0) s 64 0
  rw [← ks_range, Nat.zero_add] at h2
  have h3 : Sha.rnds Sha.K (Sha.sch fun j => bs.getD j 0) s 0 = s := by unfold Sha.rnds; rfl
  rw [h3, plusK_eq] at h2
  unfold nextK
  rw [mkL_eq, revL_congr 16 (word_sch bs), extL_eq nxtK_eq _ 48 16 (Nat.le_refl _), revL_reverse, List.range_eq_range', h2]
  unfold Sha.next
  rfl
end

/-! ### In the evaluator -/
def u32s : List Value → Option (List Nat)
  | [] => some []
  | v :: l => match v, u32s l with
    | .int .u32 (.ofNat n), some ns => bif Nat.blt n 4294967296 then some (n :: ns) else none
    | _, _ => none
theorem u32s_some : ∀ {l : List Value} {ns : List Nat}, u32s l = some ns → l = ns.map (fun n : Nat => Value.int .u32 n) ∧ ∀ n ∈ ns, n < 4294967296
  | [], ns, h => by cases h; exact ⟨rfl, fun n h => by cases h⟩
  | v :: l, ns, h => by
    unfold u32s at h
    split at h
    · rename_i n ns' h1
      cases hb : Nat.blt n 4294967296 with
      | false => rw [hb] at h; cases h
      | true =>
        rw [hb] at h
        cases h
        obtain ⟨h2, h3⟩ := u32s_some h1
        refine ⟨by rw [h2]; rfl, fun m hm => ?_⟩
        rcases List.mem_cons.1 hm with rfl | hm
        · exact blt_lt hb
        · exact h3 m hm
    · cases h
noncomputable def st8M (r : Sha.St8) : M Value := Sha.St8.rec (motive := fun _ => M Value) (fun a b c d e f g h => M.pure (.agg #[.int .u32 (.ofNat a), .int .u32 (.ofNat b), .int .u32 (.ofNat c), .int .u32 (.ofNat d), .int .u32 (.ofNat e), .int .u32 (.ofNat f), .int .u32 (.ofNat g), .int .u32 (.ofNat h)])) r
noncomputable def nextV (ws bs : List Nat) : M Value :=
  match ws with
  | [a, b, c, d, e, f, g, h] => nextK ⟨a, b, c, d, e, f, g, h⟩ bs st8M
  | _ => M.fail
noncomputable def nextM (args : List Value) : M Value :=
  match args with
  | [.agg cs, .slice (some a) n _] => M.on (u32s cs.toList) fun ws => M.chk (Nat.ble 64 n && Nat.ble n 9223372036854775807) (M.bind (rdL 64 a) fun l => M.on (u8s l) fun bs => nextV ws bs)
  | _ => M.fail
theorem st8M_eq (r : Sha.St8) : st8M r = M.pure (.agg (st8V r)) := by cases r; rfl
theorem lo_nextV (ws bs : List Nat) : Loc (nextV ws bs) := by
  unfold nextV
  split
  · rw [nextK_eq, st8M_eq]; exact lo_pure _
  · exact lo_fail
theorem np_nextV (ws bs : List Nat) : NoPan (nextV ws bs) := by
  unfold nextV
  split
  · rw [nextK_eq, st8M_eq]; exact np_pure _
  · exact np_fail
theorem lo_nextM (args : List Value) : Loc (nextM args) := by
  unfold nextM
  split
  · exact lo_on _ fun ws => lo_chk _ (lo_bind (lo_rdL _ _) fun l => lo_on _ fun bs => lo_nextV _ _)
  · exact lo_fail
theorem np_nextM (args : List Value) : NoPan (nextM args) := by
  unfold nextM
  split
  · exact np_on _ fun ws => np_chk _ (np_bind (np_rdL _ _) fun l => np_on _ fun bs => np_nextV _ _)
  · exact np_fail
theorem getD_lt {bs : List Nat} (h : ∀ n ∈ bs, n < 256) (j : Nat) : bs.getD j 0 < 256 := by
  rw [List.getD]
  cases e : bs[j]? with
  | none => exact (by decide : (0 : Nat) < 256)
  | some x => exact h x (List.mem_of_getElem? e)
theorem orc_next : OrcOK Tryz.prog 276 nextM :=
  orc_con Tryz.func276 (by kernel_rfl) (by kernel_rfl) lo_nextM np_nextM (by
    intro w0 w r args args' s s' v e hr hfr ha
    unfold nextM at e
    split at e
    case h_2 => cases e
    rename_i cs a n c
    obtain ⟨v1, l1, rfl, q1, q2⟩ := ha.inv
    obtain ⟨v2, l2, rfl, q3, q4⟩ := q2.inv
    have := q4.inv_nil
    subst this
    obtain ⟨ws, hws, e2⟩ := on_some e
    obtain ⟨hck, e3⟩ := chk_some e2
    rw [Bool.and_eq_true] at hck
    have hn1 := Nat.le_of_ble_eq_true hck.1
    have hn2 := Nat.le_of_ble_eq_true hck.2
    obtain ⟨l, s1, e1, e4⟩ := bind_some e3
    obtain ⟨bs, hbs, e5⟩ := on_some e4
    clear e e2 e3 e4
    obtain ⟨hw1, hw2⟩ := u32s_some hws
    obtain ⟨hb1, hb2⟩ := u8s_some hbs
    rcases q3.sl_inv with ⟨a2, c2, rfl, ha2, hc, _⟩ | ⟨h0, _⟩
    case inr => omega
    obtain ⟨l', g1, g2, g3, g4⟩ := rdL_ok _ e1 hr ha2
    have hl : l' = bs.map (fun n : Nat => Value.int .u8 (n : Int)) := by
      rw [← hb1]
      refine plain_VRs_eq g3 ?_
      rw [List.all_eq_true, hb1]
      intro v hv
      obtain ⟨n, _, rfl⟩ := List.mem_map.1 hv
      rfl
    subst hl
    have hblen : bs.length = 64 := by simpa using g1
    obtain ⟨cs', rfl, hcs⟩ := q1.agg_inv
    have hcs' : cs'.toList = ws.map (fun n : Nat => Value.int .u32 (n : Int)) := by
      rw [← hw1]
      refine plain_VRs_eq hcs ?_
      rw [List.all_eq_true, hw1]
      intro v hv
      obtain ⟨n, _, rfl⟩ := List.mem_map.1 hv
      rfl
    obtain ⟨x0, x1, x2, x3, x4, x5, x6, x7, rfl⟩ : ∃ x0 x1 x2 x3 x4 x5 x6 x7, ws = [x0, x1, x2, x3, x4, x5, x6, x7] := by
      unfold nextV at e5
      split at e5
      · exact ⟨_, _, _, _, _, _, _, _, rfl⟩
      · cases e5
    replace e5 : nextK ⟨x0, x1, x2, x3, x4, x5, x6, x7⟩ bs st8M s1 = .some v s' := e5
    rw [nextK_eq, st8M_eq] at e5
    obtain ⟨rfl, rfl⟩ := pure_some e5
    have hcs2 : cs' = st8V ⟨x0, x1, x2, x3, x4, x5, x6, x7⟩ := by
      have := congrArg List.toArray hcs'
      rw [Array.toArray_toList] at this
      rw [this]
      rfl
    subst hcs2
    obtain ⟨b, o, b', d, rfl, rfl, hbk⟩ := ha2
    have hok : (⟨x0, x1, x2, x3, x4, x5, x6, x7⟩ : Sha.St8).Ok := ⟨hw2 _ (by simp), hw2 _ (by simp), hw2 _ (by simp), hw2 _ (by simp), hw2 _ (by simp), hw2 _ (by simp), hw2 _ (by simp), hw2 _ (by simp)⟩
    refine ⟨_, next_calls ⟨x0, x1, x2, x3, x4, x5, x6, x7⟩ hok (fun j => bs.getD j 0) (getD_lt hb2) b' (o + d) n c2 hn1 hn2 w (fun j hj => ?_), ?_⟩
    · have hj' : j < bs.length := by omega
      have h1 := g2 j (.int .u8 (bs[j] : Nat)) (by rw [List.getElem?_map, List.getElem?_eq_getElem hj']; rfl)
      rw [addr_add] at h1
      rw [h1]
      simp [List.getD, List.getElem?_eq_getElem hj']
    · rintro e w' ⟨rfl, hbl⟩
      refine ⟨_, r, rfl, .of_plain (by rfl), .of_rel g4.2.1 (by rw [g4.1]; exact hr.beyond hbl), g4.2.2.1, g4.2.2.2⟩)
end Go.Proofs.YtapojfiplajfaaaGreatDoor.Am
