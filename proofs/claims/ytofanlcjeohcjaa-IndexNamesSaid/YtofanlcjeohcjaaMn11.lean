/- guard.More walked: the sum of bytes. -/
import Derived.Test.YtofanlcjeohcjaaMn10
import Derived.Test.YtofanlcjeohcjaaMn07
import Derived.Laws.AppendOwn
import Derived.CallsIn
namespace Go.Proofs.Ytofanlcjeohcjaa
open Go.RowKit
/-- What a byte does to a sum. -/
def crc8 (n : Nat) : Nat → Nat
  | 0 => n
  | k + 1 => if n % 2 = 1 then crc8 (n / 2 ^^^ 3988292384) k else crc8 (n / 2) k
def crcT (i : Nat) : Nat := crc8 i 8
def crcStep (n c : Nat) : Nat := crcT (n % 256 ^^^ c) ^^^ n / 256
def crcs (n : Nat) (l : List Nat) : Nat := l.foldl crcStep n
def crcMore (n : Nat) (l : List Nat) : Nat := 4294967295 ^^^ crcs (4294967295 ^^^ n) l
def arrT : Array Value := ((List.range 256).map fun i : Nat => Value.int .u32 (crcT i : Nat)).toArray
theorem gwords_run : Am.valR (Am.callF env0 1000000 145 [] Am.st0) = some (.agg arrT) := by kernel_rfl
theorem gwords_plain : Am.plain (.agg arrT) = true := by kernel_rfl
theorem gwords_calls (w : World) : Calls Try.prog 145 #[] w fun e w' => e = .returned (.agg arrT) ∧ Below w.heap.size w w' :=
  Am.calls_of env0_ok (by kernel_rfl) (by kernel_rfl) gwords_run gwords_plain w
theorem crc8_lt : ∀ (k n : Nat), n < 4294967296 → crc8 n k < 4294967296
  | 0, n, h => h
  | k + 1, n, h => by
    unfold crc8
    split
    · exact crc8_lt k _ (Sha.xor_lt (by omega) (by decide))
    · exact crc8_lt k _ (by omega)
theorem crcT_lt {i : Nat} (h : i < 256) : crcT i < 4294967296 := crc8_lt 8 i (by omega)
theorem idx_lt {n c : Nat} (hc : c < 256) : n % 256 ^^^ c < 256 := Nat.xor_lt_two_pow (n := 8) (by omega) hc
theorem crcStep_lt {n c : Nat} (hn : n < 4294967296) (hc : c < 256) : crcStep n c < 4294967296 := Sha.xor_lt (crcT_lt (idx_lt hc)) (by omega)
theorem crcs_lt : ∀ (l : List Nat) (n : Nat), n < 4294967296 → (∀ c ∈ l, c < 256) → crcs n l < 4294967296
  | [], n, h, _ => h
  | c :: l, n, h, hl => crcs_lt l _ (crcStep_lt h (hl c (by simp))) fun d hd => hl d (by simp [hd])
theorem crcs_snoc (n : Nat) (l : List Nat) (k : Nat) (h : k < l.length) : crcs n (l.take (k + 1)) = crcStep (crcs n (l.take k)) l[k] := by
  unfold crcs
  rw [List.take_succ_eq_append_getElem h, List.foldl_append]
  rfl
theorem arrT_size : arrT.size = 256 := by simp [arrT]
theorem arrT_get (j : Nat) (h : j < 256) : arrT[j]? = some (.int .u32 (crcT j : Nat)) := by simp [arrT, h]
theorem arrT_info : (Try.prog.info? 177).map (·.size) = some arrT.size := by
  rw [arrT_size]
  kernel_rfl
theorem arrT_one : arrT.all (·.oneCell') = true := by
  rw [Array.all_eq_true]
  intro i hi
  simp [arrT, Value.oneCell']
theorem zeros_size (z : Array Value) (hz : z = Array.replicate 256 (.int .u32 0)) : z.size = arrT.size := by rw [hz, arrT_size]; simp
theorem inv_bits {n : Nat} (h : n < 4294967296) : bits .xor .u32 IntKind.u32.max (n : Int) = ((4294967295 ^^^ n : Nat) : Int) := by
  have hm : IntKind.u32.max = ((4294967295 : Nat) : Int) := by decide
  rw [hm, u32_xor_nat _ _ (by decide) h]
theorem byte_bits {n c : Nat} (h : c < 256) : bits .xor .u8 ((n : Int) % 256) (c : Int) = ((n % 256 ^^^ c : Nat) : Int) := by
  have e : (n : Int) % 256 = ((n % 256 : Nat) : Int) := by omega
  rw [e, u8_xor_nat _ _ (by omega) h]
set_option maxRecDepth 1000000 in
set_option maxHeartbeats 1600000 in
theorem more_calls (sum : Nat) (hs : sum < 4294967296) (bb bo cap : Nat) (l : List Nat) (hl : ∀ c ∈ l, c < 256) (hlen : l.length ≤ 4611686018427387904) (w : World) (hc : ∀ j, (h : j < l.length) → w.cell? ⟨bb, bo + j, none⟩ = some (.int .u8 (l[j] : Nat))) :
    Calls Try.prog 130 #[.int .u32 sum, .slice (some ⟨bb, bo, none⟩) l.length cap] w fun e w' => e = .returned (.int .u32 (crcMore sum l : Nat)) ∧ Below w.heap.size w w' := by
  have HC := Lib.hid hc
  have HL := Lib.hid hl
  clear hc hl
  go_enter Try.func130, Try.ntmps130
  go_wp2_with fail
  refine (gwords_calls _).mono ?_
  rintro e w1 ⟨rfl, hb1⟩
  have HB := Lib.hid hb1
  clear hb1
  go_wp2_with (with_reducible refine wpList_put (o := ⟨none, .store _ (.tmp 5) (.tmp 9), _, _, _, _⟩) rfl 177 (.tmp 5) (.tmp 9) rfl w1.heap.size arrT rfl rfl _ _ (heap_alloc_new _ _) arrT_info (by kernel_rfl) arrT_one ?_; intro w2 P2)
  have hT : ∀ j, j < 256 → w2.cell? ⟨w1.heap.size, j, none⟩ = some (.int .u32 (crcT j : Nat)) := fun j hj => by rw [cell_row P2.at', arrT_get j hj]
  have hb2 : Below w.heap.size w w2 := (HB.out.alloc (by have := HB.out.size; omega) _).trans (P2.bel _ HB.out.size)
  have hcc : ∀ j, (h : j < l.length) → w2.cell? ⟨bb, bo + j, none⟩ = some (.int .u8 (l[j] : Nat)) := fun j h => (hb2.cell (p := ⟨bb, bo + j, none⟩) (World.block_lt_of_cell? w _ (HC.out j h))).trans (HC.out j h)
  have HT := Lib.hid hT
  have HB2 := Lib.hid hb2
  have HCC := Lib.hid hcc
  clear hT hb2 hcc HC HB P2
  rw [inv_bits hs]
  have hn0 : 4294967295 ^^^ sum < 4294967296 := Sha.xor_lt (by decide) hs
  have HN := Lib.hid (show crcMore sum l = 4294967295 ^^^ crcs (4294967295 ^^^ sum) l from rfl)
  generalize (4294967295 ^^^ sum) = n0 at *
  generalize w1.heap.size = H at *
  clear w1
  have HX := Lib.hid (fun k => crcs_lt (l.take k) n0 hn0 fun c hc => HL.out c (List.mem_of_mem_take hc))
  clear hn0
  go_loop [6, 14] (fun a i => ∃ k : Nat, k ≤ l.length ∧ i = .int .i64 k ∧ a = .int .u32 (crcs n0 (l.take k) : Nat)) (fun _ i => l.length - (intOf i).toNat)
  case atStart => exact ⟨0, Nat.zero_le _, rfl, rfl⟩
  case round =>
    obtain ⟨k, hk, rfl, rfl⟩ := hrel
    have hx := HX.out k
    by_cases hlt : k < l.length
    · have hcell := HCC.out k hlt
      have hc := HL.out l[k] (List.getElem_mem _)
      have HS := Lib.hid (crcs_snoc n0 l k hlt)
      have k0 : (0 : Int) ≤ (k : Int) := Int.natCast_nonneg _
      have k1 : (k : Int) < (l.length : Int) := by omega
      generalize l[k] = c at *
      generalize crcs n0 (l.take k) = n at *
      have hb := byte_bits (n := n) hc
      have hi := idx_lt (n := n) hc
      have HS2 := Lib.hid (HS.out.trans (show crcStep n c = crcT (n % 256 ^^^ c) ^^^ n / 256 from rfl))
      generalize (n % 256 ^^^ c) = x at *
      have hcx := HT.out x hi
      have x0 : (0 : Int) ≤ (x : Int) := Int.natCast_nonneg _
      have x1 : (x : Int) < 256 := by omega
      have hv := crcT_lt hi
      generalize crcT x = y at *
      have HV := Lib.hid (show bits .xor .u32 (y : Int) ((n : Int) / 256) = ((y ^^^ n / 256 : Nat) : Int) by
        have e : (n : Int) / 256 = ((n / 256 : Nat) : Int) := by simp
        rw [e, u32_xor_nat _ _ hv (by omega)])
      go_wp2
      go_round
      case rel => exact ⟨k + 1, by omega, by go_num, by rw [HV.out, ← HS2.out]⟩
      case measure => simp [intOf]; omega
    · have hkl : k = l.length := by omega
      have hfin : crcs n0 l < 4294967296 := by
        have := HX.out l.length
        rwa [List.take_length] at this
      have HE := Lib.hid (show l.take k = l by rw [hkl, List.take_length])
      rw [HE.out] at *
      go_wp2
      go_ret
      exact ⟨ret_u32 (by rw [inv_bits hfin, HN.out]), HB2.out⟩
set_option maxRecDepth 1000000 in
set_option maxHeartbeats 1600000 in
theorem more_nil (sum : Nat) (hs : sum < 4294967296) (p : Option Addr) (cap : Nat) (w : World) :
    Calls Try.prog 130 #[.int .u32 sum, .slice p 0 cap] w fun e w' => e = .returned (.int .u32 (crcMore sum [] : Nat)) ∧ Below w.heap.size w w' := by
  go_enter Try.func130, Try.ntmps130
  go_wp2_with fail
  refine (gwords_calls _).mono ?_
  rintro e w1 ⟨rfl, hb1⟩
  have HB := Lib.hid hb1
  clear hb1
  go_wp2_with (with_reducible refine wpList_put (o := ⟨none, .store _ (.tmp 5) (.tmp 9), _, _, _, _⟩) rfl 177 (.tmp 5) (.tmp 9) rfl w1.heap.size arrT rfl rfl _ _ (heap_alloc_new _ _) arrT_info (by kernel_rfl) arrT_one ?_; intro w2 P2)
  have HB2 := Lib.hid (show Below w.heap.size w w2 from (HB.out.alloc (by have := HB.out.size; omega) _).trans (P2.bel _ HB.out.size))
  clear P2
  rw [inv_bits hs]
  have hn0 : 4294967295 ^^^ sum < 4294967296 := Sha.xor_lt (by decide) hs
  have HN := Lib.hid (show crcMore sum [] = 4294967295 ^^^ (4294967295 ^^^ sum) from rfl)
  generalize (4294967295 ^^^ sum) = n0 at *
  go_loop [6, 14] (fun a i => i = .int .i64 0 ∧ a = .int .u32 (n0 : Nat)) (fun _ _ => 0)
  case atStart => exact ⟨rfl, rfl⟩
  case round =>
    obtain ⟨rfl, rfl⟩ := hrel
    go_wp2
    go_ret
    exact ⟨ret_u32 (by rw [inv_bits hn0, HN.out]), HB2.out⟩
end Go.Proofs.Ytofanlcjeohcjaa
/- Contracts of the kit's kind, as contracts within the evaluator; new rows. -/
namespace Go.Proofs.Ytofanlcjeohcjaa.Am
open Go.RowKit

section
variable {P : Program} {w0 w : World} {r : Inj}
/-- A function with a body is entered. -/
theorem enters_body {f : Nat} {fn : Func} (hf : P.funcs[f]? = some fn) (h1 : (fn.name == "runtime.NumGoroutine") = false) (h2 : fn.body.isNone = false) (args : Array Value) (w : World) : (callFunc f args).run P w = .ok (.enter f args) w := by
  have h1' : ¬fn.name = "runtime.NumGoroutine" := by simpa using h1
  have h2' : ¬fn.body = none := fun e => by rw [e] at h2; cases h2
  unfold callFunc
  simp [run_program, Sem.run_bind, hf, h1', h2']
/-- What a contract owes: whatever the evaluator's word says of the call is so. -/
def Owed (P : Program) (f : Nat) (w0 w : World) (r : Inj) (args' : List Value) (s : St) (v : Value) (s' : St) : Prop :=
  ∃ Q, Calls P f args'.toArray w Q ∧ ∀ e w', Q e w' → ∃ v' r', e = .returned v' ∧ VR r' v v' ∧ Goes w0 r s s' r' w' ∧ s'.lim = s.lim ∧ s'.cx = s.cx
theorem orc_con {f : Nat} {fn : Func} {m : List Value → M Value} (hf : P.funcs[f]? = some fn) (h1 : (fn.name == "runtime.NumGoroutine") = false) (h2 : fn.body.isNone = false) (hl : ∀ args, Loc (m args)) (hn : ∀ args, NoPan (m args))
    (h : ∀ {w0 w : World} {r : Inj} {args args' : List Value} {s s' : St} {v : Value}, m args s = .some v s' → Rel w0 r s.mem w → Fresh r s.next s'.next → VRs r args args' → Owed P f w0 w r args' s v s') : OrcOK P f m where
  loc := hl
  ok := by
    intro w0 w r args args' s out s' e hr hb hfr ha
    cases out with
    | inr c => exact ((hn args).no _ _ _ e).elim
    | inl v =>
      refine ⟨fun w => enters_body hf h1 h2 _ w, fun c cs => ?_⟩
      obtain ⟨Q, hc, hq⟩ := h (show m args s = .some v s' from e) hr hfr ha
      obtain ⟨e, w', fr, hQ, hs, _, hl⟩ := hc (c :: cs)
      obtain ⟨v', r', rfl, hv, hg, k1, k2⟩ := hq e w' hQ
      exact ⟨w', r', hg, k1, k2, v', hv, hs.trans (.one (step_leave_returned hl))⟩

/-- A new row of one-cell elements. -/
noncomputable def rowM (vs : List Value) : M Value :=
  List.rec (motive := fun _ => M Value) (M.pure (.slice none 0 0)) (fun _ _ _ => fN vs.length fun n => rowN vs n) vs
theorem lo_rowM (vs : List Value) : Loc (rowM vs) := by
  cases vs with
  | nil => exact lo_pure _
  | cons v l => exact (show Loc (fN (v :: l).length fun n => rowN (v :: l) n) from lo_fN _ fun n => lo_rowN _ n)
theorem np_rowM (vs : List Value) : NoPan (rowM vs) := by
  cases vs with
  | nil => exact np_pure _
  | cons v l => exact (show NoPan (fN (v :: l).length fun n => rowN (v :: l) n) from np_fN _ fun n => np_rowN _ n)
theorem rowM_ok {vs vs' : List Value} {s s' : St} {v v' : Value} {w' : World} {e : TypeId} (h : rowM vs s = .some v s') (hr : Rel w0 r s.mem w) (hf : Fresh r s.next s'.next) (hv : VRs r vs vs') (hb : Below w.heap.size w w') (ho : w'.ownsRow w.heap.size e 1 v' vs'.length vs') (hnil : v' = .slice none 0 0 ↔ vs' = []) :
    ∃ r', VR r' v v' ∧ Goes w0 r s s' r' w' ∧ s'.lim = s.lim ∧ s'.cx = s.cx := by
  cases vs with
  | nil =>
    obtain ⟨rfl, rfl⟩ := pure_some (show M.pure (Value.slice none 0 0) s = .some v s' from h)
    have := hv.inv_nil
    subst this
    rw [hnil.2 rfl]
    exact ⟨r, .slNil, .same (.refl _) (hr.beyond hb), rfl, rfl⟩
  | cons a l =>
    replace h : fN (a :: l).length (fun n => rowN (a :: l) n) s = .some v s' := h
    rw [fN_eq] at h
    unfold rowN at h
    obtain ⟨hlt, h⟩ := chk_some h
    obtain ⟨b, s1, e1, h⟩ := bind_some h
    obtain ⟨u, s2, e2, h⟩ := bind_some h
    have hlen : vs'.length = (a :: l).length := hv.1.symm
    rcases ho.2 with ⟨rfl, h0⟩ | ⟨g, cap, cur, rfl, hbase, hg, q1, q2, q3, q4⟩
    · have : vs' = [] := hnil.1 rfl
      rw [this] at hlen
      cases hlen
    · have hz : g < w'.heap.size := by
        rcases Nat.lt_or_ge g w'.heap.size with h | h
        · exact h
        · rw [Array.getElem?_eq_none h] at hg; cases hg
      have hr' := hr.beyond hb
      have cellat : ∀ j, j < cap → w'.cell? ⟨g, 0 + j, none⟩ = cur[j]? := fun j _ => by
        rw [Nat.zero_add]
        simp [World.cell?, hg]
      obtain ⟨r', k1, k2, k3, k4⟩ := finIn (need := (a :: l).length) (size := 1) (cap' := cap) (bb := g) (o := 0) hr' e1 e2 h hf hv (by rw [Nat.mul_one]) (by decide) (by decide) (blt_lt hlt) (by rw [← hlen]; exact q1) (Nat.le_trans hr.below.size hbase) hz
        (fun i x hx => by
          have hi : i < vs'.length := (List.getElem?_eq_some_iff.1 hx).1
          rw [cellat i (by omega)]
          rw [← q4, Nat.mul_one, List.getElem?_take_of_lt hi] at hx
          simpa using hx)
        (fun j hj => by
          rw [Nat.mul_one] at hj
          have hj' : j < cur.size := by rw [q3, Nat.mul_one]; exact hj
          refine ⟨cur[j], by rw [cellat j hj]; exact Array.getElem?_eq_getElem hj', ?_⟩
          rw [Nat.zero_add]
          simp [World.frozen?, hg])
        (fun loc b v d e1 e2 => absurd (hr.dom _ _ _ e2).2 (Nat.not_lt_of_le hbase))
        (fun t2 sz k2 e1 e2 hk => by
          obtain ⟨k, g1, _, _, g2, _⟩ := hr.tok _ _ e1
          rw [g1] at e2
          cases e2
          rw [hk] at g2
          exact absurd g2 (Nat.not_lt_of_le hbase))
      refine ⟨r', ?_, k1, k3, k4⟩
      rw [hlen]
      exact k2
end
end Go.Proofs.Ytofanlcjeohcjaa.Am
/- digest.state.next as a contract within the evaluator: the plain function, reckoned at once. -/
namespace Go.Proofs.Ytofanlcjeohcjaa.Am
open Go.RowKit

/-! ### The plain function, step by step -/
section
variable {β : Type}
noncomputable def wordK (bs : List Nat) (n : Nat) : Nat := Sha.be (bs.getD (4 * n) 0) (bs.getD (4 * n + 1) 0) (bs.getD (4 * n + 2) 0) (bs.getD (4 * n + 3) 0)
noncomputable def mkL (f : Nat → Nat) (n : Nat) (K : List Nat → β) : β := Nat.rec (motive := fun _ => (List Nat → β) → β) (fun K => K []) (fun n ih K => ih fun l => fN (f n) fun x => K (x :: l)) n K
noncomputable def nxtK (ws : List Nat) : Nat := (((ws.getD 15 0 + Sha.s0 (ws.getD 14 0)) % 4294967296 + ws.getD 6 0) % 4294967296 + Sha.s1 (ws.getD 1 0)) % 4294967296
noncomputable def extL (g : List Nat → Nat) (m : Nat) (ws : List Nat) (K : List Nat → β) : β := Nat.rec (motive := fun _ => List Nat → β) (fun ws => K ws) (fun _ ih ws => fN (g ws) fun x => ih (x :: ws)) m ws
noncomputable def rndK (s : Sha.St8) (k w : Nat) (K : Sha.St8 → β) : β :=
  Sha.St8.rec (motive := fun _ => β) (fun a b c d e f g h => fN (Sha.t1 ⟨a, b, c, d, e, f, g, h⟩ k w) fun t => fN (Sha.t2 ⟨a, b, c, d, e, f, g, h⟩) fun u => fN ((t + u) % 4294967296) fun x => fN ((d + t) % 4294967296) fun y => K ⟨x, a, b, c, y, e, f, g⟩) s
noncomputable def rndsK (K : Sha.St8 → β) (ks : List Nat) : List Nat → Sha.St8 → β :=
  List.rec (motive := fun _ => List Nat → Sha.St8 → β) (fun _ s => K s) (fun k _ ih ws s => List.rec (motive := fun _ => β) (K s) (fun w ws' _ => rndK s k w fun s' => ih ws' s') ws) ks
noncomputable def plusK (s r : Sha.St8) (K : Sha.St8 → β) : β :=
  Sha.St8.rec (motive := fun _ => β) (fun a b c d e f g h => Sha.St8.rec (motive := fun _ => β) (fun a' b' c' d' e' f' g' h' =>
    fN ((a' + a) % 4294967296) fun a => fN ((b' + b) % 4294967296) fun b => fN ((c' + c) % 4294967296) fun c => fN ((d' + d) % 4294967296) fun d => fN ((e' + e) % 4294967296) fun e => fN ((f' + f) % 4294967296) fun f => fN ((g' + g) % 4294967296) fun g => fN ((h' + h) % 4294967296) fun h => K ⟨a, b, c, d, e, f, g, h⟩) r) s
noncomputable def nextK (s : Sha.St8) (bs : List Nat) (K : Sha.St8 → β) : β := mkL (wordK bs) 16 fun l => extL nxtK 48 l fun ws => rndsK (fun r => plusK s r K) Sha.ks ws.reverse s

/-- f's first n values, the last one first. -/
def revL (f : Nat → Nat) : Nat → List Nat
  | 0 => []
  | n + 1 => f n :: revL f n
theorem revL_get (f : Nat → Nat) : ∀ (n j : Nat), j < n → (revL f n).getD j 0 = f (n - 1 - j)
  | 0, _, h => by omega
  | n + 1, 0, _ => rfl
  | n + 1, j + 1, h => by
    show (revL f n).getD j 0 = _
    rw [revL_get f n j (by omega)]
    congr 1
    omega
theorem revL_reverse (f : Nat → Nat) : ∀ n, (revL f n).reverse = (List.range n).map f
  | 0 => rfl
  | n + 1 => by
    show (f n :: revL f n).reverse = _
    rw [List.reverse_cons, revL_reverse f n, List.range_succ, List.map_append]
    rfl
theorem mkL_eq (f : Nat → Nat) (n : Nat) : ∀ (K : List Nat → β), mkL f n K = K (revL f n) := by
  induction n with
  | zero => intro K; rfl
  | succ n ih =>
    intro K
    have h0 : mkL f (n + 1) K = mkL f n fun l => fN (f n) fun x => K (x :: l) := rfl
    rw [h0, ih, fN_eq]
    rfl
theorem extL_eq {g : List Nat → Nat} {S : Nat → Nat} (hg : ∀ n, 16 ≤ n → g (revL S n) = S n) (K : List Nat → β) (m : Nat) : ∀ (n : Nat), 16 ≤ n → extL g m (revL S n) K = K (revL S (n + m)) := by
  induction m with
  | zero => intro n _; rfl
  | succ m ih =>
    intro n h
    have h0 : extL g (m + 1) (revL S n) K = fN (g (revL S n)) fun x => extL g m (x :: revL S n) K := rfl
    rw [h0, fN_eq, hg n h]
    have := ih (n + 1) (by omega)
    rw [show n + 1 + m = n + (m + 1) by omega] at this
    exact this
theorem nxtK_eq {B : Nat → Nat} (n : Nat) (h : 16 ≤ n) : nxtK (revL (Sha.sch B) n) = Sha.sch B n := by
  unfold nxtK
  rw [revL_get _ _ _ (by omega), revL_get _ _ _ (by omega), revL_get _ _ _ (by omega), revL_get _ _ _ (by omega), Sha.sch_hi h]
  rw [show n - 1 - 15 = n - 16 by omega, show n - 1 - 14 = n - 15 by omega, show n - 1 - 6 = n - 7 by omega, show n - 1 - 1 = n - 2 by omega]
theorem revL_congr {f g : Nat → Nat} (n : Nat) (h : ∀ i, i < n → f i = g i) : revL f n = revL g n := by
  induction n with
  | zero => rfl
  | succ n ih =>
    unfold revL
    rw [ih fun i hi => h i (by omega), h n (by omega)]
theorem rndK_eq (s : Sha.St8) (k w : Nat) (K : Sha.St8 → β) : rndK s k w K = K (Sha.rnd s k w) := by
  obtain ⟨a, b, c, d, e, f, g, h⟩ := s
  have h0 : rndK ⟨a, b, c, d, e, f, g, h⟩ k w K = fN (Sha.t1 ⟨a, b, c, d, e, f, g, h⟩ k w) fun t => fN (Sha.t2 ⟨a, b, c, d, e, f, g, h⟩) fun u => fN ((t + u) % 4294967296) fun x => fN ((d + t) % 4294967296) fun y => K ⟨x, a, b, c, y, e, f, g⟩ := rfl
  rw [h0, fN_eq, fN_eq, fN_eq, fN_eq]
  rfl
theorem plusK_eq (s r : Sha.St8) (K : Sha.St8 → β) : plusK s r K = K (Sha.plus s r) := by
  obtain ⟨a, b, c, d, e, f, g, h⟩ := s
  obtain ⟨a', b', c', d', e', f', g', h'⟩ := r
  have h0 : plusK ⟨a, b, c, d, e, f, g, h⟩ ⟨a', b', c', d', e', f', g', h'⟩ K = fN ((a' + a) % 4294967296) fun a => fN ((b' + b) % 4294967296) fun b => fN ((c' + c) % 4294967296) fun c => fN ((d' + d) % 4294967296) fun d => fN ((e' + e) % 4294967296) fun e => fN ((f' + f) % 4294967296) fun f => fN ((g' + g) % 4294967296) fun g => fN ((h' + h) % 4294967296) fun h => K ⟨a, b, c, d, e, f, g, h⟩ := rfl
  rw [h0, fN_eq, fN_eq, fN_eq, fN_eq, fN_eq, fN_eq, fN_eq, fN_eq]
  rfl
theorem rndsK_eq (K : Sha.St8 → β) (f W : Nat → Nat) (s : Sha.St8) : ∀ (n i : Nat), rndsK K ((List.range' i n).map f) ((List.range' i n).map W) (Sha.rnds f W s i) = K (Sha.rnds f W s (i + n))
  | 0, i => rfl
  | n + 1, i => by
    have h0 : rndsK K ((List.range' i (n + 1)).map f) ((List.range' i (n + 1)).map W) (Sha.rnds f W s i) = rndK (Sha.rnds f W s i) (f i) (W i) fun s' => rndsK K ((List.range' (i + 1) n).map f) ((List.range' (i + 1) n).map W) s' := rfl
    rw [h0, rndK_eq]
    have := rndsK_eq K f W s n (i + 1)
    rw [show i + 1 + n = i + (n + 1) by omega] at this
    exact this
theorem ks_range : Sha.ks = (List.range' 0 64).map Sha.K := by kernel_rfl
theorem word_sch (bs : List Nat) (i : Nat) (h : i < 16) : wordK bs i = Sha.sch (fun j => bs.getD j 0) i := by
  rw [Sha.sch_lo h]
  unfold wordK
  rfl
theorem nextK_eq (s : Sha.St8) (bs : List Nat) (K : Sha.St8 → β) : nextK s bs K = K (Sha.next s fun j => bs.getD j 0) := by
  have h2 := rndsK_eq (fun r => plusK s r K) Sha.K (Sha.sch fun j => bs.getD j 0) s 64 0
  rw [← ks_range, Nat.zero_add] at h2
  have h3 : Sha.rnds Sha.K (Sha.sch fun j => bs.getD j 0) s 0 = s := by unfold Sha.rnds; rfl
  rw [h3, plusK_eq] at h2
  unfold nextK
  rw [mkL_eq, revL_congr 16 (word_sch bs), extL_eq nxtK_eq _ 48 16 (Nat.le_refl _), revL_reverse, List.range_eq_range', h2]
  unfold Sha.next
  rfl
end

/-! ### In the evaluator -/
def u8s : List Value → Option (List Nat)
  | [] => some []
  | v :: l => match v, u8s l with
    | .int .u8 (.ofNat n), some ns => bif Nat.blt n 256 then some (n :: ns) else none
    | _, _ => none
def u32s : List Value → Option (List Nat)
  | [] => some []
  | v :: l => match v, u32s l with
    | .int .u32 (.ofNat n), some ns => bif Nat.blt n 4294967296 then some (n :: ns) else none
    | _, _ => none
theorem u8s_some : ∀ {l : List Value} {ns : List Nat}, u8s l = some ns → l = ns.map (fun n : Nat => Value.int .u8 n) ∧ ∀ n ∈ ns, n < 256
  | [], ns, h => by cases h; exact ⟨rfl, fun n h => by cases h⟩
  | v :: l, ns, h => by
    unfold u8s at h
    split at h
    · rename_i n ns' h1
      cases hb : Nat.blt n 256 with
      | false => rw [hb] at h; cases h
      | true =>
        rw [hb] at h
        cases h
        obtain ⟨h2, h3⟩ := u8s_some h1
        refine ⟨by rw [h2]; rfl, fun m hm => ?_⟩
        rcases List.mem_cons.1 hm with rfl | hm
        · exact blt_lt hb
        · exact h3 m hm
    · cases h
theorem u32s_some : ∀ {l : List Value} {ns : List Nat}, u32s l = some ns → l = ns.map (fun n : Nat => Value.int .u32 n) ∧ ∀ n ∈ ns, n < 4294967296
  | [], ns, h => by cases h; exact ⟨rfl, fun n h => by cases h⟩
  | v :: l, ns, h => by
    unfold u32s at h
    split at h
    · rename_i n ns' h1
      cases hb : Nat.blt n 4294967296 with
      | false => rw [hb] at h; cases h
      | true =>
        rw [hb] at h
        cases h
        obtain ⟨h2, h3⟩ := u32s_some h1
        refine ⟨by rw [h2]; rfl, fun m hm => ?_⟩
        rcases List.mem_cons.1 hm with rfl | hm
        · exact blt_lt hb
        · exact h3 m hm
    · cases h
noncomputable def st8M (r : Sha.St8) : M Value := Sha.St8.rec (motive := fun _ => M Value) (fun a b c d e f g h => M.pure (.agg #[.int .u32 (.ofNat a), .int .u32 (.ofNat b), .int .u32 (.ofNat c), .int .u32 (.ofNat d), .int .u32 (.ofNat e), .int .u32 (.ofNat f), .int .u32 (.ofNat g), .int .u32 (.ofNat h)])) r
noncomputable def nextV (ws bs : List Nat) : M Value :=
  match ws with
  | [a, b, c, d, e, f, g, h] => nextK ⟨a, b, c, d, e, f, g, h⟩ bs st8M
  | _ => M.fail
noncomputable def nextM (args : List Value) : M Value :=
  match args with
  | [.agg cs, .slice (some a) n _] => M.on (u32s cs.toList) fun ws => M.chk (Nat.ble 64 n && Nat.ble n 9223372036854775807) (M.bind (rdL 64 a) fun l => M.on (u8s l) fun bs => nextV ws bs)
  | _ => M.fail
theorem st8M_eq (r : Sha.St8) : st8M r = M.pure (.agg (st8V r)) := by cases r; rfl
theorem lo_nextV (ws bs : List Nat) : Loc (nextV ws bs) := by
  unfold nextV
  split
  · rw [nextK_eq, st8M_eq]; exact lo_pure _
  · exact lo_fail
theorem np_nextV (ws bs : List Nat) : NoPan (nextV ws bs) := by
  unfold nextV
  split
  · rw [nextK_eq, st8M_eq]; exact np_pure _
  · exact np_fail
theorem lo_nextM (args : List Value) : Loc (nextM args) := by
  unfold nextM
  split
  · exact lo_on _ fun ws => lo_chk _ (lo_bind (lo_rdL _ _) fun l => lo_on _ fun bs => lo_nextV _ _)
  · exact lo_fail
theorem np_nextM (args : List Value) : NoPan (nextM args) := by
  unfold nextM
  split
  · exact np_on _ fun ws => np_chk _ (np_bind (np_rdL _ _) fun l => np_on _ fun bs => np_nextV _ _)
  · exact np_fail
theorem getD_lt {bs : List Nat} (h : ∀ n ∈ bs, n < 256) (j : Nat) : bs.getD j 0 < 256 := by
  rw [List.getD]
  cases e : bs[j]? with
  | none => exact (by decide : (0 : Nat) < 256)
  | some x => exact h x (List.mem_of_getElem? e)
theorem orc_next : OrcOK Try.prog 134 nextM :=
  orc_con Try.func134 (by kernel_rfl) (by kernel_rfl) lo_nextM np_nextM (by
    intro w0 w r args args' s s' v e hr hfr ha
    unfold nextM at e
    split at e
    case h_2 => cases e
    rename_i cs a n c
    obtain ⟨v1, l1, rfl, q1, q2⟩ := ha.inv
    obtain ⟨v2, l2, rfl, q3, q4⟩ := q2.inv
    have := q4.inv_nil
    subst this
    obtain ⟨ws, hws, e2⟩ := on_some e
    obtain ⟨hck, e3⟩ := chk_some e2
    rw [Bool.and_eq_true] at hck
    have hn1 := Nat.le_of_ble_eq_true hck.1
    have hn2 := Nat.le_of_ble_eq_true hck.2
    obtain ⟨l, s1, e1, e4⟩ := bind_some e3
    obtain ⟨bs, hbs, e5⟩ := on_some e4
    clear e e2 e3 e4
    obtain ⟨hw1, hw2⟩ := u32s_some hws
    obtain ⟨hb1, hb2⟩ := u8s_some hbs
    rcases q3.sl_inv with ⟨a2, c2, rfl, ha2, hc, _⟩ | ⟨h0, _⟩
    case inr => omega
    obtain ⟨l', g1, g2, g3, g4⟩ := rdL_ok _ e1 hr ha2
    have hl : l' = bs.map (fun n : Nat => Value.int .u8 (n : Int)) := by
      rw [← hb1]
      refine plain_VRs_eq g3 ?_
      rw [List.all_eq_true, hb1]
      intro v hv
      obtain ⟨n, _, rfl⟩ := List.mem_map.1 hv
      rfl
    subst hl
    have hblen : bs.length = 64 := by simpa using g1
    obtain ⟨cs', rfl, hcs⟩ := q1.agg_inv
    have hcs' : cs'.toList = ws.map (fun n : Nat => Value.int .u32 (n : Int)) := by
      rw [← hw1]
      refine plain_VRs_eq hcs ?_
      rw [List.all_eq_true, hw1]
      intro v hv
      obtain ⟨n, _, rfl⟩ := List.mem_map.1 hv
      rfl
    obtain ⟨x0, x1, x2, x3, x4, x5, x6, x7, rfl⟩ : ∃ x0 x1 x2 x3 x4 x5 x6 x7, ws = [x0, x1, x2, x3, x4, x5, x6, x7] := by
      unfold nextV at e5
      split at e5
      · exact ⟨_, _, _, _, _, _, _, _, rfl⟩
      · cases e5
    replace e5 : nextK ⟨x0, x1, x2, x3, x4, x5, x6, x7⟩ bs st8M s1 = .some v s' := e5
    rw [nextK_eq, st8M_eq] at e5
    obtain ⟨rfl, rfl⟩ := pure_some e5
    have hcs2 : cs' = st8V ⟨x0, x1, x2, x3, x4, x5, x6, x7⟩ := by
      have := congrArg List.toArray hcs'
      rw [Array.toArray_toList] at this
      rw [this]
      rfl
    subst hcs2
    obtain ⟨b, o, b', d, rfl, rfl, hbk⟩ := ha2
    have hok : (⟨x0, x1, x2, x3, x4, x5, x6, x7⟩ : Sha.St8).Ok := ⟨hw2 _ (by simp), hw2 _ (by simp), hw2 _ (by simp), hw2 _ (by simp), hw2 _ (by simp), hw2 _ (by simp), hw2 _ (by simp), hw2 _ (by simp)⟩
    refine ⟨_, next_calls ⟨x0, x1, x2, x3, x4, x5, x6, x7⟩ hok (fun j => bs.getD j 0) (getD_lt hb2) b' (o + d) n c2 hn1 hn2 w (fun j hj => ?_), ?_⟩
    · have hj' : j < bs.length := by omega
      have h1 := g2 j (.int .u8 (bs[j] : Nat)) (by rw [List.getElem?_map, List.getElem?_eq_getElem hj']; rfl)
      rw [addr_add] at h1
      rw [h1]
      simp [List.getD, List.getElem?_eq_getElem hj']
    · rintro e w' ⟨rfl, hbl⟩
      refine ⟨_, r, rfl, .of_plain (by rfl), .of_rel g4.2.1 (by rw [g4.1]; exact hr.beyond hbl), g4.2.2.1, g4.2.2.2⟩)
end Go.Proofs.Ytofanlcjeohcjaa.Am
/- guard.More as a contract within the evaluator: the plain function, reckoned at once. -/
namespace Go.Proofs.Ytofanlcjeohcjaa.Am
open Go.RowKit

section
variable {β : Type}
noncomputable def crcsK (K : Nat → β) (l : List Nat) : Nat → β := List.rec (motive := fun _ => Nat → β) (fun n => K n) (fun c _ ih n => fN (Nat.xor (Nat.mod n 256) c) fun x => fN (crcT x) fun t => fN (Nat.xor t (Nat.div n 256)) fun m => ih m) l
theorem crcsK_eq (K : Nat → β) : ∀ (l : List Nat) (n : Nat), crcsK K l n = K (crcs n l)
  | [], n => rfl
  | c :: l, n => by
    have h0 : crcsK K (c :: l) n = fN (Nat.xor (Nat.mod n 256) c) fun x => fN (crcT x) fun t => fN (Nat.xor t (Nat.div n 256)) fun m => crcsK K l m := rfl
    rw [h0, fN_eq, fN_eq, fN_eq, crcsK_eq K l]
    rfl
end
noncomputable def moreV (sum : Nat) (bs : List Nat) : M Value := fN (Nat.xor 4294967295 sum) fun n => crcsK (fun m => fN (Nat.xor 4294967295 m) fun m => M.pure (.int .u32 (.ofNat m))) bs n
noncomputable def moreM (args : List Value) : M Value :=
  match args with
  | [.int .u32 (.ofNat sum), .slice (some a) n _] => M.chk (Nat.blt sum 4294967296 && Nat.ble n 4611686018427387904) (M.bind (rdL n a) fun l => M.on (u8s l) fun bs => moreV sum bs)
  | _ => M.fail
theorem moreV_eq (sum : Nat) (bs : List Nat) : moreV sum bs = M.pure (.int .u32 (crcMore sum bs : Nat)) := by
  unfold moreV
  rw [fN_eq, crcsK_eq, fN_eq]
  rfl
theorem lo_moreV (sum : Nat) (bs : List Nat) : Loc (moreV sum bs) := by rw [moreV_eq]; exact lo_pure _
theorem np_moreV (sum : Nat) (bs : List Nat) : NoPan (moreV sum bs) := by rw [moreV_eq]; exact np_pure _
theorem lo_moreM (args : List Value) : Loc (moreM args) := by
  unfold moreM
  split
  · exact lo_chk _ (lo_bind (lo_rdL _ _) fun l => lo_on _ fun bs => lo_moreV _ _)
  · exact lo_fail
theorem np_moreM (args : List Value) : NoPan (moreM args) := by
  unfold moreM
  split
  · exact np_chk _ (np_bind (np_rdL _ _) fun l => np_on _ fun bs => np_moreV _ _)
  · exact np_fail
theorem orc_more : OrcOK Try.prog 130 moreM :=
  orc_con Try.func130 (by kernel_rfl) (by kernel_rfl) lo_moreM np_moreM (by
    intro w0 w r args args' s s' v e hr hfr ha
    unfold moreM at e
    split at e
    case h_2 => cases e
    rename_i sum a n c
    obtain ⟨v1, l1, rfl, q1, q2⟩ := ha.inv
    obtain ⟨v2, l2, rfl, q3, q4⟩ := q2.inv
    have := q4.inv_nil
    subst this
    have := q1.int_inv
    subst this
    obtain ⟨hck, e3⟩ := chk_some e
    rw [Bool.and_eq_true] at hck
    have hn1 := blt_lt hck.1
    have hn2 := Nat.le_of_ble_eq_true hck.2
    obtain ⟨l, s1, e1, e4⟩ := bind_some e3
    obtain ⟨bs, hbs, e5⟩ := on_some e4
    clear e e3 e4
    obtain ⟨hb1, hb2⟩ := u8s_some hbs
    rw [moreV_eq] at e5
    obtain ⟨rfl, rfl⟩ := pure_some e5
    have fin : ∀ (b' o : Nat) (c2 : Nat), bs.length = n → (∀ j, (h : j < bs.length) → w.cell? ⟨b', o + j, none⟩ = some (.int .u8 (bs[j] : Nat))) → Same s s1 → Owed Try.prog 130 w0 w r [.int .u32 (.ofNat sum), .slice (some ⟨b', o, none⟩) n c2] s (.int .u32 (crcMore sum bs : Nat)) s1 := by
      intro b' o c2 hlen hcell g4
      subst hlen
      refine ⟨_, more_calls sum hn1 b' o c2 bs hb2 hn2 w hcell, ?_⟩
      rintro e w' ⟨rfl, hbl⟩
      exact ⟨_, r, rfl, .of_plain (by rfl), .of_rel g4.2.1 (by rw [g4.1]; exact hr.beyond hbl), g4.2.2.1, g4.2.2.2⟩
    rcases q3.sl_inv with ⟨a2, c2, rfl, ha2, hc, _⟩ | ⟨rfl, _, _, a2, c2, rfl⟩
    · obtain ⟨l', g1, g2, g3, g4⟩ := rdL_ok _ e1 hr ha2
      have hl : l' = bs.map (fun n : Nat => Value.int .u8 (n : Int)) := by
        rw [← hb1]
        refine plain_VRs_eq g3 ?_
        rw [List.all_eq_true, hb1]
        intro v hv
        obtain ⟨n, _, rfl⟩ := List.mem_map.1 hv
        rfl
      subst hl
      have hblen : bs.length = n := by simpa using g1
      obtain ⟨b, o, b', d, rfl, rfl, hbk⟩ := ha2
      refine fin b' (o + d) c2 hblen (fun j hj => ?_) g4
      have h1 := g2 j (.int .u8 (bs[j] : Nat)) (by rw [List.getElem?_map, List.getElem?_eq_getElem hj]; rfl)
      rw [addr_add] at h1
      exact h1
    · obtain ⟨rfl, rfl⟩ := pure_some (show M.pure [] s = .some l s1 from e1)
      have hbs0 : bs = [] := by
        have := congrArg List.length hb1
        simpa using this.symm
      subst hbs0
      refine ⟨_, more_nil sum hn1 (some a2) c2 w, ?_⟩
      rintro e w' ⟨rfl, hbl⟩
      exact ⟨_, r, rfl, .of_plain (by rfl), .of_rel rfl (hr.beyond hbl), rfl, rfl⟩)
end Go.Proofs.Ytofanlcjeohcjaa.Am
/- Runs of the evaluator said of all states: rules. -/
namespace Go.Proofs.Ytofanlcjeohcjaa.Am

section
variable {α β : Type} {s : St}
/-- It ends, without a panic, and so. -/
def W (m : M α) (s : St) (Q : α → St → Prop) : Prop := ∃ a s', m s = .some a s' ∧ Q a s'
theorem W.mono {m : M α} {Q R : α → St → Prop} (h : W m s Q) (k : ∀ a s', Q a s' → R a s') : W m s R := let ⟨a, s', e, q⟩ := h; ⟨a, s', e, k a s' q⟩
theorem W.of {m : M α} {Q : α → St → Prop} {a : α} {s' : St} (e : m s = .some a s') (q : Q a s') : W m s Q := ⟨a, s', e, q⟩
theorem W.pure {a : α} {Q : α → St → Prop} (q : Q a s) : W (M.pure a) s Q := ⟨a, s, rfl, q⟩
theorem bind_run {m : M α} {f : α → M β} {a : α} {s1 : St} (e : m s = .some a s1) : M.bind m f s = f a s1 := by
  unfold M.bind
  rw [e]
theorem W.bind {m : M α} {f : α → M β} {Q : β → St → Prop} (h : W m s fun a s1 => W (f a) s1 Q) : W (M.bind m f) s Q := by
  obtain ⟨a, s1, e, b, s2, e2, q⟩ := h
  refine ⟨b, s2, ?_, q⟩
  unfold M.bind
  rw [e]
  exact e2
theorem W.chk {b : Bool} {m : M α} {Q : α → St → Prop} (hb : b = true) (h : W m s Q) : W (M.chk b m) s Q := by subst hb; exact h
theorem W.on {x : Option α} {a : α} {f : α → M β} {Q : β → St → Prop} (e : x = some a) (h : W (f a) s Q) : W (M.on x f) s Q := by subst e; exact h
theorem W.ofOpt {x : Option α} {a : α} {Q : α → St → Prop} (e : x = some a) (q : Q a s) : W (M.ofOpt x) s Q := by subst e; exact W.pure q
theorem W.ite {b : Bool} {x y : M α} {Q : α → St → Prop} (h1 : b = true → W x s Q) (h2 : b = false → W y s Q) : W (M.if b x y) s Q := by
  cases b
  · exact h2 rfl
  · exact h1 rfl
theorem W.cast {m n : M α} {Q : α → St → Prop} (e : m s = n s) (h : W n s Q) : W m s Q := let ⟨a, s', e', q⟩ := h; ⟨a, s', e.trans e', q⟩
theorem W.np {m : M α} {Q : α → St → Prop} (h : W m s Q) : W (noP m) s Q := by
  obtain ⟨a, s1, e, q⟩ := h
  exact ⟨a, s1, by unfold noP; rw [e], q⟩
theorem blt_t {a b : Nat} (h : a < b) : Nat.blt a b = true := by simpa using h
theorem blt_f {a b : Nat} (h : b ≤ a) : Nat.blt a b = false := by
  cases e : Nat.blt a b with
  | false => rfl
  | true => exact absurd (blt_lt e) (Nat.not_lt_of_le h)

/-! ### States -/
noncomputable def St.rdN (s : St) (l : Nat) : St := ⟨s.mem, s.next, s.lim, notes l s.lim s.rd, s.wr, s.cx⟩
noncomputable def St.wrN (s : St) (l : Nat) (c : Cell) : St := ⟨T.set s.mem l c, s.next, s.lim, s.rd, notes l s.lim s.wr, s.cx⟩
noncomputable def St.cxN (s : St) (c : Ctx) : St := ⟨s.mem, s.next, s.lim, s.rd, s.wr, c⟩
theorem notes_ext (l lim : Nat) (r : List Nat) : ∃ d, notes l lim r = d ++ r ∧ ∀ x ∈ d, x < lim ∧ x = l := by
  rcases Nat.lt_or_ge l lim with h | h
  · exact ⟨[l], by unfold notes; rw [blt_t h]; rfl, fun x hx => by
      have : x = l := by simpa using hx
      exact ⟨by omega, this⟩⟩
  · exact ⟨[], by unfold notes; rw [blt_f h]; rfl, fun x hx => by cases hx⟩
/-- What may have been read (F), and turned (G), of what lay there; all else is as it was. -/
structure Ext (F G : Nat → Prop) (s s' : St) : Prop where
  nxt : s.next ≤ s'.next
  lim : s'.lim = s.lim
  cx : s'.cx = s.cx
  mem : ∀ l, l < s.next → ¬ G l → T.get s'.mem l = T.get s.mem l
  rd : ∃ d, s'.rd = d ++ s.rd ∧ ∀ l ∈ d, l < s.lim ∧ F l
  wr : ∃ d, s'.wr = d ++ s.wr ∧ ∀ l ∈ d, l < s.lim ∧ G l
abbrev Non : Nat → Prop := fun _ => False
theorem Ext.refl {F G : Nat → Prop} (s : St) : Ext F G s s := ⟨Nat.le_refl _, rfl, rfl, fun _ _ _ => rfl, ⟨[], rfl, fun _ h => by cases h⟩, ⟨[], rfl, fun _ h => by cases h⟩⟩
theorem Ext.trans {F G F' G' : Nat → Prop} {s s1 s2 : St} (h : Ext F G s s1) (k : Ext F' G' s1 s2) (hb : s.lim ≤ s.next) (hF : ∀ l, l < s.lim → F' l → F l) (hG : ∀ l, l < s.next → G' l → G l) : Ext F G s s2 := by
  refine ⟨Nat.le_trans h.nxt k.nxt, k.lim.trans h.lim, k.cx.trans h.cx, fun l hl hg => ?_, ?_, ?_⟩
  · rw [k.mem l (Nat.lt_of_lt_of_le hl h.nxt) fun x => hg (hG l hl x)]
    exact h.mem l hl hg
  · obtain ⟨d1, e1, q1⟩ := h.rd
    obtain ⟨d2, e2, q2⟩ := k.rd
    refine ⟨d2 ++ d1, by rw [e2, e1, List.append_assoc], fun l hl => ?_⟩
    rcases List.mem_append.1 hl with hl | hl
    · have := q2 l hl
      rw [h.lim] at this
      exact ⟨this.1, hF l this.1 this.2⟩
    · exact q1 l hl
  · obtain ⟨d1, e1, q1⟩ := h.wr
    obtain ⟨d2, e2, q2⟩ := k.wr
    refine ⟨d2 ++ d1, by rw [e2, e1, List.append_assoc], fun l hl => ?_⟩
    rcases List.mem_append.1 hl with hl | hl
    · have := q2 l hl
      rw [h.lim] at this
      exact ⟨this.1, hG l (Nat.lt_of_lt_of_le this.1 hb) this.2⟩
    · exact q1 l hl
theorem Ext.weak {F G F' G' : Nat → Prop} {s s1 : St} (k : Ext F' G' s s1) (hb : s.lim ≤ s.next) (hF : ∀ l, l < s.lim → F' l → F l) (hG : ∀ l, l < s.next → G' l → G l) : Ext F G s s1 := (Ext.refl s).trans k hb hF hG
theorem Ext.rdN {F G : Nat → Prop} (s : St) (l : Nat) (hF : l < s.lim → F l) : Ext F G s (s.rdN l) := by
  obtain ⟨d, e, q⟩ := notes_ext l s.lim s.rd
  exact ⟨Nat.le_refl _, rfl, rfl, fun _ _ _ => rfl, ⟨d, e, fun x hx => ⟨(q x hx).1, by have := q x hx; rw [this.2]; exact hF (by rw [← this.2]; exact this.1)⟩⟩, ⟨[], rfl, fun _ h => by cases h⟩⟩
theorem Ext.wrN {F G : Nat → Prop} (s : St) (l : Nat) (c : Cell) (hG : G l) : Ext F G s (s.wrN l c) := by
  obtain ⟨d, e, q⟩ := notes_ext l s.lim s.wr
  refine ⟨Nat.le_refl _, rfl, rfl, fun x _ hx => ?_, ⟨[], rfl, fun _ h => by cases h⟩, ⟨d, e, fun x hx => ⟨(q x hx).1, by rw [(q x hx).2]; exact hG⟩⟩⟩
  show T.get (T.set s.mem l c) x = _
  rw [T.get_set, if_neg]
  intro h
  exact hx (by rw [h]; exact hG)
theorem Ext.bnd {F G : Nat → Prop} {s s' : St} (h : Ext F G s s') (hb : s.lim ≤ s.next) : s'.lim ≤ s'.next := by rw [h.lim]; exact Nat.le_trans hb h.nxt

/-- What lies at a place: of the call's own, or of what lay there ahead of it. -/
def At (s : St) (b o : Nat) (v : Value) : Prop := b + o < s.next ∧ (T.get s.mem (b + o) = some (.C b v) ∨ T.get s.mem (b + o) = some (.O (.old b v)))
def Own (s : St) (b o : Nat) (v : Value) : Prop := b + o < s.next ∧ T.get s.mem (b + o) = some (.C b v)
theorem Own.at' {b o : Nat} {v : Value} (h : Own s b o v) : At s b o v := ⟨h.1, .inl h.2⟩
theorem At.ext {F G : Nat → Prop} {s s' : St} {b o : Nat} {v : Value} (h : At s b o v) (e : Ext F G s s') (hG : ¬ G (b + o)) : At s' b o v :=
  ⟨Nat.lt_of_lt_of_le h.1 e.nxt, by rw [e.mem _ h.1 hG]; exact h.2⟩
theorem Own.ext {F G : Nat → Prop} {s s' : St} {b o : Nat} {v : Value} (h : Own s b o v) (e : Ext F G s s') (hG : ¬ G (b + o)) : Own s' b o v :=
  ⟨Nat.lt_of_lt_of_le h.1 e.nxt, by rw [e.mem _ h.1 hG]; exact h.2⟩
theorem At.same {s s' : St} {b o : Nat} {v : Value} (h : At s b o v) (hm : s'.mem = s.mem) (hn : s'.next = s.next) : At s' b o v := by
  unfold At at *
  rw [hm, hn]
  exact h
theorem Own.same {s s' : St} {b o : Nat} {v : Value} (h : Own s b o v) (hm : s'.mem = s.mem) (hn : s'.next = s.next) : Own s' b o v := by
  unfold Own at *
  rw [hm, hn]
  exact h
/-- Values in a row, from a place on. -/
def Row (s : St) (b o : Nat) (l : List Value) : Prop := ∀ i v, l[i]? = some v → At s b (o + i) v
def OwnRow (s : St) (b o : Nat) (l : List Value) : Prop := ∀ i v, l[i]? = some v → Own s b (o + i) v
theorem OwnRow.row {b o : Nat} {l : List Value} (h : OwnRow s b o l) : Row s b o l := fun i v e => (h i v e).at'
theorem Row.ext {F G : Nat → Prop} {s s' : St} {b o : Nat} {l : List Value} (h : Row s b o l) (e : Ext F G s s') (hG : ∀ i, i < l.length → ¬ G (b + (o + i))) : Row s' b o l := fun i v q => (h i v q).ext e (hG i (List.getElem?_eq_some_iff.1 q).1)
theorem OwnRow.ext {F G : Nat → Prop} {s s' : St} {b o : Nat} {l : List Value} (h : OwnRow s b o l) (e : Ext F G s s') (hG : ∀ i, i < l.length → ¬ G (b + (o + i))) : OwnRow s' b o l := fun i v q => (h i v q).ext e (hG i (List.getElem?_eq_some_iff.1 q).1)
theorem Row.ext0 {F : Nat → Prop} {s s' : St} {b o : Nat} {l : List Value} (h : Row s b o l) (e : Ext F Non s s') : Row s' b o l := h.ext e fun _ _ => id
theorem OwnRow.ext0 {F : Nat → Prop} {s s' : St} {b o : Nat} {l : List Value} (h : OwnRow s b o l) (e : Ext F Non s s') : OwnRow s' b o l := h.ext e fun _ _ => id
theorem At.ext0 {F : Nat → Prop} {s s' : St} {b o : Nat} {v : Value} (h : At s b o v) (e : Ext F Non s s') : At s' b o v := h.ext e id
theorem Own.ext0 {F : Nat → Prop} {s s' : St} {b o : Nat} {v : Value} (h : Own s b o v) (e : Ext F Non s s') : Own s' b o v := h.ext e id
theorem Row.tail {b o : Nat} {v : Value} {l : List Value} (h : Row s b o (v :: l)) : Row s b (o + 1) l := fun i x e => by
  have := h (i + 1) x (by simpa using e)
  rw [show o + 1 + i = o + (i + 1) by omega]
  exact this

/-! ### Touches of memory -/
theorem W.rdC {l : Nat} {c : Cell} {Q : Cell → St → Prop} (h : T.get s.mem l = some c) (hl : l < s.next) (q : Q c (s.rdN l)) : W (rdC l) s Q := by
  obtain ⟨mem, next, lim, rd, wr, cx⟩ := s
  refine ⟨c, _, ?_, q⟩
  unfold Am.rdC
  simp only at h hl ⊢
  rw [blt_t hl, h]
  rfl
theorem W.wrC {l : Nat} {c : Cell} {Q : Unit → St → Prop} (hl : l < s.next) (q : Q () (s.wrN l c)) : W (wrC l c) s Q := by
  obtain ⟨mem, next, lim, rd, wr, cx⟩ := s
  refine ⟨(), _, ?_, q⟩
  unfold Am.wrC
  simp only at hl ⊢
  obtain ⟨v, a, b, e⟩ := T.set_N mem l c
  rw [blt_t hl]
  show T.rec (motive := fun _ => R Unit) .none (fun a b d _ _ => R.some () (St.mk (.N a b d) next lim rd (notes l lim wr) cx)) (T.set mem l c) = R.some () (St.mk (T.set mem l c) next lim rd (notes l lim wr) cx)
  rw [e]
theorem beq_t (a : Nat) : Nat.beq a a = true := Nat.beq_refl a
theorem W.rdV {b o : Nat} {v : Value} {Q : Value → St → Prop} (h : At s b o v) (q : Q v (s.rdN (b + o))) : W (rdV ⟨b, o, none⟩) s Q := by
  refine W.bind ?_
  rcases h with ⟨h1, h2 | h2⟩
  · refine W.rdC h2 h1 (W.ofOpt (a := v) ?_ q)
    show Bool.rec (motive := fun _ => Option Value) none (some v) (Nat.beq b b) = _
    rw [beq_t]
  · refine W.rdC h2 h1 (W.ofOpt (a := v) ?_ q)
    show Bool.rec (motive := fun _ => Option Value) none (some v) (Nat.beq b b) = _
    rw [beq_t]
theorem W.wrV {b o : Nat} {u v : Value} {Q : Unit → St → Prop} (h : Own s b o u) (hv : oneCell v = true) (q : Q () ((s.rdN (b + o)).wrN (b + o) (.C b v))) : W (wrV ⟨b, o, none⟩ v) s Q := by
  refine W.bind (W.rdC h.2 h.1 (W.chk ?_ (W.wrC h.1 q)))
  show (Nat.beq b b && oneCell v) = true
  rw [beq_t, hv]
  rfl
theorem W.fA {γ : Type} {a : Addr} {K : Addr → M γ} {Q : γ → St → Prop} (h : W (K a) s Q) : W (fA a K) s Q := by rw [fA_eq]; exact h
theorem W.fN {γ : Type} {n : Nat} {K : Nat → M γ} {Q : γ → St → Prop} (h : W (K n) s Q) : W (fN n K) s Q := by rw [fN_eq]; exact h
theorem W.rdL : ∀ {l : List Value} {s : St} {b o : Nat} {Q : List Value → St → Prop}, Row s b o l →
    (∀ s1, s1.mem = s.mem → s1.next = s.next → Ext (fun x => b + o ≤ x ∧ x < b + o + l.length) Non s s1 → Q l s1) → W (rdL l.length ⟨b, o, none⟩) s Q
  | [], s, b, o, Q, _, q => W.pure (q s rfl rfl (Ext.refl s))
  | v :: l, s, b, o, Q, h, q => by
    have hv := h 0 v rfl
    show W (Am.fA (⟨b, o, none⟩ : Addr) fun a => M.bind (Am.rdV a) fun v => M.bind (Am.rdL l.length ⟨a.block, Nat.succ a.off, a.spot⟩) fun l => M.pure (v :: l)) s Q
    refine W.fA (W.bind (W.rdV hv (W.bind (W.rdL (l := l) (s := s.rdN (b + (o + 0))) (b := b) (o := o + 1) (fun i x e => (h.tail i x e).same rfl rfl) fun s1 h1 h2 h3 => W.pure (q s1 h1 h2 ?_)))))
    have e0 : Ext (fun x => b + o ≤ x ∧ x < b + o + (v :: l).length) Non s (s.rdN (b + (o + 0))) := Ext.rdN s _ fun _ => by simp
    obtain ⟨d1, p1, p2⟩ := e0.rd
    obtain ⟨d2, p3, p4⟩ := h3.rd
    obtain ⟨d3, p5, p6⟩ := h3.wr
    refine ⟨Nat.le_of_eq h2.symm, h3.lim, h3.cx, fun x _ _ => by rw [h1]; rfl, ⟨d2 ++ d1, by rw [p3, p1, List.append_assoc], fun x hx => ?_⟩, ⟨d3, p5, p6⟩⟩
    rcases List.mem_append.1 hx with hx | hx
    · have := p4 x hx
      simp only [List.length_cons]
      exact ⟨this.1, by omega, by omega⟩
    · exact p2 x hx
end
end Go.Proofs.Ytofanlcjeohcjaa.Am
/- Runs of the evaluator said of all states: rows written, blocks made, frames, calls. -/
namespace Go.Proofs.Ytofanlcjeohcjaa.Am

section
variable {α β : Type} {s : St}
/-- In a row, from a place on. -/
abbrev In (b o n : Nat) : Nat → Prop := fun x => b + o ≤ x ∧ x < b + o + n
theorem wrLs : ∀ {l : List Value} {s : St} {b o : Nat}, (∀ i, i < l.length → ∃ u, Own s b (o + i) u) → l.all oneCell = true →
    ∃ s1, wrL l ⟨b, o, none⟩ s = .some () s1 ∧ s1.next = s.next ∧ Ext (In b o l.length) (In b o l.length) s s1 ∧ OwnRow s1 b o l
  | [], s, b, o, _, _ => ⟨s, rfl, rfl, Ext.refl s, fun i v e => by simp at e⟩
  | v :: l, s, b, o, h, h1 => by
    rw [List.all_cons, Bool.and_eq_true] at h1
    obtain ⟨u, hu⟩ := h 0 (by simp)
    obtain ⟨a, s1, e1, rfl⟩ : ∃ a s1, wrV ⟨b, o, none⟩ v s = .some a s1 ∧ s1 = (s.rdN (b + o)).wrN (b + o) (.C b v) := W.wrV hu h1.1 rfl
    have x1 : Ext (In b o (l.length + 1)) (In b o (l.length + 1)) s ((s.rdN (b + o)).wrN (b + o) (.C b v)) := by
      have a1 : Ext (In b o (l.length + 1)) (In b o (l.length + 1)) s (s.rdN (b + o)) := Ext.rdN s _ fun _ => ⟨Nat.le_refl _, by omega⟩
      have a2 : Ext (In b o (l.length + 1)) (In b o (l.length + 1)) (s.rdN (b + o)) ((s.rdN (b + o)).wrN (b + o) (.C b v)) := Ext.wrN _ _ _ ⟨Nat.le_refl _, by omega⟩
      obtain ⟨d1, p1, p2⟩ := a1.rd
      obtain ⟨d2, p3, p4⟩ := a2.wr
      exact ⟨Nat.le_refl _, rfl, rfl, fun x q1 q2 => a2.mem x q1 q2, ⟨d1, p1, p2⟩, ⟨d2, p3, p4⟩⟩
    have own : ∀ i w, i ≠ 0 → Own s b (o + i) w → Own ((s.rdN (b + o)).wrN (b + o) (.C b v)) b (o + i) w := fun i w hi hw => ⟨hw.1, by
      show T.get (T.set s.mem (b + o) (.C b v)) (b + (o + i)) = _
      rw [T.get_set, if_neg (by omega)]
      exact hw.2⟩
    obtain ⟨s2, e2, n2, x2, r2⟩ := wrLs (l := l) (s := (s.rdN (b + o)).wrN (b + o) (.C b v)) (b := b) (o := o + 1) (fun i hi => by
      obtain ⟨w, hw⟩ := h (i + 1) (by simpa using hi)
      rw [show o + 1 + i = o + (i + 1) by omega]
      exact ⟨w, own _ _ (by omega) hw⟩) h1.2
    have e3 : wrL (v :: l) ⟨b, o, none⟩ s = .some () s2 := by
      show Am.fA (⟨b, o, none⟩ : Addr) (fun a => M.bind (wrV a v) fun _ => wrL l ⟨a.block, Nat.succ a.off, a.spot⟩) s = _
      rw [fA_eq]
      unfold M.bind
      rw [e1]
      exact e2
    refine ⟨s2, e3, n2, ?_, fun i w e => ?_⟩
    · obtain ⟨d1, p1, p2⟩ := x1.rd
      obtain ⟨d2, p3, p4⟩ := x2.rd
      obtain ⟨d3, p5, p6⟩ := x1.wr
      obtain ⟨d4, p7, p8⟩ := x2.wr
      have sub : ∀ x, In b (o + 1) l.length x → In b o (l.length + 1) x := fun x hx => ⟨by have := hx.1; omega, by have := hx.2; omega⟩
      refine ⟨Nat.le_of_eq n2.symm, x2.lim, x2.cx, fun x q1 q2 => (x2.mem x q1 fun y => q2 (sub x y)).trans (x1.mem x q1 q2), ⟨d2 ++ d1, by rw [p3, p1, List.append_assoc], fun x hx => ?_⟩, ⟨d4 ++ d3, by rw [p7, p5, List.append_assoc], fun x hx => ?_⟩⟩
      · rcases List.mem_append.1 hx with hx | hx
        · exact ⟨(p4 x hx).1, sub x (p4 x hx).2⟩
        · exact p2 x hx
      · rcases List.mem_append.1 hx with hx | hx
        · exact ⟨(p8 x hx).1, sub x (p8 x hx).2⟩
        · exact p6 x hx
    · cases i with
      | zero =>
        have : v = w := by simpa using e
        subst this
        have o1 : Own ((s.rdN (b + o)).wrN (b + o) (.C b v)) b o v := ⟨hu.1, by
          show T.get (T.set s.mem (b + o) (.C b v)) (b + o) = _
          rw [T.get_set, if_pos rfl]⟩
        exact o1.ext x2 fun y => by have := y.1; omega
      | succ i =>
        rw [show o + (i + 1) = o + 1 + i by omega]
        exact r2 i w (by simpa using e)
theorem W.wrL {l : List Value} {b o : Nat} {Q : Unit → St → Prop} (h : ∀ i, i < l.length → ∃ u, Own s b (o + i) u) (h1 : l.all oneCell = true)
    (q : ∀ s1, s1.next = s.next → Ext (In b o l.length) (In b o l.length) s s1 → OwnRow s1 b o l → Q () s1) : W (wrL l ⟨b, o, none⟩) s Q := by
  obtain ⟨s1, e, h2, h3, h4⟩ := wrLs h h1
  exact ⟨(), s1, e, q s1 h2 h3 h4⟩

theorem layL_in : ∀ (vs : List Value) (b loc : Nat) (t : T Cell) (l : Nat), T.get (layL b vs loc t) l = if loc ≤ l ∧ l < loc + vs.length then (vs[l - loc]?).map (Cell.C b) else T.get t l
  | [], b, loc, t, l => by
    rw [if_neg (by simp)]
    rfl
  | v :: vs, b, loc, t, l => by
    have e : layL b (v :: vs) loc t = layL b vs (loc + 1) (T.set t loc (.C b v)) := by
      show Am.fN loc (fun loc => layL b vs (Nat.succ loc) (T.set t loc (.C b v))) = _
      rw [fN_eq]
    rw [e, layL_in vs b (loc + 1), T.get_set]
    simp only [List.length_cons]
    by_cases h1 : l = loc
    · subst h1
      rw [if_neg (by omega), if_pos rfl, if_pos (by omega), Nat.sub_self]
      rfl
    · by_cases h2 : loc + 1 ≤ l ∧ l < loc + 1 + vs.length
      · rw [if_pos h2, if_pos (by omega), show l - loc = (l - (loc + 1)) + 1 by omega]
        rfl
      · rw [if_neg h2, if_neg h1, if_neg (by omega)]
/-- A new block. -/
theorem newLs (vs : List Value) (s : St) : ∃ s1, newL vs s = .some s.next s1 ∧ s1.next = s.next + vs.length + 1 ∧ Ext Non Non s s1 ∧ OwnRow s1 s.next 0 vs := by
  obtain ⟨mem, next, lim, rd, wr, cx⟩ := s
  refine ⟨⟨layL next vs next mem, next + vs.length + 1, lim, rd, wr, cx⟩, ?_, rfl, ⟨by simp only; omega, rfl, rfl, fun l hl _ => ?_, ⟨[], rfl, fun _ h => by cases h⟩, ⟨[], rfl, fun _ h => by cases h⟩⟩, fun i v e => ?_⟩
  · show Am.fN next (fun b => Am.fN (Nat.succ (Nat.add b vs.length)) fun n => R.some b (St.mk (layL b vs b mem) n lim rd wr cx)) = _
    rw [fN_eq, fN_eq]
    rfl
  · simp only at hl ⊢
    rw [layL_in, if_neg (by omega)]
  · have hi := (List.getElem?_eq_some_iff.1 e).1
    refine ⟨by simp only; omega, ?_⟩
    simp only
    rw [layL_in, if_pos (by omega), show next + (0 + i) - next = i by omega, e]
    rfl
theorem W.newL {vs : List Value} {Q : Nat → St → Prop} (q : ∀ s1, s1.next = s.next + vs.length + 1 → Ext Non Non s s1 → OwnRow s1 s.next 0 vs → Q s.next s1) : W (newL vs) s Q := by
  obtain ⟨s1, e, h1, h2, h3⟩ := newLs vs s
  exact ⟨_, s1, e, q s1 h1 h2 h3⟩

/-! ### Frames -/
theorem W.run {E : Env} {n : Nat} {af : AF} {Q : Value × FrameMode → St → Prop} (h : W (stepA E (callW E (runF E n)) (roundW (runF E n)) (deferW E (runF E n)) af) s fun p s1 => W (stepR (runF E n) p) s1 Q) : W (runF E (n + 1) af) s Q :=
  W.bind (m := stepA E (callW E (runF E n)) (roundW (runF E n)) (deferW E (runF E n)) af) (f := stepR (runF E n)) h
/-- A step at a piece of code. -/
theorem W.code {E : Env} {n f nt g : Nat} {tm : T Value} {todo k : List Item} {c : Code} {ki : CallKind} {ro : Option Nat} {Q : Value × FrameMode → St → Prop} (ht : skim 64 todo = .code c :: k)
    (h : W (codeF E (callW E (runF E n)) (roundW (runF E n)) ⟨f, nt, g, tm, .code c :: k, .run, ki, ro⟩ k c) s fun p s1 => W (stepR (runF E n) p) s1 Q) : W (runF E (n + 1) ⟨f, nt, g, tm, todo, .run, ki, ro⟩) s Q := by
  refine W.run ?_
  show W (noP (runItems E (callW E (runF E n)) (roundW (runF E n)) ⟨f, nt, g, tm, skim 64 todo, .run, ki, ro⟩ (skim 64 todo))) s _
  rw [ht]
  exact W.np h
/-- On to what is to be done next. -/
theorem W.go {E : Env} {n : Nat} {af : AF} {Q : Value × FrameMode → St → Prop} (h : W (runF E n af) s Q) : W (stepR (runF E n) (.go af)) s Q := h
/-- Its values, one by one. -/
def Tm (tm : T Value) (l : List (Nat × Value)) : Prop := ∀ p ∈ l, T.get tm p.1 = some p.2

theorem resL_run {E : Env} {tm : T Value} : ∀ {rs : List Nat} {vs : List Value} {s : St}, rs.map (T.get tm) = vs.map some → resL E tm (rs.map .tmp) s = .some vs s
  | [], [], _, _ => rfl
  | [], _ :: _, _, h => by simp at h
  | _ :: _, [], _, h => by simp at h
  | r :: rs, v :: vs, s, h => by
    simp only [List.map_cons, List.cons.injEq] at h
    show M.bind (resV E tm (.tmp r)) (fun v => M.bind (resL E tm (rs.map .tmp)) fun l => M.pure (v :: l)) s = _
    have e1 : resV E tm (.tmp r) s = .some v s := by
      show M.ofOpt (tm.get r) s = _
      rw [h.1]
      rfl
    rw [bind_run e1, bind_run (resL_run h.2)]
    rfl
/-- The end of a frame that no deferred call keeps. -/
theorem W.ret {E : Env} {n f nt g : Nat} {tm : T Value} {todo : List Item} {ki : CallKind} {fn : Func} {rs : List Nat} {vs : List Value} {up : Option FrameMode} {Q : Value × FrameMode → St → Prop} (ht : (∃ k, skim 64 todo = .code .ret :: k) ∨ skim 64 todo = [])
    (hf : E.fn.get f = some fn) (hr : fn.results.toList = rs.map .tmp) (hv : rs.map (T.get tm) = vs.map some) (hc : s.cx = .cx up (some [])) (q : Q (tupV vs, up.getD .run) s) : W (runF E (n + 2) ⟨f, nt, g, tm, todo, .run, ki, none⟩) s Q := by
  have h1 : W (runF E (n + 1) ⟨f, nt, g, tm, skim 64 todo, .returning, ki, none⟩) s Q := by
    refine W.run ?_
    show W (unwindF E (deferW E (runF E n)) ⟨f, nt, g, tm, skim 64 todo, .returning, ki, none⟩) s _
    refine W.bind (W.of (a := s.cx) (s' := s) (by obtain ⟨mem, next, lim, rd, wr, cx⟩ := s; rfl) ?_)
    rw [hc]
    show W (outF E ⟨f, nt, g, tm, skim 64 todo, .returning, ki, none⟩ up) s _
    refine W.on hf (W.bind (W.of (a := tupV vs) (s' := s) ?_ (W.pure (W.pure q))))
    show M.bind (resL E tm fn.results.toList) (fun l => M.pure (tupV l)) s = _
    rw [hr, bind_run (resL_run hv)]
    rfl
  rcases ht with ⟨k, ht⟩ | ht
  · refine W.code ht ?_
    rw [ht] at h1
    exact W.pure h1
  · refine W.run ?_
    show W (noP (runItems E (callW E (runF E (n + 1))) (roundW (runF E (n + 1))) ⟨f, nt, g, tm, skim 64 todo, .run, ki, none⟩ (skim 64 todo))) s _
    rw [ht] at h1 ⊢
    exact W.np (W.pure h1)

/-! ### Calls -/
theorem W.within {c : Ctx} {m : M α} {Q : α → St → Prop} (h : W m (s.cxN c) fun a s1 => Q a (s1.cxN s.cx)) : W (within c m) s Q := by
  obtain ⟨a, s1, e, q⟩ := h
  obtain ⟨mem, next, lim, rd, wr, cx⟩ := s
  obtain ⟨mem1, next1, lim1, rd1, wr1, cx1⟩ := s1
  refine ⟨a, _, ?_, q⟩
  have e' : m ⟨mem, next, lim, rd, wr, c⟩ = .some a ⟨mem1, next1, lim1, rd1, wr1, cx1⟩ := e
  unfold Am.within
  simp only [e']
  rfl
theorem W.call {E : Env} {ih : AF → M (Value × FrameMode)} {f nt g : Nat} {fn : Func} {body : Code} {args : List Value} {Q : Value → St → Prop} (ho : E.orc.get f = none) (hx : E.ext.get f = none) (hf : E.fn.get f = some fn) (hb : fn.body = some body)
    (hn : fn.ntmps = nt) (hg : globOf fn = g) (ha : args.length ≤ nt) (h : W (ih ⟨f, nt, g, argsT g args 0 .E, [.code body], .run, .normal, none⟩) (s.cxN cxN) fun p s1 => Q p.1 (s1.cxN s.cx)) : W (callW E ih f args) s Q := by
  unfold callW
  rw [ho, hx]
  refine W.within (W.bind (W.bind ?_))
  have e : enterF E f args .normal (s.cxN cxN) = .some ⟨f, nt, g, argsT g args 0 .E, [.code body], .run, .normal, none⟩ (s.cxN cxN) := by
    unfold enterF
    rw [hf]
    show M.on fn.body (fun c => M.chk (Nat.ble args.length fn.ntmps) (Am.fN fn.ntmps fun n => Am.fN (globOf fn) fun g => M.pure (⟨f, n, g, argsT g args 0 .E, [.code c], .run, .normal, none⟩ : AF))) _ = _
    rw [hb]
    show M.chk (Nat.ble args.length fn.ntmps) (Am.fN fn.ntmps fun n => Am.fN (globOf fn) fun g => M.pure (⟨f, n, g, argsT g args 0 .E, [.code body], .run, .normal, none⟩ : AF)) _ = _
    rw [show Nat.ble args.length fn.ntmps = true from Nat.ble_eq_true_of_le (by rw [hn]; exact ha), fN_eq, fN_eq, hn, hg]
    rfl
  exact W.of e (h.mono fun p s1 q => W.pure q)
theorem argsT_at {g : Nat} : ∀ (l : List Value) (i : Nat) (t : T Value) (j : Nat), T.get (argsT g l i t) j = if i ≤ j ∧ j < i + l.length ∧ Nat.testBit g j = true then l[j - i]? else T.get t j
  | [], i, t, j => by
    rw [if_neg (by simp; omega)]
    rfl
  | v :: l, i, t, j => by
    have e : argsT g (v :: l) i t = argsT g l (i + 1) (putG g i v t) := rfl
    have p : T.get (putG g i v t) j = if j = i ∧ Nat.testBit g i = true then some v else T.get t j := by
      unfold putG
      cases hb : Nat.testBit g i with
      | false => simp
      | true =>
        simp only [and_true]
        exact T.get_set t i v j
    rw [e, argsT_at l (i + 1), p]
    simp only [List.length_cons]
    by_cases h1 : j = i
    · subst h1
      rw [if_neg (by omega)]
      by_cases hb : Nat.testBit g j = true
      · rw [if_pos ⟨rfl, hb⟩, if_pos ⟨Nat.le_refl _, by omega, hb⟩, Nat.sub_self]
        rfl
      · rw [if_neg (fun h => hb h.2), if_neg (fun h => hb h.2.2)]
    · rw [if_neg (fun h : j = i ∧ _ => h1 h.1)]
      by_cases h2 : i + 1 ≤ j ∧ j < i + 1 + l.length ∧ Nat.testBit g j = true
      · rw [if_pos h2, if_pos ⟨by omega, by omega, h2.2.2⟩, show j - i = (j - (i + 1)) + 1 by omega]
        rfl
      · rw [if_neg h2, if_neg (fun h => h2 ⟨by omega, by omega, h.2.2⟩)]
end
end Go.Proofs.Ytofanlcjeohcjaa.Am
/- Runs of the evaluator said of all states: numbers, regions that draw their order. -/
namespace Go.Proofs.Ytofanlcjeohcjaa.Am

section
variable {α β : Type} {s : St}
/-! ### Numbers -/
theorem wrap64_id {n : Int} (h1 : -9223372036854775808 ≤ n) (h2 : n ≤ 9223372036854775807) : wrap64 n = n := by
  rw [wrap64_eq]
  have e : IntKind.i64.wrap n = if n % 18446744073709551616 ≥ 9223372036854775808 then n % 18446744073709551616 - 18446744073709551616 else n % 18446744073709551616 := by
    unfold IntKind.wrap
    simp [IntKind.bits, IntKind.signed]
  rw [e]
  by_cases h : n % 18446744073709551616 ≥ 9223372036854775808
  · rw [if_pos h]; omega
  · rw [if_neg h]; omega
theorem rI_eq (n : Int) (s : St) : rI n s = .some (.int .i64 (wrap64 n)) s := by unfold rI; rw [fI_eq]
theorem rB_eq (b : Bool) (s : St) : rB b s = .some (.bool b) s := by cases b <;> rfl
theorem i64_2 (f : Int → Int → St → R Value) (slow : Value → Value → M Value) (a b : Int) : int2 f slow (.int .i64 a) (.int .i64 b) s = f a b s := rfl
theorem i64_add (slow : Value → Value → M Value) (a b : Int) : int2 (fun a b s => rI (addI a b) s) slow (.int .i64 a) (.int .i64 b) s = .some (.int .i64 (wrap64 (a + b))) s := by rw [i64_2, rI_eq, addI_eq]
theorem i64_sub (slow : Value → Value → M Value) (a b : Int) : int2 (fun a b s => rI (subI a b) s) slow (.int .i64 a) (.int .i64 b) s = .some (.int .i64 (wrap64 (a - b))) s := by rw [i64_2, rI_eq, subI_eq]
theorem i64_lss (slow : Value → Value → M Value) (a b : Int) : int2 (fun a b s => rB (ltI a b) s) slow (.int .i64 a) (.int .i64 b) s = .some (.bool (decide (a < b))) s := by rw [i64_2, rB_eq, ltI_eq]
theorem i64_gtr (slow : Value → Value → M Value) (a b : Int) : int2 (fun a b s => rB (ltI b a) s) slow (.int .i64 a) (.int .i64 b) s = .some (.bool (decide (b < a))) s := by rw [i64_2, rB_eq, ltI_eq]
theorem i64_leq (slow : Value → Value → M Value) (a b : Int) : int2 (fun a b s => rB (!ltI b a) s) slow (.int .i64 a) (.int .i64 b) s = .some (.bool (decide (a ≤ b))) s := by
  rw [i64_2, rB_eq, ltI_eq]
  congr 2
  by_cases h : b < a
  · simp [h]
  · simp [h]; omega
theorem i64_geq (slow : Value → Value → M Value) (a b : Int) : int2 (fun a b s => rB (!ltI a b) s) slow (.int .i64 a) (.int .i64 b) s = .some (.bool (decide (b ≤ a))) s := by
  rw [i64_2, rB_eq, ltI_eq]
  congr 2
  by_cases h : a < b
  · simp [h]
  · simp [h]; omega
theorem i64_eql (slow : Value → Value → M Value) (a b : Int) : int2 (fun a b s => rB (eqI a b) s) slow (.int .i64 a) (.int .i64 b) s = .some (.bool (decide (a = b))) s := by rw [i64_2, rB_eq, eqI_eq]
theorem i64_neq (slow : Value → Value → M Value) (a b : Int) : int2 (fun a b s => rB (!eqI a b) s) slow (.int .i64 a) (.int .i64 b) s = .some (.bool (!decide (a = b))) s := by rw [i64_2, rB_eq, eqI_eq]

/-! ### Regions that draw their order -/
/-- What a region keeps in a slot. -/
noncomputable def setF {γ : Type} (d : Nat) (v : Value) (tm : T Value) (K : T Value → M γ) : M γ := fun s => T.rec (motive := fun _ => R γ) .none (fun a b c _ _ => K (.N a b c) s) (T.set tm d v)
noncomputable def setT {γ : Type} (d : Nat) (v : Value) (tm : T Value) (K : T Value → M γ) : M γ := T.rec (motive := fun _ => M γ) M.fail (fun a b c _ _ => K (.N a b c)) (T.set tm d v)
theorem W.setF {γ : Type} {d : Nat} {v : Value} {tm : T Value} {K : T Value → M γ} {Q : γ → St → Prop} (h : W (K (T.set tm d v)) s Q) : W (setF d v tm K) s Q := by
  obtain ⟨x, a, b, e⟩ := T.set_N tm d v
  unfold Am.setF
  rw [e] at h ⊢
  exact h
theorem W.setT {γ : Type} {d : Nat} {v : Value} {tm : T Value} {K : T Value → M γ} {Q : γ → St → Prop} (h : W (K (T.set tm d v)) s Q) : W (setT d v tm K) s Q := by
  obtain ⟨x, a, b, e⟩ := T.set_N tm d v
  unfold Am.setT
  rw [e] at h ⊢
  exact h
noncomputable def drawW (m : M ((Rho × T Value) × List OpLog)) (bef : List Nat) : M (Rho × T Value) := fun s => St.rec (motive := fun _ => R (Rho × T Value)) (fun mem next lim rd wr cx =>
  R.rec (motive := fun _ => R (Rho × T Value)) .none (fun p s => Prod.rec (motive := fun _ => R (Rho × T Value)) (fun q l => St.rec (motive := fun _ => R (Rho × T Value)) (fun mem' next' _ _ _ _ =>
    Bool.rec (motive := fun _ => R (Rho × T Value)) .none (.some q (St.mk mem' next' lim (rdsL lim l rd) (wrsL lim l wr) cx)) (apartM next l.reverse bef)) s) p) (fun _ _ => .none)
    (m (St.mk mem next (nat_lit 0) [] [] .no))) s
noncomputable def dSt (mem : T Cell) (next : Nat) : St := ⟨mem, next, 0, [], [], .no⟩
noncomputable def oSt (mem : T Cell) (next : Nat) : St := ⟨mem, next, next, [], [], .no⟩
theorem W.draw {m : M ((Rho × T Value) × List OpLog)} {bef : List Nat} {Q : Rho × T Value → St → Prop}
    (h : W m (dSt s.mem s.next) fun p s1 => apartM s.next p.2.reverse bef = true ∧ Q p.1 ⟨s1.mem, s1.next, s.lim, rdsL s.lim p.2 s.rd, wrsL s.lim p.2 s.wr, s.cx⟩) : W (drawW m bef) s Q := by
  obtain ⟨⟨q, l⟩, s1, e, ha, hq⟩ := h
  obtain ⟨mem, next, lim, rd, wr, cx⟩ := s
  obtain ⟨mem1, next1, lim1, rd1, wr1, cx1⟩ := s1
  refine ⟨q, _, ?_, hq⟩
  have e' : m ⟨mem, next, 0, [], [], .no⟩ = .some (q, l) ⟨mem1, next1, lim1, rd1, wr1, cx1⟩ := e
  have ha' : apartM next l.reverse bef = true := ha
  unfold drawW
  simp only [e', ha']
/-- An operation of such a region that turns nothing. -/
theorem W.dop {m : M α} {f : α × OpLog → M β} {mem : T Cell} {next : Nat} {Q : β → St → Prop}
    (h : W m (oSt mem next) fun v s1 => ∃ F, Ext F Non (oSt mem next) s1 ∧ ∀ rd, (∀ x ∈ rd, x < next ∧ F x) → W (f (v, ⟨next, s1.next, rd, []⟩)) (dSt s1.mem s1.next) Q) : W (M.bind (apartO m) f) (dSt mem next) Q := by
  obtain ⟨a, s1, e, F, x, q⟩ := h
  obtain ⟨mem1, next1, lim1, rd1, wr1, cx1⟩ := s1
  have hcx : cx1 = .no := x.cx
  obtain ⟨d1, p1, p2⟩ := x.rd
  obtain ⟨d2, p3, p4⟩ := x.wr
  have e1 : rd1 = d1 := by simpa [oSt] using p1
  have e2 : wr1 = [] := by
    have : wr1 = d2 := by simpa [oSt] using p3
    rw [this]
    cases d2 with
    | nil => rfl
    | cons y l => exact (p4 y (by simp)).2.elim
  subst hcx
  subst e2
  refine W.bind (W.of (a := (a, ⟨next, next1, rd1, []⟩)) (s' := dSt mem1 next1) ?_ (q rd1 fun y hy => p2 y (by rw [← e1]; exact hy)))
  have e' : m ⟨mem, next, next, [], [], .no⟩ = .some a ⟨mem1, next1, lim1, rd1, [], .no⟩ := e
  show Am.apartO m ⟨mem, next, 0, [], [], .no⟩ = _
  unfold Am.apartO
  simp only [e']
  rfl
theorem newsL_nil (n0 : Nat) (l acc : List Nat) (h : ∀ x ∈ l, x < n0) : newsL n0 l acc = acc := by
  induction l with
  | nil => rfl
  | cons a l ih =>
    show Bool.rec (motive := fun _ => List Nat) (newsL n0 l acc) (a :: newsL n0 l acc) (Nat.ble n0 a) = acc
    have : Nat.ble n0 a = false := by
      cases e : Nat.ble n0 a with
      | false => rfl
      | true => exact absurd (Nat.le_of_ble_eq_true e) (Nat.not_le_of_lt (h a (by simp)))
    rw [this]
    exact ih fun x hx => h x (by simp [hx])
theorem newsL_of (n0 : Nat) (l acc : List Nat) : ∀ x, x ∈ newsL n0 l acc → (x ∈ l ∧ n0 ≤ x) ∨ x ∈ acc := by
  induction l with
  | nil => exact fun x h => .inr h
  | cons a l ih =>
    intro x h
    have h' : x ∈ Bool.rec (motive := fun _ => List Nat) (newsL n0 l acc) (a :: newsL n0 l acc) (Nat.ble n0 a) := h
    cases e : Nat.ble n0 a with
    | false =>
      rw [e] at h'
      rcases ih x h' with ⟨h1, h2⟩ | h1
      · exact .inl ⟨by simp [h1], h2⟩
      · exact .inr h1
    | true =>
      rw [e] at h'
      rcases List.mem_cons.1 h' with rfl | h'
      · exact .inl ⟨by simp, Nat.le_of_ble_eq_true e⟩
      · rcases ih x h' with ⟨h1, h2⟩ | h1
        · exact .inl ⟨by simp [h1], h2⟩
        · exact .inr h1
theorem hitsI_no' (lo hi : Nat) (l : List Nat) (h : ∀ x ∈ l, ¬ (lo ≤ x ∧ x < hi)) : hitsI lo hi l = false := by
  induction l with
  | nil => rfl
  | cons a l ih =>
    have i := ih fun x hx => h x (by simp [hx])
    show Bool.rec (motive := fun _ => Bool) (hitsI lo hi l) (Bool.rec (motive := fun _ => Bool) (hitsI lo hi l) true (Nat.blt a hi)) (Nat.ble lo a) = false
    cases e1 : Nat.ble lo a with
    | false => exact i
    | true =>
      cases e2 : Nat.blt a hi with
      | false => exact i
      | true => exact absurd ⟨Nat.le_of_ble_eq_true e1, blt_lt e2⟩ (h a (by simp))
theorem freshJ_ok (bj : Nat) (news : List Nat) : ∀ (acc : List OpLog) (i : Nat), (∀ k a, acc[k]? = some a → bj.testBit (i + k) = true ∨ ∀ x ∈ news, ¬ (a.lo ≤ x ∧ x < a.hi)) → freshJ bj news acc i = true
  | [], _, _ => rfl
  | a :: acc, i, h => by
    show ((bj.testBit i || !hitsI a.lo a.hi news) && freshJ bj news acc (Nat.succ i)) = true
    rw [Bool.and_eq_true]
    constructor
    · rcases h 0 a rfl with h | h
      · rw [Nat.add_zero] at h; rw [h]; rfl
      · rw [hitsI_no' _ _ _ h]; simp
    · refine freshJ_ok bj news acc (i + 1) fun k b hk => ?_
      have := h (k + 1) b (by simpa using hk)
      rwa [show i + (k + 1) = i + 1 + k by omega] at this
theorem freshL_ok (n0 : Nat) (all : List OpLog) : ∀ (l : List OpLog) (bef : List Nat) (j : Nat), l.length ≤ bef.length → (∀ (k : Nat) (m : OpLog) (b : Nat), l[k]? = some m → bef[k]? = some b → m.wr = [] ∧ ∀ (i : Nat) (a : OpLog), i < j + k → all[i]? = some a → b.testBit i = true ∨ ∀ x ∈ m.rd, n0 ≤ x → ¬ (a.lo ≤ x ∧ x < a.hi)) → freshL n0 all l bef j = true
  | [], _, _, _, _ => rfl
  | _ :: _, [], _, h, _ => by simp at h
  | m :: l, b :: bef, j, hl, h => by
    show (freshN b (newsL n0 m.rd (newsL n0 m.wr [])) (all.take j) && freshL n0 all l bef (Nat.succ j)) = true
    rw [Bool.and_eq_true]
    obtain ⟨h1, h2⟩ := h 0 m b rfl rfl
    constructor
    · have hn : ∀ x, x ∈ newsL n0 m.rd (newsL n0 m.wr []) → x ∈ m.rd ∧ n0 ≤ x := fun x hx => by
        rw [h1] at hx
        rcases newsL_of _ _ _ x hx with h | h
        · exact h
        · cases h
      have hj : freshJ b (newsL n0 m.rd (newsL n0 m.wr [])) (all.take j) 0 = true := by
        refine freshJ_ok _ _ _ _ fun k a hk => ?_
        rw [List.getElem?_take] at hk
        split at hk
        · rename_i hkj
          rw [Nat.zero_add]
          rcases h2 k a (by omega) hk with q | q
          · exact .inl q
          · exact .inr fun x hx => q x (hn x hx).1 (hn x hx).2
        · cases hk
      unfold freshN
      generalize newsL n0 m.rd (newsL n0 m.wr []) = z at hj
      cases z with
      | nil => rfl
      | cons x z => exact hj
    · refine freshL_ok n0 all l bef (j + 1) (by simpa using hl) fun k m b e1 e2 => ?_
      obtain ⟨h3, h4⟩ := h (k + 1) m b (by simpa using e1) (by simpa using e2)
      exact ⟨h3, fun i a hi => h4 i a (by omega)⟩
/-- Operations of which none turns anything, and each reads of what is new but what it is ordered behind. -/
theorem apartM_ok {n0 : Nat} {l : List OpLog} {bef : List Nat} (hl : l.length ≤ bef.length) (h : ∀ (k : Nat) (m : OpLog) (b : Nat), l[k]? = some m → bef[k]? = some b → m.wr = [] ∧ ∀ (i : Nat) (a : OpLog), i < k → l[i]? = some a → b.testBit i = true ∨ ∀ x ∈ m.rd, n0 ≤ x → ¬ (a.lo ≤ x ∧ x < a.hi)) (hw : ∀ m ∈ l, m.wr = []) : apartM n0 l bef = true := by
  unfold apartM
  rw [Bool.and_eq_true]
  refine ⟨freshL_ok n0 l l bef 0 hl fun k m b e1 e2 => ?_, ?_⟩
  · obtain ⟨h1, h2⟩ := h k m b e1 e2
    exact ⟨h1, fun i a hi => h2 i a (by omega)⟩
  · rw [Bool.or_eq_true]
    left
    unfold allQuiet
    rw [List.all_eq_true]
    intro m hm
    rw [hw m hm]
    rfl
theorem addL_ext (lim : Nat) (l base : List Nat) : ∃ d, addL lim l base = d ++ base ∧ ∀ x ∈ d, x < lim ∧ x ∈ l := by
  induction l with
  | nil => exact ⟨[], rfl, fun _ h => by cases h⟩
  | cons a l ih =>
    obtain ⟨d, e, q⟩ := ih
    obtain ⟨d2, e2, q2⟩ := notes_ext a lim (addL lim l base)
    refine ⟨d2 ++ d, ?_, fun x hx => ?_⟩
    · show notes a lim (addL lim l base) = _
      rw [e2, e, List.append_assoc]
    · rcases List.mem_append.1 hx with hx | hx
      · exact ⟨(q2 x hx).1, by simp [(q2 x hx).2]⟩
      · exact ⟨(q x hx).1, by simp [(q x hx).2]⟩
theorem rdsL_ext (lim : Nat) (l : List OpLog) (base : List Nat) : ∃ d, rdsL lim l base = d ++ base ∧ ∀ x ∈ d, x < lim ∧ ∃ m ∈ l, x ∈ m.rd := by
  induction l with
  | nil => exact ⟨[], rfl, fun _ h => by cases h⟩
  | cons m l ih =>
    obtain ⟨d, e, q⟩ := ih
    obtain ⟨d2, e2, q2⟩ := addL_ext lim m.rd (rdsL lim l base)
    refine ⟨d2 ++ d, ?_, fun x hx => ?_⟩
    · show addL lim m.rd (rdsL lim l base) = _
      rw [e2, e, List.append_assoc]
    · rcases List.mem_append.1 hx with hx | hx
      · exact ⟨(q2 x hx).1, m, by simp, (q2 x hx).2⟩
      · obtain ⟨h1, m', h2, h3⟩ := q x hx
        exact ⟨h1, m', by simp [h2], h3⟩
theorem wrsL_nil (lim : Nat) (l : List OpLog) (base : List Nat) (h : ∀ m ∈ l, m.wr = []) : wrsL lim l base = base := by
  induction l with
  | nil => rfl
  | cons m l ih =>
    show addL lim m.wr (wrsL lim l base) = base
    rw [h m (by simp), ih fun x hx => h x (by simp [hx])]
    rfl
/-- Behind such a region. -/
theorem Ext.draw {F : Nat → Prop} {mem' : T Cell} {next' : Nat} {l : List OpLog} (h1 : s.next ≤ next') (h2 : ∀ x, x < s.next → T.get mem' x = T.get s.mem x) (hw : ∀ m ∈ l, m.wr = []) (hr : ∀ m ∈ l, ∀ x ∈ m.rd, x < s.lim → F x) :
    Ext F Non s ⟨mem', next', s.lim, rdsL s.lim l s.rd, wrsL s.lim l s.wr, s.cx⟩ := by
  obtain ⟨d, e, q⟩ := rdsL_ext s.lim l s.rd
  exact ⟨h1, rfl, rfl, fun x hx _ => h2 x hx, ⟨d, e, fun x hx => by obtain ⟨a, m, b, c⟩ := q x hx; exact ⟨a, hr m b x c a⟩⟩, ⟨[], wrsL_nil _ _ _ hw, fun _ h => by cases h⟩⟩
end
end Go.Proofs.Ytofanlcjeohcjaa.Am
/- Runs of the evaluator said of all states: regions and branches, by what they come to. -/
namespace Go.Proofs.Ytofanlcjeohcjaa.Am

section
variable {α β : Type} {s : St}
noncomputable def oS (x : Option α) (f : α → M β) : M β := fun s => Option.rec (motive := fun _ => R β) .none (fun a => f a s) x
theorem W.oS {x : Option α} {a : α} {f : α → M β} {Q : β → St → Prop} (e : x = some a) (h : W (f a) s Q) : W (oS x f) s Q := by subst e; exact h
noncomputable def seqO (l : List (Option Value)) : Option (List Value) := List.rec (motive := fun _ => Option (List Value)) (some []) (fun x _ ih => onO x fun v => onO ih fun l => some (v :: l)) l
noncomputable def seqP (l : List (Nat × Option Value)) : Option (List (Nat × Value)) := List.rec (motive := fun _ => Option (List (Nat × Value))) (some []) (fun x _ ih => onO x.2 fun v => onO ih fun l => some ((x.1, v) :: l)) l
noncomputable def Cl.get {γ : Type} (c : Cl γ) : γ := Cl.rec (motive := fun _ => γ) (fun f => f) c
noncomputable def hdC (l : List Item) : Code := match l with | .code c :: _ => c | _ => .skip
noncomputable def dsC (c : Code) : List Nat := match c with | .region _ ops _ => dstL ops.toList | _ => []
noncomputable def brT (l : List Item) : List Item := match l with | .code (.cond _ a _) :: k => .code a :: k | _ => []
noncomputable def brF (l : List Item) : List Item := match l with | .code (.cond _ _ b) :: k => .code b :: k | _ => []
noncomputable def condX (l : List Item) : Option Nat := match l with | .code (.cond (.tmp t) _ _) :: _ => some t | _ => none
theorem W.reg {E : Env} {n f nt g : Nat} {tm : T Value} {T P : List Item} {ki : CallKind} {ro : Option Nat} {nice : Env → CallT → CallT → Am.T Value → M (Am.T Value)} {Q : Value × FrameMode → St → Prop} (ht : skim 64 T = P) (hP : P = .code (hdC P) :: P.tail)
    (he : ∀ (E : Env) (call round : CallT) (td k : List Item) (ki : CallKind) (ro : Option Nat) (tm : Am.T Value) (s : St), codeF E call round ⟨f, nt, g, tm, td, .run, ki, ro⟩ k (hdC P) s = regF call round ⟨f, nt, g, tm, td, .run, ki, ro⟩ (dsC (hdC P)) (fun call round _ tm => nice E call round tm) k s)
    (hn : 0 < n) (h : W (nice E (callW E (runF E (n - 1))) (roundW (runF E (n - 1))) tm) s fun tm s1 => W (runF E (n - 1) ⟨f, nt, g, tm, P.tail, .run, ki, ro⟩) s1 Q) : W (runF E n ⟨f, nt, g, tm, T, .run, ki, ro⟩) s Q := by
  obtain ⟨m, rfl⟩ : ∃ m, n = m + 1 := ⟨n - 1, by omega⟩
  rw [hP] at ht
  refine W.code ht (W.cast (he E _ _ _ _ _ _ _ _) ?_)
  rw [Nat.add_sub_cancel] at h
  obtain ⟨tm', s1, e, hq⟩ := h
  refine ⟨.go ⟨f, nt, g, tm', P.tail, .run, ki, ro⟩, s1, ?_, hq⟩
  unfold regF
  simp only [e]
  rfl
theorem W.cond {E : Env} {n f nt g t : Nat} {tm : T Value} {T P : List Item} {ki : CallKind} {ro : Option Nat} {v : Bool} {Q : Value × FrameMode → St → Prop} (ht : skim 64 T = P) (hx : condX P = some t) (hv : Am.T.get tm t = some (.bool v)) (hn : 0 < n)
    (h1 : v = true → W (runF E (n - 1) ⟨f, nt, g, tm, brT P, .run, ki, ro⟩) s Q) (h2 : v = false → W (runF E (n - 1) ⟨f, nt, g, tm, brF P, .run, ki, ro⟩) s Q) : W (runF E n ⟨f, nt, g, tm, T, .run, ki, ro⟩) s Q := by
  obtain ⟨m, rfl⟩ : ∃ m, n = m + 1 := ⟨n - 1, by omega⟩
  rw [Nat.add_sub_cancel] at h1 h2
  unfold condX at hx
  split at hx
  · rename_i t' a b k
    cases hx
    refine W.code ht ?_
    show W (M.on (Am.T.get tm t) (condF ⟨f, nt, g, tm, .code (.cond (.tmp t) a b) :: k, .run, ki, ro⟩ a b k)) s _
    refine W.on hv ?_
    cases v with
    | true => exact W.pure (h1 rfl)
    | false => exact W.pure (h2 rfl)
  · cases hx
/-- What a region comes to. -/
structure RegEq (f nt g : Nat) (P : List Item) (nice : Env → CallT → CallT → T Value → M (T Value)) : Prop where
  hd : P = .code (hdC P) :: P.tail
  eq : ∀ (E : Env) (call round : CallT) (td k : List Item) (ki : CallKind) (ro : Option Nat) (tm : T Value) (s : St), codeF E call round ⟨f, nt, g, tm, td, .run, ki, ro⟩ k (hdC P) s = regF call round ⟨f, nt, g, tm, td, .run, ki, ro⟩ (dsC (hdC P)) (fun call round _ tm => nice E call round tm) k s
theorem RegEq.w {E : Env} {n f nt g : Nat} {tm : T Value} {T P : List Item} {ki : CallKind} {ro : Option Nat} {nice : Env → CallT → CallT → Am.T Value → M (Am.T Value)} {Q : Value × FrameMode → St → Prop} (q : RegEq f nt g P nice) (ht : skim 64 T = P) (hn : 0 < n)
    (h : W (nice E (callW E (runF E (n - 1))) (roundW (runF E (n - 1))) tm) s fun tm s1 => W (runF E (n - 1) ⟨f, nt, g, tm, P.tail, .run, ki, ro⟩) s1 Q) : W (runF E n ⟨f, nt, g, tm, T, .run, ki, ro⟩) s Q := W.reg ht q.hd q.eq hn h
noncomputable def befC (c : Code) : List Nat := match c with | .region _ ops _ => (Region.before ops).toList | _ => []
/-- What of a region that draws stands behind all the rest. -/
noncomputable def lastOps (E : Env) (g n : Nat) (c : Code) : List COp := match c with
  | .region _ ops _ => (match compOps E g n ops.toList ops.toList [] with | some l => dropC l (manyD l.length (Region.before ops).toList) | none => [])
  | _ => []
theorem W.regD {E : Env} {n f nt g : Nat} {tm : T Value} {T P : List Item} {ki : CallKind} {ro : Option Nat} {nice : Env → CallT → CallT → Am.T Value → M ((Rho × Am.T Value) × List OpLog)} {Q : Value × FrameMode → St → Prop} (ht : skim 64 T = P) (hP : P = .code (hdC P) :: P.tail)
    (he : ∀ (E : Env) (call round : CallT) (td k : List Item) (ki : CallKind) (ro : Option Nat) (tm : Am.T Value) (s : St), codeF E call round ⟨f, nt, g, tm, td, .run, ki, ro⟩ k (hdC P) s = M.bind (drawW (nice E call round tm) (befC (hdC P))) (endE call round ⟨f, nt, g, tm, td, .run, ki, ro⟩ (lastOps E g nt (hdC P)) (dsC (hdC P)) k) s)
    (hn : 0 < n) {bef : List Nat} (hb : befC (hdC P) = bef) (h : W (nice E (callW E (runF E (n - 1))) (roundW (runF E (n - 1))) tm) (dSt s.mem s.next) fun p s1 => apartM s.next p.2.reverse bef = true ∧
      W (opsIn (callW E (runF E (n - 1))) (roundW (runF E (n - 1))) (lastOps E g nt (hdC P)) p.1.1 p.1.2) ⟨s1.mem, s1.next, s.lim, rdsL s.lim p.2 s.rd, wrsL s.lim p.2 s.wr, s.cx⟩ fun tm s1 => W (runF E (n - 1) ⟨f, nt, g, tm, P.tail, .run, ki, ro⟩) s1 Q) : W (runF E n ⟨f, nt, g, tm, T, .run, ki, ro⟩) s Q := by
  obtain ⟨m, rfl⟩ : ∃ m, n = m + 1 := ⟨n - 1, by omega⟩
  rw [hP] at ht
  rw [Nat.add_sub_cancel] at h
  refine W.code ht (W.cast (he E _ _ _ _ _ _ _ _) (W.bind (W.draw ?_)))
  rw [hb]
  refine h.mono fun p s1 q => ⟨q.1, ?_⟩
  obtain ⟨tm', s2, e, hq⟩ := q.2
  refine ⟨.go ⟨f, nt, g, tm', P.tail, .run, ki, ro⟩, s2, ?_, hq⟩
  unfold endE
  simp only [e]
  rfl
/-- An operation of such a region that leaves all as it was. -/
theorem W.dop0 {m : M α} {f : α × OpLog → M β} {mem : T Cell} {next : Nat} {Q : β → St → Prop} (h : W m (oSt mem next) fun v s1 => s1 = oSt mem next ∧ W (f (v, ⟨next, next, [], []⟩)) (dSt mem next) Q) : W (M.bind (apartO m) f) (dSt mem next) Q := by
  refine W.dop (h.mono fun v s1 q => ⟨Non, ?_, fun rd hr => ?_⟩)
  · rw [q.1]; exact Ext.refl _
  · have : rd = [] := by
      cases rd with
      | nil => rfl
      | cons x l => exact (hr x (by simp)).2.elim
    rw [this, q.1]
    exact q.2
structure DrawEq (f nt g : Nat) (P : List Item) (bef : List Nat) (nice : Env → CallT → CallT → T Value → M ((Rho × T Value) × List OpLog)) : Prop where
  hd : P = .code (hdC P) :: P.tail
  bef : befC (hdC P) = bef
  eq : ∀ (E : Env) (call round : CallT) (td k : List Item) (ki : CallKind) (ro : Option Nat) (tm : T Value) (s : St), codeF E call round ⟨f, nt, g, tm, td, .run, ki, ro⟩ k (hdC P) s = M.bind (drawW (nice E call round tm) (befC (hdC P))) (endE call round ⟨f, nt, g, tm, td, .run, ki, ro⟩ (lastOps E g nt (hdC P)) (dsC (hdC P)) k) s
theorem DrawEq.w {E : Env} {n f nt g : Nat} {tm : T Value} {T P : List Item} {ki : CallKind} {ro : Option Nat} {bef : List Nat} {nice : Env → CallT → CallT → Am.T Value → M ((Rho × Am.T Value) × List OpLog)} {Q : Value × FrameMode → St → Prop} (q : DrawEq f nt g P bef nice) (ht : skim 64 T = P) (hn : 0 < n)
    (h : W (nice E (callW E (runF E (n - 1))) (roundW (runF E (n - 1))) tm) (dSt s.mem s.next) fun p s1 => apartM s.next p.2.reverse bef = true ∧
      W (opsIn (callW E (runF E (n - 1))) (roundW (runF E (n - 1))) (lastOps E g nt (hdC P)) p.1.1 p.1.2) ⟨s1.mem, s1.next, s.lim, rdsL s.lim p.2 s.rd, wrsL s.lim p.2 s.wr, s.cx⟩ fun tm s1 => W (runF E (n - 1) ⟨f, nt, g, tm, P.tail, .run, ki, ro⟩) s1 Q) : W (runF E n ⟨f, nt, g, tm, T, .run, ki, ro⟩) s Q := W.regD ht q.hd q.eq hn q.bef h
/-- A move. -/
noncomputable def mv {γ : Type} (x : Option Value) (K : Value → M γ) : M γ := M.bind (oS x fun a => M.pure a) K
theorem T.get_set_same {γ : Type} (t : T γ) (k : Nat) (x : γ) : T.get (T.set t k x) k = some x := by rw [T.get_set, if_pos rfl]
theorem T.get_set_other {γ : Type} (t : T γ) (k : Nat) (x : γ) {j : Nat} (h : j ≠ k) : T.get (T.set t k x) j = T.get t j := by rw [T.get_set, if_neg h]
end
end Go.Proofs.Ytofanlcjeohcjaa.Am
/- Runs of the evaluator said of all states: the rules as equations, for simp. -/
namespace Go.Proofs.Ytofanlcjeohcjaa.Am

section
variable {α β : Type} {s : St}
theorem W_run {m : M α} {Q : α → St → Prop} {a : α} {s' : St} (e : m s = .some a s') : W m s Q = Q a s' := propext ⟨fun ⟨b, s1, e1, q⟩ => by rw [e] at e1; cases e1; exact q, fun q => ⟨a, s', e, q⟩⟩
theorem W_bind (m : M α) (f : α → M β) (Q : β → St → Prop) : W (M.bind m f) s Q = W m s fun a s1 => W (f a) s1 Q := propext ⟨fun ⟨b, s2, e, q⟩ => by
    obtain ⟨a, s1, e1, e2⟩ := bind_some e
    exact ⟨a, s1, e1, b, s2, e2, q⟩, W.bind⟩
theorem W_pure (a : α) (Q : α → St → Prop) : W (M.pure a) s Q = Q a s := W_run rfl
theorem W_mv {γ : Type} (a : Value) (K : Value → M γ) (Q : γ → St → Prop) : W (mv (some a) K) s Q = W (K a) s Q := (W_bind _ _ _).trans (W_pure a _)
theorem W_oS (a : α) (f : α → M β) (Q : β → St → Prop) : W (oS (some a) f) s Q = W (f a) s Q := propext Iff.rfl
theorem W_on (a : α) (f : α → M β) (Q : β → St → Prop) : W (M.on (some a) f) s Q = W (f a) s Q := propext Iff.rfl
theorem W_chk (m : M α) (Q : α → St → Prop) : W (M.chk true m) s Q = W m s Q := propext Iff.rfl
theorem W_ifT (x y : M α) (Q : α → St → Prop) : W (M.if true x y) s Q = W x s Q := propext Iff.rfl
theorem W_ifF (x y : M α) (Q : α → St → Prop) : W (M.if false x y) s Q = W y s Q := propext Iff.rfl
theorem W_setF {γ : Type} (d : Nat) (v : Value) (tm : T Value) (K : T Value → M γ) (Q : γ → St → Prop) : W (setF d v tm K) s Q = W (K (T.set tm d v)) s Q := by
  obtain ⟨x, a, b, e⟩ := T.set_N tm d v
  unfold setF
  rw [e]
theorem W_setT {γ : Type} (d : Nat) (v : Value) (tm : T Value) (K : T Value → M γ) (Q : γ → St → Prop) : W (setT d v tm K) s Q = W (K (T.set tm d v)) s Q := by
  obtain ⟨x, a, b, e⟩ := T.set_N tm d v
  unfold setT
  rw [e]
/-- A frame's end. -/
theorem W.end' {E : Env} {n f nt g : Nat} {tm : T Value} {todo P : List Item} {ki : CallKind} {fn : Func} {rs : List Nat} {vs : List Value} {up : Option FrameMode} {Q : Value × FrameMode → St → Prop} (ht : skim 64 todo = P) (hP : (∃ k, P = .code .ret :: k) ∨ P = []) (hn : 2 ≤ n)
    (hf : E.fn.get f = some fn) (hr : fn.results.toList = rs.map .tmp) (hc : s.cx = .cx up (some [])) (hv : rs.map (Am.T.get tm) = vs.map some) (q : Q (tupV vs, up.getD .run) s) : W (runF E n ⟨f, nt, g, tm, todo, .run, ki, none⟩) s Q := by
  obtain ⟨m, rfl⟩ : ∃ m, n = m + 2 := ⟨n - 2, by omega⟩
  subst ht
  exact W.ret hP hf hr hv hc q
theorem isK_bool (b : Bool) : isK (.bool b) = true := rfl
theorem isB_tt : isB (.bool true) true = true := rfl
theorem isB_tf : isB (.bool true) false = false := rfl
theorem isB_ft : isB (.bool false) true = false := rfl
theorem isB_ff : isB (.bool false) false = true := rfl
theorem seqO_nil : seqO [] = some [] := rfl
theorem seqO_cons (v : Value) (l : List (Option Value)) : seqO (some v :: l) = onO (seqO l) fun l => some (v :: l) := rfl
theorem seqP_nil : seqP [] = some [] := rfl
theorem seqP_cons (k : Nat) (v : Value) (l : List (Nat × Option Value)) : seqP ((k, some v) :: l) = onO (seqP l) fun l => some ((k, v) :: l) := rfl
theorem onO_some' {γ : Type} (a : α) (K : α → Option γ) : onO (some a) K = K a := rfl
theorem W_pick (c : Bool) (a b : Value) (Q : Value → St → Prop) : W (kPick (.bool c) a b) s Q = Q (if c then a else b) s := by
  refine W_run ?_
  cases c <;> rfl
section
variable {E : Env} {t : Nat} {xo yo : Operand} {Q : Value → St → Prop}
theorem W_add64 (a b : Int) : W (Cl.get (aBin E .add t xo yo) (.int .i64 a) (.int .i64 b)) s Q = Q (.int .i64 (wrap64 (a + b))) s := W_run (i64_add _ a b)
theorem W_sub64 (a b : Int) : W (Cl.get (aBin E .sub t xo yo) (.int .i64 a) (.int .i64 b)) s Q = Q (.int .i64 (wrap64 (a - b))) s := W_run (i64_sub _ a b)
theorem W_lss64 (a b : Int) : W (Cl.get (aBin E .lss t xo yo) (.int .i64 a) (.int .i64 b)) s Q = Q (.bool (decide (a < b))) s := W_run (i64_lss _ a b)
theorem W_gtr64 (a b : Int) : W (Cl.get (aBin E .gtr t xo yo) (.int .i64 a) (.int .i64 b)) s Q = Q (.bool (decide (b < a))) s := W_run (i64_gtr _ a b)
theorem W_leq64 (a b : Int) : W (Cl.get (aBin E .leq t xo yo) (.int .i64 a) (.int .i64 b)) s Q = Q (.bool (decide (a ≤ b))) s := W_run (i64_leq _ a b)
theorem W_geq64 (a b : Int) : W (Cl.get (aBin E .geq t xo yo) (.int .i64 a) (.int .i64 b)) s Q = Q (.bool (decide (b ≤ a))) s := W_run (i64_geq _ a b)
theorem W_eql64 (a b : Int) : W (Cl.get (aBin E .eql t xo yo) (.int .i64 a) (.int .i64 b)) s Q = Q (.bool (decide (a = b))) s := W_run (i64_eql _ a b)
theorem W_neq64 (a b : Int) : W (Cl.get (aBin E .neq t xo yo) (.int .i64 a) (.int .i64 b)) s Q = Q (.bool (!decide (a = b))) s := W_run (i64_neq _ a b)
end
end
end Go.Proofs.Ytofanlcjeohcjaa.Am
/- Runs of the evaluator said of all states: operations on memory, on rows, on numbers. -/
namespace Go.Proofs.Ytofanlcjeohcjaa.Am

/-! ### Types, as far as operations ask -/
noncomputable def tyS (E : Env) (t : Nat) : Option (Nat × Bool) := match T.get E.ty t with | some i => some (i.size, i.agg) | none => none
noncomputable def slN (E : Env) (t : Nat) : Option Nat := match T.get E.ty t with
  | some i => (match i.u with | .slice e => (match T.get E.ty e with | some ie => some ie.size | none => none) | _ => none)
  | none => none
noncomputable def arrN (E : Env) (t : Nat) : Option (Nat × Nat) := match T.get E.ty t with
  | some i => (match i.u with | .array n e => (match T.get E.ty e with | some ie => some (n, ie.size) | none => none) | _ => none)
  | none => none
noncomputable def fldN (E : Env) (t f : Nat) : Option (Nat × Nat × Bool) := match T.get E.ty t with
  | some i => (match i.u with | .struct fs => (match fs.toList[f]? with | some fd => (match T.get E.ty fd.type with | some fi => some (fd.offset, fi.size, fi.agg) | none => none) | none => none) | _ => none)
  | none => none
noncomputable def zeroL (E : Env) (t : Nat) : Option (List Value) := match T.get E.ty t with | some i => some i.zero | none => none
noncomputable def intK (E : Env) (t : Nat) : Option IntKind := match T.get E.ty t with | some i => (match i.u with | .int k => some k | _ => none) | none => none
noncomputable def hasT (E : Env) (t : Nat) : Bool := (T.get E.ty t).isSome

section
variable {α β : Type} {s : St} {E : Env} {t : Nat}
theorem tyS_inv {n : Nat} {g : Bool} (h : tyS E t = some (n, g)) : ∃ i, T.get E.ty t = some i ∧ i.size = n ∧ i.agg = g := by
  unfold tyS at h
  split at h
  · rename_i i e
    cases h
    exact ⟨i, e, rfl, rfl⟩
  · cases h
theorem slN_inv {n : Nat} (h : slN E t = some n) : ∃ i e ie, T.get E.ty t = some i ∧ i.u = .slice e ∧ T.get E.ty e = some ie ∧ ie.size = n := by
  unfold slN at h
  split at h
  · rename_i i e
    split at h
    · rename_i e2 q
      split at h
      · rename_i ie q2
        cases h
        exact ⟨i, e2, ie, e, q, q2, rfl⟩
      · cases h
    · cases h
  · cases h
theorem arrN_inv {n m : Nat} (h : arrN E t = some (n, m)) : ∃ i e ie, T.get E.ty t = some i ∧ i.u = .array n e ∧ T.get E.ty e = some ie ∧ ie.size = m := by
  unfold arrN at h
  split at h
  · rename_i i e
    split at h
    · rename_i n2 e2 q
      split at h
      · rename_i ie q2
        cases h
        exact ⟨i, e2, ie, e, q, q2, rfl⟩
      · cases h
    · cases h
  · cases h
theorem fldN_inv {f off sz : Nat} {g : Bool} (h : fldN E t f = some (off, sz, g)) : ∃ i fs fd fi, T.get E.ty t = some i ∧ i.u = .struct fs ∧ fs.toList[f]? = some fd ∧ T.get E.ty fd.type = some fi ∧ fd.offset = off ∧ fi.size = sz ∧ fi.agg = g := by
  unfold fldN at h
  split at h
  · rename_i i e
    split at h
    · rename_i fs q
      split at h
      · rename_i fd q2
        split at h
        · rename_i fi q3
          cases h
          exact ⟨i, fs, fd, fi, e, q, q2, q3, rfl, rfl, rfl⟩
        · cases h
      · cases h
    · cases h
  · cases h
theorem W.ti {i : TI} {Q : TI → St → Prop} (h : T.get E.ty t = some i) (q : Q i s) : W (ti E t) s Q := W.ofOpt h q
theorem W_ti {i : TI} (h : T.get E.ty t = some i) (Q : TI → St → Prop) : W (ti E t) s Q = Q i s := W_run (by unfold ti; rw [h]; rfl)

/-! ### Loads and stores -/
theorem W.load1 {b o : Nat} {v : Value} {Q : Value → St → Prop} (ht : tyS E t = some (1, false)) (h : At s b o v) (q : Q v (s.rdN (b + o))) : W (kLoad E t (.pointer (some ⟨b, o, none⟩))) s Q := by
  obtain ⟨i, h1, h2, h3⟩ := tyS_inv ht
  refine W.bind (W.pure (W.bind (W.ti h1 ?_)))
  show W (M.if i.agg _ _) s Q
  rw [h3]
  exact W.rdV h q
theorem W.loadA {b o n : Nat} {l : List Value} {Q : Value → St → Prop} (ht : tyS E t = some (n, true)) (h : Row s b o l) (hl : l.length = n)
    (q : ∀ s1, s1.mem = s.mem → s1.next = s.next → Ext (In b o n) Non s s1 → Q (.agg l.toArray) s1) : W (kLoad E t (.pointer (some ⟨b, o, none⟩))) s Q := by
  obtain ⟨i, h1, h2, h3⟩ := tyS_inv ht
  subst hl
  refine W.bind (W.pure (W.bind (W.ti h1 ?_)))
  show W (M.if i.agg (M.bind (Am.rdL i.size ⟨b, o, none⟩) fun l => M.pure (Value.agg l.toArray)) _) s Q
  rw [h3, h2]
  exact W.bind (W.rdL h fun s1 e1 e2 e3 => W.pure (q s1 e1 e2 e3))
theorem cells_one {v : Value} (h : oneCell v = true) : cellsOf v = [v] := by cases v <;> simp [oneCell] at h <;> rfl
theorem W.store {b o n : Nat} {g : Bool} {v : Value} {Q : Value → St → Prop} (ht : tyS E t = some (n, g)) (hl : (cellsOf v).length = n) (h1 : (cellsOf v).all oneCell = true) (h : ∀ i, i < n → ∃ u, Own s b (o + i) u)
    (q : ∀ s1, s1.next = s.next → Ext (In b o n) (In b o n) s s1 → OwnRow s1 b o (cellsOf v) → Q undef s1) : W (kStore E t (.pointer (some ⟨b, o, none⟩)) v) s Q := by
  obtain ⟨i, g1, g2, g3⟩ := tyS_inv ht
  subst hl
  refine W.bind (W.pure (W.bind (W.bind (W.ti g1 (W.chk ?_ (W.wrL h h1 fun s1 e1 e2 e3 => W.pure (q s1 e1 e2 e3)))))))
  rw [g2]
  exact Nat.beq_refl _
theorem W.store1 {b o : Nat} {g : Bool} {u v : Value} {Q : Value → St → Prop} (ht : tyS E t = some (1, g)) (hv : oneCell v = true) (h : Own s b o u)
    (q : ∀ s1, s1.next = s.next → Ext (In b o 1) (In b o 1) s s1 → Own s1 b o v → Q undef s1) : W (kStore E t (.pointer (some ⟨b, o, none⟩)) v) s Q := by
  refine W.store ht (by rw [cells_one hv]; rfl) (by rw [cells_one hv]; simp [hv]) (fun i hi => ⟨u, by rw [show o + i = o by omega]; exact h⟩) fun s1 e1 e2 e3 => q s1 e1 e2 ?_
  have := e3 0 v (by rw [cells_one hv]; rfl)
  exact this
theorem W.alloc {z : List Value} {Q : Value → St → Prop} (ht : zeroL E t = some z) (q : ∀ s1, s1.next = s.next + z.length + 1 → Ext Non Non s s1 → OwnRow s1 s.next 0 z → Q (.pointer (some ⟨s.next, 0, none⟩)) s1) : W (kAlloc E t) s Q := by
  unfold zeroL at ht
  split at ht
  · rename_i i e
    cases ht
    exact W.bind (W.ti e (W.bind (W.newL fun s1 e1 e2 e3 => W.pure (q s1 e1 e2 e3))))
  · cases ht
theorem W.box {v : Value} {Q : Value → St → Prop} (q : ∀ s1, s1.next = s.next + (cellsOf v).length + 1 → Ext Non Non s s1 → OwnRow s1 s.next 0 (cellsOf v) → Q (.pointer (some ⟨s.next, 0, none⟩)) s1) : W (kBox v) s Q :=
  W.bind (W.newL fun s1 e1 e2 e3 => W.pure (q s1 e1 e2 e3))
theorem W_fld {f off sz b o : Nat} {g : Bool} (h : fldN E t f = some (off, sz, g)) (h0 : 0 < sz) (Q : Value → St → Prop) : W (kFld E t (.pointer (some ⟨b, o, none⟩)) f) s Q = Q (.pointer (some ⟨b, o + off, none⟩)) s := by
  obtain ⟨i, fs, fd, fi, h1, h2, h3, h4, h5, h6, h7⟩ := fldN_inv h
  subst h5; subst h6
  refine W_run ?_
  unfold kFld
  rw [bind_run (show ti E t s = .some i s by unfold ti; rw [h1]; rfl), bind_run (show asA (.pointer (some ⟨b, o, none⟩)) s = .some ⟨b, o, none⟩ s from rfl)]
  rw [bind_run (show fldOf E i.u f s = .some (fd.offset, fi, fd.type) s by unfold fldOf; rw [h2]; simp only [h3]; exact bind_run (show ti E fd.type s = .some fi s by unfold ti; rw [h4]; rfl))]
  show M.chk (Nat.blt 0 fi.size) (ptrA (addA ⟨b, o, none⟩ fd.offset)) s = _
  rw [blt_t h0]
  show ptrA ⟨b, o + fd.offset, none⟩ s = _
  unfold ptrA
  rw [fA_eq]
  rfl
theorem partV_run {n : Nat} {ty : Nat} {g : Bool} {cs : List Value} {off : Nat} {v : Value} (h : tyS E ty = some (n, g)) (hv : (g = false ∧ cs[off]? = some v) ∨ (g = true ∧ v = .agg ((cs.drop off).take n).toArray)) : partV E ty cs off s = .some v s := by
  obtain ⟨i, h1, h2, h3⟩ := tyS_inv h
  subst h2; subst h3
  unfold partV
  rw [bind_run (show ti E ty s = .some i s by unfold ti; rw [h1]; rfl)]
  rcases hv with ⟨e, hv⟩ | ⟨e, hv⟩
  · rw [e]
    show M.ofOpt (cs[off]?) s = _
    rw [hv]
    rfl
  · rw [e, hv]
    rfl
theorem W_field {f off sz : Nat} {g : Bool} {cs : Array Value} {v : Value} (h : fldN E t f = some (off, sz, g)) (hv : (g = false ∧ cs.toList[off]? = some v) ∨ (g = true ∧ v = .agg ((cs.toList.drop off).take sz).toArray)) (Q : Value → St → Prop) : W (kField E t (.agg cs) f) s Q = Q v s := by
  obtain ⟨i, fs, fd, fi, h1, h2, h3, h4, h5, h6, h7⟩ := fldN_inv h
  subst h5
  refine W_run ?_
  unfold kField
  rw [bind_run (show ti E t s = .some i s by unfold ti; rw [h1]; rfl), bind_run (show asCs (.agg cs) s = .some cs.toList s from rfl)]
  rw [bind_run (show fldOf E i.u f s = .some (fd.offset, fi, fd.type) s by unfold fldOf; rw [h2]; simp only [h3]; exact bind_run (show ti E fd.type s = .some fi s by unfold ti; rw [h4]; rfl))]
  exact partV_run (by unfold tyS; rw [h4]; simp [h6, h7]) hv
theorem W_idxSl {sz b o n c k : Nat} {kd : IntKind} (h : slN E t = some sz) (hk : k < n) (Q : Value → St → Prop) : W (kIdxA E t (.slice (some ⟨b, o, none⟩) n c) (.int kd (k : Nat))) s Q = Q (.pointer (some ⟨b, o + k * sz, none⟩)) s := by
  obtain ⟨i, e, ie, h1, h2, h3, h4⟩ := slN_inv h
  subst h4
  refine W_run ?_
  unfold kIdxA
  rw [bind_run (show ti E t s = .some i s by unfold ti; rw [h1]; rfl), bind_run (show asN (.int kd (k : Nat)) s = .some k s from rfl)]
  unfold idxN
  rw [h2]
  simp only
  rw [bind_run (show ti E e s = .some ie s by unfold ti; rw [h3]; rfl)]
  rw [blt_t hk]
  show ptrA ⟨b, o + k * ie.size, none⟩ s = _
  unfold ptrA
  rw [fA_eq]
  rfl
theorem W_idxArr {n sz b o k : Nat} {kd : IntKind} (h : arrN E t = some (n, sz)) (hk : k < n) (Q : Value → St → Prop) : W (kIdxA E t (.pointer (some ⟨b, o, none⟩)) (.int kd (k : Nat))) s Q = Q (.pointer (some ⟨b, o + k * sz, none⟩)) s := by
  obtain ⟨i, e, ie, h1, h2, h3, h4⟩ := arrN_inv h
  subst h4
  refine W_run ?_
  unfold kIdxA
  rw [bind_run (show ti E t s = .some i s by unfold ti; rw [h1]; rfl), bind_run (show asN (.int kd (k : Nat)) s = .some k s from rfl)]
  unfold idxN
  rw [h2]
  simp only
  rw [bind_run (show ti E e s = .some ie s by unfold ti; rw [h3]; rfl)]
  rw [blt_t hk]
  show ptrA ⟨b, o + k * ie.size, none⟩ s = _
  unfold ptrA
  rw [fA_eq]
  rfl
theorem W_nil (a : Addr) (Q : Value → St → Prop) : W (kNil (.pointer (some a))) s Q = Q (.pointer (some a)) s := W_run rfl
theorem W_lenSl {sz n c : Nat} {p : Option Addr} (h : slN E t = some sz) (Q : Value → St → Prop) : W (aBuiltin E .len [t] [.slice p n c]) s Q = Q (.int .i64 (n : Nat)) s := by
  obtain ⟨i, e, ie, h1, h2, h3, h4⟩ := slN_inv h
  refine W_run ?_
  show aLen E t (.slice p n c) s = _
  unfold aLen
  rw [bind_run (show ti E t s = .some i s by unfold ti; rw [h1]; rfl)]
  rw [h2]
  show pN n s = _
  unfold pN
  rw [fN_eq]
  rfl
theorem W_conv {d : Nat} {k k' : IntKind} {n : Int} (h1 : hasT E t = true) (h2 : intK E d = some k') (Q : Value → St → Prop) : W (kConvB E t d (.int k n)) s Q = Q (.int k' (k'.wrap n)) s := by
  refine W_run ?_
  show convI E t d k n s = _
  unfold hasT at h1
  obtain ⟨i, hi⟩ := Option.isSome_iff_exists.1 h1
  unfold intK at h2
  split at h2
  · rename_i id hd
    split at h2
    · rename_i k2 hu
      cases h2
      unfold convI
      rw [bind_run (show ti E t s = .some i s by unfold ti; rw [hi]; rfl), bind_run (show ti E d s = .some id s by unfold ti; rw [hd]; rfl)]
      simp only [hu]
      show fI (wrapF k' n) (fun n => M.pure (Value.int k' n)) s = _
      rw [fI_eq, wrapF_eq]
      rfl
    · cases h2
  · cases h2
theorem W_ext {k : Nat} {vs : Array Value} {v : Value} (h : vs.toList[k]? = some v) (Q : Value → St → Prop) : W (kExt k (.tuple vs)) s Q = Q v s := W_run (by show M.ofOpt (vs.toList[k]?) s = _; rw [h]; rfl)
theorem W_callV {call round : CallT} {f : Nat} {l : List Value} (Q : Value → St → Prop) : W (callV call round (.func (.func f) #[] #[]) l) s Q = W (call f l) s Q := by
  show W (call f ([] ++ (l ++ []))) s Q = _
  rw [List.append_nil, List.nil_append]
theorem W.orc {ih : AF → M (Value × FrameMode)} {f : Nat} {m : List Value → M Value} {args : List Value} {Q : Value → St → Prop} (ho : E.orc.get f = some m) (h : W (m args) s Q) : W (callW E ih f args) s Q := by
  unfold callW
  rw [ho]
  exact h
theorem St.cxN_cxN (s : St) (c : Ctx) : (s.cxN c).cxN s.cx = s := rfl
theorem rdN_cxN (s : St) (l : Nat) (c : Ctx) : (s.cxN c).rdN l = (s.rdN l).cxN c := rfl
end
end Go.Proofs.Ytofanlcjeohcjaa.Am
/- Runs of the evaluator said of all states: rows of bytes, texts. -/
namespace Go.Proofs.Ytofanlcjeohcjaa.Am

section
variable {α β : Type} {s : St} {E : Env} {t : Nat}
/-- A byte. -/
abbrev u8 (n : Nat) : Value := .int .u8 (n : Int)
abbrev u8l (l : List Nat) : List Value := l.map fun n : Nat => Value.int .u8 (n : Int)
theorem u8l_length (l : List Nat) : (u8l l).length = l.length := by simp
/-- A slice that reads as these bytes. -/
def Bs (s : St) (v : Value) (l : List Nat) : Prop :=
  (v = .slice none 0 0 ∧ l = []) ∨ ∃ b o c, v = .slice (some ⟨b, o, none⟩) l.length c ∧ l.length ≤ c % capU ∧ sizeOk c 1 = true ∧ Row s b o (u8l l)
/-- Where it lies. -/
def BsF (v : Value) : Nat → Prop := match v with
  | .slice (some ⟨b, o, _⟩) n _ => In b o n
  | _ => Non
theorem Bs.ext {F G : Nat → Prop} {s s' : St} {v : Value} {l : List Nat} (h : Bs s v l) (e : Ext F G s s') (hG : ∀ x, BsF v x → ¬ G x) : Bs s' v l := by
  rcases h with h | ⟨b, o, c, rfl, h1, h2, h3⟩
  · exact .inl h
  · refine .inr ⟨b, o, c, rfl, h1, h2, h3.ext e fun i hi => hG _ ?_⟩
    rw [u8l_length] at hi
    exact ⟨by omega, by omega⟩
theorem Bs.ext0 {F : Nat → Prop} {s s' : St} {v : Value} {l : List Nat} (h : Bs s v l) (e : Ext F Non s s') : Bs s' v l := h.ext e fun _ _ => id
theorem Bs.same {s s' : St} {v : Value} {l : List Nat} (h : Bs s v l) (hm : s'.mem = s.mem) (hn : s'.next = s.next) : Bs s' v l := by
  rcases h with h | ⟨b, o, c, h0, h1, h2, h3⟩
  · exact .inl h
  · exact .inr ⟨b, o, c, h0, h1, h2, fun i v e => (h3 i v e).same hm hn⟩
/-- It is a slice of so many elements. -/
theorem Bs.sl {v : Value} {l : List Nat} (h : Bs s v l) : ∃ p c, v = .slice p l.length c := by
  rcases h with ⟨rfl, rfl⟩ | ⟨b, o, c, rfl, _⟩
  · exact ⟨_, _, rfl⟩
  · exact ⟨_, _, rfl⟩
theorem Bs.len {v : Value} {l : List Nat} {sz : Nat} (h : Bs s v l) (ht : slN E t = some sz) (Q : Value → St → Prop) : W (aBuiltin E .len [t] [v]) s Q = Q (.int .i64 (l.length : Nat)) s := by
  obtain ⟨p, c, rfl⟩ := h.sl
  exact W_lenSl ht Q
theorem Row.at {b o : Nat} {l : List Nat} (h : Row s b o (u8l l)) {k x : Nat} (hk : l[k]? = some x) : At s b (o + k) (u8 x) := h k _ (by rw [List.getElem?_map, hk]; rfl)
theorem Row.take {b o n : Nat} {l : List Value} (h : Row s b o l) : Row s b o (l.take n) := fun i v e => by
  rw [List.getElem?_take] at e
  split at e
  · exact h i v e
  · cases e
theorem Row.drop {b o n : Nat} {l : List Value} (h : Row s b o l) : Row s b (o + n) (l.drop n) := fun i v e => by
  rw [List.getElem?_drop] at e
  have := h _ v e
  rw [show o + n + i = o + (n + i) by omega]
  exact this
theorem OwnRow.take {b o n : Nat} {l : List Value} (h : OwnRow s b o l) : OwnRow s b o (l.take n) := fun i v e => by
  rw [List.getElem?_take] at e
  split at e
  · exact h i v e
  · cases e
theorem OwnRow.drop {b o n : Nat} {l : List Value} (h : OwnRow s b o l) : OwnRow s b (o + n) (l.drop n) := fun i v e => by
  rw [List.getElem?_drop] at e
  have := h _ v e
  rw [show o + n + i = o + (n + i) by omega]
  exact this
/-- A text of bytes. -/
def txt (l : List Nat) : ByteArray := ⟨(l.map UInt8.ofNat).toArray⟩
theorem bytesL_u8 : ∀ (l : List Nat), bytesL (u8l l) = some (l.map UInt8.ofNat)
  | [] => rfl
  | n :: l => by
    show onO (some (UInt8.ofNat n)) (fun b => onO (bytesL (u8l l)) fun l => some (b :: l)) = _
    rw [bytesL_u8 l]
    rfl
noncomputable def isStrT (E : Env) (t : Nat) : Bool := match T.get E.ty t with | some i => (match i.u with | .string => true | _ => false) | none => false
noncomputable def isU8S (E : Env) (t : Nat) : Bool := match T.get E.ty t with
  | some i => (match i.u with | .slice e => (match T.get E.ty e with | some ie => (match ie.u with | .int .u8 => true | _ => false) | none => false) | _ => false)
  | none => false
/-- What is read of bytes, as a text. -/
theorem W.str {d : Nat} {v : Value} {l : List Nat} {Q : Value → St → Prop} (h : Bs s v l) (hz : l ≠ [] ∨ ∃ b o c, v = .slice (some ⟨b, o, none⟩) l.length c) (h1 : isU8S E t = true) (h2 : isStrT E d = true)
    (q : ∀ s1, s1.mem = s.mem → s1.next = s.next → Ext (BsF v) Non s s1 → Q (.string (txt l)) s1) : W (kConvB E t d v) s Q := by
  have h' : ∃ b o c, v = .slice (some ⟨b, o, none⟩) l.length c ∧ Row s b o (u8l l) := by
    rcases h with ⟨rfl, rfl⟩ | ⟨b, o, c, rfl, _, _, h3⟩
    · rcases hz with hz | ⟨b, o, c, hz⟩
      · exact absurd rfl hz
      · cases hz
    · exact ⟨b, o, c, rfl, h3⟩
  obtain ⟨b, o, c, rfl, h3⟩ := h'
  unfold isU8S at h1
  split at h1
  · rename_i i hi
    split at h1
    · rename_i e hu
      split at h1
      · rename_i ie he
        split at h1
        · rename_i hk
          unfold isStrT at h2
          split at h2
          · rename_i id hd
            split at h2
            · rename_i hs
              have conv : ∀ s : St, kConvB E t d (.slice (some ⟨b, o, none⟩) l.length c) s = strOf ⟨b, o, none⟩ l.length s := fun s => by
                show convSS E t d ⟨b, o, none⟩ l.length c s = _
                unfold convSS
                rw [bind_run (show Am.ti E t s = .some i s by unfold Am.ti; rw [hi]; rfl), bind_run (show Am.ti E d s = .some id s by unfold Am.ti; rw [hd]; rfl)]
                simp only [hu, hs]
                show kConv E t d (.slice (some ⟨b, o, none⟩) l.length c) s = _
                show convSl E t d ⟨b, o, none⟩ l.length s = _
                unfold convSl
                rw [bind_run (show Am.ti E t s = .some i s by unfold Am.ti; rw [hi]; rfl), bind_run (show Am.ti E d s = .some id s by unfold Am.ti; rw [hd]; rfl)]
                simp only [hu, hs]
                rw [bind_run (show Am.ti E e s = .some ie s by unfold Am.ti; rw [he]; rfl)]
                simp only [hk]
              refine W.cast (conv s) ?_
              have hl : l.length = (u8l l).length := (u8l_length l).symm
              show W (M.bind (Am.rdL l.length ⟨b, o, none⟩) fun x => M.on (bytesL x) fun bs => M.pure (.string ⟨bs.toArray⟩)) s Q
              rw [hl]
              refine W.bind (W.rdL h3 fun s1 e1 e2 e3 => W.on (bytesL_u8 l) (W.pure (q s1 e1 e2 ?_)))
              rw [u8l_length] at e3
              exact e3
            · cases h2
          · cases h2
        · cases h1
      · cases h1
    · cases h1
  · cases h1
/-- .. of nil. -/
theorem str_nil {d : Nat} {Q : Value → St → Prop} (hc : M.chk (plain (.slice none 0 0)) (M.on (semP E.P (convert t d (.slice none 0 0))) pV) s = .some (.string (txt [])) s) (q : Q (.string (txt [])) s) : W (kConvB E t d (.slice none 0 0)) s Q := W.of hc q
theorem semP_underlying {P : Program} {u : TypeDesc} (h : P.underlying t = some u) : semP P (underlying t) = some u := by
  unfold underlying program
  show semP P ((match P.underlying t with | some d => pure d | none => _) : Sem TypeDesc) = _
  rw [h]
  rfl
end
end Go.Proofs.Ytofanlcjeohcjaa.Am
