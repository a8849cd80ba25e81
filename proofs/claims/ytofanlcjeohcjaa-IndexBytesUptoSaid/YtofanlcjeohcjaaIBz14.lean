import Derived.Test.YtofanlcjeohcjaaIBz12
noncomputable section
namespace Go.Proofs.Ytofanlcjeohcjaa
open Go.RowKit
def crc8 (n : Nat) : Nat → Nat
  | 0 => n
  | k + 1 => if n % 2 = 1 then crc8 (n / 2 ^^^ 3988292384) k else crc8 (n / 2) k
def crcT (i : Nat) : Nat := crc8 i 8
def FA (n c : Nat) : Nat := crcT (n % 256 ^^^ c) ^^^ n / 256
def crcs (n : Nat) (l : List Nat) : Nat := l.foldl FA n
def CM (n : Nat) (l : List Nat) : Nat := 4294967295 ^^^ crcs (4294967295 ^^^ n) l
def arrT : Array Value := ((List.range 256).map fun i : Nat => Value.int .u32 (crcT i : Nat)).toArray
theorem Axh_ : Am.valR (Am.callF env0 1000000 145 [] Am.st0) = some (.agg arrT) := by kernel_rfl
theorem Apy_ : Am.plain (.agg arrT) = true := by kernel_rfl
theorem Wg_ (w : World) : Calls Try.prog 145 #[] w fun e w' => e = .returned (.agg arrT) ∧ Below w.heap.size w w' :=
  Am.calls_of Aps_ (by kernel_rfl) (by kernel_rfl) Axh_ Apy_ w
theorem P4 : ∀ (k n : Nat), n < 4294967296 → crc8 n k < 4294967296
  | 0, n, h => h
  | k + 1, n, h => by
    unfold crc8
    split
    · exact P4 k _ (Sha.xor_lt (by omega) (by decide))
    · exact P4 k _ (by omega)
theorem VU {i : Nat} (h : i < 256) : crcT i < 4294967296 := P4 8 i (by omega)
theorem TL_ {n c : Nat} (hc : c < 256) : n % 256 ^^^ c < 256 := Nat.xor_lt_two_pow (n := 8) (by omega) hc
theorem Aaq_ {n c : Nat} (hn : n < 4294967296) (hc : c < 256) : FA n c < 4294967296 := Sha.xor_lt (VU (TL_ hc)) (by omega)
theorem LV : ∀ (l : List Nat) (n : Nat), n < 4294967296 → (∀ c ∈ l, c < 256) → crcs n l < 4294967296
  | [], n, h, _ => h
  | c :: l, n, h, hl => LV l _ (Aaq_ h (hl c (by simp))) fun d hd => hl d (by simp [hd])
theorem Lz_ (n : Nat) (l : List Nat) (k : Nat) (h : k < l.length) : crcs n (l.take (k + 1)) = FA (crcs n (l.take k)) l[k] := by
  unfold crcs
  rw [List.take_succ_eq_append_getElem h, List.foldl_append]
  rfl
theorem V9 : arrT.size = 256 := by simp [arrT]
theorem Aio_ (j : Nat) (h : j < 256) : arrT[j]? = some (.int .u32 (crcT j : Nat)) := by simp [arrT, h]
theorem Rj_ : (Try.prog.info? 177).map (·.size) = some arrT.size := by
  rw [V9]
  kernel_rfl
theorem EM_ : arrT.all (·.oneCell') = true := by
  rw [Array.all_eq_true]
  intro i hi
  simp [arrT, Value.oneCell']
theorem AxW_ (z : Array Value) (hz : z = Array.replicate 256 (.int .u32 0)) : z.size = arrT.size := by rw [hz, V9]; simp
theorem Kj {n : Nat} (h : n < 4294967296) : bits .xor .u32 IntKind.u32.max (n : Int) = ((4294967295 ^^^ n : Nat) : Int) := by
  have hm : IntKind.u32.max = ((4294967295 : Nat) : Int) := by decide
  rw [hm, u32_xor_nat _ _ (by decide) h]
theorem Ahi_ {n c : Nat} (h : c < 256) : bits .xor .u8 ((n : Int) % 256) (c : Int) = ((n % 256 ^^^ c : Nat) : Int) := by
  have e : (n : Int) % 256 = ((n % 256 : Nat) : Int) := by omega
  rw [e, u8_xor_nat _ _ (by omega) h]
set_option maxRecDepth 1000000 in
set_option maxHeartbeats 1600000 in
theorem AxC_ (sum : Nat) (hs : sum < 4294967296) (bb bo cap : Nat) (l : List Nat) (hl : ∀ c ∈ l, c < 256) (hlen : l.length ≤ 4611686018427387904) (w : World) (hc : ∀ j, (h : j < l.length) → w.cell? ⟨bb, bo + j, none⟩ = some (.int .u8 (l[j] : Nat))) :
    Calls Try.prog 130 #[.int .u32 sum, .slice (some ⟨bb, bo, none⟩) l.length cap] w fun e w' => e = .returned (.int .u32 (CM sum l : Nat)) ∧ Below w.heap.size w w' := by
  have HC := Lib.hid hc
  have HL := Lib.hid hl
  clear hc hl
  go_enter Try.func130, Try.ntmps130
  go_wp2_with fail
  refine (Wg_ _).mono ?_
  rintro e w1 ⟨rfl, hb1⟩
  have HB := Lib.hid hb1
  clear hb1
  go_wp2_with (with_reducible refine Rz_ (o := ⟨none, .store _ (.tmp 5) (.tmp 9), _, _, _, _⟩) rfl 177 (.tmp 5) (.tmp 9) rfl w1.heap.size arrT rfl rfl _ _ (heap_alloc_new _ _) Rj_ (by kernel_rfl) EM_ ?_; intro w2 P2)
  have hT : ∀ j, j < 256 → w2.cell? ⟨w1.heap.size, j, none⟩ = some (.int .u32 (crcT j : Nat)) := fun j hj => by rw [Aev_ P2.at', Aio_ j hj]
  have hb2 : Below w.heap.size w w2 := (HB.out.alloc (by have := HB.out.size; omega) _).trans (P2.bel _ HB.out.size)
  have hcc : ∀ j, (h : j < l.length) → w2.cell? ⟨bb, bo + j, none⟩ = some (.int .u8 (l[j] : Nat)) := fun j h => (hb2.cell (p := ⟨bb, bo + j, none⟩) (World.block_lt_of_cell? w _ (HC.out j h))).trans (HC.out j h)
  have HT := Lib.hid hT
  have HB2 := Lib.hid hb2
  have HCC := Lib.hid hcc
  clear hT hb2 hcc HC HB P2
  rw [Kj hs]
  have hn0 : 4294967295 ^^^ sum < 4294967296 := Sha.xor_lt (by decide) hs
  have HN := Lib.hid (show CM sum l = 4294967295 ^^^ crcs (4294967295 ^^^ sum) l from rfl)
  generalize (4294967295 ^^^ sum) = n0 at *
  generalize w1.heap.size = H at *
  clear w1
  have HX := Lib.hid (fun k => LV (l.take k) n0 hn0 fun c hc => HL.out c (List.mem_of_mem_take hc))
  clear hn0
  go_loop [6, 14] (fun a i => ∃ k : Nat, k ≤ l.length ∧ i = .int .i64 k ∧ a = .int .u32 (crcs n0 (l.take k) : Nat)) (fun _ i => l.length - (intOf i).toNat)
  case atStart => exact ⟨0, Nat.zero_le _, rfl, rfl⟩
  case round =>
    obtain ⟨k, hk, rfl, rfl⟩ := hrel
    have hx := HX.out k
    by_cases hlt : k < l.length
    · have hcell := HCC.out k hlt
      have hc := HL.out l[k] (List.getElem_mem _)
      have HS := Lib.hid (Lz_ n0 l k hlt)
      have k0 : (0 : Int) ≤ (k : Int) := Int.natCast_nonneg _
      have k1 : (k : Int) < (l.length : Int) := by omega
      generalize l[k] = c at *
      generalize crcs n0 (l.take k) = n at *
      have hb := Ahi_ (n := n) hc
      have hi := TL_ (n := n) hc
      have HS2 := Lib.hid (HS.out.trans (show FA n c = crcT (n % 256 ^^^ c) ^^^ n / 256 from rfl))
      generalize (n % 256 ^^^ c) = x at *
      have hcx := HT.out x hi
      have x0 : (0 : Int) ≤ (x : Int) := Int.natCast_nonneg _
      have x1 : (x : Int) < 256 := by omega
      have hv := VU hi
      generalize crcT x = y at *
      have HV := Lib.hid (show bits .xor .u32 (y : Int) ((n : Int) / 256) = ((y ^^^ n / 256 : Nat) : Int) by
        have e : (n : Int) / 256 = ((n / 256 : Nat) : Int) := by simp
        rw [e, u32_xor_nat _ _ hv (by omega)])
      go_wp2
      go_round
      case rel => exact ⟨k + 1, by omega, by go_num, by rw [HV.out, ← HS2.out]⟩
      case measure => simp [intOf]; omega
    · have hkl : k = l.length := by omega
      have hfin : crcs n0 l < 4294967296 := by
        have := HX.out l.length
        rwa [List.take_length] at this
      have HE := Lib.hid (show l.take k = l by rw [hkl, List.take_length])
      rw [HE.out] at *
      go_wp2
      go_ret
      exact ⟨AK_ (by rw [Kj hfin, HN.out]), HB2.out⟩
set_option maxRecDepth 1000000 in
set_option maxHeartbeats 1600000 in
theorem Adz_ (sum : Nat) (hs : sum < 4294967296) (p : Option Addr) (cap : Nat) (w : World) :
    Calls Try.prog 130 #[.int .u32 sum, .slice p 0 cap] w fun e w' => e = .returned (.int .u32 (CM sum [] : Nat)) ∧ Below w.heap.size w w' := by
  go_enter Try.func130, Try.ntmps130
  go_wp2_with fail
  refine (Wg_ _).mono ?_
  rintro e w1 ⟨rfl, hb1⟩
  have HB := Lib.hid hb1
  clear hb1
  go_wp2_with (with_reducible refine Rz_ (o := ⟨none, .store _ (.tmp 5) (.tmp 9), _, _, _, _⟩) rfl 177 (.tmp 5) (.tmp 9) rfl w1.heap.size arrT rfl rfl _ _ (heap_alloc_new _ _) Rj_ (by kernel_rfl) EM_ ?_; intro w2 P2)
  have HB2 := Lib.hid (show Below w.heap.size w w2 from (HB.out.alloc (by have := HB.out.size; omega) _).trans (P2.bel _ HB.out.size))
  clear P2
  rw [Kj hs]
  have hn0 : 4294967295 ^^^ sum < 4294967296 := Sha.xor_lt (by decide) hs
  have HN := Lib.hid (show CM sum [] = 4294967295 ^^^ (4294967295 ^^^ sum) from rfl)
  generalize (4294967295 ^^^ sum) = n0 at *
  go_loop [6, 14] (fun a i => i = .int .i64 0 ∧ a = .int .u32 (n0 : Nat)) (fun _ _ => 0)
  case atStart => exact ⟨rfl, rfl⟩
  case round =>
    obtain ⟨rfl, rfl⟩ := hrel
    go_wp2
    go_ret
    exact ⟨AK_ (by rw [Kj hn0, HN.out]), HB2.out⟩
end Go.Proofs.Ytofanlcjeohcjaa
namespace Go.Proofs.Ytofanlcjeohcjaa.Am
open Go.RowKit
def u8s : List Value → Option (List Nat)
  | [] => some []
  | v :: l => match v, u8s l with
    | .int .u8 (.ofNat n), some ns => bif Nat.blt n 256 then some (n :: ns) else none
    | _, _ => none
theorem VH : ∀ {l : List Value} {ns : List Nat}, u8s l = some ns → l = ns.map (fun n : Nat => Value.int .u8 n) ∧ ∀ n ∈ ns, n < 256
  | [], ns, h => by cases h; exact ⟨rfl, fun n h => by cases h⟩
  | v :: l, ns, h => by
    unfold u8s at h
    split at h
    · rename_i n ns' h1
      cases hb : Nat.blt n 256 with
      | false => rw [hb] at h; cases h
      | true =>
        rw [hb] at h
        cases h
        obtain ⟨h2, h3⟩ := VH h1
        refine ⟨by rw [h2]; rfl, fun m hm => ?_⟩
        rcases List.mem_cons.1 hm with rfl | hm
        · exact BF hb
        · exact h3 m hm
    · cases h
section
variable {β : Type}
def LA (K : Nat → β) (l : List Nat) : Nat → β := List.rec (motive := fun _ => Nat → β) (fun n => K n) (fun c _ ih n => fN (Nat.xor (Nat.mod n 256) c) fun x => fN (crcT x) fun t => fN (Nat.xor t (Nat.div n 256)) fun m => ih m) l
theorem XF (K : Nat → β) : ∀ (l : List Nat) (n : Nat), LA K l n = K (crcs n l)
  | [], n => rfl
  | c :: l, n => by
    have h0 : LA K (c :: l) n = fN (Nat.xor (Nat.mod n 256) c) fun x => fN (crcT x) fun t => fN (Nat.xor t (Nat.div n 256)) fun m => LA K l m := rfl
    rw [h0, AB, AB, AB, XF K l]
    rfl
end
def If (sum : Nat) (bs : List Nat) : M Value := fN (Nat.xor 4294967295 sum) fun n => LA (fun m => fN (Nat.xor 4294967295 m) fun m => M.pure (.int .u32 (.ofNat m))) bs n
def Ej (args : List Value) : M Value :=
  match args with
  | [.int .u32 (.ofNat sum), .slice (some a) n _] => M.chk (Nat.blt sum 4294967296 && Nat.ble n 4611686018427387904) (M.bind (rdL n a) fun l => M.on (u8s l) fun bs => If sum bs)
  | _ => aC
theorem Ls (sum : Nat) (bs : List Nat) : If sum bs = M.pure (.int .u32 (CM sum bs : Nat)) := by
  unfold If
  rw [AB, XF, AB]
  rfl
theorem Aiz_ (sum : Nat) (bs : List Nat) : Loc (If sum bs) := by rw [Ls]; exact As _
theorem AtX_ (sum : Nat) (bs : List Nat) : NoPan (If sum bs) := by rw [Ls]; exact AG _
theorem Zu_ (args : List Value) : Loc (Ej args) := by
  unfold Ej
  split
  · exact Bk _ (Au (FK _ _) fun l => BA _ fun bs => Aiz_ _ _)
  · exact Az
theorem Avs_ (args : List Value) : NoPan (Ej args) := by
  unfold Ej
  split
  · exact BB _ (AC (FH _ _) fun l => B2 _ fun bs => AtX_ _ _)
  · exact AT
theorem Ahx_ : OrcOK Try.prog 130 Ej :=
  Uj Try.func130 (by kernel_rfl) (by kernel_rfl) Zu_ Avs_ (by
    intro w0 w r args args' s s' v e hr hfr ha
    unfold Ej at e
    split at e
    case h_2 => cases e
    rename_i sum a n c
    obtain ⟨v1, l1, rfl, q1, q2⟩ := ha.inv
    obtain ⟨v2, l2, rfl, q3, q4⟩ := q2.inv
    have := q4.inv_nil
    subst this
    have := q1.int_inv
    subst this
    obtain ⟨hck, e3⟩ := Bw e
    rw [Bool.and_eq_true] at hck
    have hn1 := BF hck.1
    have hn2 := Nat.le_of_ble_eq_true hck.2
    obtain ⟨l, s1, e1, e4⟩ := bind_some e3
    obtain ⟨bs, hbs, e5⟩ := Cw e4
    clear e e3 e4
    obtain ⟨hb1, hb2⟩ := VH hbs
    rw [Ls] at e5
    obtain ⟨rfl, rfl⟩ := Aq e5
    have fin : ∀ (b' o : Nat) (c2 : Nat), bs.length = n → (∀ j, (h : j < bs.length) → w.cell? ⟨b', o + j, none⟩ = some (.int .u8 (bs[j] : Nat))) → Same s s1 → Owed Try.prog 130 w0 w r [.int .u32 (.ofNat sum), .slice (some ⟨b', o, none⟩) n c2] s (.int .u32 (CM sum bs : Nat)) s1 := by
      intro b' o c2 hlen hcell g4
      subst hlen
      refine ⟨_, AxC_ sum hn1 b' o c2 bs hb2 hn2 w hcell, ?_⟩
      rintro e w' ⟨rfl, hbl⟩
      exact ⟨_, r, rfl, .of_plain (by rfl), .of_rel g4.2.1 (by rw [g4.1]; exact hr.beyond hbl), g4.2.2.1, g4.2.2.2⟩
    rcases q3.sl_inv with ⟨a2, c2, rfl, ha2, hc, _⟩ | ⟨rfl, _, _, a2, c2, rfl⟩
    · obtain ⟨l', g1, g2, g3, g4⟩ := E0 _ e1 hr ha2
      have hl : l' = bs.map (fun n : Nat => Value.int .u8 (n : Int)) := by
        rw [← hb1]
        refine Kd g3 ?_
        rw [List.all_eq_true, hb1]
        intro v hv
        obtain ⟨n, _, rfl⟩ := List.mem_map.1 hv
        rfl
      subst hl
      have hblen : bs.length = n := by simpa using g1
      obtain ⟨b, o, b', d, rfl, rfl, hbk⟩ := ha2
      refine fin b' (o + d) c2 hblen (fun j hj => ?_) g4
      have h1 := g2 j (.int .u8 (bs[j] : Nat)) (by rw [List.getElem?_map, List.getElem?_eq_getElem hj]; rfl)
      rw [Ea] at h1
      exact h1
    · obtain ⟨rfl, rfl⟩ := Aq (show M.pure [] s = .some l s1 from e1)
      have hbs0 : bs = [] := by
        have := congrArg List.length hb1
        simpa using this.symm
      subst hbs0
      refine ⟨_, Adz_ sum hn1 (some a2) c2 w, ?_⟩
      rintro e w' ⟨rfl, hbl⟩
      exact ⟨_, r, rfl, .of_plain (by rfl), .of_rel rfl (hr.beyond hbl), rfl, rfl⟩)
end Go.Proofs.Ytofanlcjeohcjaa.Am
namespace Go.Proofs.Ytofanlcjeohcjaa
open Go.RowKit
set_option maxRecDepth 100000 in
set_option maxHeartbeats 1600000 in
theorem Avz_ (bb bo len cap : Nat) (hlc : len ≤ cap) (hcap : cap ≤ 9223372036854775807) (R : World → Prop)
    (hc : ∀ wr, R wr → ∀ j, j < cap → ∃ m : Int, wr.cell? ⟨bb, bo + j, none⟩ = some (.int .u8 m) ∧ wr.frozen? ⟨bb, bo + j, none⟩ = false)
    (hs : ∀ wr j m, R wr → j < cap → R (wr.setCell ⟨bb, bo + j, none⟩ (.int .u8 m))) (hd : ∀ wr, R wr → R wr.drew) (w : World) (h0 : R w) :
    Calls Try.prog 22 #[.slice (some ⟨bb, bo, none⟩) len cap] w fun e w' => e = .returned (.tuple #[]) ∧ R w' := by
  go_enter Try.func22, Try.ntmps22
  have z0 : (0 : Int) ≤ (cap : Int) := Int.natCast_nonneg _
  go_wp2
  go_loopw [3] (fun c wr => ∃ k : Nat, k ≤ cap ∧ c = .int .i64 k ∧ R wr) (fun c wr => cap - (intOf c).toNat)
  case atStart => exact ⟨0, by omega, rfl, h0⟩
  case round =>
    obtain ⟨k, hk, rfl, hR⟩ := hrel
    by_cases hlt : k < cap
    · obtain ⟨m, cm, fm⟩ := hc _ hR k hlt
      have k0 : (0 : Int) ≤ (k : Int) := Int.natCast_nonneg _
      have k1 : (k : Int) < (cap : Int) := by omega
      have w0 := IntWalk.i64_in ((k : Int) + 1) ⟨by omega, by omega⟩
      go_wp2
      go_roundw
      case rel => exact ⟨k + 1, by omega, by go_num, hs _ _ _ hR hlt⟩
      case measure => simp [intOf]; omega
    · go_wp2
      (try simp only [Exit.inBlock, Exit.then])
      refine bodyPost_end (results_none rfl _ _ _) rfl ?_
      exact ⟨rfl, hR⟩
set_option maxRecDepth 100000 in
set_option maxHeartbeats 1600000 in
theorem Agy_ (w : World) : Calls Try.prog 22 #[.slice none 0 0] w fun e w' => e = .returned (.tuple #[]) ∧ w' = w := by
  go_enter Try.func22, Try.ntmps22
  go_wp2
  go_loopw [3] (fun c wr => c = .int .i64 0 ∧ wr = w) (fun _ _ => 0)
  case atStart => exact ⟨rfl, rfl⟩
  case round =>
    obtain ⟨rfl, rfl⟩ := hrel
    go_wp2
    (try simp only [Exit.inBlock, Exit.then])
    refine bodyPost_end (results_none rfl _ _ _) rfl ?_
    exact ⟨rfl, rfl⟩
end Go.Proofs.Ytofanlcjeohcjaa
namespace Go.Proofs.Ytofanlcjeohcjaa.Am
open Go.RowKit
def Qe (v : Value) : Bool := match v with | .int .u8 _ => true | _ => false
def G5 (a : Addr) (n c : Nat) : M Value :=
  M.chk (Nat.blt 0 n && Nat.ble n 16777216 && Nat.beq (Nat.mod c capU) n && Nat.beq (Nat.mod (Nat.div c capU) 1024) 1) (M.bind (rdL n a) fun l => M.chk (l.all Qe) (M.bind (rdC (Nat.div (Nat.div c capU) 1024)) fun x => match x with
    | .O (.tok false q) => M.chk (Nat.beq q 1025) (M.bind (wrC (Nat.div (Nat.div c capU) 1024) (.O (.tok true 1))) fun _ => M.bind (CR n (Nat.add a.block a.off)) fun _ => M.pure (.tuple #[]))
    | _ => aC))
def EZ (args : List Value) : M Value :=
  match args with
  | [.slice none 0 0] => M.pure (.tuple #[])
  | [.slice (some a) n c] => G5 a n c
  | _ => aC
theorem AvX_ (args : List Value) : Loc (EZ args) := by
  unfold EZ
  split
  · exact As _
  · unfold G5
    refine Bk _ (Au (FK _ _) fun l => Bk _ (Au (FT _) fun x => ?_))
    split
    · exact Bk _ (Au (EL _ _) fun _ => Au (Rt _ _) fun _ => As _)
    · exact Az
  · exact Az
theorem Aef_ (args : List Value) : NoPan (EZ args) := by
  unfold EZ
  split
  · exact AG _
  · unfold G5
    refine BB _ (AC (FH _ _) fun l => BB _ (AC (Gt _) fun x => ?_))
    split
    · exact BB _ (AC (Fv _ _) fun _ => AC (Mj _ _) fun _ => AG _)
    · exact AT
  · exact AT
theorem AqD_ : OrcOK Try.prog 22 EZ := Uj Try.func22 (by kernel_rfl) (by kernel_rfl) AvX_ Aef_ (by
  intro w0 w r args args' s s' v h hr hf ha
  unfold EZ at h
  split at h
  · obtain ⟨rfl, rfl⟩ := Aq h
    obtain ⟨p', l', rfl, q1, q2⟩ := ha.inv
    have := q2.inv_nil
    subst this
    have := q1.eq_of_plain rfl
    subst this
    exact ⟨_, Agy_ w, fun e w' ⟨he, hw⟩ => ⟨_, r, he, .undef, by rw [hw]; exact .same (.refl _) hr, rfl, rfl⟩⟩
  · rename_i a n c
    obtain ⟨p', l', rfl, q1, q2⟩ := ha.inv
    have := q2.inv_nil
    subst this
    unfold G5 at h
    obtain ⟨hc, h⟩ := Bw h
    simp only [Bool.and_eq_true] at hc
    obtain ⟨⟨⟨c1, c0⟩, c2⟩, c3⟩ := hc
    have hnb := Nat.le_of_ble_eq_true c0
    have hn : 0 < n := BF c1
    have hcn : c % capU = n := Nat.eq_of_beq_eq_true c2
    have hcs : c / capU % 1024 = 1 := Nat.eq_of_beq_eq_true c3
    obtain ⟨l, s1, h1, h⟩ := bind_some h
    obtain ⟨hl8, h⟩ := Bw h
    obtain ⟨x, s2, h2, h⟩ := bind_some h
    obtain ⟨g2, hx⟩ := F7 h2
    split at h
    · rename_i q
      obtain ⟨hq, h⟩ := Bw h
      have hq' : q = 1025 := Nat.eq_of_beq_eq_true hq
      subst hq'
      obtain ⟨u3, s3, h3, h⟩ := bind_some h
      obtain ⟨u4, s4, h4, h⟩ := bind_some h
      obtain ⟨rfl, rfl⟩ := Aq h
      rcases q1.sl_inv with ⟨a2, cc, rfl, ha2, hcap, hlen⟩ | ⟨_, _, e0, _⟩
      case inr => omega
      rcases hcap with ⟨e1, _⟩ | ⟨_, k, k1, k2, k3, k4, k5⟩
      · rw [e1] at hcs; omega
      obtain ⟨l', g1, g3, g4, g5⟩ := E0 _ h1 hr ha2
      obtain ⟨t1, t2, t3, t4⟩ := FZ h3
      obtain ⟨u1, u2, u3, u4⟩ := NH _ _ h4
      have e2 := g5.trans hx
      have g2' : T.get s.mem (c / capU / 1024) = some (.O (.tok false 1025)) := by
        rw [← g5.1]
        exact g2
      obtain ⟨k', x1, x2, x3, x4, x5, x6⟩ := hr.tok _ _ g2'
      rw [k1] at x1
      cases x1
      obtain ⟨b0, o0, bb, d, rfl, rfl, hblk⟩ := ha2
      subst k4
      have hmem0 := QM _ h1
      have hmem : ∀ j, j < n → ∃ v, T.get s.mem (b0 + o0 + j) = some (.C b0 v) := fun j hj => by
        obtain ⟨v, q⟩ := hmem0 j hj
        rcases q with q | q
        · exact ⟨v, q⟩
        · exact absurd (hr.oldLt q hblk) (Nat.not_lt_of_le x3)
      have hsz : k.sz = 1 := x2
      have k5' : o0 + d + n = k.p := by
        have h5 : o0 + d + c % capU * k.sz = k.p := k5
        rw [hcn, hsz, Nat.mul_one] at h5
        exact h5
      have hcc : cc = n + k.e := by rw [k3, hcn]
      have hmax : cc ≤ 9223372036854775807 := by
        rcases Nat.eq_zero_or_pos k.e with e | e
        · omega
        · obtain ⟨_, _, _, y⟩ := x5 0 (by rw [hsz]; omega)
          have y := (y (by decide)).2
          rw [hsz] at y
          omega
      have hl' : l.length = n := by rw [g4.1, g1]
      have hcell : ∀ j, j < cc → ∃ m : Int, w.cell? ⟨k.b, o0 + d + j, none⟩ = some (.int .u8 m) ∧ w.frozen? ⟨k.b, o0 + d + j, none⟩ = false := fun j hj => by
        by_cases hj1 : j < n
        · obtain ⟨v1, q⟩ := hmem j hj1
          rw [Nat.add_assoc] at q
          obtain ⟨v', q1, _, q3⟩ := hr.load q hblk
          rw [show o0 + j + d = o0 + d + j by omega] at q1 q3
          have hj2 : j < l.length := by omega
          have hj3 : j < l'.length := by omega
          have q4 := g3 j _ (List.getElem?_eq_getElem hj3)
          rw [Ea] at q4
          have q4 : w.cell? ⟨k.b, o0 + d + j, none⟩ = some l'[j] := q4
          have q5 := g4.2 j _ _ (List.getElem?_eq_getElem hj2) (List.getElem?_eq_getElem hj3)
          have q6 : Qe l[j] = true := List.all_eq_true.1 hl8 _ (List.getElem_mem hj2)
          unfold Qe at q6
          split at q6
          · rename_i z hz
            rw [hz] at q5
            have := q5.eq_of_plain rfl
            rw [this] at q4
            exact ⟨z, q4, q3⟩
          · cases q6
        · obtain ⟨v', y1, y2, y3⟩ := x5 (j - n) (by rw [hsz]; omega)
          obtain ⟨m, rfl⟩ := (y3 (by decide)).1
          rw [← k5', show o0 + d + n + (j - n) = o0 + d + j by omega] at y1 y2
          exact ⟨m, y1, y2⟩
      have hget : ∀ loc x, T.get s4.mem loc = some x → ((loc = c / capU / 1024 ∧ x = .O (.tok true 1)) ∨ (loc ≠ c / capU / 1024 ∧ T.get s.mem loc = some x)) ∧ ¬ (b0 + o0 ≤ loc ∧ loc < b0 + o0 + n) := fun loc x e => by
        obtain ⟨z1, z2⟩ := u1 loc x e
        refine ⟨?_, z2⟩
        rw [t1, T.get_set] at z1
        split at z1
        · rename_i hloc
          cases z1
          exact .inl ⟨hloc, rfl⟩
        · rename_i hloc
          rw [hx.1, g5.1] at z1
          exact .inr ⟨hloc, z1⟩
      have hrel : Rel w0 r s4.mem w := hr.lessTok fun loc x e => by
        rcases (hget loc x e).1 with ⟨_, h⟩ | ⟨_, h⟩
        · exact .inr ⟨_, h, by decide⟩
        · exact .inl h
      have hno : ∀ loc b v d', T.get s4.mem loc = some (.C b v) → r.blk b = some (k.b, d') → loc - b + d' < o0 + d := by
        intro loc b v d' e1 e2
        obtain ⟨y1, y3⟩ := hget loc _ e1
        rcases y1 with ⟨_, y1⟩ | ⟨_, y1⟩
        · cases y1
        · have q := x6 _ _ _ _ y1 e2
          rcases Nat.lt_or_ge (loc - b + d') (o0 + d) with q2 | q2
          · exact q2
          · exfalso
            obtain ⟨v1, q3⟩ := hmem (loc - b + d' - (o0 + d)) (by omega)
            have q4 := hr.sep _ _ _ _ _ _ _ _ _ y1 q3 e2 hblk (by omega)
            apply y3
            omega
      have htk : ∀ t2 sz k2, T.get s4.mem t2 = some (.O (.tok false sz)) → r.ext t2 = some k2 → k2.b ≠ k.b := by
        intro t2 sz k2' e1 e2 heq
        rcases (hget t2 _ e1).1 with ⟨_, y1⟩ | ⟨y0, y1⟩
        · cases y1
        · exact y0 (hr.sepT _ _ _ _ _ _ y1 g2' e2 k1 heq)
      refine ⟨_, Avz_ k.b (o0 + d) n cc (by omega) hmax (fun wr => Rel w0 r s4.mem wr ∧ ∀ j, j < cc → ∃ m : Int, wr.cell? ⟨k.b, o0 + d + j, none⟩ = some (.int .u8 m) ∧ wr.frozen? ⟨k.b, o0 + d + j, none⟩ = false) (fun wr h j hj => h.2 j hj) (fun wr j m h hj => ⟨?_, fun i hi => ?_⟩) (fun wr h => ⟨h.1.drew, h.2⟩) w ⟨hrel, hcell⟩, fun e w' ⟨he, hw, _⟩ => ⟨_, r, he, .undef, .of_rel ?_ hw, ?_, ?_⟩⟩
      · obtain ⟨m1, q1, q2⟩ := h.2 j hj
        exact h.1.setFree x3 (by rw [q1]; rfl) (fun loc b v d' e1 e2 => by have := hno _ _ _ _ e1 e2; omega) htk _
      · obtain ⟨m1, q1, q2⟩ := h.2 i hi
        by_cases hij : i = j
        · subst hij
          exact ⟨m, World.cell?_setCell_same _ _ _ q1, by rw [World.frozen?_setCell]; exact q2⟩
        · refine ⟨m1, ?_, by rw [World.frozen?_setCell]; exact q2⟩
          rw [World.cell?_setCell_other]
          · exact q1
          · intro heq
            simp only [Addr.mk.injEq, and_true] at heq
            omega
      · exact u2.trans (t2.trans e2.2.1)
      · exact u3.trans (t3.trans e2.2.2.1)
      · exact u4.trans (t4.trans e2.2.2.2)
    · cases h
  · cases h)
