import Derived.Test.YtofanlcjeohcjaaIBk13
import Derived.Test.YtofanlcjeohcjaaIBk07
noncomputable section
namespace Go.Proofs.Ytofanlcjeohcjaa
open Go.RowKit
def crc8 (n : Nat) : Nat → Nat
  | 0 => n
  | k + 1 => if n % 2 = 1 then crc8 (n / 2 ^^^ 3988292384) k else crc8 (n / 2) k
def crcT (i : Nat) : Nat := crc8 i 8
def EV (n c : Nat) : Nat := crcT (n % 256 ^^^ c) ^^^ n / 256
def crcs (n : Nat) (l : List Nat) : Nat := l.foldl EV n
def CV (n : Nat) (l : List Nat) : Nat := 4294967295 ^^^ crcs (4294967295 ^^^ n) l
def arrT : Array Value := ((List.range 256).map fun i : Nat => Value.int .u32 (crcT i : Nat)).toArray
theorem AiK_ : Am.valR (Am.callF env0 1000000 145 [] Am.st0) = some (.agg arrT) := by kernel_rfl
theorem Abl_ : Am.plain (.agg arrT) = true := by kernel_rfl
theorem ZJ (w : World) : Calls Try.prog 145 #[] w fun e w' => e = .returned (.agg arrT) ∧ Below w.heap.size w w' :=
  Am.calls_of Rs (by kernel_rfl) (by kernel_rfl) AiK_ Abl_ w
theorem SK : ∀ (k n : Nat), n < 4294967296 → crc8 n k < 4294967296
  | 0, n, h => h
  | k + 1, n, h => by
    unfold crc8
    split
    · exact SK k _ (Sha.xor_lt (by omega) (by decide))
    · exact SK k _ (by omega)
theorem Wh {i : Nat} (h : i < 256) : crcT i < 4294967296 := SK 8 i (by omega)
theorem GY_ {n c : Nat} (hc : c < 256) : n % 256 ^^^ c < 256 := Nat.xor_lt_two_pow (n := 8) (by omega) hc
theorem Aih_ {n c : Nat} (hn : n < 4294967296) (hc : c < 256) : EV n c < 4294967296 := Sha.xor_lt (Wh (GY_ hc)) (by omega)
theorem UT : ∀ (l : List Nat) (n : Nat), n < 4294967296 → (∀ c ∈ l, c < 256) → crcs n l < 4294967296
  | [], n, h, _ => h
  | c :: l, n, h, hl => UT l _ (Aih_ h (hl c (by simp))) fun d hd => hl d (by simp [hd])
theorem KN_ (n : Nat) (l : List Nat) (k : Nat) (h : k < l.length) : crcs n (l.take (k + 1)) = EV (crcs n (l.take k)) l[k] := by
  unfold crcs
  rw [List.take_succ_eq_append_getElem h, List.foldl_append]
  rfl
theorem Zh : arrT.size = 256 := by simp [arrT]
theorem AgW_ (j : Nat) (h : j < 256) : arrT[j]? = some (.int .u32 (crcT j : Nat)) := by simp [arrT, h]
theorem Fi_ : (Try.prog.info? 177).map (·.size) = some arrT.size := by
  rw [Zh]
  kernel_rfl
theorem We : arrT.all (·.oneCell') = true := by
  rw [Array.all_eq_true]
  intro i hi
  simp [arrT, Value.oneCell']
theorem Alq_ (z : Array Value) (hz : z = Array.replicate 256 (.int .u32 0)) : z.size = arrT.size := by rw [hz, Zh]; simp
theorem PG {n : Nat} (h : n < 4294967296) : bits .xor .u32 IntKind.u32.max (n : Int) = ((4294967295 ^^^ n : Nat) : Int) := by
  have hm : IntKind.u32.max = ((4294967295 : Nat) : Int) := by decide
  rw [hm, u32_xor_nat _ _ (by decide) h]
theorem LD_ {n c : Nat} (h : c < 256) : bits .xor .u8 ((n : Int) % 256) (c : Int) = ((n % 256 ^^^ c : Nat) : Int) := by
  have e : (n : Int) % 256 = ((n % 256 : Nat) : Int) := by omega
  rw [e, u8_xor_nat _ _ (by omega) h]
set_option maxRecDepth 1000000 in
set_option maxHeartbeats 1600000 in
theorem AjD_ (sum : Nat) (hs : sum < 4294967296) (bb bo cap : Nat) (l : List Nat) (hl : ∀ c ∈ l, c < 256) (hlen : l.length ≤ 4611686018427387904) (w : World) (hc : ∀ j, (h : j < l.length) → w.cell? ⟨bb, bo + j, none⟩ = some (.int .u8 (l[j] : Nat))) :
    Calls Try.prog 130 #[.int .u32 sum, .slice (some ⟨bb, bo, none⟩) l.length cap] w fun e w' => e = .returned (.int .u32 (CV sum l : Nat)) ∧ Below w.heap.size w w' := by
  have HC := Lib.hid hc
  have HL := Lib.hid hl
  clear hc hl
  go_enter Try.func130, Try.ntmps130
  go_wp2_with fail
  refine (ZJ _).mono ?_
  rintro e w1 ⟨rfl, hb1⟩
  have HB := Lib.hid hb1
  clear hb1
  go_wp2_with (with_reducible refine F9 (o := ⟨none, .store _ (.tmp 5) (.tmp 9), _, _, _, _⟩) rfl 177 (.tmp 5) (.tmp 9) rfl w1.heap.size arrT rfl rfl _ _ (heap_alloc_new _ _) Fi_ (by kernel_rfl) We ?_; intro w2 P2)
  have hT : ∀ j, j < 256 → w2.cell? ⟨w1.heap.size, j, none⟩ = some (.int .u32 (crcT j : Nat)) := fun j hj => by rw [Cw P2.at', AgW_ j hj]
  have hb2 : Below w.heap.size w w2 := (HB.out.alloc (by have := HB.out.size; omega) _).trans (P2.bel _ HB.out.size)
  have hcc : ∀ j, (h : j < l.length) → w2.cell? ⟨bb, bo + j, none⟩ = some (.int .u8 (l[j] : Nat)) := fun j h => (hb2.cell (p := ⟨bb, bo + j, none⟩) (World.block_lt_of_cell? w _ (HC.out j h))).trans (HC.out j h)
  have HT := Lib.hid hT
  have HB2 := Lib.hid hb2
  have HCC := Lib.hid hcc
  clear hT hb2 hcc HC HB P2
  rw [PG hs]
  have hn0 : 4294967295 ^^^ sum < 4294967296 := Sha.xor_lt (by decide) hs
  have HN := Lib.hid (show CV sum l = 4294967295 ^^^ crcs (4294967295 ^^^ sum) l from rfl)
  generalize (4294967295 ^^^ sum) = n0 at *
  generalize w1.heap.size = H at *
  clear w1
  have HX := Lib.hid (fun k => UT (l.take k) n0 hn0 fun c hc => HL.out c (List.mem_of_mem_take hc))
  clear hn0
  go_loop [6, 14] (fun a i => ∃ k : Nat, k ≤ l.length ∧ i = .int .i64 k ∧ a = .int .u32 (crcs n0 (l.take k) : Nat)) (fun _ i => l.length - (intOf i).toNat)
  case atStart => exact ⟨0, Nat.zero_le _, rfl, rfl⟩
  case round =>
    obtain ⟨k, hk, rfl, rfl⟩ := hrel
    have hx := HX.out k
    by_cases hlt : k < l.length
    · have hcell := HCC.out k hlt
      have hc := HL.out l[k] (List.getElem_mem _)
      have HS := Lib.hid (KN_ n0 l k hlt)
      have k0 : (0 : Int) ≤ (k : Int) := Int.natCast_nonneg _
      have k1 : (k : Int) < (l.length : Int) := by omega
      generalize l[k] = c at *
      generalize crcs n0 (l.take k) = n at *
      have hb := LD_ (n := n) hc
      have hi := GY_ (n := n) hc
      have HS2 := Lib.hid (HS.out.trans (show EV n c = crcT (n % 256 ^^^ c) ^^^ n / 256 from rfl))
      generalize (n % 256 ^^^ c) = x at *
      have hcx := HT.out x hi
      have x0 : (0 : Int) ≤ (x : Int) := Int.natCast_nonneg _
      have x1 : (x : Int) < 256 := by omega
      have hv := Wh hi
      generalize crcT x = y at *
      have HV := Lib.hid (show bits .xor .u32 (y : Int) ((n : Int) / 256) = ((y ^^^ n / 256 : Nat) : Int) by
        have e : (n : Int) / 256 = ((n / 256 : Nat) : Int) := by simp
        rw [e, u32_xor_nat _ _ hv (by omega)])
      go_wp2
      go_round
      case rel => exact ⟨k + 1, by omega, by go_num, by rw [HV.out, ← HS2.out]⟩
      case measure => simp [intOf]; omega
    · have hkl : k = l.length := by omega
      have hfin : crcs n0 l < 4294967296 := by
        have := HX.out l.length
        rwa [List.take_length] at this
      have HE := Lib.hid (show l.take k = l by rw [hkl, List.take_length])
      rw [HE.out] at *
      go_wp2
      go_ret
      exact ⟨Re (by rw [PG hfin, HN.out]), HB2.out⟩
set_option maxRecDepth 1000000 in
set_option maxHeartbeats 1600000 in
theorem AkU_ (sum : Nat) (hs : sum < 4294967296) (p : Option Addr) (cap : Nat) (w : World) :
    Calls Try.prog 130 #[.int .u32 sum, .slice p 0 cap] w fun e w' => e = .returned (.int .u32 (CV sum [] : Nat)) ∧ Below w.heap.size w w' := by
  go_enter Try.func130, Try.ntmps130
  go_wp2_with fail
  refine (ZJ _).mono ?_
  rintro e w1 ⟨rfl, hb1⟩
  have HB := Lib.hid hb1
  clear hb1
  go_wp2_with (with_reducible refine F9 (o := ⟨none, .store _ (.tmp 5) (.tmp 9), _, _, _, _⟩) rfl 177 (.tmp 5) (.tmp 9) rfl w1.heap.size arrT rfl rfl _ _ (heap_alloc_new _ _) Fi_ (by kernel_rfl) We ?_; intro w2 P2)
  have HB2 := Lib.hid (show Below w.heap.size w w2 from (HB.out.alloc (by have := HB.out.size; omega) _).trans (P2.bel _ HB.out.size))
  clear P2
  rw [PG hs]
  have hn0 : 4294967295 ^^^ sum < 4294967296 := Sha.xor_lt (by decide) hs
  have HN := Lib.hid (show CV sum [] = 4294967295 ^^^ (4294967295 ^^^ sum) from rfl)
  generalize (4294967295 ^^^ sum) = n0 at *
  go_loop [6, 14] (fun a i => i = .int .i64 0 ∧ a = .int .u32 (n0 : Nat)) (fun _ _ => 0)
  case atStart => exact ⟨rfl, rfl⟩
  case round =>
    obtain ⟨rfl, rfl⟩ := hrel
    go_wp2
    go_ret
    exact ⟨Re (by rw [PG hn0, HN.out]), HB2.out⟩
end Go.Proofs.Ytofanlcjeohcjaa
namespace Go.Proofs.Ytofanlcjeohcjaa.Am
open Go.RowKit
section
variable {β : Type}
def Sw (bs : List Nat) (n : Nat) : Nat := Sha.be (bs.getD (4 * n) 0) (bs.getD (4 * n + 1) 0) (bs.getD (4 * n + 2) 0) (bs.getD (4 * n + 3) 0)
def mkL (f : Nat → Nat) (n : Nat) (K : List Nat → β) : β := Nat.rec (motive := fun _ => (List Nat → β) → β) (fun K => K []) (fun n ih K => ih fun l => fN (f n) fun x => K (x :: l)) n K
def nxtK (ws : List Nat) : Nat := (((ws.getD 15 0 + Sha.s0 (ws.getD 14 0)) % 4294967296 + ws.getD 6 0) % 4294967296 + Sha.s1 (ws.getD 1 0)) % 4294967296
def extL (g : List Nat → Nat) (m : Nat) (ws : List Nat) (K : List Nat → β) : β := Nat.rec (motive := fun _ => List Nat → β) (fun ws => K ws) (fun _ ih ws => fN (g ws) fun x => ih (x :: ws)) m ws
def rndK (s : Sha.St8) (k w : Nat) (K : Sha.St8 → β) : β :=
  Sha.St8.rec (motive := fun _ => β) (fun a b c d e f g h => fN (Sha.t1 ⟨a, b, c, d, e, f, g, h⟩ k w) fun t => fN (Sha.t2 ⟨a, b, c, d, e, f, g, h⟩) fun u => fN ((t + u) % 4294967296) fun x => fN ((d + t) % 4294967296) fun y => K ⟨x, a, b, c, y, e, f, g⟩) s
def Nj (K : Sha.St8 → β) (ks : List Nat) : List Nat → Sha.St8 → β :=
  List.rec (motive := fun _ => List Nat → Sha.St8 → β) (fun _ s => K s) (fun k _ ih ws s => List.rec (motive := fun _ => β) (K s) (fun w ws' _ => rndK s k w fun s' => ih ws' s') ws) ks
def PV (s r : Sha.St8) (K : Sha.St8 → β) : β :=
  Sha.St8.rec (motive := fun _ => β) (fun a b c d e f g h => Sha.St8.rec (motive := fun _ => β) (fun a' b' c' d' e' f' g' h' =>
    fN ((a' + a) % 4294967296) fun a => fN ((b' + b) % 4294967296) fun b => fN ((c' + c) % 4294967296) fun c => fN ((d' + d) % 4294967296) fun d => fN ((e' + e) % 4294967296) fun e => fN ((f' + f) % 4294967296) fun f => fN ((g' + g) % 4294967296) fun g => fN ((h' + h) % 4294967296) fun h => K ⟨a, b, c, d, e, f, g, h⟩) r) s
def JX (s : Sha.St8) (bs : List Nat) (K : Sha.St8 → β) : β := mkL (Sw bs) 16 fun l => extL nxtK 48 l fun ws => Nj (fun r => PV s r K) Sha.ks ws.reverse s
def revL (f : Nat → Nat) : Nat → List Nat
  | 0 => []
  | n + 1 => f n :: revL f n
theorem JY (f : Nat → Nat) : ∀ (n j : Nat), j < n → (revL f n).getD j 0 = f (n - 1 - j)
  | 0, _, h => by omega
  | n + 1, 0, _ => rfl
  | n + 1, j + 1, h => by
    show (revL f n).getD j 0 = _
    rw [JY f n j (by omega)]
    congr 1
    omega
theorem Bj_ (f : Nat → Nat) : ∀ n, (revL f n).reverse = (List.range n).map f
  | 0 => rfl
  | n + 1 => by
    show (f n :: revL f n).reverse = _
    rw [List.reverse_cons, Bj_ f n, List.range_succ, List.map_append]
    rfl
theorem Wx_ (f : Nat → Nat) (n : Nat) : ∀ (K : List Nat → β), mkL f n K = K (revL f n) := by
  induction n with
  | zero => intro K; rfl
  | succ n ih =>
    intro K
    have h0 : mkL f (n + 1) K = mkL f n fun l => fN (f n) fun x => K (x :: l) := rfl
    rw [h0, ih, AY]
    rfl
theorem AiC_ {g : List Nat → Nat} {S : Nat → Nat} (hg : ∀ n, 16 ≤ n → g (revL S n) = S n) (K : List Nat → β) (m : Nat) : ∀ (n : Nat), 16 ≤ n → extL g m (revL S n) K = K (revL S (n + m)) := by
  induction m with
  | zero => intro n _; rfl
  | succ m ih =>
    intro n h
    have h0 : extL g (m + 1) (revL S n) K = fN (g (revL S n)) fun x => extL g m (x :: revL S n) K := rfl
    rw [h0, AY, hg n h]
    have := ih (n + 1) (by omega)
    rw [show n + 1 + m = n + (m + 1) by omega] at this
    exact this
theorem TX_ {B : Nat → Nat} (n : Nat) (h : 16 ≤ n) : nxtK (revL (Sha.sch B) n) = Sha.sch B n := by
  unfold nxtK
  rw [JY _ _ _ (by omega), JY _ _ _ (by omega), JY _ _ _ (by omega), JY _ _ _ (by omega), Sha.sch_hi h]
  rw [show n - 1 - 15 = n - 16 by omega, show n - 1 - 14 = n - 15 by omega, show n - 1 - 6 = n - 7 by omega, show n - 1 - 1 = n - 2 by omega]
theorem Qt_ {f g : Nat → Nat} (n : Nat) (h : ∀ i, i < n → f i = g i) : revL f n = revL g n := by
  induction n with
  | zero => rfl
  | succ n ih =>
    unfold revL
    rw [ih fun i hi => h i (by omega), h n (by omega)]
theorem Mq_ (s : Sha.St8) (k w : Nat) (K : Sha.St8 → β) : rndK s k w K = K (Sha.rnd s k w) := by
  obtain ⟨a, b, c, d, e, f, g, h⟩ := s
  have h0 : rndK ⟨a, b, c, d, e, f, g, h⟩ k w K = fN (Sha.t1 ⟨a, b, c, d, e, f, g, h⟩ k w) fun t => fN (Sha.t2 ⟨a, b, c, d, e, f, g, h⟩) fun u => fN ((t + u) % 4294967296) fun x => fN ((d + t) % 4294967296) fun y => K ⟨x, a, b, c, y, e, f, g⟩ := rfl
  rw [h0, AY, AY, AY, AY]
  rfl
theorem AcT_ (s r : Sha.St8) (K : Sha.St8 → β) : PV s r K = K (Sha.plus s r) := by
  obtain ⟨a, b, c, d, e, f, g, h⟩ := s
  obtain ⟨a', b', c', d', e', f', g', h'⟩ := r
  have h0 : PV ⟨a, b, c, d, e, f, g, h⟩ ⟨a', b', c', d', e', f', g', h'⟩ K = fN ((a' + a) % 4294967296) fun a => fN ((b' + b) % 4294967296) fun b => fN ((c' + c) % 4294967296) fun c => fN ((d' + d) % 4294967296) fun d => fN ((e' + e) % 4294967296) fun e => fN ((f' + f) % 4294967296) fun f => fN ((g' + g) % 4294967296) fun g => fN ((h' + h) % 4294967296) fun h => K ⟨a, b, c, d, e, f, g, h⟩ := rfl
  rw [h0, AY, AY, AY, AY, AY, AY, AY, AY]
  rfl
theorem XP (K : Sha.St8 → β) (f W : Nat → Nat) (s : Sha.St8) : ∀ (n i : Nat), Nj K ((List.range' i n).map f) ((List.range' i n).map W) (Sha.rnds f W s i) = K (Sha.rnds f W s (i + n))
  | 0, i => rfl
  | n + 1, i => by
    have h0 : Nj K ((List.range' i (n + 1)).map f) ((List.range' i (n + 1)).map W) (Sha.rnds f W s i) = rndK (Sha.rnds f W s i) (f i) (W i) fun s' => Nj K ((List.range' (i + 1) n).map f) ((List.range' (i + 1) n).map W) s' := rfl
    rw [h0, Mq_]
    have := XP K f W s n (i + 1)
    rw [show i + 1 + n = i + (n + 1) by omega] at this
    exact this
theorem AkO_ : Sha.ks = (List.range' 0 64).map Sha.K := by kernel_rfl
theorem MQ_ (bs : List Nat) (i : Nat) (h : i < 16) : Sw bs i = Sha.sch (fun j => bs.getD j 0) i := by
  rw [Sha.sch_lo h]
  unfold Sw
  rfl
theorem LX (s : Sha.St8) (bs : List Nat) (K : Sha.St8 → β) : JX s bs K = K (Sha.next s fun j => bs.getD j 0) := by
  have h2 := XP (fun r => PV s r K) Sha.K (Sha.sch fun j => bs.getD j 0) s 64 0
  rw [← AkO_, Nat.zero_add] at h2
  have h3 : Sha.rnds Sha.K (Sha.sch fun j => bs.getD j 0) s 0 = s := by unfold Sha.rnds; rfl
  rw [h3, AcT_] at h2
  unfold JX
  rw [Wx_, Qt_ 16 (MQ_ bs), AiC_ TX_ _ 48 16 (Nat.le_refl _), Bj_, List.range_eq_range', h2]
  unfold Sha.next
  rfl
end
def u8s : List Value → Option (List Nat)
  | [] => some []
  | v :: l => match v, u8s l with
    | .int .u8 (.ofNat n), some ns => bif Nat.blt n 256 then some (n :: ns) else none
    | _, _ => none
def u32s : List Value → Option (List Nat)
  | [] => some []
  | v :: l => match v, u32s l with
    | .int .u32 (.ofNat n), some ns => bif Nat.blt n 4294967296 then some (n :: ns) else none
    | _, _ => none
theorem SM : ∀ {l : List Value} {ns : List Nat}, u8s l = some ns → l = ns.map (fun n : Nat => Value.int .u8 n) ∧ ∀ n ∈ ns, n < 256
  | [], ns, h => by cases h; exact ⟨rfl, fun n h => by cases h⟩
  | v :: l, ns, h => by
    unfold u8s at h
    split at h
    · rename_i n ns' h1
      cases hb : Nat.blt n 256 with
      | false => rw [hb] at h; cases h
      | true =>
        rw [hb] at h
        cases h
        obtain ⟨h2, h3⟩ := SM h1
        refine ⟨by rw [h2]; rfl, fun m hm => ?_⟩
        rcases List.mem_cons.1 hm with rfl | hm
        · exact BI hb
        · exact h3 m hm
    · cases h
theorem Dr_ : ∀ {l : List Value} {ns : List Nat}, u32s l = some ns → l = ns.map (fun n : Nat => Value.int .u32 n) ∧ ∀ n ∈ ns, n < 4294967296
  | [], ns, h => by cases h; exact ⟨rfl, fun n h => by cases h⟩
  | v :: l, ns, h => by
    unfold u32s at h
    split at h
    · rename_i n ns' h1
      cases hb : Nat.blt n 4294967296 with
      | false => rw [hb] at h; cases h
      | true =>
        rw [hb] at h
        cases h
        obtain ⟨h2, h3⟩ := Dr_ h1
        refine ⟨by rw [h2]; rfl, fun m hm => ?_⟩
        rcases List.mem_cons.1 hm with rfl | hm
        · exact BI hb
        · exact h3 m hm
    · cases h
def st8M (r : Sha.St8) : M Value := Sha.St8.rec (motive := fun _ => M Value) (fun a b c d e f g h => M.pure (.agg #[.int .u32 (.ofNat a), .int .u32 (.ofNat b), .int .u32 (.ofNat c), .int .u32 (.ofNat d), .int .u32 (.ofNat e), .int .u32 (.ofNat f), .int .u32 (.ofNat g), .int .u32 (.ofNat h)])) r
def Ht (ws bs : List Nat) : M Value :=
  match ws with
  | [a, b, c, d, e, f, g, h] => JX ⟨a, b, c, d, e, f, g, h⟩ bs st8M
  | _ => aB
def Fd (args : List Value) : M Value :=
  match args with
  | [.agg cs, .slice (some a) n _] => M.on (u32s cs.toList) fun ws => M.chk (Nat.ble 64 n && Nat.ble n 9223372036854775807) (M.bind (rdL 64 a) fun l => M.on (u8s l) fun bs => Ht ws bs)
  | _ => aB
theorem OM (r : Sha.St8) : st8M r = M.pure (.agg (st8V r)) := by cases r; rfl
theorem AjZ_ (ws bs : List Nat) : Loc (Ht ws bs) := by
  unfold Ht
  split
  · rw [LX, OM]; exact AA _
  · exact Az
theorem Uu_ (ws bs : List Nat) : NoPan (Ht ws bs) := by
  unfold Ht
  split
  · rw [LX, OM]; exact AH _
  · exact AI
theorem Afc_ (args : List Value) : Loc (Fd args) := by
  unfold Fd
  split
  · exact AE _ fun ws => AK _ (Ax (Fk _ _) fun l => AE _ fun bs => AjZ_ _ _)
  · exact Az
theorem Ky_ (args : List Value) : NoPan (Fd args) := by
  unfold Fd
  split
  · exact AJ _ fun ws => AL _ (AB (E1 _ _) fun l => AJ _ fun bs => Uu_ _ _)
  · exact AI
theorem AhR_ {bs : List Nat} (h : ∀ n ∈ bs, n < 256) (j : Nat) : bs.getD j 0 < 256 := by
  rw [List.getD]
  cases e : bs[j]? with
  | none => exact (by decide : (0 : Nat) < 256)
  | some x => exact h x (List.mem_of_getElem? e)
theorem PZ_ : OrcOK Try.prog 134 Fd :=
  Jg_ Try.func134 (by kernel_rfl) (by kernel_rfl) Afc_ Ky_ (by
    intro w0 w r args args' s s' v e hr hfr ha
    unfold Fd at e
    split at e
    case h_2 => cases e
    rename_i cs a n c
    obtain ⟨v1, l1, rfl, q1, q2⟩ := ha.inv
    obtain ⟨v2, l2, rfl, q3, q4⟩ := q2.inv
    have := q4.inv_nil
    subst this
    obtain ⟨ws, hws, e2⟩ := BF e
    obtain ⟨hck, e3⟩ := By e2
    rw [Bool.and_eq_true] at hck
    have hn1 := Nat.le_of_ble_eq_true hck.1
    have hn2 := Nat.le_of_ble_eq_true hck.2
    obtain ⟨l, s1, e1, e4⟩ := bind_some e3
    obtain ⟨bs, hbs, e5⟩ := BF e4
    clear e e2 e3 e4
    obtain ⟨hw1, hw2⟩ := Dr_ hws
    obtain ⟨hb1, hb2⟩ := SM hbs
    rcases q3.sl_inv with ⟨a2, c2, rfl, ha2, hc, _⟩ | ⟨h0, _⟩
    case inr => omega
    obtain ⟨l', g1, g2, g3, g4⟩ := D4 _ e1 hr ha2
    have hl : l' = bs.map (fun n : Nat => Value.int .u8 (n : Int)) := by
      rw [← hb1]
      refine Iu g3 ?_
      rw [List.all_eq_true, hb1]
      intro v hv
      obtain ⟨n, _, rfl⟩ := List.mem_map.1 hv
      rfl
    subst hl
    have hblen : bs.length = 64 := by simpa using g1
    obtain ⟨cs', rfl, hcs⟩ := q1.agg_inv
    have hcs' : cs'.toList = ws.map (fun n : Nat => Value.int .u32 (n : Int)) := by
      rw [← hw1]
      refine Iu hcs ?_
      rw [List.all_eq_true, hw1]
      intro v hv
      obtain ⟨n, _, rfl⟩ := List.mem_map.1 hv
      rfl
    obtain ⟨x0, x1, x2, x3, x4, x5, x6, x7, rfl⟩ : ∃ x0 x1 x2 x3 x4 x5 x6 x7, ws = [x0, x1, x2, x3, x4, x5, x6, x7] := by
      unfold Ht at e5
      split at e5
      · exact ⟨_, _, _, _, _, _, _, _, rfl⟩
      · cases e5
    replace e5 : JX ⟨x0, x1, x2, x3, x4, x5, x6, x7⟩ bs st8M s1 = .some v s' := e5
    rw [LX, OM] at e5
    obtain ⟨rfl, rfl⟩ := AG e5
    have hcs2 : cs' = st8V ⟨x0, x1, x2, x3, x4, x5, x6, x7⟩ := by
      have := congrArg List.toArray hcs'
      rw [Array.toArray_toList] at this
      rw [this]
      rfl
    subst hcs2
    obtain ⟨b, o, b', d, rfl, rfl, hbk⟩ := ha2
    have hok : (⟨x0, x1, x2, x3, x4, x5, x6, x7⟩ : Sha.St8).Ok := ⟨hw2 _ (by simp), hw2 _ (by simp), hw2 _ (by simp), hw2 _ (by simp), hw2 _ (by simp), hw2 _ (by simp), hw2 _ (by simp), hw2 _ (by simp)⟩
    refine ⟨_, KZ_ ⟨x0, x1, x2, x3, x4, x5, x6, x7⟩ hok (fun j => bs.getD j 0) (AhR_ hb2) b' (o + d) n c2 hn1 hn2 w (fun j hj => ?_), ?_⟩
    · have hj' : j < bs.length := by omega
      have h1 := g2 j (.int .u8 (bs[j] : Nat)) (by rw [List.getElem?_map, List.getElem?_eq_getElem hj']; rfl)
      rw [D3] at h1
      rw [h1]
      simp [List.getD, List.getElem?_eq_getElem hj']
    · rintro e w' ⟨rfl, hbl⟩
      refine ⟨_, r, rfl, .of_plain (by rfl), .of_rel g4.2.1 (by rw [g4.1]; exact hr.beyond hbl), g4.2.2.1, g4.2.2.2⟩)
section
variable {β : Type}
def Lt (K : Nat → β) (l : List Nat) : Nat → β := List.rec (motive := fun _ => Nat → β) (fun n => K n) (fun c _ ih n => fN (Nat.xor (Nat.mod n 256) c) fun x => fN (crcT x) fun t => fN (Nat.xor t (Nat.div n 256)) fun m => ih m) l
theorem BL_ (K : Nat → β) : ∀ (l : List Nat) (n : Nat), Lt K l n = K (crcs n l)
  | [], n => rfl
  | c :: l, n => by
    have h0 : Lt K (c :: l) n = fN (Nat.xor (Nat.mod n 256) c) fun x => fN (crcT x) fun t => fN (Nat.xor t (Nat.div n 256)) fun m => Lt K l m := rfl
    rw [h0, AY, AY, AY, BL_ K l]
    rfl
end
def J7 (sum : Nat) (bs : List Nat) : M Value := fN (Nat.xor 4294967295 sum) fun n => Lt (fun m => fN (Nat.xor 4294967295 m) fun m => M.pure (.int .u32 (.ofNat m))) bs n
def En (args : List Value) : M Value :=
  match args with
  | [.int .u32 (.ofNat sum), .slice (some a) n _] => M.chk (Nat.blt sum 4294967296 && Nat.ble n 4611686018427387904) (M.bind (rdL n a) fun l => M.on (u8s l) fun bs => J7 sum bs)
  | _ => aB
theorem Nh (sum : Nat) (bs : List Nat) : J7 sum bs = M.pure (.int .u32 (CV sum bs : Nat)) := by
  unfold J7
  rw [AY, BL_, AY]
  rfl
theorem AbO_ (sum : Nat) (bs : List Nat) : Loc (J7 sum bs) := by rw [Nh]; exact AA _
theorem Ahf_ (sum : Nat) (bs : List Nat) : NoPan (J7 sum bs) := by rw [Nh]; exact AH _
theorem Se_ (args : List Value) : Loc (En args) := by
  unfold En
  split
  · exact AK _ (Ax (Fk _ _) fun l => AE _ fun bs => AbO_ _ _)
  · exact Az
theorem Ql_ (args : List Value) : NoPan (En args) := by
  unfold En
  split
  · exact AL _ (AB (E1 _ _) fun l => AJ _ fun bs => Ahf_ _ _)
  · exact AI
theorem XB_ : OrcOK Try.prog 130 En :=
  Jg_ Try.func130 (by kernel_rfl) (by kernel_rfl) Se_ Ql_ (by
    intro w0 w r args args' s s' v e hr hfr ha
    unfold En at e
    split at e
    case h_2 => cases e
    rename_i sum a n c
    obtain ⟨v1, l1, rfl, q1, q2⟩ := ha.inv
    obtain ⟨v2, l2, rfl, q3, q4⟩ := q2.inv
    have := q4.inv_nil
    subst this
    have := q1.int_inv
    subst this
    obtain ⟨hck, e3⟩ := By e
    rw [Bool.and_eq_true] at hck
    have hn1 := BI hck.1
    have hn2 := Nat.le_of_ble_eq_true hck.2
    obtain ⟨l, s1, e1, e4⟩ := bind_some e3
    obtain ⟨bs, hbs, e5⟩ := BF e4
    clear e e3 e4
    obtain ⟨hb1, hb2⟩ := SM hbs
    rw [Nh] at e5
    obtain ⟨rfl, rfl⟩ := AG e5
    have fin : ∀ (b' o : Nat) (c2 : Nat), bs.length = n → (∀ j, (h : j < bs.length) → w.cell? ⟨b', o + j, none⟩ = some (.int .u8 (bs[j] : Nat))) → Same s s1 → Owed Try.prog 130 w0 w r [.int .u32 (.ofNat sum), .slice (some ⟨b', o, none⟩) n c2] s (.int .u32 (CV sum bs : Nat)) s1 := by
      intro b' o c2 hlen hcell g4
      subst hlen
      refine ⟨_, AjD_ sum hn1 b' o c2 bs hb2 hn2 w hcell, ?_⟩
      rintro e w' ⟨rfl, hbl⟩
      exact ⟨_, r, rfl, .of_plain (by rfl), .of_rel g4.2.1 (by rw [g4.1]; exact hr.beyond hbl), g4.2.2.1, g4.2.2.2⟩
    rcases q3.sl_inv with ⟨a2, c2, rfl, ha2, hc, _⟩ | ⟨rfl, _, _, a2, c2, rfl⟩
    · obtain ⟨l', g1, g2, g3, g4⟩ := D4 _ e1 hr ha2
      have hl : l' = bs.map (fun n : Nat => Value.int .u8 (n : Int)) := by
        rw [← hb1]
        refine Iu g3 ?_
        rw [List.all_eq_true, hb1]
        intro v hv
        obtain ⟨n, _, rfl⟩ := List.mem_map.1 hv
        rfl
      subst hl
      have hblen : bs.length = n := by simpa using g1
      obtain ⟨b, o, b', d, rfl, rfl, hbk⟩ := ha2
      refine fin b' (o + d) c2 hblen (fun j hj => ?_) g4
      have h1 := g2 j (.int .u8 (bs[j] : Nat)) (by rw [List.getElem?_map, List.getElem?_eq_getElem hj]; rfl)
      rw [D3] at h1
      exact h1
    · obtain ⟨rfl, rfl⟩ := AG (show M.pure [] s = .some l s1 from e1)
      have hbs0 : bs = [] := by
        have := congrArg List.length hb1
        simpa using this.symm
      subst hbs0
      refine ⟨_, AkU_ sum hn1 (some a2) c2 w, ?_⟩
      rintro e w' ⟨rfl, hbl⟩
      exact ⟨_, r, rfl, .of_plain (by rfl), .of_rel rfl (hr.beyond hbl), rfl, rfl⟩)
end Go.Proofs.Ytofanlcjeohcjaa.Am
end
