import Derived.Test.YtofanlcjeohcjaaIMg12
noncomputable section
namespace Go.Proofs.Ytofanlcjeohcjaa
open Go.RowKit
def crc8 (n : Nat) : Nat → Nat
  | 0 => n
  | k + 1 => if n % 2 = 1 then crc8 (n / 2 ^^^ 3988292384) k else crc8 (n / 2) k
def crcT (i : Nat) : Nat := crc8 i 8
def ES (n c : Nat) : Nat := crcT (n % 256 ^^^ c) ^^^ n / 256
def crcs (n : Nat) (l : List Nat) : Nat := l.foldl ES n
def BX (n : Nat) (l : List Nat) : Nat := 4294967295 ^^^ crcs (4294967295 ^^^ n) l
def arrT : Array Value := ((List.range 256).map fun i : Nat => Value.int .u32 (crcT i : Nat)).toArray
theorem PR_ : Am.valR (Am.callF env0 1000000 145 [] Am.st0) = some (.agg arrT) := by kernel_rfl
theorem AcE_ : Am.plain (.agg arrT) = true := by kernel_rfl
theorem Ck_ (w : World) : Calls Try.prog 145 #[] w fun e w' => e = .returned (.agg arrT) ∧ Below w.heap.size w w' :=
  Am.calls_of R6 (by kernel_rfl) (by kernel_rfl) PR_ AcE_ w
theorem Mu : ∀ (k n : Nat), n < 4294967296 → crc8 n k < 4294967296
  | 0, n, h => h
  | k + 1, n, h => by
    unfold crc8
    split
    · exact Mu k _ (Sha.xor_lt (by omega) (by decide))
    · exact Mu k _ (by omega)
theorem X7 {i : Nat} (h : i < 256) : crcT i < 4294967296 := Mu 8 i (by omega)
theorem Gy_ {n c : Nat} (hc : c < 256) : n % 256 ^^^ c < 256 := Nat.xor_lt_two_pow (n := 8) (by omega) hc
theorem WS_ {n c : Nat} (hn : n < 4294967296) (hc : c < 256) : ES n c < 4294967296 := Sha.xor_lt (X7 (Gy_ hc)) (by omega)
theorem LV : ∀ (l : List Nat) (n : Nat), n < 4294967296 → (∀ c ∈ l, c < 256) → crcs n l < 4294967296
  | [], n, h, _ => h
  | c :: l, n, h, hl => LV l _ (WS_ h (hl c (by simp))) fun d hd => hl d (by simp [hd])
theorem Ce_ (n : Nat) (l : List Nat) (k : Nat) (h : k < l.length) : crcs n (l.take (k + 1)) = ES (crcs n (l.take k)) l[k] := by
  unfold crcs
  rw [List.take_succ_eq_append_getElem h, List.foldl_append]
  rfl
theorem Ni_ : arrT.size = 256 := by simp [arrT]
theorem Wx_ (j : Nat) (h : j < 256) : arrT[j]? = some (.int .u32 (crcT j : Nat)) := by simp [arrT, h]
theorem AN_ : (Try.prog.info? 177).map (·.size) = some arrT.size := by
  rw [Ni_]
  kernel_rfl
theorem Xm : arrT.all (·.oneCell') = true := by
  rw [Array.all_eq_true]
  intro i hi
  simp [arrT, Value.oneCell']
theorem Amu_ (z : Array Value) (hz : z = Array.replicate 256 (.int .u32 0)) : z.size = arrT.size := by rw [hz, Ni_]; simp
theorem Kh {n : Nat} (h : n < 4294967296) : bits .xor .u32 IntKind.u32.max (n : Int) = ((4294967295 ^^^ n : Nat) : Int) := by
  have hm : IntKind.u32.max = ((4294967295 : Nat) : Int) := by decide
  rw [hm, u32_xor_nat _ _ (by decide) h]
theorem Aab_ {n c : Nat} (h : c < 256) : bits .xor .u8 ((n : Int) % 256) (c : Int) = ((n % 256 ^^^ c : Nat) : Int) := by
  have e : (n : Int) % 256 = ((n % 256 : Nat) : Int) := by omega
  rw [e, u8_xor_nat _ _ (by omega) h]
set_option maxRecDepth 1000000 in
set_option maxHeartbeats 1600000 in
theorem UN_ (sum : Nat) (hs : sum < 4294967296) (bb bo cap : Nat) (l : List Nat) (hl : ∀ c ∈ l, c < 256) (hlen : l.length ≤ 4611686018427387904) (w : World) (hc : ∀ j, (h : j < l.length) → w.cell? ⟨bb, bo + j, none⟩ = some (.int .u8 (l[j] : Nat))) :
    Calls Try.prog 130 #[.int .u32 sum, .slice (some ⟨bb, bo, none⟩) l.length cap] w fun e w' => e = .returned (.int .u32 (BX sum l : Nat)) ∧ Below w.heap.size w w' := by
  have HC := Lib.hid hc
  have HL := Lib.hid hl
  clear hc hl
  go_enter Try.func130, Try.ntmps130
  go_wp2_with fail
  refine (Ck_ _).mono ?_
  rintro e w1 ⟨rfl, hb1⟩
  have HB := Lib.hid hb1
  clear hb1
  go_wp2_with (with_reducible refine FJ (o := ⟨none, .store _ (.tmp 5) (.tmp 9), _, _, _, _⟩) rfl 177 (.tmp 5) (.tmp 9) rfl w1.heap.size arrT rfl rfl _ _ (heap_alloc_new _ _) AN_ (by kernel_rfl) Xm ?_; intro w2 P2)
  have hT : ∀ j, j < 256 → w2.cell? ⟨w1.heap.size, j, none⟩ = some (.int .u32 (crcT j : Nat)) := fun j hj => by rw [B9 P2.at', Wx_ j hj]
  have hb2 : Below w.heap.size w w2 := (HB.out.alloc (by have := HB.out.size; omega) _).trans (P2.bel _ HB.out.size)
  have hcc : ∀ j, (h : j < l.length) → w2.cell? ⟨bb, bo + j, none⟩ = some (.int .u8 (l[j] : Nat)) := fun j h => (hb2.cell (p := ⟨bb, bo + j, none⟩) (World.block_lt_of_cell? w _ (HC.out j h))).trans (HC.out j h)
  have HT := Lib.hid hT
  have HB2 := Lib.hid hb2
  have HCC := Lib.hid hcc
  clear hT hb2 hcc HC HB P2
  rw [Kh hs]
  have hn0 : 4294967295 ^^^ sum < 4294967296 := Sha.xor_lt (by decide) hs
  have HN := Lib.hid (show BX sum l = 4294967295 ^^^ crcs (4294967295 ^^^ sum) l from rfl)
  generalize (4294967295 ^^^ sum) = n0 at *
  generalize w1.heap.size = H at *
  clear w1
  have HX := Lib.hid (fun k => LV (l.take k) n0 hn0 fun c hc => HL.out c (List.mem_of_mem_take hc))
  clear hn0
  go_loop [6, 14] (fun a i => ∃ k : Nat, k ≤ l.length ∧ i = .int .i64 k ∧ a = .int .u32 (crcs n0 (l.take k) : Nat)) (fun _ i => l.length - (intOf i).toNat)
  case atStart => exact ⟨0, Nat.zero_le _, rfl, rfl⟩
  case round =>
    obtain ⟨k, hk, rfl, rfl⟩ := hrel
    have hx := HX.out k
    by_cases hlt : k < l.length
    · have hcell := HCC.out k hlt
      have hc := HL.out l[k] (List.getElem_mem _)
      have HS := Lib.hid (Ce_ n0 l k hlt)
      have k0 : (0 : Int) ≤ (k : Int) := Int.natCast_nonneg _
      have k1 : (k : Int) < (l.length : Int) := by omega
      generalize l[k] = c at *
      generalize crcs n0 (l.take k) = n at *
      have hb := Aab_ (n := n) hc
      have hi := Gy_ (n := n) hc
      have HS2 := Lib.hid (HS.out.trans (show ES n c = crcT (n % 256 ^^^ c) ^^^ n / 256 from rfl))
      generalize (n % 256 ^^^ c) = x at *
      have hcx := HT.out x hi
      have x0 : (0 : Int) ≤ (x : Int) := Int.natCast_nonneg _
      have x1 : (x : Int) < 256 := by omega
      have hv := X7 hi
      generalize crcT x = y at *
      have HV := Lib.hid (show bits .xor .u32 (y : Int) ((n : Int) / 256) = ((y ^^^ n / 256 : Nat) : Int) by
        have e : (n : Int) / 256 = ((n / 256 : Nat) : Int) := by simp
        rw [e, u32_xor_nat _ _ hv (by omega)])
      go_wp2
      go_round
      case rel => exact ⟨k + 1, by omega, by go_num, by rw [HV.out, ← HS2.out]⟩
      case measure => simp [intOf]; omega
    · have hkl : k = l.length := by omega
      have hfin : crcs n0 l < 4294967296 := by
        have := HX.out l.length
        rwa [List.take_length] at this
      have HE := Lib.hid (show l.take k = l by rw [hkl, List.take_length])
      rw [HE.out] at *
      go_wp2
      go_ret
      exact ⟨QE (by rw [Kh hfin, HN.out]), HB2.out⟩
set_option maxRecDepth 1000000 in
set_option maxHeartbeats 1600000 in
theorem Zo_ (sum : Nat) (hs : sum < 4294967296) (p : Option Addr) (cap : Nat) (w : World) :
    Calls Try.prog 130 #[.int .u32 sum, .slice p 0 cap] w fun e w' => e = .returned (.int .u32 (BX sum [] : Nat)) ∧ Below w.heap.size w w' := by
  go_enter Try.func130, Try.ntmps130
  go_wp2_with fail
  refine (Ck_ _).mono ?_
  rintro e w1 ⟨rfl, hb1⟩
  have HB := Lib.hid hb1
  clear hb1
  go_wp2_with (with_reducible refine FJ (o := ⟨none, .store _ (.tmp 5) (.tmp 9), _, _, _, _⟩) rfl 177 (.tmp 5) (.tmp 9) rfl w1.heap.size arrT rfl rfl _ _ (heap_alloc_new _ _) AN_ (by kernel_rfl) Xm ?_; intro w2 P2)
  have HB2 := Lib.hid (show Below w.heap.size w w2 from (HB.out.alloc (by have := HB.out.size; omega) _).trans (P2.bel _ HB.out.size))
  clear P2
  rw [Kh hs]
  have hn0 : 4294967295 ^^^ sum < 4294967296 := Sha.xor_lt (by decide) hs
  have HN := Lib.hid (show BX sum [] = 4294967295 ^^^ (4294967295 ^^^ sum) from rfl)
  generalize (4294967295 ^^^ sum) = n0 at *
  go_loop [6, 14] (fun a i => i = .int .i64 0 ∧ a = .int .u32 (n0 : Nat)) (fun _ _ => 0)
  case atStart => exact ⟨rfl, rfl⟩
  case round =>
    obtain ⟨rfl, rfl⟩ := hrel
    go_wp2
    go_ret
    exact ⟨QE (by rw [Kh hn0, HN.out]), HB2.out⟩
end Go.Proofs.Ytofanlcjeohcjaa
namespace Go.Proofs.Ytofanlcjeohcjaa.Am
open Go.RowKit
section
variable {β : Type}
def QW (bs : List Nat) (n : Nat) : Nat := Sha.be (bs.getD (4 * n) 0) (bs.getD (4 * n + 1) 0) (bs.getD (4 * n + 2) 0) (bs.getD (4 * n + 3) 0)
def mkL (f : Nat → Nat) (n : Nat) (K : List Nat → β) : β := Nat.rec (motive := fun _ => (List Nat → β) → β) (fun K => K []) (fun n ih K => ih fun l => fN (f n) fun x => K (x :: l)) n K
def nxtK (ws : List Nat) : Nat := (((ws.getD 15 0 + Sha.s0 (ws.getD 14 0)) % 4294967296 + ws.getD 6 0) % 4294967296 + Sha.s1 (ws.getD 1 0)) % 4294967296
def extL (g : List Nat → Nat) (m : Nat) (ws : List Nat) (K : List Nat → β) : β := Nat.rec (motive := fun _ => List Nat → β) (fun ws => K ws) (fun _ ih ws => fN (g ws) fun x => ih (x :: ws)) m ws
def rndK (s : Sha.St8) (k w : Nat) (K : Sha.St8 → β) : β :=
  Sha.St8.rec (motive := fun _ => β) (fun a b c d e f g h => fN (Sha.t1 ⟨a, b, c, d, e, f, g, h⟩ k w) fun t => fN (Sha.t2 ⟨a, b, c, d, e, f, g, h⟩) fun u => fN ((t + u) % 4294967296) fun x => fN ((d + t) % 4294967296) fun y => K ⟨x, a, b, c, y, e, f, g⟩) s
def Kn (K : Sha.St8 → β) (ks : List Nat) : List Nat → Sha.St8 → β :=
  List.rec (motive := fun _ => List Nat → Sha.St8 → β) (fun _ s => K s) (fun k _ ih ws s => List.rec (motive := fun _ => β) (K s) (fun w ws' _ => rndK s k w fun s' => ih ws' s') ws) ks
def Lt (s r : Sha.St8) (K : Sha.St8 → β) : β :=
  Sha.St8.rec (motive := fun _ => β) (fun a b c d e f g h => Sha.St8.rec (motive := fun _ => β) (fun a' b' c' d' e' f' g' h' =>
    fN ((a' + a) % 4294967296) fun a => fN ((b' + b) % 4294967296) fun b => fN ((c' + c) % 4294967296) fun c => fN ((d' + d) % 4294967296) fun d => fN ((e' + e) % 4294967296) fun e => fN ((f' + f) % 4294967296) fun f => fN ((g' + g) % 4294967296) fun g => fN ((h' + h) % 4294967296) fun h => K ⟨a, b, c, d, e, f, g, h⟩) r) s
def Ip (s : Sha.St8) (bs : List Nat) (K : Sha.St8 → β) : β := mkL (QW bs) 16 fun l => extL nxtK 48 l fun ws => Kn (fun r => Lt s r K) Sha.ks ws.reverse s
def revL (f : Nat → Nat) : Nat → List Nat
  | 0 => []
  | n + 1 => f n :: revL f n
theorem HP (f : Nat → Nat) : ∀ (n j : Nat), j < n → (revL f n).getD j 0 = f (n - 1 - j)
  | 0, _, h => by omega
  | n + 1, 0, _ => rfl
  | n + 1, j + 1, h => by
    show (revL f n).getD j 0 = _
    rw [HP f n j (by omega)]
    congr 1
    omega
theorem Xh (f : Nat → Nat) : ∀ n, (revL f n).reverse = (List.range n).map f
  | 0 => rfl
  | n + 1 => by
    show (f n :: revL f n).reverse = _
    rw [List.reverse_cons, Xh f n, List.range_succ, List.map_append]
    rfl
theorem Sl_ (f : Nat → Nat) (n : Nat) : ∀ (K : List Nat → β), mkL f n K = K (revL f n) := by
  induction n with
  | zero => intro K; rfl
  | succ n ih =>
    intro K
    have h0 : mkL f (n + 1) K = mkL f n fun l => fN (f n) fun x => K (x :: l) := rfl
    rw [h0, ih, Aj]
    rfl
theorem Aen_ {g : List Nat → Nat} {S : Nat → Nat} (hg : ∀ n, 16 ≤ n → g (revL S n) = S n) (K : List Nat → β) (m : Nat) : ∀ (n : Nat), 16 ≤ n → extL g m (revL S n) K = K (revL S (n + m)) := by
  induction m with
  | zero => intro n _; rfl
  | succ m ih =>
    intro n h
    have h0 : extL g (m + 1) (revL S n) K = fN (g (revL S n)) fun x => extL g m (x :: revL S n) K := rfl
    rw [h0, Aj, hg n h]
    have := ih (n + 1) (by omega)
    rw [show n + 1 + m = n + (m + 1) by omega] at this
    exact this
theorem ZT_ {B : Nat → Nat} (n : Nat) (h : 16 ≤ n) : nxtK (revL (Sha.sch B) n) = Sha.sch B n := by
  unfold nxtK
  rw [HP _ _ _ (by omega), HP _ _ _ (by omega), HP _ _ _ (by omega), HP _ _ _ (by omega), Sha.sch_hi h]
  rw [show n - 1 - 15 = n - 16 by omega, show n - 1 - 14 = n - 15 by omega, show n - 1 - 6 = n - 7 by omega, show n - 1 - 1 = n - 2 by omega]
theorem AlR_ {f g : Nat → Nat} (n : Nat) (h : ∀ i, i < n → f i = g i) : revL f n = revL g n := by
  induction n with
  | zero => rfl
  | succ n ih =>
    unfold revL
    rw [ih fun i hi => h i (by omega), h n (by omega)]
theorem Rj_ (s : Sha.St8) (k w : Nat) (K : Sha.St8 → β) : rndK s k w K = K (Sha.rnd s k w) := by
  obtain ⟨a, b, c, d, e, f, g, h⟩ := s
  have h0 : rndK ⟨a, b, c, d, e, f, g, h⟩ k w K = fN (Sha.t1 ⟨a, b, c, d, e, f, g, h⟩ k w) fun t => fN (Sha.t2 ⟨a, b, c, d, e, f, g, h⟩) fun u => fN ((t + u) % 4294967296) fun x => fN ((d + t) % 4294967296) fun y => K ⟨x, a, b, c, y, e, f, g⟩ := rfl
  rw [h0, Aj, Aj, Aj, Aj]
  rfl
theorem Sm_ (s r : Sha.St8) (K : Sha.St8 → β) : Lt s r K = K (Sha.plus s r) := by
  obtain ⟨a, b, c, d, e, f, g, h⟩ := s
  obtain ⟨a', b', c', d', e', f', g', h'⟩ := r
  have h0 : Lt ⟨a, b, c, d, e, f, g, h⟩ ⟨a', b', c', d', e', f', g', h'⟩ K = fN ((a' + a) % 4294967296) fun a => fN ((b' + b) % 4294967296) fun b => fN ((c' + c) % 4294967296) fun c => fN ((d' + d) % 4294967296) fun d => fN ((e' + e) % 4294967296) fun e => fN ((f' + f) % 4294967296) fun f => fN ((g' + g) % 4294967296) fun g => fN ((h' + h) % 4294967296) fun h => K ⟨a, b, c, d, e, f, g, h⟩ := rfl
  rw [h0, Aj, Aj, Aj, Aj, Aj, Aj, Aj, Aj]
  rfl
theorem JR_ (K : Sha.St8 → β) (f W : Nat → Nat) (s : Sha.St8) : ∀ (n i : Nat), Kn K ((List.range' i n).map f) ((List.range' i n).map W) (Sha.rnds f W s i) = K (Sha.rnds f W s (i + n))
  | 0, i => rfl
  | n + 1, i => by
    have h0 : Kn K ((List.range' i (n + 1)).map f) ((List.range' i (n + 1)).map W) (Sha.rnds f W s i) = rndK (Sha.rnds f W s i) (f i) (W i) fun s' => Kn K ((List.range' (i + 1) n).map f) ((List.range' (i + 1) n).map W) s' := rfl
    rw [h0, Rj_]
    have := JR_ K f W s n (i + 1)
    rw [show i + 1 + n = i + (n + 1) by omega] at this
    exact this
theorem Aie_ : Sha.ks = (List.range' 0 64).map Sha.K := by kernel_rfl
theorem Yf_ (bs : List Nat) (i : Nat) (h : i < 16) : QW bs i = Sha.sch (fun j => bs.getD j 0) i := by
  rw [Sha.sch_lo h]
  unfold QW
  rfl
theorem KB (s : Sha.St8) (bs : List Nat) (K : Sha.St8 → β) : Ip s bs K = K (Sha.next s fun j => bs.getD j 0) := by
  have h2 := JR_ (fun r => Lt s r K) Sha.K (Sha.sch fun j => bs.getD j 0) s 64 0
  rw [← Aie_, Nat.zero_add] at h2
  have h3 : Sha.rnds Sha.K (Sha.sch fun j => bs.getD j 0) s 0 = s := by unfold Sha.rnds; rfl
  rw [h3, Sm_] at h2
  unfold Ip
  rw [Sl_, AlR_ 16 (Yf_ bs), Aen_ ZT_ _ 48 16 (Nat.le_refl _), Xh, List.range_eq_range', h2]
  unfold Sha.next
  rfl
end
def u8s : List Value → Option (List Nat)
  | [] => some []
  | v :: l => match v, u8s l with
    | .int .u8 (.ofNat n), some ns => bif Nat.blt n 256 then some (n :: ns) else none
    | _, _ => none
def u32s : List Value → Option (List Nat)
  | [] => some []
  | v :: l => match v, u32s l with
    | .int .u32 (.ofNat n), some ns => bif Nat.blt n 4294967296 then some (n :: ns) else none
    | _, _ => none
theorem Pw : ∀ {l : List Value} {ns : List Nat}, u8s l = some ns → l = ns.map (fun n : Nat => Value.int .u8 n) ∧ ∀ n ∈ ns, n < 256
  | [], ns, h => by cases h; exact ⟨rfl, fun n h => by cases h⟩
  | v :: l, ns, h => by
    unfold u8s at h
    split at h
    · rename_i n ns' h1
      cases hb : Nat.blt n 256 with
      | false => rw [hb] at h; cases h
      | true =>
        rw [hb] at h
        cases h
        obtain ⟨h2, h3⟩ := Pw h1
        refine ⟨by rw [h2]; rfl, fun m hm => ?_⟩
        rcases List.mem_cons.1 hm with rfl | hm
        · exact Bo hb
        · exact h3 m hm
    · cases h
theorem Xn : ∀ {l : List Value} {ns : List Nat}, u32s l = some ns → l = ns.map (fun n : Nat => Value.int .u32 n) ∧ ∀ n ∈ ns, n < 4294967296
  | [], ns, h => by cases h; exact ⟨rfl, fun n h => by cases h⟩
  | v :: l, ns, h => by
    unfold u32s at h
    split at h
    · rename_i n ns' h1
      cases hb : Nat.blt n 4294967296 with
      | false => rw [hb] at h; cases h
      | true =>
        rw [hb] at h
        cases h
        obtain ⟨h2, h3⟩ := Xn h1
        refine ⟨by rw [h2]; rfl, fun m hm => ?_⟩
        rcases List.mem_cons.1 hm with rfl | hm
        · exact Bo hb
        · exact h3 m hm
    · cases h
def st8M (r : Sha.St8) : M Value := Sha.St8.rec (motive := fun _ => M Value) (fun a b c d e f g h => M.pure (.agg #[.int .u32 (.ofNat a), .int .u32 (.ofNat b), .int .u32 (.ofNat c), .int .u32 (.ofNat d), .int .u32 (.ofNat e), .int .u32 (.ofNat f), .int .u32 (.ofNat g), .int .u32 (.ofNat h)])) r
def GT (ws bs : List Nat) : M Value :=
  match ws with
  | [a, b, c, d, e, f, g, h] => Ip ⟨a, b, c, d, e, f, g, h⟩ bs st8M
  | _ => aA
def Ey (args : List Value) : M Value :=
  match args with
  | [.agg cs, .slice (some a) n _] => M.on (u32s cs.toList) fun ws => M.chk (Nat.ble 64 n && Nat.ble n 9223372036854775807) (M.bind (rdL 64 a) fun l => M.on (u8s l) fun bs => GT ws bs)
  | _ => aA
theorem Ll (r : Sha.St8) : st8M r = M.pure (.agg (st8V r)) := by cases r; rfl
theorem SA_ (ws bs : List Nat) : Loc (GT ws bs) := by
  unfold GT
  split
  · rw [KB, Ll]; exact Af _
  · exact Ai
theorem Vt_ (ws bs : List Nat) : NoPan (GT ws bs) := by
  unfold GT
  split
  · rw [KB, Ll]; exact Aq _
  · exact AB
theorem UU_ (args : List Value) : Loc (Ey args) := by
  unfold Ey
  split
  · exact A8 _ fun ws => A1 _ (Ad (Fe _ _) fun l => A8 _ fun bs => SA_ _ _)
  · exact Ai
theorem AdY_ (args : List Value) : NoPan (Ey args) := by
  unfold Ey
  split
  · exact BK _ fun ws => Bg _ (Ap (EZ _ _) fun l => BK _ fun bs => Vt_ _ _)
  · exact AB
theorem Amj_ {bs : List Nat} (h : ∀ n ∈ bs, n < 256) (j : Nat) : bs.getD j 0 < 256 := by
  rw [List.getD]
  cases e : bs[j]? with
  | none => exact (by decide : (0 : Nat) < 256)
  | some x => exact h x (List.mem_of_getElem? e)
theorem Alp_ : OrcOK Try.prog 134 Ey :=
  Ro Try.func134 (by kernel_rfl) (by kernel_rfl) UU_ AdY_ (by
    intro w0 w r args args' s s' v e hr hfr ha
    unfold Ey at e
    split at e
    case h_2 => cases e
    rename_i cs a n c
    obtain ⟨v1, l1, rfl, q1, q2⟩ := ha.inv
    obtain ⟨v2, l2, rfl, q3, q4⟩ := q2.inv
    have := q4.inv_nil
    subst this
    obtain ⟨ws, hws, e2⟩ := B2 e
    obtain ⟨hck, e3⟩ := Ba e2
    rw [Bool.and_eq_true] at hck
    have hn1 := Nat.le_of_ble_eq_true hck.1
    have hn2 := Nat.le_of_ble_eq_true hck.2
    obtain ⟨l, s1, e1, e4⟩ := bind_some e3
    obtain ⟨bs, hbs, e5⟩ := B2 e4
    clear e e2 e3 e4
    obtain ⟨hw1, hw2⟩ := Xn hws
    obtain ⟨hb1, hb2⟩ := Pw hbs
    rcases q3.sl_inv with ⟨a2, c2, rfl, ha2, hc, _⟩ | ⟨h0, _⟩
    case inr => omega
    obtain ⟨l', g1, g2, g3, g4⟩ := D1 _ e1 hr ha2
    have hl : l' = bs.map (fun n : Nat => Value.int .u8 (n : Int)) := by
      rw [← hb1]
      refine Gb g3 ?_
      rw [List.all_eq_true, hb1]
      intro v hv
      obtain ⟨n, _, rfl⟩ := List.mem_map.1 hv
      rfl
    subst hl
    have hblen : bs.length = 64 := by simpa using g1
    obtain ⟨cs', rfl, hcs⟩ := q1.agg_inv
    have hcs' : cs'.toList = ws.map (fun n : Nat => Value.int .u32 (n : Int)) := by
      rw [← hw1]
      refine Gb hcs ?_
      rw [List.all_eq_true, hw1]
      intro v hv
      obtain ⟨n, _, rfl⟩ := List.mem_map.1 hv
      rfl
    obtain ⟨x0, x1, x2, x3, x4, x5, x6, x7, rfl⟩ : ∃ x0 x1 x2 x3 x4 x5 x6 x7, ws = [x0, x1, x2, x3, x4, x5, x6, x7] := by
      unfold GT at e5
      split at e5
      · exact ⟨_, _, _, _, _, _, _, _, rfl⟩
      · cases e5
    replace e5 : Ip ⟨x0, x1, x2, x3, x4, x5, x6, x7⟩ bs st8M s1 = .some v s' := e5
    rw [KB, Ll] at e5
    obtain ⟨rfl, rfl⟩ := Ae e5
    have hcs2 : cs' = st8V ⟨x0, x1, x2, x3, x4, x5, x6, x7⟩ := by
      have := congrArg List.toArray hcs'
      rw [Array.toArray_toList] at this
      rw [this]
      rfl
    subst hcs2
    obtain ⟨b, o, b', d, rfl, rfl, hbk⟩ := ha2
    have hok : (⟨x0, x1, x2, x3, x4, x5, x6, x7⟩ : Sha.St8).Ok := ⟨hw2 _ (by simp), hw2 _ (by simp), hw2 _ (by simp), hw2 _ (by simp), hw2 _ (by simp), hw2 _ (by simp), hw2 _ (by simp), hw2 _ (by simp)⟩
    refine ⟨_, Aic_ ⟨x0, x1, x2, x3, x4, x5, x6, x7⟩ hok (fun j => bs.getD j 0) (Amj_ hb2) b' (o + d) n c2 hn1 hn2 w (fun j hj => ?_), ?_⟩
    · have hj' : j < bs.length := by omega
      have h1 := g2 j (.int .u8 (bs[j] : Nat)) (by rw [List.getElem?_map, List.getElem?_eq_getElem hj']; rfl)
      rw [DG] at h1
      rw [h1]
      simp [List.getD, List.getElem?_eq_getElem hj']
    · rintro e w' ⟨rfl, hbl⟩
      refine ⟨_, r, rfl, .of_plain (by rfl), .of_rel g4.2.1 (by rw [g4.1]; exact hr.beyond hbl), g4.2.2.1, g4.2.2.2⟩)
section
variable {β : Type}
def Lf (K : Nat → β) (l : List Nat) : Nat → β := List.rec (motive := fun _ => Nat → β) (fun n => K n) (fun c _ ih n => fN (Nat.xor (Nat.mod n 256) c) fun x => fN (crcT x) fun t => fN (Nat.xor t (Nat.div n 256)) fun m => ih m) l
theorem ND_ (K : Nat → β) : ∀ (l : List Nat) (n : Nat), Lf K l n = K (crcs n l)
  | [], n => rfl
  | c :: l, n => by
    have h0 : Lf K (c :: l) n = fN (Nat.xor (Nat.mod n 256) c) fun x => fN (crcT x) fun t => fN (Nat.xor t (Nat.div n 256)) fun m => Lf K l m := rfl
    rw [h0, Aj, Aj, Aj, ND_ K l]
    rfl
end
def Hz (sum : Nat) (bs : List Nat) : M Value := fN (Nat.xor 4294967295 sum) fun n => Lf (fun m => fN (Nat.xor 4294967295 m) fun m => M.pure (.int .u32 (.ofNat m))) bs n
def DU (args : List Value) : M Value :=
  match args with
  | [.int .u32 (.ofNat sum), .slice (some a) n _] => M.chk (Nat.blt sum 4294967296 && Nat.ble n 4611686018427387904) (M.bind (rdL n a) fun l => M.on (u8s l) fun bs => Hz sum bs)
  | _ => aA
theorem KZ (sum : Nat) (bs : List Nat) : Hz sum bs = M.pure (.int .u32 (BX sum bs : Nat)) := by
  unfold Hz
  rw [Aj, ND_, Aj]
  rfl
theorem AaM_ (sum : Nat) (bs : List Nat) : Loc (Hz sum bs) := by rw [KZ]; exact Af _
theorem Ahp_ (sum : Nat) (bs : List Nat) : NoPan (Hz sum bs) := by rw [KZ]; exact Aq _
theorem Afn_ (args : List Value) : Loc (DU args) := by
  unfold DU
  split
  · exact A1 _ (Ad (Fe _ _) fun l => A8 _ fun bs => AaM_ _ _)
  · exact Ai
theorem AbX_ (args : List Value) : NoPan (DU args) := by
  unfold DU
  split
  · exact Bg _ (Ap (EZ _ _) fun l => BK _ fun bs => Ahp_ _ _)
  · exact AB
theorem PJ_ : OrcOK Try.prog 130 DU :=
  Ro Try.func130 (by kernel_rfl) (by kernel_rfl) Afn_ AbX_ (by
    intro w0 w r args args' s s' v e hr hfr ha
    unfold DU at e
    split at e
    case h_2 => cases e
    rename_i sum a n c
    obtain ⟨v1, l1, rfl, q1, q2⟩ := ha.inv
    obtain ⟨v2, l2, rfl, q3, q4⟩ := q2.inv
    have := q4.inv_nil
    subst this
    have := q1.int_inv
    subst this
    obtain ⟨hck, e3⟩ := Ba e
    rw [Bool.and_eq_true] at hck
    have hn1 := Bo hck.1
    have hn2 := Nat.le_of_ble_eq_true hck.2
    obtain ⟨l, s1, e1, e4⟩ := bind_some e3
    obtain ⟨bs, hbs, e5⟩ := B2 e4
    clear e e3 e4
    obtain ⟨hb1, hb2⟩ := Pw hbs
    rw [KZ] at e5
    obtain ⟨rfl, rfl⟩ := Ae e5
    have fin : ∀ (b' o : Nat) (c2 : Nat), bs.length = n → (∀ j, (h : j < bs.length) → w.cell? ⟨b', o + j, none⟩ = some (.int .u8 (bs[j] : Nat))) → Same s s1 → Owed Try.prog 130 w0 w r [.int .u32 (.ofNat sum), .slice (some ⟨b', o, none⟩) n c2] s (.int .u32 (BX sum bs : Nat)) s1 := by
      intro b' o c2 hlen hcell g4
      subst hlen
      refine ⟨_, UN_ sum hn1 b' o c2 bs hb2 hn2 w hcell, ?_⟩
      rintro e w' ⟨rfl, hbl⟩
      exact ⟨_, r, rfl, .of_plain (by rfl), .of_rel g4.2.1 (by rw [g4.1]; exact hr.beyond hbl), g4.2.2.1, g4.2.2.2⟩
    rcases q3.sl_inv with ⟨a2, c2, rfl, ha2, hc, _⟩ | ⟨rfl, _, _, a2, c2, rfl⟩
    · obtain ⟨l', g1, g2, g3, g4⟩ := D1 _ e1 hr ha2
      have hl : l' = bs.map (fun n : Nat => Value.int .u8 (n : Int)) := by
        rw [← hb1]
        refine Gb g3 ?_
        rw [List.all_eq_true, hb1]
        intro v hv
        obtain ⟨n, _, rfl⟩ := List.mem_map.1 hv
        rfl
      subst hl
      have hblen : bs.length = n := by simpa using g1
      obtain ⟨b, o, b', d, rfl, rfl, hbk⟩ := ha2
      refine fin b' (o + d) c2 hblen (fun j hj => ?_) g4
      have h1 := g2 j (.int .u8 (bs[j] : Nat)) (by rw [List.getElem?_map, List.getElem?_eq_getElem hj]; rfl)
      rw [DG] at h1
      exact h1
    · obtain ⟨rfl, rfl⟩ := Ae (show M.pure [] s = .some l s1 from e1)
      have hbs0 : bs = [] := by
        have := congrArg List.length hb1
        simpa using this.symm
      subst hbs0
      refine ⟨_, Zo_ sum hn1 (some a2) c2 w, ?_⟩
      rintro e w' ⟨rfl, hbl⟩
      exact ⟨_, r, rfl, .of_plain (by rfl), .of_rel rfl (hr.beyond hbl), rfl, rfl⟩)
end Go.Proofs.Ytofanlcjeohcjaa.Am
namespace Go.Proofs.Ytofanlcjeohcjaa
open Go.RowKit
set_option maxRecDepth 100000 in
set_option maxHeartbeats 1600000 in
theorem Wq_ (bb bo len cap : Nat) (hlc : len ≤ cap) (hcap : cap ≤ 9223372036854775807) (R : World → Prop)
    (hc : ∀ wr, R wr → ∀ j, j < cap → ∃ m : Int, wr.cell? ⟨bb, bo + j, none⟩ = some (.int .u8 m) ∧ wr.frozen? ⟨bb, bo + j, none⟩ = false)
    (hs : ∀ wr j m, R wr → j < cap → R (wr.setCell ⟨bb, bo + j, none⟩ (.int .u8 m))) (hd : ∀ wr, R wr → R wr.drew) (w : World) (h0 : R w) :
    Calls Try.prog 22 #[.slice (some ⟨bb, bo, none⟩) len cap] w fun e w' => e = .returned (.tuple #[]) ∧ R w' := by
  go_enter Try.func22, Try.ntmps22
  have z0 : (0 : Int) ≤ (cap : Int) := Int.natCast_nonneg _
  go_wp2
  go_loopw [3] (fun c wr => ∃ k : Nat, k ≤ cap ∧ c = .int .i64 k ∧ R wr) (fun c wr => cap - (intOf c).toNat)
  case atStart => exact ⟨0, by omega, rfl, h0⟩
  case round =>
    obtain ⟨k, hk, rfl, hR⟩ := hrel
    by_cases hlt : k < cap
    · obtain ⟨m, cm, fm⟩ := hc _ hR k hlt
      have k0 : (0 : Int) ≤ (k : Int) := Int.natCast_nonneg _
      have k1 : (k : Int) < (cap : Int) := by omega
      have w0 := IntWalk.i64_in ((k : Int) + 1) ⟨by omega, by omega⟩
      go_wp2
      go_roundw
      case rel => exact ⟨k + 1, by omega, by go_num, hs _ _ _ hR hlt⟩
      case measure => simp [intOf]; omega
    · go_wp2
      (try simp only [Exit.inBlock, Exit.then])
      refine bodyPost_end (results_none rfl _ _ _) rfl ?_
      exact ⟨rfl, hR⟩
set_option maxRecDepth 100000 in
set_option maxHeartbeats 1600000 in
theorem Aem_ (w : World) : Calls Try.prog 22 #[.slice none 0 0] w fun e w' => e = .returned (.tuple #[]) ∧ w' = w := by
  go_enter Try.func22, Try.ntmps22
  go_wp2
  go_loopw [3] (fun c wr => c = .int .i64 0 ∧ wr = w) (fun _ _ => 0)
  case atStart => exact ⟨rfl, rfl⟩
  case round =>
    obtain ⟨rfl, rfl⟩ := hrel
    go_wp2
    (try simp only [Exit.inBlock, Exit.then])
    refine bodyPost_end (results_none rfl _ _ _) rfl ?_
    exact ⟨rfl, rfl⟩
end Go.Proofs.Ytofanlcjeohcjaa
namespace Go.Proofs.Ytofanlcjeohcjaa.Am
open Go.RowKit
def Oz (v : Value) : Bool := match v with | .int .u8 _ => true | _ => false
def JP (a : Addr) (n c : Nat) : M Value :=
  M.chk (Nat.blt 0 n && Nat.ble n 16777216 && Nat.beq (Nat.mod c capU) n && Nat.beq (Nat.mod (Nat.div c capU) 1024) 1) (M.bind (rdL n a) fun l => M.chk (l.all Oz) (M.bind (rdC (Nat.div (Nat.div c capU) 1024)) fun x => match x with
    | .O (.tok false q) => M.chk (Nat.beq q 1025) (M.bind (wrC (Nat.div (Nat.div c capU) 1024) (.O (.tok true 1))) fun _ => M.bind (CL n (Nat.add a.block a.off)) fun _ => M.pure (.tuple #[]))
    | _ => aA))
def FF (args : List Value) : M Value :=
  match args with
  | [.slice none 0 0] => M.pure (.tuple #[])
  | [.slice (some a) n c] => JP a n c
  | _ => aA
theorem OG_ (args : List Value) : Loc (FF args) := by
  unfold FF
  split
  · exact Af _
  · unfold JP
    refine A1 _ (Ad (Fe _ _) fun l => A1 _ (Ad (Dv _) fun x => ?_))
    split
    · exact A1 _ (Ad (Dk _ _) fun _ => Ad (Oy _ _) fun _ => Af _)
    · exact Ai
  · exact Ai
theorem XT_ (args : List Value) : NoPan (FF args) := by
  unfold FF
  split
  · exact Aq _
  · unfold JP
    refine Bg _ (Ap (EZ _ _) fun l => Bg _ (Ap (DK _) fun x => ?_))
    split
    · exact Bg _ (Ap (DJ _ _) fun _ => Ap (Q3 _ _) fun _ => Aq _)
    · exact AB
  · exact AB
theorem AaY_ : OrcOK Try.prog 22 FF := Ro Try.func22 (by kernel_rfl) (by kernel_rfl) OG_ XT_ (by
  intro w0 w r args args' s s' v h hr hf ha
  unfold FF at h
  split at h
  · obtain ⟨rfl, rfl⟩ := Ae h
    obtain ⟨p', l', rfl, q1, q2⟩ := ha.inv
    have := q2.inv_nil
    subst this
    have := q1.eq_of_plain rfl
    subst this
    exact ⟨_, Aem_ w, fun e w' ⟨he, hw⟩ => ⟨_, r, he, .undef, by rw [hw]; exact .same (.refl _) hr, rfl, rfl⟩⟩
  · rename_i a n c
    obtain ⟨p', l', rfl, q1, q2⟩ := ha.inv
    have := q2.inv_nil
    subst this
    unfold JP at h
    obtain ⟨hc, h⟩ := Ba h
    simp only [Bool.and_eq_true] at hc
    obtain ⟨⟨⟨c1, c0⟩, c2⟩, c3⟩ := hc
    have hnb := Nat.le_of_ble_eq_true c0
    have hn : 0 < n := Bo c1
    have hcn : c % capU = n := Nat.eq_of_beq_eq_true c2
    have hcs : c / capU % 1024 = 1 := Nat.eq_of_beq_eq_true c3
    obtain ⟨l, s1, h1, h⟩ := bind_some h
    obtain ⟨hl8, h⟩ := Ba h
    obtain ⟨x, s2, h2, h⟩ := bind_some h
    obtain ⟨g2, hx⟩ := Dm h2
    split at h
    · rename_i q
      obtain ⟨hq, h⟩ := Ba h
      have hq' : q = 1025 := Nat.eq_of_beq_eq_true hq
      subst hq'
      obtain ⟨u3, s3, h3, h⟩ := bind_some h
      obtain ⟨u4, s4, h4, h⟩ := bind_some h
      obtain ⟨rfl, rfl⟩ := Ae h
      rcases q1.sl_inv with ⟨a2, cc, rfl, ha2, hcap, hlen⟩ | ⟨_, _, e0, _⟩
      case inr => omega
      rcases hcap with ⟨e1, _⟩ | ⟨_, k, k1, k2, k3, k4, k5⟩
      · rw [e1] at hcs; omega
      obtain ⟨l', g1, g3, g4, g5⟩ := D1 _ h1 hr ha2
      obtain ⟨t1, t2, t3, t4⟩ := FY h3
      obtain ⟨u1, u2, u3, u4⟩ := PU _ _ h4
      have e2 := g5.trans hx
      have g2' : T.get s.mem (c / capU / 1024) = some (.O (.tok false 1025)) := by
        rw [← g5.1]
        exact g2
      obtain ⟨k', x1, x2, x3, x4, x5, x6⟩ := hr.tok _ _ g2'
      rw [k1] at x1
      cases x1
      obtain ⟨b0, o0, bb, d, rfl, rfl, hblk⟩ := ha2
      subst k4
      have hmem0 := OG _ h1
      have hmem : ∀ j, j < n → ∃ v, T.get s.mem (b0 + o0 + j) = some (.C b0 v) := fun j hj => by
        obtain ⟨v, q⟩ := hmem0 j hj
        rcases q with q | q
        · exact ⟨v, q⟩
        · exact absurd (hr.oldLt q hblk) (Nat.not_lt_of_le x3)
      have hsz : k.sz = 1 := x2
      have k5' : o0 + d + n = k.p := by
        have h5 : o0 + d + c % capU * k.sz = k.p := k5
        rw [hcn, hsz, Nat.mul_one] at h5
        exact h5
      have hcc : cc = n + k.e := by rw [k3, hcn]
      have hmax : cc ≤ 9223372036854775807 := by
        rcases Nat.eq_zero_or_pos k.e with e | e
        · omega
        · obtain ⟨_, _, _, y⟩ := x5 0 (by rw [hsz]; omega)
          have y := (y (by decide)).2
          rw [hsz] at y
          omega
      have hl' : l.length = n := by rw [g4.1, g1]
      have hcell : ∀ j, j < cc → ∃ m : Int, w.cell? ⟨k.b, o0 + d + j, none⟩ = some (.int .u8 m) ∧ w.frozen? ⟨k.b, o0 + d + j, none⟩ = false := fun j hj => by
        by_cases hj1 : j < n
        · obtain ⟨v1, q⟩ := hmem j hj1
          rw [Nat.add_assoc] at q
          obtain ⟨v', q1, _, q3⟩ := hr.load q hblk
          rw [show o0 + j + d = o0 + d + j by omega] at q1 q3
          have hj2 : j < l.length := by omega
          have hj3 : j < l'.length := by omega
          have q4 := g3 j _ (List.getElem?_eq_getElem hj3)
          rw [DG] at q4
          have q4 : w.cell? ⟨k.b, o0 + d + j, none⟩ = some l'[j] := q4
          have q5 := g4.2 j _ _ (List.getElem?_eq_getElem hj2) (List.getElem?_eq_getElem hj3)
          have q6 : Oz l[j] = true := List.all_eq_true.1 hl8 _ (List.getElem_mem hj2)
          unfold Oz at q6
          split at q6
          · rename_i z hz
            rw [hz] at q5
            have := q5.eq_of_plain rfl
            rw [this] at q4
            exact ⟨z, q4, q3⟩
          · cases q6
        · obtain ⟨v', y1, y2, y3⟩ := x5 (j - n) (by rw [hsz]; omega)
          obtain ⟨m, rfl⟩ := (y3 (by decide)).1
          rw [← k5', show o0 + d + n + (j - n) = o0 + d + j by omega] at y1 y2
          exact ⟨m, y1, y2⟩
      have hget : ∀ loc x, T.get s4.mem loc = some x → ((loc = c / capU / 1024 ∧ x = .O (.tok true 1)) ∨ (loc ≠ c / capU / 1024 ∧ T.get s.mem loc = some x)) ∧ ¬ (b0 + o0 ≤ loc ∧ loc < b0 + o0 + n) := fun loc x e => by
        obtain ⟨z1, z2⟩ := u1 loc x e
        refine ⟨?_, z2⟩
        rw [t1, T.get_set] at z1
        split at z1
        · rename_i hloc
          cases z1
          exact .inl ⟨hloc, rfl⟩
        · rename_i hloc
          rw [hx.1, g5.1] at z1
          exact .inr ⟨hloc, z1⟩
      have hrel : Rel w0 r s4.mem w := hr.lessTok fun loc x e => by
        rcases (hget loc x e).1 with ⟨_, h⟩ | ⟨_, h⟩
        · exact .inr ⟨_, h, by decide⟩
        · exact .inl h
      have hno : ∀ loc b v d', T.get s4.mem loc = some (.C b v) → r.blk b = some (k.b, d') → loc - b + d' < o0 + d := by
        intro loc b v d' e1 e2
        obtain ⟨y1, y3⟩ := hget loc _ e1
        rcases y1 with ⟨_, y1⟩ | ⟨_, y1⟩
        · cases y1
        · have q := x6 _ _ _ _ y1 e2
          rcases Nat.lt_or_ge (loc - b + d') (o0 + d) with q2 | q2
          · exact q2
          · exfalso
            obtain ⟨v1, q3⟩ := hmem (loc - b + d' - (o0 + d)) (by omega)
            have q4 := hr.sep _ _ _ _ _ _ _ _ _ y1 q3 e2 hblk (by omega)
            apply y3
            omega
      have htk : ∀ t2 sz k2, T.get s4.mem t2 = some (.O (.tok false sz)) → r.ext t2 = some k2 → k2.b ≠ k.b := by
        intro t2 sz k2' e1 e2 heq
        rcases (hget t2 _ e1).1 with ⟨_, y1⟩ | ⟨y0, y1⟩
        · cases y1
        · exact y0 (hr.sepT _ _ _ _ _ _ y1 g2' e2 k1 heq)
      refine ⟨_, Wq_ k.b (o0 + d) n cc (by omega) hmax (fun wr => Rel w0 r s4.mem wr ∧ ∀ j, j < cc → ∃ m : Int, wr.cell? ⟨k.b, o0 + d + j, none⟩ = some (.int .u8 m) ∧ wr.frozen? ⟨k.b, o0 + d + j, none⟩ = false) (fun wr h j hj => h.2 j hj) (fun wr j m h hj => ⟨?_, fun i hi => ?_⟩) (fun wr h => ⟨h.1.drew, h.2⟩) w ⟨hrel, hcell⟩, fun e w' ⟨he, hw, _⟩ => ⟨_, r, he, .undef, .of_rel ?_ hw, ?_, ?_⟩⟩
      · obtain ⟨m1, q1, q2⟩ := h.2 j hj
        exact h.1.setFree x3 (by rw [q1]; rfl) (fun loc b v d' e1 e2 => by have := hno _ _ _ _ e1 e2; omega) htk _
      · obtain ⟨m1, q1, q2⟩ := h.2 i hi
        by_cases hij : i = j
        · subst hij
          exact ⟨m, World.cell?_setCell_same _ _ _ q1, by rw [World.frozen?_setCell]; exact q2⟩
        · refine ⟨m1, ?_, by rw [World.frozen?_setCell]; exact q2⟩
          rw [World.cell?_setCell_other]
          · exact q1
          · intro heq
            simp only [Addr.mk.injEq, and_true] at heq
            omega
      · exact u2.trans (t2.trans e2.2.1)
      · exact u3.trans (t3.trans e2.2.2.1)
      · exact u4.trans (t4.trans e2.2.2.2)
    · cases h
  · cases h)
