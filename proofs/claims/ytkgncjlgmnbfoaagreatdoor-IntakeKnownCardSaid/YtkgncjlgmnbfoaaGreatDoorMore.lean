/- guard.More walked: the sum of bytes. -/
import Derived.Test.YtkgncjlgmnbfoaaGreatDoorNext
namespace Go.Proofs.YtkgncjlgmnbfoaaGreatDoor
open Go.RowKit
/-- What a byte does to a sum. -/
def crc8 (n : Nat) : Nat → Nat
  | 0 => n
  | k + 1 => if n % 2 = 1 then crc8 (n / 2 ^^^ 3988292384) k else crc8 (n / 2) k
def crcT (i : Nat) : Nat := crc8 i 8
def crcStep (n c : Nat) : Nat := crcT (n % 256 ^^^ c) ^^^ n / 256
def crcs (n : Nat) (l : List Nat) : Nat := l.foldl crcStep n
def crcMore (n : Nat) (l : List Nat) : Nat := 4294967295 ^^^ crcs (4294967295 ^^^ n) l
def arrT : Array Value := ((List.range 256).map fun i : Nat => Value.int .u32 (crcT i : Nat)).toArray
theorem gwords_run : Am.valR (Am.callF env0 1000000 304 [] Am.st0) = some (.agg arrT) := by kernel_rfl
theorem gwords_plain : Am.plain (.agg arrT) = true := by kernel_rfl
theorem gwords_calls (w : World) : Calls Tryz.prog 304 #[] w fun e w' => e = .returned (.agg arrT) ∧ Below w.heap.size w w' :=
  Am.calls_of env0_ok (by kernel_rfl) (by kernel_rfl) gwords_run gwords_plain w
theorem crc8_lt : ∀ (k n : Nat), n < 4294967296 → crc8 n k < 4294967296
  | 0, n, h => h
  | k + 1, n, h => by
    unfold crc8
    split
    · exact crc8_lt k _ (Sha.xor_lt (by omega) (by decide))
    · exact crc8_lt k _ (by omega)
theorem crcT_lt {i : Nat} (h : i < 256) : crcT i < 4294967296 := crc8_lt 8 i (by omega)
theorem idx_lt {n c : Nat} (hc : c < 256) : n % 256 ^^^ c < 256 := Nat.xor_lt_two_pow (n := 8) (by omega) hc
theorem crcStep_lt {n c : Nat} (hn : n < 4294967296) (hc : c < 256) : crcStep n c < 4294967296 := Sha.xor_lt (crcT_lt (idx_lt hc)) (by omega)
theorem crcs_lt : ∀ (l : List Nat) (n : Nat), n < 4294967296 → (∀ c ∈ l, c < 256) → crcs n l < 4294967296
  | [], n, h, _ => h
  | c :: l, n, h, hl => crcs_lt l _ (crcStep_lt h (hl c (by simp))) fun d hd => hl d (by simp [hd])
theorem crcs_snoc (n : Nat) (l : List Nat) (k : Nat) (h : k < l.length) : crcs n (l.take (k + 1)) = crcStep (crcs n (l.take k)) l[k] := by
  unfold crcs
  rw [List.take_succ_eq_append_getElem h, List.foldl_append]
  rfl
theorem arrT_size : arrT.size = 256 := by simp [arrT]
theorem arrT_get (j : Nat) (h : j < 256) : arrT[j]? = some (.int .u32 (crcT j : Nat)) := by simp [arrT, h]
theorem arrT_info : (Tryz.prog.info? 400).map (·.size) = some arrT.size := by
  rw [arrT_size]
  kernel_rfl
theorem arrT_one : arrT.all (·.oneCell') = true := by
  rw [Array.all_eq_true]
  intro i hi
  simp [arrT, Value.oneCell']
theorem zeros_size (z : Array Value) (hz : z = Array.replicate 256 (.int .u32 0)) : z.size = arrT.size := by rw [hz, arrT_size]; simp
theorem inv_bits {n : Nat} (h : n < 4294967296) : bits .xor .u32 IntKind.u32.max (n : Int) = ((4294967295 ^^^ n : Nat) : Int) := by
  have hm : IntKind.u32.max = ((4294967295 : Nat) : Int) := by decide
  rw [hm, u32_xor_nat _ _ (by decide) h]
theorem byte_bits {n c : Nat} (h : c < 256) : bits .xor .u8 ((n : Int) % 256) (c : Int) = ((n % 256 ^^^ c : Nat) : Int) := by
  have e : (n : Int) % 256 = ((n % 256 : Nat) : Int) := by omega
  rw [e, u8_xor_nat _ _ (by omega) h]
set_option maxRecDepth 1000000 in
set_option maxHeartbeats 1600000 in
theorem more_calls (sum : Nat) (hs : sum < 4294967296) (bb bo cap : Nat) (l : List Nat) (hl : ∀ c ∈ l, c < 256) (hlen : l.length ≤ 4611686018427387904) (w : World) (hc : ∀ j, (h : j < l.length) → w.cell? ⟨bb, bo + j, none⟩ = some (.int .u8 (l[j] : Nat))) :
    Calls Tryz.prog 275 #[.int .u32 sum, .slice (some ⟨bb, bo, none⟩) l.length cap] w fun e w' => e = .returned (.int .u32 (crcMore sum l : Nat)) ∧ Below w.heap.size w w' := by
  have HC := Lib.hid hc
  have HL := Lib.hid hl
  clear hc hl
  go_enter Tryz.func275, Tryz.ntmps275
  go_wp2_with fail
  refine (gwords_calls _).mono ?_
  rintro e w1 ⟨rfl, hb1⟩
  have HB := Lib.hid hb1
  clear hb1
  go_wp2_with (with_reducible refine wpList_put (o := ⟨none, .store _ (.tmp 5) (.tmp 9), _, _, _, _⟩) rfl 400 (.tmp 5) (.tmp 9) rfl w1.heap.size arrT rfl rfl _ _ (heap_alloc_new _ _) arrT_info (by kernel_rfl) arrT_one ?_; intro w2 P2)
  have hT : ∀ j, j < 256 → w2.cell? ⟨w1.heap.size, j, none⟩ = some (.int .u32 (crcT j : Nat)) := fun j hj => by rw [cell_row P2.at', arrT_get j hj]
  have hb2 : Below w.heap.size w w2 := (HB.out.alloc (by have := HB.out.size; omega) _).trans (P2.bel _ HB.out.size)
  have hcc : ∀ j, (h : j < l.length) → w2.cell? ⟨bb, bo + j, none⟩ = some (.int .u8 (l[j] : Nat)) := fun j h => (hb2.cell (p := ⟨bb, bo + j, none⟩) (World.block_lt_of_cell? w _ (HC.out j h))).trans (HC.out j h)
  have HT := Lib.hid hT
  have HB2 := Lib.hid hb2
  have HCC := Lib.hid hcc
  clear hT hb2 hcc HC HB P2
  rw [inv_bits hs]
  have hn0 : 4294967295 ^^^ sum < 4294967296 := Sha.xor_lt (by decide) hs
  have HN := Lib.hid (show crcMore sum l = 4294967295 ^^^ crcs (4294967295 ^^^ sum) l from rfl)
  generalize (4294967295 ^^^ sum) = n0 at *
  generalize w1.heap.size = H at *
  clear w1
  have HX := Lib.hid (fun k => crcs_lt (l.take k) n0 hn0 fun c hc => HL.out c (List.mem_of_mem_take hc))
  clear hn0
  go_loop [6, 14] (fun a i => ∃ k : Nat, k ≤ l.length ∧ i = .int .i64 k ∧ a = .int .u32 (crcs n0 (l.take k) : Nat)) (fun _ i => l.length - (intOf i).toNat)
  case atStart => exact ⟨0, Nat.zero_le _, rfl, rfl⟩
  case round =>
    obtain ⟨k, hk, rfl, rfl⟩ := hrel
    have hx := HX.out k
    by_cases hlt : k < l.length
    · have hcell := HCC.out k hlt
      have hc := HL.out l[k] (List.getElem_mem _)
      have HS := Lib.hid (crcs_snoc n0 l k hlt)
      have k0 : (0 : Int) ≤ (k : Int) := Int.natCast_nonneg _
      have k1 : (k : Int) < (l.length : Int) := by omega
      generalize l[k] = c at *
      generalize crcs n0 (l.take k) = n at *
      have hb := byte_bits (n := n) hc
      have hi := idx_lt (n := n) hc
      have HS2 := Lib.hid (HS.out.trans (show crcStep n c = crcT (n % 256 ^^^ c) ^^^ n / 256 from rfl))
      generalize (n % 256 ^^^ c) = x at *
      have hcx := HT.out x hi
      have x0 : (0 : Int) ≤ (x : Int) := Int.natCast_nonneg _
      have x1 : (x : Int) < 256 := by omega
      have hv := crcT_lt hi
      generalize crcT x = y at *
      have HV := Lib.hid (show bits .xor .u32 (y : Int) ((n : Int) / 256) = ((y ^^^ n / 256 : Nat) : Int) by
        have e : (n : Int) / 256 = ((n / 256 : Nat) : Int) := by simp
        rw [e, u32_xor_nat _ _ hv (by omega)])
      go_wp2
      go_round
      case rel => exact ⟨k + 1, by omega, by go_num, by rw [HV.out, ← HS2.out]⟩
      case measure => simp [intOf]; omega
    · have hkl : k = l.length := by omega
      have hfin : crcs n0 l < 4294967296 := by
        have := HX.out l.length
        rwa [List.take_length] at this
      have HE := Lib.hid (show l.take k = l by rw [hkl, List.take_length])
      rw [HE.out] at *
      go_wp2
      go_ret
      exact ⟨ret_u32 (by rw [inv_bits hfin, HN.out]), HB2.out⟩
set_option maxRecDepth 1000000 in
set_option maxHeartbeats 1600000 in
theorem more_nil (sum : Nat) (hs : sum < 4294967296) (p : Option Addr) (cap : Nat) (w : World) :
    Calls Tryz.prog 275 #[.int .u32 sum, .slice p 0 cap] w fun e w' => e = .returned (.int .u32 (crcMore sum [] : Nat)) ∧ Below w.heap.size w w' := by
  go_enter Tryz.func275, Tryz.ntmps275
  go_wp2_with fail
  refine (gwords_calls _).mono ?_
  rintro e w1 ⟨rfl, hb1⟩
  have HB := Lib.hid hb1
  clear hb1
  go_wp2_with (with_reducible refine wpList_put (o := ⟨none, .store _ (.tmp 5) (.tmp 9), _, _, _, _⟩) rfl 400 (.tmp 5) (.tmp 9) rfl w1.heap.size arrT rfl rfl _ _ (heap_alloc_new _ _) arrT_info (by kernel_rfl) arrT_one ?_; intro w2 P2)
  have HB2 := Lib.hid (show Below w.heap.size w w2 from (HB.out.alloc (by have := HB.out.size; omega) _).trans (P2.bel _ HB.out.size))
  clear P2
  rw [inv_bits hs]
  have hn0 : 4294967295 ^^^ sum < 4294967296 := Sha.xor_lt (by decide) hs
  have HN := Lib.hid (show crcMore sum [] = 4294967295 ^^^ (4294967295 ^^^ sum) from rfl)
  generalize (4294967295 ^^^ sum) = n0 at *
  go_loop [6, 14] (fun a i => i = .int .i64 0 ∧ a = .int .u32 (n0 : Nat)) (fun _ _ => 0)
  case atStart => exact ⟨rfl, rfl⟩
  case round =>
    obtain ⟨rfl, rfl⟩ := hrel
    go_wp2
    go_ret
    exact ⟨ret_u32 (by rw [inv_bits hn0, HN.out]), HB2.out⟩
end Go.Proofs.YtkgncjlgmnbfoaaGreatDoor
