/- SHA-256, in plain numbers. -/
import GoSem.Step
import Derived.Test.YtapojfiplajfaaaGreatDoorProg
import Derived.Test.YtapojfiplajfaaaGreatDoorWnn09
import Derived.WalkKit
import Derived.WalkSpells
import Derived.WalkLawsBesides
import Derived.BigQuiet
import Derived.Deep.QuietTactic
import Derived.Deep.RegionHeld3
import Derived.Laws.CopyOwn
import Derived.Outline
import Derived.IntWalk
import Derived.Lib.Hide
import Derived.Deep.Heap
import Derived.Deep.Cut
import Derived.RegionTactic
import Derived.ChangeAlike
import Derived.Test.YtapojfiplajfaaaGreatDoorWnn12
import Derived.Test.YtapojfiplajfaaaGreatDoorWnn16
namespace Go.Proofs.YtapojfiplajfaaaGreatDoor

/-- A word turned right by n places. -/
def rot (x n : Nat) : Nat := x / 2 ^ n ||| x * 2 ^ (32 - n) % 4294967296
theorem rot_lt (x n : Nat) (h : x < 4294967296) : rot x n < 4294967296 := by
  unfold rot
  exact Nat.or_lt_two_pow (n := 32) (Nat.lt_of_le_of_lt (Nat.div_le_self _ _) h) (Nat.mod_lt _ (by decide))
namespace Sha
def s0 (x : Nat) : Nat := rot x 7 ^^^ rot x 18 ^^^ x / 2 ^ 3
def s1 (x : Nat) : Nat := rot x 17 ^^^ rot x 19 ^^^ x / 2 ^ 10
theorem xor_lt {a b : Nat} (ha : a < 4294967296) (hb : b < 4294967296) : a ^^^ b < 4294967296 := Nat.xor_lt_two_pow (n := 32) ha hb
theorem or_lt {a b : Nat} (ha : a < 4294967296) (hb : b < 4294967296) : a ||| b < 4294967296 := Nat.or_lt_two_pow (n := 32) ha hb
theorem s0_lt {x : Nat} (h : x < 4294967296) : s0 x < 4294967296 := xor_lt (xor_lt (rot_lt _ _ h) (rot_lt _ _ h)) (Nat.lt_of_le_of_lt (Nat.div_le_self _ _) h)
theorem s1_lt {x : Nat} (h : x < 4294967296) : s1 x < 4294967296 := xor_lt (xor_lt (rot_lt _ _ h) (rot_lt _ _ h)) (Nat.lt_of_le_of_lt (Nat.div_le_self _ _) h)
/-- Four bytes, the highest first. -/
def be (a b c d : Nat) : Nat := a * 2 ^ 24 ||| b * 2 ^ 16 ||| c * 2 ^ 8 ||| d
/-- The words of 64 bytes, and those that are made of them. -/
def sch (B : Nat → Nat) (i : Nat) : Nat :=
  if i < 16 then be (B (4 * i)) (B (4 * i + 1)) (B (4 * i + 2)) (B (4 * i + 3))
  else (((sch B (i - 16) + s0 (sch B (i - 15))) % 4294967296 + sch B (i - 7)) % 4294967296 + s1 (sch B (i - 2))) % 4294967296
termination_by i
decreasing_by all_goals omega
theorem be_lt {a b c d : Nat} (ha : a < 256) (hb : b < 256) (hc : c < 256) (hd : d < 256) : be a b c d < 4294967296 :=
  or_lt (or_lt (or_lt (by omega) (by omega)) (by omega)) (by omega)
theorem sch_lt {B : Nat → Nat} (hB : ∀ j, B j < 256) (i : Nat) : sch B i < 4294967296 := by
  unfold sch
  split
  · exact be_lt (hB _) (hB _) (hB _) (hB _)
  · exact Nat.mod_lt _ (by decide)
theorem sch_lo {B : Nat → Nat} {i : Nat} (h : i < 16) : sch B i = be (B (4 * i)) (B (4 * i + 1)) (B (4 * i + 2)) (B (4 * i + 3)) := by
  rw [sch, if_pos h]
theorem sch_hi {B : Nat → Nat} {i : Nat} (h : 16 ≤ i) : sch B i = (((sch B (i - 16) + s0 (sch B (i - 15))) % 4294967296 + sch B (i - 7)) % 4294967296 + s1 (sch B (i - 2))) % 4294967296 := by
  rw [sch, if_neg (by omega)]

/-- A state: eight words. -/
structure St8 where
  a : Nat
  b : Nat
  c : Nat
  d : Nat
  e : Nat
  f : Nat
  g : Nat
  h : Nat
structure St8.Ok (s : St8) : Prop where
  a : s.a < 4294967296
  b : s.b < 4294967296
  c : s.c < 4294967296
  d : s.d < 4294967296
  e : s.e < 4294967296
  f : s.f < 4294967296
  g : s.g < 4294967296
  h : s.h < 4294967296
def t1 (s : St8) (k w : Nat) : Nat :=
  ((((s.h + (rot s.e 6 ^^^ rot s.e 11 ^^^ rot s.e 25)) % 4294967296 + (s.e &&& s.f ^^^ (4294967295 ^^^ s.e) &&& s.g)) % 4294967296 + k) % 4294967296 + w) % 4294967296
def t2 (s : St8) : Nat :=
  ((rot s.a 2 ^^^ rot s.a 13 ^^^ rot s.a 22) + (s.a &&& s.b ^^^ s.a &&& s.c ^^^ s.b &&& s.c)) % 4294967296
def rnd (s : St8) (k w : Nat) : St8 := ⟨(t1 s k w + t2 s) % 4294967296, s.a, s.b, s.c, (s.d + t1 s k w) % 4294967296, s.e, s.f, s.g⟩
theorem rnd_ok {s : St8} (h : s.Ok) (k w : Nat) : (rnd s k w).Ok := ⟨Nat.mod_lt _ (by decide), h.a, h.b, h.c, Nat.mod_lt _ (by decide), h.e, h.f, h.g⟩
/-- Behind so many rounds. -/
def rnds (K W : Nat → Nat) (s : St8) : Nat → St8
  | 0 => s
  | n + 1 => rnd (rnds K W s n) (K n) (W n)
theorem rnds_ok {K W : Nat → Nat} {s : St8} (h : s.Ok) : ∀ n, (rnds K W s n).Ok
  | 0 => h
  | n + 1 => rnd_ok (rnds_ok h n) _ _
def plus (s r : St8) : St8 := ⟨(r.a + s.a) % 4294967296, (r.b + s.b) % 4294967296, (r.c + s.c) % 4294967296, (r.d + s.d) % 4294967296, (r.e + s.e) % 4294967296, (r.f + s.f) % 4294967296, (r.g + s.g) % 4294967296, (r.h + s.h) % 4294967296⟩
def ks : List Nat := [0x428a2f98, 0x71374491, 0xb5c0fbcf, 0xe9b5dba5, 0x3956c25b, 0x59f111f1, 0x923f82a4, 0xab1c5ed5, 0xd807aa98, 0x12835b01, 0x243185be, 0x550c7dc3, 0x72be5d74, 0x80deb1fe, 0x9bdc06a7, 0xc19bf174, 0xe49b69c1, 0xefbe4786, 0x0fc19dc6, 0x240ca1cc, 0x2de92c6f, 0x4a7484aa, 0x5cb0a9dc, 0x76f988da, 0x983e5152, 0xa831c66d, 0xb00327c8, 0xbf597fc7, 0xc6e00bf3, 0xd5a79147, 0x06ca6351, 0x14292967, 0x27b70a85, 0x2e1b2138, 0x4d2c6dfc, 0x53380d13, 0x650a7354, 0x766a0abb, 0x81c2c92e, 0x92722c85, 0xa2bfe8a1, 0xa81a664b, 0xc24b8b70, 0xc76c51a3, 0xd192e819, 0xd6990624, 0xf40e3585, 0x106aa070, 0x19a4c116, 0x1e376c08, 0x2748774c, 0x34b0bcb5, 0x391c0cb3, 0x4ed8aa4a, 0x5b9cca4f, 0x682e6ff3, 0x748f82ee, 0x78a5636f, 0x84c87814, 0x8cc70208, 0x90befffa, 0xa4506ceb, 0xbef9a3f7, 0xc67178f2]
def K (i : Nat) : Nat := ks.getD i 0
theorem ks_len : ks.length = 64 := by rfl
/-- The state behind 64 bytes more. -/
def next (s : St8) (B : Nat → Nat) : St8 := plus s (rnds K (sch B) s 64)
theorem plus_ok (s r : St8) : (plus s r).Ok := ⟨Nat.mod_lt _ (by decide), Nat.mod_lt _ (by decide), Nat.mod_lt _ (by decide), Nat.mod_lt _ (by decide), Nat.mod_lt _ (by decide), Nat.mod_lt _ (by decide), Nat.mod_lt _ (by decide), Nat.mod_lt _ (by decide)⟩
end Sha
end Go.Proofs.YtapojfiplajfaaaGreatDoor
/- Small laws for the walks of guard.More and of a SHA block; an evaluator without contracts. -/
namespace Go.Proofs.YtapojfiplajfaaaGreatDoor
open Go.RowKit
theorem ret_u32 {a b : Int} (h : a = b) : Ending.returned (.int .u32 a) = .returned (.int .u32 b) := by rw [h]
theorem cell_row {wr : World} {R : Nat} {cs : Array Value} {t : TypeId} (h : wr.heap[R]? = some (.cells cs t (0, 0))) (j : Nat) : wr.cell? ⟨R, j, none⟩ = cs[j]? := by simp [World.cell?, h]
theorem free_row {wr : World} {R : Nat} {cs : Array Value} {t : TypeId} (h : wr.heap[R]? = some (.cells cs t (0, 0))) (j : Nat) : wr.frozen? ⟨R, j, none⟩ = false := by simp [World.frozen?, h]
theorem setCell_row {wr : World} {R j : Nat} {cs : Array Value} {t : TypeId} {v : Value} (h : wr.heap[R]? = some (.cells cs t (0, 0))) : (wr.setCell ⟨R, j, none⟩ v).heap[R]? = some (.cells (cs.setIfInBounds j v) t (0, 0)) := by
  simp [World.setCell, Array.getElem?_modify, h]
noncomputable def env0 : Am.Env := Am.envOf Tryz.prog .E .E
theorem env0_ok : Am.EnvOK env0 := Am.envOf_ok Tryz.prog (by kernel_rfl)
theorem and_lt {a b : Nat} (ha : a < 4294967296) : a &&& b < 4294967296 := Nat.lt_of_le_of_lt Nat.and_le_left ha
/-- A row written whole, the world a letter. -/
structure Put (w w' : World) (g : Nat) (cs : Array Value) (t : TypeId) : Prop where
  at' : w'.heap[g]? = some (.cells cs t (0, 0))
  oth : ∀ k, k ≠ g → w'.heap[k]? = w.heap[k]?
  size : w'.heap.size = w.heap.size
  bel : ∀ B, B ≤ g → Below B w w'
theorem wpList_put {P : Program} {ops : Array Oper} {rest : List Oper} {o : Oper} {a : Act} {w : World} {Q : Exit → Act → World → Prop} (hgd : o.guard = none) (ty : TypeId) (x y : Operand) (ho : o.op = .store ty x y)
    (g : Nat) (cells : Array Value) (hx : a.eval x = .pointer (some ⟨g, 0, none⟩)) (hy : a.eval y = .agg cells)
    (t : TypeId) (old : Array Value) (hg : w.heap[g]? = some (.cells old t (0, 0))) (hi : (P.info? ty).map (·.size) = some cells.size)
    (hold : old.size = cells.size) (h1 : cells.all (·.oneCell') = true)
    (h : ∀ w', Put w w' g cells t → wpList P ops Q rest (a.put o.dst undef) w') : wpList P ops Q (o :: rest) a w :=
  wpList_store_row hgd ty x y ho g cells hx hy t old hg hi hold h1 (h _ ⟨setRow_heap _ _ _ _ _ _ hg, fun _k hk => setRow_other _ _ _ _ hk, size_setRow _ _ _, fun _B hB => below_setRow (Below.refl _ _) hB _⟩)
theorem heap_below {B : Nat} {w w' : World} (h : Below B w w') {k : Nat} (hk : k < B) : w'.heap[k]? = w.heap[k]? := h.block k hk
end Go.Proofs.YtapojfiplajfaaaGreatDoor
/- Bytes among values. -/
namespace Go.Proofs.YtapojfiplajfaaaGreatDoor.Am
open Go.RowKit
def u8s : List Value → Option (List Nat)
  | [] => some []
  | v :: l => match v, u8s l with
    | .int .u8 (.ofNat n), some ns => bif Nat.blt n 256 then some (n :: ns) else none
    | _, _ => none
theorem u8s_some : ∀ {l : List Value} {ns : List Nat}, u8s l = some ns → l = ns.map (fun n : Nat => Value.int .u8 n) ∧ ∀ n ∈ ns, n < 256
  | [], ns, h => by cases h; exact ⟨rfl, fun n h => by cases h⟩
  | v :: l, ns, h => by
    unfold u8s at h
    split at h
    · rename_i n ns' h1
      cases hb : Nat.blt n 256 with
      | false => rw [hb] at h; cases h
      | true =>
        rw [hb] at h
        cases h
        obtain ⟨h2, h3⟩ := u8s_some h1
        refine ⟨by rw [h2]; rfl, fun m hm => ?_⟩
        rcases List.mem_cons.1 hm with rfl | hm
        · exact blt_lt hb
        · exact h3 m hm
    · cases h
end Go.Proofs.YtapojfiplajfaaaGreatDoor.Am
/- guard.More walked: the sum of bytes. -/
namespace Go.Proofs.YtapojfiplajfaaaGreatDoor
open Go.RowKit
/-- What a byte does to a sum. -/
def crc8 (n : Nat) : Nat → Nat
  | 0 => n
  | k + 1 => if n % 2 = 1 then crc8 (n / 2 ^^^ 3988292384) k else crc8 (n / 2) k
def crcT (i : Nat) : Nat := crc8 i 8
def crcStep (n c : Nat) : Nat := crcT (n % 256 ^^^ c) ^^^ n / 256
def crcs (n : Nat) (l : List Nat) : Nat := l.foldl crcStep n
def crcMore (n : Nat) (l : List Nat) : Nat := 4294967295 ^^^ crcs (4294967295 ^^^ n) l
def arrT : Array Value := ((List.range 256).map fun i : Nat => Value.int .u32 (crcT i : Nat)).toArray
theorem gwords_run : Am.valR (Am.callF env0 1000000 359 [] Am.st0) = some (.agg arrT) := by kernel_rfl
theorem gwords_plain : Am.plain (.agg arrT) = true := by kernel_rfl
theorem gwords_calls (w : World) : Calls Tryz.prog 359 #[] w fun e w' => e = .returned (.agg arrT) ∧ Below w.heap.size w w' :=
  Am.calls_of env0_ok (by kernel_rfl) (by kernel_rfl) gwords_run gwords_plain w
theorem crc8_lt : ∀ (k n : Nat), n < 4294967296 → crc8 n k < 4294967296
  | 0, n, h => h
  | k + 1, n, h => by
    unfold crc8
    split
    · exact crc8_lt k _ (Sha.xor_lt (by omega) (by decide))
    · exact crc8_lt k _ (by omega)
theorem crcT_lt {i : Nat} (h : i < 256) : crcT i < 4294967296 := crc8_lt 8 i (by omega)
theorem idx_lt {n c : Nat} (hc : c < 256) : n % 256 ^^^ c < 256 := Nat.xor_lt_two_pow (n := 8) (by omega) hc
theorem crcStep_lt {n c : Nat} (hn : n < 4294967296) (hc : c < 256) : crcStep n c < 4294967296 := Sha.xor_lt (crcT_lt (idx_lt hc)) (by omega)
theorem crcs_lt : ∀ (l : List Nat) (n : Nat), n < 4294967296 → (∀ c ∈ l, c < 256) → crcs n l < 4294967296
  | [], n, h, _ => h
  | c :: l, n, h, hl => crcs_lt l _ (crcStep_lt h (hl c (by simp))) fun d hd => hl d (by simp [hd])
theorem crcs_snoc (n : Nat) (l : List Nat) (k : Nat) (h : k < l.length) : crcs n (l.take (k + 1)) = crcStep (crcs n (l.take k)) l[k] := by
  unfold crcs
  rw [List.take_succ_eq_append_getElem h, List.foldl_append]
  rfl
theorem arrT_size : arrT.size = 256 := by simp [arrT]
theorem arrT_get (j : Nat) (h : j < 256) : arrT[j]? = some (.int .u32 (crcT j : Nat)) := by simp [arrT, h]
theorem arrT_info : (Tryz.prog.info? 506).map (·.size) = some arrT.size := by
  rw [arrT_size]
  kernel_rfl
theorem arrT_one : arrT.all (·.oneCell') = true := by
  rw [Array.all_eq_true]
  intro i hi
  simp [arrT, Value.oneCell']
theorem zeros_size (z : Array Value) (hz : z = Array.replicate 256 (.int .u32 0)) : z.size = arrT.size := by rw [hz, arrT_size]; simp
theorem inv_bits {n : Nat} (h : n < 4294967296) : bits .xor .u32 IntKind.u32.max (n : Int) = ((4294967295 ^^^ n : Nat) : Int) := by
  have hm : IntKind.u32.max = ((4294967295 : Nat) : Int) := by decide
  rw [hm, u32_xor_nat _ _ (by decide) h]
theorem byte_bits {n c : Nat} (h : c < 256) : bits .xor .u8 ((n : Int) % 256) (c : Int) = ((n % 256 ^^^ c : Nat) : Int) := by
  have e : (n : Int) % 256 = ((n % 256 : Nat) : Int) := by omega
  rw [e, u8_xor_nat _ _ (by omega) h]
set_option maxRecDepth 1000000 in
set_option maxHeartbeats 1600000 in
theorem more_calls (sum : Nat) (hs : sum < 4294967296) (bb bo cap : Nat) (l : List Nat) (hl : ∀ c ∈ l, c < 256) (hlen : l.length ≤ 4611686018427387904) (w : World) (hc : ∀ j, (h : j < l.length) → w.cell? ⟨bb, bo + j, none⟩ = some (.int .u8 (l[j] : Nat))) :
    Calls Tryz.prog 311 #[.int .u32 sum, .slice (some ⟨bb, bo, none⟩) l.length cap] w fun e w' => e = .returned (.int .u32 (crcMore sum l : Nat)) ∧ Below w.heap.size w w' := by
  have HC := Lib.hid hc
  have HL := Lib.hid hl
  clear hc hl
  go_enter Tryz.func311, Tryz.ntmps311
  go_wp2_with fail
  refine (gwords_calls _).mono ?_
  rintro e w1 ⟨rfl, hb1⟩
  have HB := Lib.hid hb1
  clear hb1
  go_wp2_with (with_reducible refine wpList_put (o := ⟨none, .store _ (.tmp 5) (.tmp 9), _, _, _, _⟩) rfl 506 (.tmp 5) (.tmp 9) rfl w1.heap.size arrT rfl rfl _ _ (heap_alloc_new _ _) arrT_info (by kernel_rfl) arrT_one ?_; intro w2 P2)
  have hT : ∀ j, j < 256 → w2.cell? ⟨w1.heap.size, j, none⟩ = some (.int .u32 (crcT j : Nat)) := fun j hj => by rw [cell_row P2.at', arrT_get j hj]
  have hb2 : Below w.heap.size w w2 := (HB.out.alloc (by have := HB.out.size; omega) _).trans (P2.bel _ HB.out.size)
  have hcc : ∀ j, (h : j < l.length) → w2.cell? ⟨bb, bo + j, none⟩ = some (.int .u8 (l[j] : Nat)) := fun j h => (hb2.cell (p := ⟨bb, bo + j, none⟩) (World.block_lt_of_cell? w _ (HC.out j h))).trans (HC.out j h)
  have HT := Lib.hid hT
  have HB2 := Lib.hid hb2
  have HCC := Lib.hid hcc
  clear hT hb2 hcc HC HB P2
  rw [inv_bits hs]
  have hn0 : 4294967295 ^^^ sum < 4294967296 := Sha.xor_lt (by decide) hs
  have HN := Lib.hid (show crcMore sum l = 4294967295 ^^^ crcs (4294967295 ^^^ sum) l from rfl)
  generalize (4294967295 ^^^ sum) = n0 at *
  generalize w1.heap.size = H at *
  clear w1
  have HX := Lib.hid (fun k => crcs_lt (l.take k) n0 hn0 fun c hc => HL.out c (List.mem_of_mem_take hc))
  clear hn0
  go_loop [6, 14] (fun a i => ∃ k : Nat, k ≤ l.length ∧ i = .int .i64 k ∧ a = .int .u32 (crcs n0 (l.take k) : Nat)) (fun _ i => l.length - (intOf i).toNat)
  case atStart => exact ⟨0, Nat.zero_le _, rfl, rfl⟩
  case round =>
    obtain ⟨k, hk, rfl, rfl⟩ := hrel
    have hx := HX.out k
    by_cases hlt : k < l.length
    · have hcell := HCC.out k hlt
      have hc := HL.out l[k] (List.getElem_mem _)
      have HS := Lib.hid (crcs_snoc n0 l k hlt)
      have k0 : (0 : Int) ≤ (k : Int) := Int.natCast_nonneg _
      have k1 : (k : Int) < (l.length : Int) := by omega
      generalize l[k] = c at *
      generalize crcs n0 (l.take k) = n at *
      have hb := byte_bits (n := n) hc
      have hi := idx_lt (n := n) hc
      have HS2 := Lib.hid (HS.out.trans (show crcStep n c = crcT (n % 256 ^^^ c) ^^^ n / 256 from rfl))
      generalize (n % 256 ^^^ c) = x at *
      have hcx := HT.out x hi
      have x0 : (0 : Int) ≤ (x : Int) := Int.natCast_nonneg _
      have x1 : (x : Int) < 256 := by omega
      have hv := crcT_lt hi
      generalize crcT x = y at *
      have HV := Lib.hid (show bits .xor .u32 (y : Int) ((n : Int) / 256) = ((y ^^^ n / 256 : Nat) : Int) by
        have e : (n : Int) / 256 = ((n / 256 : Nat) : Int) := by simp
        rw [e, u32_xor_nat _ _ hv (by omega)])
      go_wp2
      go_round
      case rel => exact ⟨k + 1, by omega, by go_num, by rw [HV.out, ← HS2.out]⟩
      case measure => simp [intOf]; omega
    · have hkl : k = l.length := by omega
      have hfin : crcs n0 l < 4294967296 := by
        have := HX.out l.length
        rwa [List.take_length] at this
      have HE := Lib.hid (show l.take k = l by rw [hkl, List.take_length])
      rw [HE.out] at *
      go_wp2
      go_ret
      exact ⟨ret_u32 (by rw [inv_bits hfin, HN.out]), HB2.out⟩
set_option maxRecDepth 1000000 in
set_option maxHeartbeats 1600000 in
theorem more_nil (sum : Nat) (hs : sum < 4294967296) (p : Option Addr) (cap : Nat) (w : World) :
    Calls Tryz.prog 311 #[.int .u32 sum, .slice p 0 cap] w fun e w' => e = .returned (.int .u32 (crcMore sum [] : Nat)) ∧ Below w.heap.size w w' := by
  go_enter Tryz.func311, Tryz.ntmps311
  go_wp2_with fail
  refine (gwords_calls _).mono ?_
  rintro e w1 ⟨rfl, hb1⟩
  have HB := Lib.hid hb1
  clear hb1
  go_wp2_with (with_reducible refine wpList_put (o := ⟨none, .store _ (.tmp 5) (.tmp 9), _, _, _, _⟩) rfl 506 (.tmp 5) (.tmp 9) rfl w1.heap.size arrT rfl rfl _ _ (heap_alloc_new _ _) arrT_info (by kernel_rfl) arrT_one ?_; intro w2 P2)
  have HB2 := Lib.hid (show Below w.heap.size w w2 from (HB.out.alloc (by have := HB.out.size; omega) _).trans (P2.bel _ HB.out.size))
  clear P2
  rw [inv_bits hs]
  have hn0 : 4294967295 ^^^ sum < 4294967296 := Sha.xor_lt (by decide) hs
  have HN := Lib.hid (show crcMore sum [] = 4294967295 ^^^ (4294967295 ^^^ sum) from rfl)
  generalize (4294967295 ^^^ sum) = n0 at *
  go_loop [6, 14] (fun a i => i = .int .i64 0 ∧ a = .int .u32 (n0 : Nat)) (fun _ _ => 0)
  case atStart => exact ⟨rfl, rfl⟩
  case round =>
    obtain ⟨rfl, rfl⟩ := hrel
    go_wp2
    go_ret
    exact ⟨ret_u32 (by rw [inv_bits hn0, HN.out]), HB2.out⟩
end Go.Proofs.YtapojfiplajfaaaGreatDoor
/- guard.More as a contract within the evaluator: the plain function, reckoned at once. -/
namespace Go.Proofs.YtapojfiplajfaaaGreatDoor.Am
open Go.RowKit

section
variable {β : Type}
noncomputable def crcsK (K : Nat → β) (l : List Nat) : Nat → β := List.rec (motive := fun _ => Nat → β) (fun n => K n) (fun c _ ih n => fN (Nat.xor (Nat.mod n 256) c) fun x => fN (crcT x) fun t => fN (Nat.xor t (Nat.div n 256)) fun m => ih m) l
theorem crcsK_eq (K : Nat → β) : ∀ (l : List Nat) (n : Nat), crcsK K l n = K (crcs n l)
  | [], n => rfl
  | c :: l, n => by
    have h0 : crcsK K (c :: l) n = fN (Nat.xor (Nat.mod n 256) c) fun x => fN (crcT x) fun t => fN (Nat.xor t (Nat.div n 256)) fun m => crcsK K l m := rfl
    rw [h0, fN_eq, fN_eq, fN_eq, crcsK_eq K l]
    rfl
end
noncomputable def moreV (sum : Nat) (bs : List Nat) : M Value := fN (Nat.xor 4294967295 sum) fun n => crcsK (fun m => fN (Nat.xor 4294967295 m) fun m => M.pure (.int .u32 (.ofNat m))) bs n
noncomputable def moreM (args : List Value) : M Value :=
  match args with
  | [.int .u32 (.ofNat sum), .slice (some a) n _] => M.chk (Nat.blt sum 4294967296 && Nat.ble n 4611686018427387904) (M.bind (rdL n a) fun l => M.on (u8s l) fun bs => moreV sum bs)
  | _ => M.fail
theorem moreV_eq (sum : Nat) (bs : List Nat) : moreV sum bs = M.pure (.int .u32 (crcMore sum bs : Nat)) := by
  unfold moreV
  rw [fN_eq, crcsK_eq, fN_eq]
  rfl
theorem lo_moreV (sum : Nat) (bs : List Nat) : Loc (moreV sum bs) := by rw [moreV_eq]; exact lo_pure _
theorem np_moreV (sum : Nat) (bs : List Nat) : NoPan (moreV sum bs) := by rw [moreV_eq]; exact np_pure _
theorem lo_moreM (args : List Value) : Loc (moreM args) := by
  unfold moreM
  split
  · exact lo_chk _ (lo_bind (lo_rdL _ _) fun l => lo_on _ fun bs => lo_moreV _ _)
  · exact lo_fail
theorem np_moreM (args : List Value) : NoPan (moreM args) := by
  unfold moreM
  split
  · exact np_chk _ (np_bind (np_rdL _ _) fun l => np_on _ fun bs => np_moreV _ _)
  · exact np_fail
theorem orc_more : OrcOK Tryz.prog 311 moreM :=
  orc_con Tryz.func311 (by kernel_rfl) (by kernel_rfl) lo_moreM np_moreM (by
    intro w0 w r args args' s s' v e hr hfr ha
    unfold moreM at e
    split at e
    case h_2 => cases e
    rename_i sum a n c
    obtain ⟨v1, l1, rfl, q1, q2⟩ := ha.inv
    obtain ⟨v2, l2, rfl, q3, q4⟩ := q2.inv
    have := q4.inv_nil
    subst this
    have := q1.int_inv
    subst this
    obtain ⟨hck, e3⟩ := chk_some e
    rw [Bool.and_eq_true] at hck
    have hn1 := blt_lt hck.1
    have hn2 := Nat.le_of_ble_eq_true hck.2
    obtain ⟨l, s1, e1, e4⟩ := bind_some e3
    obtain ⟨bs, hbs, e5⟩ := on_some e4
    clear e e3 e4
    obtain ⟨hb1, hb2⟩ := u8s_some hbs
    rw [moreV_eq] at e5
    obtain ⟨rfl, rfl⟩ := pure_some e5
    have fin : ∀ (b' o : Nat) (c2 : Nat), bs.length = n → (∀ j, (h : j < bs.length) → w.cell? ⟨b', o + j, none⟩ = some (.int .u8 (bs[j] : Nat))) → Same s s1 → Owed Tryz.prog 311 w0 w r [.int .u32 (.ofNat sum), .slice (some ⟨b', o, none⟩) n c2] s (.int .u32 (crcMore sum bs : Nat)) s1 := by
      intro b' o c2 hlen hcell g4
      subst hlen
      refine ⟨_, more_calls sum hn1 b' o c2 bs hb2 hn2 w hcell, ?_⟩
      rintro e w' ⟨rfl, hbl⟩
      exact ⟨_, r, rfl, .of_plain (by rfl), .of_rel g4.2.1 (by rw [g4.1]; exact hr.beyond hbl), g4.2.2.1, g4.2.2.2⟩
    rcases q3.sl_inv with ⟨a2, c2, rfl, ha2, hc, _⟩ | ⟨rfl, _, _, a2, c2, rfl⟩
    · obtain ⟨l', g1, g2, g3, g4⟩ := rdL_ok _ e1 hr ha2
      have hl : l' = bs.map (fun n : Nat => Value.int .u8 (n : Int)) := by
        rw [← hb1]
        refine plain_VRs_eq g3 ?_
        rw [List.all_eq_true, hb1]
        intro v hv
        obtain ⟨n, _, rfl⟩ := List.mem_map.1 hv
        rfl
      subst hl
      have hblen : bs.length = n := by simpa using g1
      obtain ⟨b, o, b', d, rfl, rfl, hbk⟩ := ha2
      refine fin b' (o + d) c2 hblen (fun j hj => ?_) g4
      have h1 := g2 j (.int .u8 (bs[j] : Nat)) (by rw [List.getElem?_map, List.getElem?_eq_getElem hj]; rfl)
      rw [addr_add] at h1
      exact h1
    · obtain ⟨rfl, rfl⟩ := pure_some (show M.pure [] s = .some l s1 from e1)
      have hbs0 : bs = [] := by
        have := congrArg List.length hb1
        simpa using this.symm
      subst hbs0
      refine ⟨_, more_nil sum hn1 (some a2) c2 w, ?_⟩
      rintro e w' ⟨rfl, hbl⟩
      exact ⟨_, r, rfl, .of_plain (by rfl), .of_rel rfl (hr.beyond hbl), rfl, rfl⟩)
end Go.Proofs.YtapojfiplajfaaaGreatDoor.Am
/- A contract for some arguments; for all others the function itself is run. -/
namespace Go.Proofs.YtapojfiplajfaaaGreatDoor.Am
open Go.RowKit

noncomputable def elseM (p : List Value → Bool) (m : List Value → M Value) (E : Env) (fuel f : Nat) (args : List Value) : M Value := Bool.rec (motive := fun _ => M Value) (callF E fuel f args) (m args) (p args)
/-- Is it a closure of this function? -/
noncomputable def isClo (k : Nat) (args : List Value) : Bool :=
  match args with
  | [.func (.func g) _ _] => Nat.beq g k
  | _ => false
theorem orc_else {E : Env} (he : EnvOK E) (fuel f : Nat) (hx : E.ext.get f = none) (p : List Value → Bool) {m : List Value → M Value} (k : OrcOK E.P f m) : OrcOK E.P f (elseM p m E fuel f) where
  loc := fun args => by
    unfold elseM
    cases p args with
    | false => exact (callF_ok he fuel).loc f args
    | true => exact k.loc args
  ok := by
    intro w0 w r args args' s out s' h hr hb hf ha
    unfold elseM at h
    cases hp : p args with
    | false =>
      rw [hp] at h
      rcases (callF_ok he fuel).ok (show callF E fuel f args s = rOf out s' from h) hr hb hf ha with q | ⟨q, _⟩
      · exact q
      · exact absurd hx q
    | true =>
      rw [hp] at h
      exact k.ok (show m args s = rOf out s' from h) hr hb hf ha
end Go.Proofs.YtapojfiplajfaaaGreatDoor.Am
