
import Derived.Test.YtapojfiplajfaaaGreatDoorWnn27
import Derived.Deep.RegionHeld3
import Derived.Laws.CopyOwn
import Derived.Outline
import Derived.IntWalk
import Derived.Lib.Hide
import Derived.Deep.Heap
namespace Go.Proofs.YtapojfiplajfaaaGreatDoor
open Go.RowKit
def arr1 (B : Nat → Nat) (k : Nat) : Array Value := Array.ofFn (n := 64) fun i => .int .u32 (if i < k then Sha.sch B i else 0 : Nat)
theorem arr1_zero (B : Nat → Nat) : arr1 B 0 = Array.ofFn (n := 64) fun _ => .int .u32 0 := rfl
structure SInv (B : Nat → Nat) (w wr : World) (k : Nat) : Prop where
  below : Below w.heap.size w wr
  r0 : wr.heap[w.heap.size]? = some (.cells (Array.ofFn (n := 64) fun _ => .int .u32 0) 489 (0, 0))
  r1 : wr.heap[w.heap.size + 1]? = some (.cells (arr1 B k) 489 (0, 0))
theorem arr1_get (B : Nat → Nat) (k j : Nat) (h : j < 64) : (arr1 B k)[j]? = some (.int .u32 (if j < k then Sha.sch B j else 0 : Nat)) := by simp [arr1, h]
theorem sinv0 (B : Nat → Nat) (w : World) : SInv B w ((w.alloc (.cells (Array.ofFn (n := 64) fun _ => .int .u32 0) 489)).alloc (.cells (Array.ofFn (n := 64) fun _ => .int .u32 0) 489)) 0 where
  below := ((Below.refl _ _).alloc (Nat.le_refl _) _).alloc (by simp) _
  r0 := heap_alloc2_old _ _ _
  r1 := by rw [arr1_zero]; exact heap_alloc2_new _ _ _
theorem arr1_set (B : Nat → Nat) {k : Nat} (_hk : k < 64) : (arr1 B k).setIfInBounds k (.int .u32 (Sha.sch B k : Nat)) = arr1 B (k + 1) := by
  apply Array.ext
  · simp [arr1]
  · intro i h1 h2
    have h3 : i < 64 := by simpa [arr1] using h2
    by_cases e : k = i
    · subst e
      simp [arr1]
    · rw [Array.getElem_setIfInBounds_ne (by simpa [arr1] using h3) e]
      simp only [arr1, Array.getElem_ofFn]
      by_cases e2 : i < k
      · rw [if_pos e2, if_pos (by omega)]
      · rw [if_neg e2, if_neg (by omega)]
theorem sinv_put {B : Nat → Nat} {w wr : World} {k : Nat} (h : SInv B w wr k) (hk : k < 64) {V : Int} (hV : V = (Sha.sch B k : Nat)) : SInv B w ((wr.setCell ⟨w.heap.size + 1, k, none⟩ (.int .u32 V)).drew) (k + 1) where
  below := Below.drew (Below.setCell h.below (Nat.le_succ _) _)
  r0 := by
    show ((wr.setCell _ _).heap)[_]? = _
    rw [Deep.blk_setCell_other _ _ _ _ (Nat.ne_of_lt (Nat.lt_succ_self _))]
    exact h.r0
  r1 := by
    show ((wr.setCell _ _).heap)[_]? = _
    rw [setCell_row h.r1, hV, arr1_set B hk]
theorem arr1_info (B : Nat → Nat) (k : Nat) : (Tryz.prog.info? 489).map (·.size) = some (arr1 B k).size := by
  rw [show (arr1 B k).size = 64 by simp [arr1]]
  kernel_rfl
theorem arr1_one (B : Nat → Nat) (k : Nat) : (arr1 B k).all (·.oneCell') = true := by
  rw [Array.all_eq_true]
  intro i hi
  simp [arr1, Value.oneCell']
theorem arr1_end (B : Nat → Nat) : arr1 B 64 = Array.ofFn (n := 64) fun i => .int .u32 (Sha.sch B i) := by
  unfold arr1
  congr 1
  funext i
  rw [if_pos i.isLt]
theorem be_bits {a b c d : Nat} (ha : a < 256) (hb : b < 256) (hc : c < 256) (hd : d < 256) : bits .or .u32 (bits .or .u32 (bits .or .u32 (IntKind.u32.wrap (IntKind.u32.wrap a * 16777216)) (IntKind.u32.wrap (IntKind.u32.wrap b * 65536))) (IntKind.u32.wrap (IntKind.u32.wrap c * 256))) (IntKind.u32.wrap d) = ((Sha.be a b c d : Nat) : Int) := by
  have e1 : IntKind.u32.wrap (IntKind.u32.wrap (a : Int) * 16777216) = ((a * 2 ^ 24 : Nat) : Int) := by rw [IntKind.wrap_u32, IntKind.wrap_u32]; omega
  have e2 : IntKind.u32.wrap (IntKind.u32.wrap (b : Int) * 65536) = ((b * 2 ^ 16 : Nat) : Int) := by rw [IntKind.wrap_u32, IntKind.wrap_u32]; omega
  have e3 : IntKind.u32.wrap (IntKind.u32.wrap (c : Int) * 256) = ((c * 2 ^ 8 : Nat) : Int) := by rw [IntKind.wrap_u32, IntKind.wrap_u32]; omega
  have e4 : IntKind.u32.wrap (d : Int) = ((d : Nat) : Int) := by rw [IntKind.wrap_u32]; omega
  rw [e1, e2, e3, e4, u32_or_nat _ _ (by omega) (by omega), u32_or_nat _ _ (Sha.or_lt (by omega) (by omega)) (by omega), u32_or_nat _ _ (Sha.or_lt (Sha.or_lt (by omega) (by omega)) (by omega)) (by omega)]
  rfl
theorem s0_bits {x : Nat} (h : x < 4294967296) : bits .xor .u32 (bits .xor .u32 ((rot x 7 : Nat) : Int) ((rot x 18 : Nat) : Int)) ((x : Int) / 8) = ((Sha.s0 x : Nat) : Int) := by
  have e : (x : Int) / 8 = ((x / 2 ^ 3 : Nat) : Int) := by simp
  rw [e, u32_xor_nat _ _ (rot_lt _ _ h) (rot_lt _ _ h), u32_xor_nat _ _ (Sha.xor_lt (rot_lt _ _ h) (rot_lt _ _ h)) (Nat.lt_of_le_of_lt (Nat.div_le_self _ _) h)]
  rfl
theorem s1_bits {x : Nat} (h : x < 4294967296) : bits .xor .u32 (bits .xor .u32 ((rot x 17 : Nat) : Int) ((rot x 19 : Nat) : Int)) ((x : Int) / 1024) = ((Sha.s1 x : Nat) : Int) := by
  have e : (x : Int) / 1024 = ((x / 2 ^ 10 : Nat) : Int) := by simp
  rw [e, u32_xor_nat _ _ (rot_lt _ _ h) (rot_lt _ _ h), u32_xor_nat _ _ (Sha.xor_lt (rot_lt _ _ h) (rot_lt _ _ h)) (Nat.lt_of_le_of_lt (Nat.div_le_self _ _) h)]
  rfl
theorem sinv_drew {B : Nat → Nat} {w wr : World} {k : Nat} (h : SInv B w wr k) : SInv B w wr.drew k := ⟨Below.drew h.below, h.r0, h.r1⟩
set_option maxRecDepth 100000 in
set_option maxHeartbeats 1600000 in
theorem spread_calls (B : Nat → Nat) (hB : ∀ j, B j < 256) (bb bo len cap : Nat) (hlen : 64 ≤ len) (hl : len ≤ 9223372036854775807) (w : World) (hb : ∀ j, j < 64 → w.cell? ⟨bb, bo + j, none⟩ = some (.int .u8 (B j))) :
    Calls Tryz.prog 342 #[.slice (some ⟨bb, bo, none⟩) len cap] w fun e w' => e = .returned (.agg (Array.ofFn (n := 64) fun i => .int .u32 (Sha.sch B i))) ∧ Below w.heap.size w w' := by
  have hbb : bb < w.heap.size := World.block_lt_of_cell? w _ (hb 0 (by omega))
  have h0 := sinv0 B w
  go_enter Tryz.func342, Tryz.ntmps342
  go_wp2
  go_loopw [10] (fun c wr => ∃ k : Nat, k ≤ 16 ∧ c = .int .i64 k ∧ SInv B w wr k) (fun c wr => 16 - (intOf c).toNat)
  case atStart => exact ⟨0, by omega, rfl, h0⟩
  case round =>
    obtain ⟨k, hk, rfl, hI⟩ := hrel
    by_cases hlt : k < 16
    · have c0 := (hI.below.cell (p := ⟨bb, bo + 4 * k, none⟩) hbb).trans (hb (4 * k) (by omega))
      have c1 := (hI.below.cell (p := ⟨bb, bo + (4 * k + 1), none⟩) hbb).trans (hb (4 * k + 1) (by omega))
      have c2 := (hI.below.cell (p := ⟨bb, bo + (4 * k + 2), none⟩) hbb).trans (hb (4 * k + 2) (by omega))
      have c3 := (hI.below.cell (p := ⟨bb, bo + (4 * k + 3), none⟩) hbb).trans (hb (4 * k + 3) (by omega))
      have cR : wr.cell? ⟨w.heap.size + 1, k, none⟩ = some (.int .u32 0) := by rw [cell_row hI.r1, arr1_get _ _ _ (by omega), if_neg (by omega)]; rfl
      have fR : wr.frozen? ⟨w.heap.size + 1, k, none⟩ = false := free_row hI.r1 _
      have hne : bb ≠ w.heap.size + 1 := by omega
      have hne' : w.heap.size + 1 ≠ bb := by omega
      have k0 : (0 : Int) ≤ (k : Int) := Int.natCast_nonneg _
      have k1 : (k : Int) < 64 := by omega
      have b0 : (0 : Int) ≤ 4 * (k : Int) := by omega
      have b1 : 4 * (k : Int) < (len : Int) := by omega
      have b2 : (0 : Int) ≤ 4 * (k : Int) + 1 := by omega
      have b3 : 4 * (k : Int) + 1 < (len : Int) := by omega
      have b4 : (0 : Int) ≤ 4 * (k : Int) + 2 := by omega
      have b5 : 4 * (k : Int) + 2 < (len : Int) := by omega
      have b6 : (0 : Int) ≤ 4 * (k : Int) + 3 := by omega
      have b7 : 4 * (k : Int) + 3 < (len : Int) := by omega
      have w0 := IntWalk.i64_in (4 * (k : Int)) ⟨by omega, by omega⟩
      have w1 := IntWalk.i64_in (4 * (k : Int) + 1) ⟨by omega, by omega⟩
      have w2 := IntWalk.i64_in (4 * (k : Int) + 2) ⟨by omega, by omega⟩
      have w3 := IntWalk.i64_in (4 * (k : Int) + 3) ⟨by omega, by omega⟩
      have n0 : (4 * (k : Int)).toNat = 4 * k := by omega
      have n1 : (4 * (k : Int) + 1).toNat = 4 * k + 1 := by omega
      have n2 : (4 * (k : Int) + 2).toNat = 4 * k + 2 := by omega
      have n3 : (4 * (k : Int) + 3).toNat = 4 * k + 3 := by omega
      go_wp2
      go_region_held3 (fun w' => w'.cell? ⟨bb, bo + 4 * k, none⟩ = some (.int .u8 (B (4 * k))) ∧ w'.cell? ⟨bb, bo + (4 * k + 1), none⟩ = some (.int .u8 (B (4 * k + 1))) ∧ w'.cell? ⟨bb, bo + (4 * k + 2), none⟩ = some (.int .u8 (B (4 * k + 2))) ∧ w'.cell? ⟨bb, bo + (4 * k + 3), none⟩ = some (.int .u8 (B (4 * k + 3)))) (go_keep) (fail)
      have HV := Lib.hid ((be_bits (hB (4 * k)) (hB (4 * k + 1)) (hB (4 * k + 2)) (hB (4 * k + 3))).trans (congrArg (fun n : Nat => (n : Int)) (Sha.sch_lo (B := B) hlt).symm))
      have HI := Lib.hid hI
      clear hI c0 c1 c2 c3 cR fR
      go_wp2
      go_roundw
      case rel => exact ⟨k + 1, by omega, by go_num, sinv_put HI.out (by omega) HV.out⟩
      case measure => simp [intOf]; omega
    · have hk16 : k = 16 := by omega
      go_wp2
      subst hk16
      go_loopw [5] (fun c wr => ∃ k : Nat, 16 ≤ k ∧ k ≤ 64 ∧ c = .int .i64 k ∧ SInv B w wr k) (fun c wr => 64 - (intOf c).toNat)
      case atStart => exact ⟨16, by omega, by omega, rfl, hI⟩
      case round =>
        obtain ⟨k, hk0, hk, rfl, hI⟩ := hrel
        by_cases hlt : k < 64
        · have f1 := cell_row hI.r1 (k - 15)
          rw [arr1_get _ _ _ (by omega), if_pos (by omega)] at f1
          have f2 := cell_row hI.r1 (k - 2)
          rw [arr1_get _ _ _ (by omega), if_pos (by omega)] at f2
          have f3 := cell_row hI.r1 (k - 16)
          rw [arr1_get _ _ _ (by omega), if_pos (by omega)] at f3
          have f4 := cell_row hI.r1 (k - 7)
          rw [arr1_get _ _ _ (by omega), if_pos (by omega)] at f4
          have cR : wr.cell? ⟨w.heap.size + 1, k, none⟩ = some (.int .u32 0) := by rw [cell_row hI.r1, arr1_get _ _ _ (by omega), if_neg (by omega)]; rfl
          have fR : wr.frozen? ⟨w.heap.size + 1, k, none⟩ = false := free_row hI.r1 _
          have HI := Lib.hid hI
          clear hI
          have l1 := Sha.sch_lt hB (k - 15)
          have l2 := Sha.sch_lt hB (k - 2)
          have l3 := Sha.sch_lt hB (k - 16)
          have l4 := Sha.sch_lt hB (k - 7)
          have HS := Lib.hid (Sha.sch_hi (B := B) hk0)
          generalize Sha.sch B (k - 15) = x1 at *
          generalize Sha.sch B (k - 2) = x2 at *
          generalize Sha.sch B (k - 16) = x3 at *
          generalize Sha.sch B (k - 7) = x4 at *
          have k0 : (0 : Int) ≤ (k : Int) := Int.natCast_nonneg _
          have k1 : (k : Int) < 64 := by omega
          have b0 : (0 : Int) ≤ (k : Int) - 15 := by omega
          have b1 : (k : Int) - 15 < 64 := by omega
          have b2 : (0 : Int) ≤ (k : Int) - 2 := by omega
          have b3 : (k : Int) - 2 < 64 := by omega
          have b4 : (0 : Int) ≤ (k : Int) - 16 := by omega
          have b5 : (k : Int) - 16 < 64 := by omega
          have b6 : (0 : Int) ≤ (k : Int) - 7 := by omega
          have b7 : (k : Int) - 7 < 64 := by omega
          have g1 : (⟨w.heap.size + 1, k, none⟩ : Addr) ≠ ⟨w.heap.size + 1, k - 16, none⟩ := by intro h; injection h with _ h; omega
          have g2 : (⟨w.heap.size + 1, k, none⟩ : Addr) ≠ ⟨w.heap.size + 1, k - 7, none⟩ := by intro h; injection h with _ h; omega
          have d0 : (15 : Int) ≤ (k : Int) := by omega
          have d1 : (2 : Int) ≤ (k : Int) := by omega
          have d2 : (16 : Int) ≤ (k : Int) := by omega
          have d3 : (7 : Int) ≤ (k : Int) := by omega
          have d4 : (k : Int) < 79 := by omega
          have d5 : (k : Int) < 66 := by omega
          have d6 : (k : Int) < 80 := by omega
          have d7 : (k : Int) < 71 := by omega
          have w0 := IntWalk.i64_in ((k : Int) - 15) ⟨by omega, by omega⟩
          have w1 := IntWalk.i64_in ((k : Int) - 2) ⟨by omega, by omega⟩
          have w2 := IntWalk.i64_in ((k : Int) - 16) ⟨by omega, by omega⟩
          have w3 := IntWalk.i64_in ((k : Int) - 7) ⟨by omega, by omega⟩
          have n0 : ((k : Int) - 15).toNat = k - 15 := by omega
          have n1 : ((k : Int) - 2).toNat = k - 2 := by omega
          have n2 : ((k : Int) - 16).toNat = k - 16 := by omega
          have n3 : ((k : Int) - 7).toNat = k - 7 := by omega
          go_wp2
          go_region_held3 (fun w' => w'.cell? ⟨w.heap.size + 1, k - 15, none⟩ = some (.int .u32 x1) ∧ w'.cell? ⟨w.heap.size + 1, k - 2, none⟩ = some (.int .u32 x2)) (go_keep) (fail)
          go_wp2_with fail
          refine (down_calls x1 7 _ l1 (by omega) (by omega)).mono ?_
          rintro e w' ⟨rfl, rfl⟩
          go_wp2_with fail
          refine (down_calls x1 18 _ l1 (by omega) (by omega)).mono ?_
          rintro e w' ⟨rfl, rfl⟩
          go_wp2_with fail
          refine (down_calls x2 17 _ l2 (by omega) (by omega)).mono ?_
          rintro e w' ⟨rfl, rfl⟩
          go_wp2_with fail
          refine (down_calls x2 19 _ l2 (by omega) (by omega)).mono ?_
          rintro e w' ⟨rfl, rfl⟩
          go_wp2_with fail
          rw [s0_bits l1, s1_bits l2]
          have l5 := Sha.s0_lt l1
          have l6 := Sha.s1_lt l2
          generalize Sha.s0 x1 = y1 at *
          generalize Sha.s1 x2 = y2 at *
          go_region_held3 (fun w' => w'.cell? ⟨w.heap.size + 1, k - 16, none⟩ = some (.int .u32 x3) ∧ w'.cell? ⟨w.heap.size + 1, k - 7, none⟩ = some (.int .u32 x4)) (first | exact ⟨f3, f4⟩ | exact ⟨by rw [World.cell?_drew, World.cell?_drew, World.cell?_setCell_other (h := g1)]; exact f3, by rw [World.cell?_drew, World.cell?_drew, World.cell?_setCell_other (h := g2)]; exact f4⟩) (fail)
          have HV := Lib.hid (show IntKind.u32.wrap (IntKind.u32.wrap (IntKind.u32.wrap ((x3 : Int) + y1) + x4) + y2) = ((Sha.sch B k : Nat) : Int) by rw [HS.out, IntKind.wrap_u32, IntKind.wrap_u32, IntKind.wrap_u32]; omega)
          clear f1 f2 f3 f4 cR fR
          go_wp2
          go_roundw
          case rel => ((repeat apply Exists.intro); exact ⟨⟨k + 1, by omega, by omega, by go_num, sinv_drew (sinv_put HI.out (by omega) HV.out)⟩, rfl⟩)
          case measure => simp [intOf]; omega
        · have hk64 : k = 64 := by omega
          subst hk64
          have HI := Lib.hid hI
          clear hI
          go_wp2_with (first
            | (with_reducible refine wpList_load_row (o := ⟨some 92, _, _, _, _, _⟩) rfl 489 (.tmp 3) rfl (w.heap.size + 1) rfl 489 (arr1 B 64) (0, 0) _ HI.out.r1 Tryz.underlying489 rfl (arr1_info B 64) ?_)
            | (with_reducible refine wpList_store_row (o := ⟨none, _, _, _, _, _⟩) rfl 489 (.tmp 2) (.tmp 92) rfl w.heap.size (arr1 B 64) rfl rfl _ _ HI.out.r0 (arr1_info B 64) (by simp [arr1]) (arr1_one B 64) ?_))
          refine bodyPost_ret (v := .agg (arr1 B 64)) (results_cell_row rfl _ _ w.heap.size 489 (arr1 B 64) (0, 0) _ rfl (setRow_heap _ _ _ _ _ _ HI.out.r0) Tryz.underlying489 rfl (arr1_info B 64)) rfl ⟨by rw [arr1_end], ?_⟩
          exact below_setRow HI.out.below (Nat.le_refl _) _
end Go.Proofs.YtapojfiplajfaaaGreatDoor
