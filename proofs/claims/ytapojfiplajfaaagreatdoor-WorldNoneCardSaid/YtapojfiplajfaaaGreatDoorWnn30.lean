/- digest.state.next walked. -/
import Derived.Test.YtapojfiplajfaaaGreatDoorWnn29
import Derived.Deep.Cut
import Derived.RegionTactic
import Derived.ChangeAlike
namespace Go.Proofs.YtapojfiplajfaaaGreatDoor
open Go.RowKit
def arrW (B : Nat → Nat) : Array Value := Array.ofFn (n := 64) fun i => .int .u32 (Sha.sch B i)
theorem arrW_get (B : Nat → Nat) (j : Nat) (h : j < 64) : (arrW B)[j]? = some (.int .u32 (Sha.sch B j : Nat)) := by simp [arrW, h]
theorem down_lit (x n : Nat) (m : Int) (hm : m = (n : Int)) (w : World) (hx : x < 4294967296) (hn0 : 1 ≤ n) (hn1 : n ≤ 31) :
    Calls Tryz.prog 344 #[.int .u32 x, .int .i64 m] w fun e w' => e = .returned (.int .u32 (rot x n)) ∧ w = w' := by
  subst hm
  exact down_calls x n w hx hn0 hn1
theorem t1_bits {r : Sha.St8} (he : r.e < 4294967296) (hf : r.f < 4294967296) (hg : r.g < 4294967296) (k w : Nat) :
    IntKind.u32.wrap (IntKind.u32.wrap (IntKind.u32.wrap (IntKind.u32.wrap ((r.h : Int) + bits .xor .u32 (bits .xor .u32 (rot r.e 6 : Nat) (rot r.e 11 : Nat)) (rot r.e 25 : Nat)) + bits .xor .u32 (bits .and .u32 r.e r.f) (bits .and .u32 (bits .xor .u32 IntKind.u32.max r.e) r.g)) + k) + w) = ((Sha.t1 r k w : Nat) : Int) := by
  have hm : IntKind.u32.max = ((4294967295 : Nat) : Int) := by decide
  rw [hm, u32_xor_nat _ _ (rot_lt _ _ he) (rot_lt _ _ he), u32_xor_nat _ _ (Sha.xor_lt (rot_lt _ _ he) (rot_lt _ _ he)) (rot_lt _ _ he), u32_and_nat _ _ he hf, u32_xor_nat _ _ (by decide) he, u32_and_nat _ _ (Sha.xor_lt (by decide) he) hg,
    u32_xor_nat _ _ (and_lt he) (and_lt (Sha.xor_lt (by decide) he)), IntKind.wrap_u32, IntKind.wrap_u32, IntKind.wrap_u32, IntKind.wrap_u32]
  unfold Sha.t1
  omega
theorem t2_bits {r : Sha.St8} (ha : r.a < 4294967296) (hb : r.b < 4294967296) (hc : r.c < 4294967296) :
    IntKind.u32.wrap (bits .xor .u32 (bits .xor .u32 (rot r.a 2 : Nat) (rot r.a 13 : Nat)) (rot r.a 22 : Nat) + bits .xor .u32 (bits .xor .u32 (bits .and .u32 r.a r.b) (bits .and .u32 r.a r.c)) (bits .and .u32 r.b r.c)) = ((Sha.t2 r : Nat) : Int) := by
  rw [u32_xor_nat _ _ (rot_lt _ _ ha) (rot_lt _ _ ha), u32_xor_nat _ _ (Sha.xor_lt (rot_lt _ _ ha) (rot_lt _ _ ha)) (rot_lt _ _ ha), u32_and_nat _ _ ha hb, u32_and_nat _ _ ha hc, u32_and_nat _ _ hb hc, u32_xor_nat _ _ (and_lt ha) (and_lt ha), u32_xor_nat _ _ (Sha.xor_lt (and_lt ha) (and_lt ha)) (and_lt hb), IntKind.wrap_u32]
  unfold Sha.t2
  omega
structure NInv (B : Nat → Nat) (s : Sha.St8) (w : World) (H H7 : Nat) (wr : World) (r : Sha.St8) : Prop where
  below : Below w.heap.size w wr
  hH : w.heap.size + 2 ≤ H
  hH7 : H7 = H + 2
  b0 : wr.heap[w.heap.size]? = some (.cells (st8V s) 439 (0, 0))
  b1 : wr.heap[w.heap.size + 1]? = some (.cells #[.int .u32 0, .int .u32 0, .int .u32 0, .int .u32 0, .int .u32 0, .int .u32 0, .int .u32 0, .int .u32 0] 439 (0, 0))
  h5 : wr.heap[H]? = some (.cells (arrW B) 489 (0, 0))
  h6 : wr.heap[H + 1]? = some (.cells arrK 489 (0, 0))
  h7 : wr.heap[H7]? = some (.cells (st8V r) 439 (0, 0))
theorem arrW_info (B : Nat → Nat) : (Tryz.prog.info? 489).map (·.size) = some (arrW B).size := by
  rw [show (arrW B).size = 64 by simp [arrW]]
  kernel_rfl
theorem arrW_one (B : Nat → Nat) : (arrW B).all (·.oneCell') = true := by
  rw [Array.all_eq_true]
  intro i hi
  simp [arrW, Value.oneCell']
theorem arrK_info : (Tryz.prog.info? 489).map (·.size) = some arrK.size := by
  rw [arrK_size]
  kernel_rfl
theorem arrK_one : arrK.all (·.oneCell') = true := by kernel_rfl
theorem spread_arr (B : Nat → Nat) (hB : ∀ j, B j < 256) (bb bo len cap : Nat) (hlen : 64 ≤ len) (hl : len ≤ 9223372036854775807) (w : World) (hb : ∀ j, j < 64 → w.cell? ⟨bb, bo + j, none⟩ = some (.int .u8 (B j))) :
    Calls Tryz.prog 342 #[.slice (some ⟨bb, bo, none⟩) len cap] w fun e w' => e = .returned (.agg (arrW B)) ∧ Below w.heap.size w w' := spread_calls B hB bb bo len cap hlen hl w hb
theorem st8_info (r : Sha.St8) : (Tryz.prog.info? 439).map (·.size) = some (st8V r).size := by
  show _ = some 8
  kernel_rfl
theorem st8_one (r : Sha.St8) : (st8V r).all (·.oneCell') = true := by simp [st8V, Value.oneCell']
theorem eight_info (x0 x1 x2 x3 x4 x5 x6 x7 : Value) : (Tryz.prog.info? 439).map (·.size) = some (#[x0, x1, x2, x3, x4, x5, x6, x7] : Array Value).size := by
  show _ = some 8
  kernel_rfl
theorem eight_size (r : Sha.St8) (x0 x1 x2 x3 x4 x5 x6 x7 : Value) : (st8V r).size = (#[x0, x1, x2, x3, x4, x5, x6, x7] : Array Value).size := rfl
theorem eight_one (x0 x1 x2 x3 x4 x5 x6 x7 : Int) : (#[.int .u32 x0, .int .u32 x1, .int .u32 x2, .int .u32 x3, .int .u32 x4, .int .u32 x5, .int .u32 x6, .int .u32 x7] : Array Value).all (·.oneCell') = true := by simp [Value.oneCell']
theorem rnd_cells (r : Sha.St8) (k w : Nat) : #[Value.int .u32 (IntKind.u32.wrap ((Sha.t1 r k w : Nat) + (Sha.t2 r : Nat))), .int .u32 r.a, .int .u32 r.b, .int .u32 r.c, .int .u32 (IntKind.u32.wrap ((r.d : Int) + (Sha.t1 r k w : Nat))), .int .u32 r.e, .int .u32 r.f, .int .u32 r.g] = st8V (Sha.rnd r k w) := by
  have e1 : IntKind.u32.wrap ((Sha.t1 r k w : Nat) + (Sha.t2 r : Nat)) = (((Sha.t1 r k w + Sha.t2 r) % 4294967296 : Nat) : Int) := by rw [IntKind.wrap_u32]; omega
  have e2 : IntKind.u32.wrap ((r.d : Int) + (Sha.t1 r k w : Nat)) = (((r.d + Sha.t1 r k w) % 4294967296 : Nat) : Int) := by rw [IntKind.wrap_u32]; omega
  rw [e1, e2]
  rfl
theorem ninv_put {B : Nat → Nat} {s r r' : Sha.St8} {w wr W w' : World} {H H7 : Nat} (h : NInv B s w H H7 wr r) (e : ({ W with drawn := wr.drawn } : World) = wr) (p : Put W w' H7 (st8V r') 439) : NInv B s w H H7 w' r' := by
  have hh : W.heap = wr.heap := by rw [← e]
  have hb : Below w.heap.size w W := by
    have := h.below
    rw [← e] at this
    exact ⟨this.os, this.tape, this.output, this.size, this.block⟩
  have h1 := h.hH
  have h2 := h.hH7
  exact ⟨hb.trans (p.bel _ (by omega)), h1, h2, by rw [p.oth _ (by omega), hh]; exact h.b0, by rw [p.oth _ (by omega), hh]; exact h.b1, by rw [p.oth _ (by omega), hh]; exact h.h5, by rw [p.oth _ (by omega), hh]; exact h.h6, p.at'⟩
def at8 (s : Sha.St8) : Nat → Nat
  | 0 => s.a
  | 1 => s.b
  | 2 => s.c
  | 3 => s.d
  | 4 => s.e
  | 5 => s.f
  | 6 => s.g
  | _ => s.h
theorem st8_get (s : Sha.St8) (j : Nat) (h : j < 8) : (st8V s)[j]? = some (.int .u32 (at8 s j : Nat)) := by
  match j, h with
  | 0, _ => rfl
  | 1, _ => rfl
  | 2, _ => rfl
  | 3, _ => rfl
  | 4, _ => rfl
  | 5, _ => rfl
  | 6, _ => rfl
  | 7, _ => rfl
def mixV (s r : Sha.St8) (k : Nat) : Array Value := Array.ofFn (n := 8) fun i => .int .u32 (if i < k then (at8 r i + at8 s i) % 4294967296 else at8 r i : Nat)
theorem mix_get (s r : Sha.St8) (k j : Nat) (h : j < 8) : (mixV s r k)[j]? = some (.int .u32 (if j < k then (at8 r j + at8 s j) % 4294967296 else at8 r j : Nat)) := by simp [mixV, h]
theorem arr8_ext {A B : Array Value} (ha : A.size = 8) (hb : B.size = 8) (h : ∀ j, j < 8 → A[j]? = B[j]?) : A = B := by
  apply Array.ext (by rw [ha, hb])
  intro i h1 h2
  have := h i (by omega)
  rw [Array.getElem?_eq_getElem h1, Array.getElem?_eq_getElem h2] at this
  exact Option.some.inj this
theorem mix_size (s r : Sha.St8) (k : Nat) : (mixV s r k).size = 8 := by simp [mixV]
theorem mix_zero (s r : Sha.St8) : mixV s r 0 = st8V r := arr8_ext (mix_size _ _ _) rfl fun j hj => by rw [mix_get _ _ _ _ hj, st8_get _ _ hj, if_neg (by omega)]
theorem at8_plus (s r : Sha.St8) (j : Nat) : at8 (Sha.plus s r) j = (at8 r j + at8 s j) % 4294967296 := by
  unfold at8
  split <;> rfl
theorem mix_end (s r : Sha.St8) : mixV s r 8 = st8V (Sha.plus s r) := arr8_ext (mix_size _ _ _) rfl fun j hj => by rw [mix_get _ _ _ _ hj, st8_get _ _ hj, if_pos hj, at8_plus]
theorem mix_set (s r : Sha.St8) (k : Nat) (hk : k < 8) : (mixV s r k).setIfInBounds k (.int .u32 ((at8 r k + at8 s k) % 4294967296 : Nat)) = mixV s r (k + 1) :=
  arr8_ext (by rw [Array.size_setIfInBounds, mix_size]) (mix_size _ _ _) fun j hj => by
    rw [mix_get _ _ _ _ hj]
    by_cases e : k = j
    · subst e
      rw [Array.getElem?_setIfInBounds_self_of_lt (by rw [mix_size]; exact hk), if_pos (by omega)]
    · rw [Array.getElem?_setIfInBounds_ne e, mix_get _ _ _ _ hj]
      by_cases e2 : j < k
      · rw [if_pos e2, if_pos (by omega)]
      · rw [if_neg e2, if_neg (by omega)]
theorem mix_info (s r : Sha.St8) (k : Nat) : (Tryz.prog.info? 439).map (·.size) = some (mixV s r k).size := by
  rw [mix_size]
  kernel_rfl
theorem mix_size8 (s r : Sha.St8) (k : Nat) : (#[.int .u32 0, .int .u32 0, .int .u32 0, .int .u32 0, .int .u32 0, .int .u32 0, .int .u32 0, .int .u32 0] : Array Value).size = (mixV s r k).size := by rw [mix_size]; rfl
theorem mix_one (s r : Sha.St8) (k : Nat) : (mixV s r k).all (·.oneCell') = true := by
  rw [Array.all_eq_true]
  intro i hi
  simp [mixV, Value.oneCell']
structure MInv (s r : Sha.St8) (w : World) (H7 : Nat) (wr : World) (k : Nat) : Prop where
  below : Below w.heap.size w wr
  ne : w.heap.size + 2 ≤ H7
  b0 : wr.heap[w.heap.size]? = some (.cells (st8V s) 439 (0, 0))
  b1 : wr.heap[w.heap.size + 1]? = some (.cells #[.int .u32 0, .int .u32 0, .int .u32 0, .int .u32 0, .int .u32 0, .int .u32 0, .int .u32 0, .int .u32 0] 439 (0, 0))
  h7 : wr.heap[H7]? = some (.cells (mixV s r k) 439 (0, 0))
theorem MInv.start {B : Nat → Nat} {s r : Sha.St8} {w wr : World} {H H7 : Nat} (h : NInv B s w H H7 wr r) : MInv s r w H7 wr 0 := ⟨h.below, by have := h.hH; have := h.hH7; omega, h.b0, h.b1, by rw [mix_zero]; exact h.h7⟩
theorem MInv.put {s r : Sha.St8} {w wr W : World} {H7 k : Nat} (h : MInv s r w H7 wr k) (hk : k < 8) {V : Int} (hV : V = ((at8 r k + at8 s k) % 4294967296 : Nat)) (e : ({ W with drawn := wr.drawn } : World) = wr.setCell ⟨H7, k, none⟩ (.int .u32 V)) : MInv s r w H7 W (k + 1) := by
  have hh : W.heap = (wr.setCell ⟨H7, k, none⟩ (.int .u32 V)).heap := by rw [← e]
  have hn := h.ne
  have hb : Below w.heap.size w W := by
    have := Below.setCell h.below (p := ⟨H7, k, none⟩) (by show _ ≤ H7; omega) (.int .u32 V)
    rw [← e] at this
    exact ⟨this.os, this.tape, this.output, this.size, this.block⟩
  refine ⟨hb, hn, ?_, ?_, ?_⟩
  · rw [hh, Deep.blk_setCell_other _ _ _ _ (by show _ ≠ H7; omega)]
    exact h.b0
  · rw [hh, Deep.blk_setCell_other _ _ _ _ (by show _ ≠ H7; omega)]
    exact h.b1
  · rw [hh, setCell_row h.h7, hV, mix_set _ _ _ hk]
set_option maxRecDepth 100000 in
set_option maxHeartbeats 1600000 in
theorem next_calls (s : Sha.St8) (hs : s.Ok) (B : Nat → Nat) (hB : ∀ j, B j < 256) (bb bo len cap : Nat) (hlen : 64 ≤ len) (hl : len ≤ 9223372036854775807) (w : World) (hb : ∀ j, j < 64 → w.cell? ⟨bb, bo + j, none⟩ = some (.int .u8 (B j))) :
    Calls Tryz.prog 276 #[.agg (st8V s), .slice (some ⟨bb, bo, none⟩) len cap] w fun e w' => e = .returned (.agg (st8V (Sha.next s B))) ∧ Below w.heap.size w w' := by
  have hbb : bb < w.heap.size := World.block_lt_of_cell? w _ (hb 0 (by omega))
  have HS := Lib.hid hs
  have HB := Lib.hid hb
  clear hs hb
  go_enter Tryz.func276, Tryz.ntmps276
  go_wp2_with fail
  refine (spread_arr B hB bb bo len cap hlen hl _ ?_).mono ?_
  · intro j hj
    exact ((((Below.refl _ w).alloc (Nat.le_refl _) _).alloc (by simp) _).cell (p := ⟨bb, bo + j, none⟩) hbb).trans (HB.out j hj)
  rintro e w1 ⟨rfl, hb1⟩
  go_wp2_with fail
  refine (words_calls _).mono ?_
  rintro e w2 ⟨rfl, hb2⟩
  have hz1 := hb1.size
  have hz2 := hb2.size
  simp only [World.size_alloc] at hz1
  have F0 := Lib.hid ((heap_below hb2 (k := w.heap.size) (by omega)).trans ((heap_below hb1 (k := w.heap.size) (by simp; omega)).trans (heap_alloc2_old _ _ _)))
  have F1 := Lib.hid ((heap_below hb2 (k := w.heap.size + 1) (by omega)).trans ((heap_below hb1 (k := w.heap.size + 1) (by simp)).trans (heap_alloc2_new _ _ _)))
  have FB := Lib.hid (show Below w.heap.size w w2 from (((Below.refl _ w).alloc (Nat.le_refl _) _).alloc (by simp) _).trans ((hb1.mono (by simp; omega)).trans (hb2.mono (by omega))))
  clear hb1 hb2
  go_wp2_with (first
    | (with_reducible refine wpList_put (o := ⟨none, .store _ (.tmp 5) (.tmp 15), _, _, _, _⟩) rfl 489 (.tmp 5) (.tmp 15) rfl w2.heap.size (arrW B) rfl rfl _ _ (heap_alloc2_old _ _ _) (arrW_info B) (by simp [arrW]) (arrW_one B) ?_; intro w3 P3)
    | (with_reducible refine wpList_put (o := ⟨none, .store _ (.tmp 6) (.tmp 16), _, _, _, _⟩) rfl 489 (.tmp 6) (.tmp 16) rfl (w2.heap.size + 1) arrK rfl rfl _ _ ((P3.oth _ (by omega)).trans (heap_alloc2_new _ _ _)) arrK_info (by simp [arrK_size]) arrK_one ?_; intro w4 P4)
    | (with_reducible refine wpList_load_row (o := ⟨some 17, _, _, _, _, _⟩) rfl 439 (.tmp 2) rfl w.heap.size rfl 439 (st8V s) (0, 0) _ ((P4.oth _ (by omega)).trans ((P3.oth _ (by omega)).trans ((heap_alloc_old _ _ (by simp; omega)).trans ((heap_alloc_old _ _ (by omega)).trans F0.out)))) Tryz.underlying439 rfl (st8_info s) ?_)
    | (with_reducible refine wpList_put (o := ⟨none, .store _ (.tmp 7) (.tmp 17), _, _, _, _⟩) rfl 439 (.tmp 7) (.tmp 17) rfl w4.heap.size (st8V s) rfl rfl _ _ (heap_alloc_new _ _) (st8_info s) (by simp [st8V]) (st8_one s) ?_; intro w5 P5))
  have hz3 := P3.size
  have hz4 := P4.size
  have hz5 := P5.size
  simp only [World.size_alloc] at hz3 hz5
  have hz4' : w4.heap.size = w2.heap.size + 2 := by omega
  have HI := Lib.hid (show NInv B s w w2.heap.size w4.heap.size w5 s from by
    have hb4 : Below w.heap.size w w4 := (FB.out.alloc (by omega) _).alloc (by simp; omega) _ |>.trans ((P3.bel _ (by omega)).trans (P4.bel _ (by omega)))
    refine ⟨(hb4.alloc (by omega) _).trans (P5.bel _ (by omega)), by omega, hz4', ?_, ?_, ?_, ?_, P5.at'⟩
    · exact (P5.oth _ (by omega)).trans ((heap_alloc_old _ _ (by omega)).trans ((P4.oth _ (by omega)).trans ((P3.oth _ (by omega)).trans ((heap_alloc_old _ _ (by simp; omega)).trans ((heap_alloc_old _ _ (by omega)).trans F0.out)))))
    · exact (P5.oth _ (by omega)).trans ((heap_alloc_old _ _ (by omega)).trans ((P4.oth _ (by omega)).trans ((P3.oth _ (by omega)).trans ((heap_alloc_old _ _ (by simp; omega)).trans ((heap_alloc_old _ _ (by omega)).trans F1.out)))))
    · exact (P5.oth _ (by omega)).trans ((heap_alloc_old _ _ (by omega)).trans ((P4.oth _ (by omega)).trans P3.at'))
    · exact (P5.oth _ (by omega)).trans ((heap_alloc_old _ _ (by omega)).trans P4.at'))
  clear P3 P4 P5 F0 F1 FB hz1 hz2 hz3 hz4 hz5 hz4'
  generalize w4.heap.size = H7 at *
  generalize w2.heap.size = H at *
  clear w1 w3 w4
  have HR := Lib.hid (fun k => Sha.rnds_ok (K := Sha.K) (W := Sha.sch B) HS.out k)
  go_loopw [18] (fun c wr => ∃ k : Nat, k ≤ 64 ∧ c = .int .i64 k ∧ NInv B s w H H7 wr (Sha.rnds Sha.K (Sha.sch B) s k)) (fun c wr => 64 - (intOf c).toNat)
  case atStart => exact ⟨0, by omega, rfl, HI.out⟩
  case round =>
    obtain ⟨k, hk, rfl, hI⟩ := hrel
    by_cases hlt : k < 64
    · have hok := HR.out k
      have HN := Lib.hid (show Sha.rnds Sha.K (Sha.sch B) s (k + 1) = Sha.rnd (Sha.rnds Sha.K (Sha.sch B) s k) (Sha.K k) (Sha.sch B k) from rfl)
      have ck := cell_row hI.h6 k
      rw [arrK_get _ hlt] at ck
      have cw := cell_row hI.h5 k
      rw [arrW_get _ _ hlt] at cw
      generalize Sha.K k = kv at *
      generalize Sha.sch B k = wv at *
      generalize Sha.rnds Sha.K (Sha.sch B) s k = r at *
      obtain ⟨ra, rb, rc, rd, re, rf, rg, rh⟩ := r
      have c0 : wr.cell? ⟨H7, 0, none⟩ = some (.int .u32 ra) := cell_row hI.h7 0
      have c1 : wr.cell? ⟨H7, 1, none⟩ = some (.int .u32 rb) := cell_row hI.h7 1
      have c2 : wr.cell? ⟨H7, 2, none⟩ = some (.int .u32 rc) := cell_row hI.h7 2
      have c3 : wr.cell? ⟨H7, 3, none⟩ = some (.int .u32 rd) := cell_row hI.h7 3
      have c4 : wr.cell? ⟨H7, 4, none⟩ = some (.int .u32 re) := cell_row hI.h7 4
      have c5 : wr.cell? ⟨H7, 5, none⟩ = some (.int .u32 rf) := cell_row hI.h7 5
      have c6 : wr.cell? ⟨H7, 6, none⟩ = some (.int .u32 rg) := cell_row hI.h7 6
      have c7 : wr.cell? ⟨H7, 7, none⟩ = some (.int .u32 rh) := cell_row hI.h7 7
      have HI := Lib.hid hI
      clear hI
      obtain ⟨la, lb, lc, ld, le, lf, lg, lh⟩ := hok
      simp only at la lb lc ld le lf lg lh
      have k0 : (0 : Int) ≤ (k : Int) := Int.natCast_nonneg _
      have k1 : (k : Int) < 64 := by omega
      go_wp2
      go_region_held3 (fun w' => w'.cell? ⟨H7, 0, none⟩ = some (.int .u32 ra) ∧ w'.cell? ⟨H7, 4, none⟩ = some (.int .u32 re)) (go_keep) (fail)
      go_wp2_with fail
      go_region_held3 (fun w' => w'.cell? ⟨H7, 7, none⟩ = some (.int .u32 rh) ∧ w'.cell? ⟨H7, 5, none⟩ = some (.int .u32 rf) ∧ w'.cell? ⟨H7, 6, none⟩ = some (.int .u32 rg) ∧ w'.cell? ⟨H + 1, k, none⟩ = some (.int .u32 kv) ∧ w'.cell? ⟨H, k, none⟩ = some (.int .u32 wv)) (go_keep)
        (first
          | (go_at_call 344; with_reducible refine (down_lit re 6 6 rfl _ le (by omega) (by omega)).mono ?_; rintro e' w' ⟨rfl, rfl⟩)
          | (go_at_call 344; with_reducible refine (down_lit re 11 11 rfl _ le (by omega) (by omega)).mono ?_; rintro e' w' ⟨rfl, rfl⟩)
          | (go_at_call 344; with_reducible refine (down_lit re 25 25 rfl _ le (by omega) (by omega)).mono ?_; rintro e' w' ⟨rfl, rfl⟩))
      go_wp2_with fail
      rw [t1_bits (r := ⟨ra, rb, rc, rd, re, rf, rg, rh⟩) le lf lg kv wv]
      go_region_held3 (fun w' => w'.cell? ⟨H7, 1, none⟩ = some (.int .u32 rb) ∧ w'.cell? ⟨H7, 2, none⟩ = some (.int .u32 rc)) (go_keep)
        (first
          | (go_at_call 344; with_reducible refine (down_lit ra 2 2 rfl _ la (by omega) (by omega)).mono ?_; rintro e' w' ⟨rfl, rfl⟩)
          | (go_at_call 344; with_reducible refine (down_lit ra 13 13 rfl _ la (by omega) (by omega)).mono ?_; rintro e' w' ⟨rfl, rfl⟩)
          | (go_at_call 344; with_reducible refine (down_lit ra 22 22 rfl _ la (by omega) (by omega)).mono ?_; rintro e' w' ⟨rfl, rfl⟩))
      go_upto_region 9 with (fail)
      rw [t2_bits (r := ⟨ra, rb, rc, rd, re, rf, rg, rh⟩) la lb lc]
      have HV := Lib.hid (rnd_cells ⟨ra, rb, rc, rd, re, rf, rg, rh⟩ kv wv)
      simp only at HV
      generalize Sha.t1 ⟨ra, rb, rc, rd, re, rf, rg, rh⟩ kv wv = tt at *
      generalize Sha.t2 ⟨ra, rb, rc, rd, re, rf, rg, rh⟩ = uu at *
      clear ck cw
      go_wp2_with (with_reducible refine wpList_put (o := ⟨none, .store _ (.tmp 7) (.tmp 96), _, _, _, _⟩) rfl 439 (.tmp 7) (.tmp 96) rfl H7 #[.int .u32 (IntKind.u32.wrap ((tt : Int) + uu)), .int .u32 ra, .int .u32 rb, .int .u32 rc, .int .u32 (IntKind.u32.wrap ((rd : Int) + tt)), .int .u32 re, .int .u32 rf, .int .u32 rg] (by with_unfolding_all rfl) (by with_unfolding_all rfl) _ _ (by with_unfolding_all exact HI.out.h7) (eight_info _ _ _ _ _ _ _ _) (eight_size _ _ _ _ _ _ _ _ _) (eight_one _ _ _ _ _ _ _ _) ?_; intro w6 P6)
      rw [HV.out] at P6
      go_wp2
      go_roundw
      case rel => exact ⟨k + 1, by omega, by go_num, by rw [HN.out]; exact ninv_put HI.out (by rfl) P6⟩
      case measure => simp [intOf]; omega
    · have hk64 : k = 64 := by omega
      subst hk64
      have HI := Lib.hid hI
      clear hI
      go_wp2
      have HK := HR.out 64
      have HNX := Lib.hid (show Sha.next s B = Sha.plus s (Sha.rnds Sha.K (Sha.sch B) s 64) from rfl)
      clear HR
      generalize Sha.rnds Sha.K (Sha.sch B) s 64 = r at *
      have HM := Lib.hid (MInv.start HI.out)
      clear HI HB hB hlen hl hbb HS HK
      go_loopw [98] (fun c wr => ∃ k : Nat, k ≤ 8 ∧ c = .int .i64 k ∧ MInv s r w H7 wr k) (fun c wr => 8 - (intOf c).toNat)
      case atStart => exact ⟨0, by omega, rfl, HM.out⟩
      case round =>
        clear HM
        obtain ⟨k, hk, rfl, hI⟩ := hrel
        by_cases hlt : k < 8
        · have cr := cell_row hI.h7 k
          rw [mix_get _ _ _ _ hlt, if_neg (by omega)] at cr
          have cs := cell_row hI.b0 k
          rw [st8_get _ _ hlt] at cs
          have fr := free_row hI.h7 k
          have hne := hI.ne
          have HI := Lib.hid hI
          clear hI
          have k0 : (0 : Int) ≤ (k : Int) := Int.natCast_nonneg _
          have k1 : (k : Int) < 8 := by omega
          generalize hx : at8 r k = x at *
          generalize hy : at8 s k = y at *
          have HX := Lib.hid hx
          have HY := Lib.hid hy
          clear hx hy
          go_wp2
          go_region
          have HV := Lib.hid (show IntKind.u32.wrap ((x : Int) + y) = (((at8 r k + at8 s k) % 4294967296 : Nat) : Int) by rw [HX.out, HY.out, IntKind.wrap_u32]; omega)
          clear cr cs fr
          go_wp2
          go_roundw
          case rel => exact ⟨k + 1, by omega, by go_num, MInv.put HI.out (by omega) HV.out (by rfl)⟩
          case measure => simp [intOf]; omega
        · have hk8 : k = 8 := by omega
          subst hk8
          have HI := Lib.hid hI
          clear hI
          go_wp2_with (first
            | (with_reducible refine wpList_load_row (o := ⟨some 110, _, _, _, _, _⟩) rfl 439 (.tmp 7) rfl H7 rfl 439 (mixV s r 8) (0, 0) _ HI.out.h7 Tryz.underlying439 rfl (mix_info s r 8) ?_)
            | (with_reducible refine wpList_put (o := ⟨none, .store _ (.tmp 4) (.tmp 110), _, _, _, _⟩) rfl 439 (.tmp 4) (.tmp 110) rfl (w.heap.size + 1) (mixV s r 8) rfl rfl _ _ HI.out.b1 (mix_info s r 8) (mix_size8 s r 8) (mix_one s r 8) ?_; intro w7 P7))
          refine bodyPost_ret (v := .agg (mixV s r 8)) (results_cell_row rfl _ _ (w.heap.size + 1) 439 (mixV s r 8) (0, 0) _ rfl P7.at' Tryz.underlying439 rfl (mix_info s r 8)) rfl ⟨by rw [mix_end, HNX.out], HI.out.below.trans (P7.bel _ (by omega))⟩
end Go.Proofs.YtapojfiplajfaaaGreatDoor
