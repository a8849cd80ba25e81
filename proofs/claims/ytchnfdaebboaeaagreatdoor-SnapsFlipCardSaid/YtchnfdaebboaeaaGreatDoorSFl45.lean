import Derived.Test.YtchnfdaebboaeaaGreatDoorSFl22
import Derived.Test.YtchnfdaebboaeaaGreatDoorSFl24
import Derived.Test.YtchnfdaebboaeaaGreatDoorSFl25
import Derived.Test.YtchnfdaebboaeaaGreatDoorSFl26
import Derived.Test.YtchnfdaebboaeaaGreatDoorSFl27
import Derived.Test.YtchnfdaebboaeaaGreatDoorSFl28
import Derived.Test.YtchnfdaebboaeaaGreatDoorSFl29
import Derived.Test.YtchnfdaebboaeaaGreatDoorSFl30
import Derived.Test.YtchnfdaebboaeaaGreatDoorSFl31
import Derived.Test.YtchnfdaebboaeaaGreatDoorSFl32
import Derived.Test.YtchnfdaebboaeaaGreatDoorSFl33
import Derived.Test.YtchnfdaebboaeaaGreatDoorSFl34
import Derived.Test.YtchnfdaebboaeaaGreatDoorSFl35
import Derived.Test.YtchnfdaebboaeaaGreatDoorSFl36
import Derived.Test.YtchnfdaebboaeaaGreatDoorSFl37
import Derived.Test.YtchnfdaebboaeaaGreatDoorSFl38
import Derived.Test.YtchnfdaebboaeaaGreatDoorSFl39
import Derived.Test.YtchnfdaebboaeaaGreatDoorSFl40
import Derived.Test.YtchnfdaebboaeaaGreatDoorSFl41
import Derived.Test.YtchnfdaebboaeaaGreatDoorSFl42
import Derived.Test.YtchnfdaebboaeaaGreatDoorSFl43
import Derived.Test.YtchnfdaebboaeaaGreatDoorSFl44
import Derived.ChangeCalls
namespace Go.Proofs.YtchnfdaebboaeaaGreatDoor.Am
open Go.RowKit
noncomputable def headNe (k b : Nat) : Bool := (fun m => m.length == 16 && !(m == (tabF k).drop 5)) (aggB (Ft (AO (Be k) b)))
noncomputable def headsNe (k lo : Nat) : Bool := (List.range' lo 20).all fun b => headNe k b
theorem Bn_ : headsNe 0 0 = true := by kernel_rfl
theorem AE_ : headsNe 0 20 = true := by kernel_rfl
theorem Ew_ : headsNe 1 0 = true := by kernel_rfl
theorem Gw_ : headsNe 1 20 = true := by kernel_rfl
theorem S0 : headsNe 2 0 = true := by kernel_rfl
theorem YP : headsNe 2 20 = true := by kernel_rfl
theorem X5 : headsNe 3 0 = true := by kernel_rfl
theorem Ea_ : headsNe 3 20 = true := by kernel_rfl
theorem Hg_ : headsNe 4 0 = true := by kernel_rfl
theorem Ev_ : headsNe 4 20 = true := by kernel_rfl
theorem Ux : headsNe 5 0 = true := by kernel_rfl
theorem Fs_ : headsNe 5 20 = true := by kernel_rfl
theorem Bs_ {k b : Nat} (hk : k < 6) (hb : b < 40) : headNe k b = true := by
 have key : ∀ lo, headsNe k lo = true → lo ≤ b → b < lo + 20 → headNe k b = true := fun lo h h1 h2 => by
   unfold headsNe at h
   exact List.all_eq_true.1 h b (List.mem_range'_1.2 ⟨h1, h2⟩)
 rcases Nat.lt_or_ge b 20 with h | h
 · refine key 0 ?_ (Nat.zero_le _) (by omega)
   rcases (show k = 0 ∨ k = 1 ∨ k = 2 ∨ k = 3 ∨ k = 4 ∨ k = 5 by omega) with rfl | rfl | rfl | rfl | rfl | rfl
   · exact Bn_
   · exact Ew_
   · exact S0
   · exact X5
   · exact Hg_
   · exact Ux
 · refine key 20 ?_ h (by omega)
   rcases (show k = 0 ∨ k = 1 ∨ k = 2 ∨ k = 3 ∨ k = 4 ∨ k = 5 by omega) with rfl | rfl | rfl | rfl | rfl | rfl
   · exact AE_
   · exact Gw_
   · exact YP
   · exact Ea_
   · exact Ev_
   · exact Fs_
theorem U0 (k : Nat) {b : Nat} (hk : k < 6) (h2 : b < 168) : idB ((AO (AT k) b).take 5) ≠ (AO (AT k) b).drop 5 := by
 rcases Nat.lt_or_ge b 40 with h | h
 · have hl : (Be k).length = 5 := rfl
   have e0 : (AT k).getD (b / 8) 0 = (Be k).getD (b / 8) 0 := by
     unfold AT
     rw [List.getD_eq_getElem?_getD, List.getD_eq_getElem?_getD, List.getElem?_append_left (by omega)]
   have e1 : (AO (AT k) b).take 5 = AO (Be k) b := by
     unfold AO
     rw [List.take_set, e0]
     rfl
   have e2 : (AO (AT k) b).drop 5 = idB (Be k) := by
     unfold AO
     rw [List.drop_set, if_pos (by omega)]
     rfl
   rw [e1, e2, Kr k hk]
   have hn := Bs_ hk h
   have hm : Byt (AO (Be k) b) := fun x hx => by
     unfold AO at hx
     rcases List.mem_or_eq_of_mem_set hx with h | h
     · exact L9 k hk x h
     · rw [h]
       exact Nat.xor_lt_two_pow (n := 8) (Er (L9 k hk) _) (Nat.pow_lt_pow_right (by decide) (Nat.mod_lt _ (by decide)))
   unfold headNe at hn
   generalize hq : aggB (Ft (AO (Be k) b)) = m at hn
   rw [Bool.and_eq_true, beq_iff_eq, Bool.not_eq_true'] at hn
   have := OY ((CQ _ _).trans hl) hm hq (fun e => by rw [e] at hn; exact absurd hn.1 (by decide))
   rw [this]
   exact beq_eq_false_iff_ne.1 hn.2
 · exact Rv k h h2
open Go.RowKit Go.ChangeShapes Go.WideShapes
theorem Wh {p q : Nat} (hp : p < 6) (hq : q ≤ p) : Bi p q = some (.bool true) := by
 match p, q, hp, hq with
 | 0, 0, _, _ => exact EW_
 | 1, 0, _, _ => exact Wn
 | 1, 1, _, _ => exact SY
 | 2, 0, _, _ => exact Xw
 | 2, 1, _, _ => exact Cx_
 | 2, 2, _, _ => exact SU
 | 3, 0, _, _ => exact YJ
 | 3, 1, _, _ => exact YO
 | 3, 2, _, _ => exact Eh_
 | 3, 3, _, _ => exact Tq
 | 4, 0, _, _ => exact AR_
 | 4, 1, _, _ => exact Cg_
 | 4, 2, _, _ => exact BO_
 | 4, 3, _, _ => exact Gy_
 | 4, 4, _, _ => exact SQ
 | 5, 0, _, _ => exact Gu_
 | 5, 1, _, _ => exact UE
 | 5, 2, _, _ => exact DW_
 | 5, 3, _, _ => exact BV_
 | 5, 4, _, _ => exact Ap_
 | 5, 5, _, _ => exact Va
 | 0, q + 1, _, h | 1, q + 2, _, h | 2, q + 3, _, h | 3, q + 4, _, h | 4, q + 5, _, h | 5, q + 6, _, h => omega
 | p + 6, _, h, _ => omega
theorem Cd_ {P : Program} {w : World} {rc : Reach} {base t : Nat} {v : Value} (hu : P.underlying t = some (.int .i64)) (h : Value.okWide P w rc base t v) : ∃ n, v = .int .i64 n := by
 unfold Value.okWide at h
 rw [hu] at h
 simp only at h
 unfold Cell.okWide Cell.ok at h
 rw [hu] at h
 cases v <;> simp at h
 rename_i k n
 obtain ⟨rfl, _⟩ := h
 exact ⟨n, rfl⟩
theorem Zd : Tryz.f4.params = #[3, 3, 3] := by kernel_rfl
theorem XY : Tryz.prog.underlying 3 = some (.int .i64) := by kernel_rfl
theorem Mg {K : Know} {b : Nat} {x : Int} (h : K.nv b = (.i64, x)) : VR (.nil K) (.complex .f32 6 b) (.int .i64 x) := .complex (by
 show Value.int .i64 x = .int (K.nv b).1 (K.nv b).2
 rw [h])
theorem GE_ : envT.P = Tryz.prog := by kernel_rfl
theorem Cs_ {E : Env} (he : EnvOK E) {P : Program} (hP : E.P = P) {fuel n f : Nat} {args : List Value} {v : Value} (h : valR (JP E fuel n f args st0) = some v) (hp : plain v = true) {args' : Array Value} {K : Know} (ha : VRs (.nil K) args args'.toList) (w : World) (hK : K.sure w) :
   Calls P f args' w fun e w' => e = .returned v ∧ Below w.heap.size w w' := by
 subst hP
 exact X0 he h hp ha w hK
theorem WM (a b c : Int) {p q bit : Nat} (hp : a % 6 = (p : Int)) (hq : b % ((p + 1 : Nat) : Int) = (q : Int)) (hbit : c % 168 = (bit : Int)) (hp6 : p < 6) (hqp : q ≤ p) (hb : bit < 168) : ∃ nv, BU nv ∧ nv (10000 + p) = (.i64, a) ∧ nv (20000 + 10 * (p + 1) + q) = (.i64, b) ∧ nv (30000 + q) = (.i64, c) := by
 refine ⟨nvOf (fun _ => bit) (fun _ => c) (fun x => if x = 10000 + p then a else (x : Int) - 10000) (fun x => if x = 20000 + 10 * (p + 1) + q then b else (((x - 20000) % 10 : Nat) : Int)), Sz (fun k hk => ⟨hb, hbit, U0 k hk hb⟩) (fun r hr => ?_) (fun m hm r hr => ?_), ?_, ?_, ?_⟩
 · by_cases e : r = p
   · rw [if_pos (by omega), e, hp]
   · rw [if_neg (by omega)]
     omega
 · by_cases e : 20000 + 10 * m + r = 20000 + 10 * (p + 1) + q
   · have e1 : m = p + 1 := by omega
     have e2 : r = q := by omega
     rw [if_pos e, e1, e2, hq]
   · rw [if_neg e]
     have e1 : (20000 + 10 * m + r - 20000) % 10 = r := by omega
     rw [e1]
     exact Int.emod_eq_of_lt (by omega) (by omega)
 · unfold nvOf
   rw [if_pos (by omega)]
   dsimp only
   rw [if_pos rfl]
 · unfold nvOf
   rw [if_neg (by omega), if_pos (by omega)]
   dsimp only
   rw [if_pos rfl]
 · unfold nvOf
   rw [if_neg (by omega), if_neg (by omega), if_pos (by omega)]
theorem Bf_ : plain (.bool true) = true := by kernel_rfl
set_option maxRecDepth 1000000 in
theorem BL_ (a b c : Int) (w : World) : Calls Tryz.prog 4 #[.int .i64 a, .int .i64 b, .int .i64 c] w fun e w' => e = .returned (.bool true) ∧ Below w.heap.size w w' := by
 obtain ⟨p, hp⟩ : ∃ p : Nat, a % 6 = (p : Int) := ⟨(a % 6).toNat, by omega⟩
 obtain ⟨q, hq⟩ : ∃ q : Nat, b % ((p + 1 : Nat) : Int) = (q : Int) := ⟨(b % ((p + 1 : Nat) : Int)).toNat, by
   have := Int.emod_nonneg b (b := ((p + 1 : Nat) : Int)) (by omega)
   omega⟩
 obtain ⟨bit, hbit⟩ : ∃ bit : Nat, c % 168 = (bit : Int) := ⟨(c % 168).toNat, by omega⟩
 have hp6 : p < 6 := by omega
 have hqp : q ≤ p := by
   have := Int.emod_lt_of_pos b (b := ((p + 1 : Nat) : Int)) (by omega)
   omega
 have hb : bit < 168 := by omega
 obtain ⟨nv, hs, n1, n2, n3⟩ := WM a b c hp hq hbit hp6 hqp hb
 have hr := Wh hp6 hqp
 unfold Bi O7 at hr
 exact Cs_ XF GE_ hr (v := .bool true) Bf_ (K := ⟨fun _ => .nilFunc, nv⟩) (.cons (Mg n1) (.cons (Mg n2) (.cons (Mg n3) .nil))) w ⟨(fun b p n c e => by cases e), hs⟩
section
attribute [local irreducible] Value.okWide
set_option maxRecDepth 1000000 in
theorem walkFlipS {H : Type} {enc : TypeId × Value → H} {w : World} {base : Nat} {args : Array Value} {ds : List (DataW H)} {ps : List MemPlace} (hA : DataW.TrodAll enc Tryz.prog w 0 (fun _ => true) true Tryz.f4.params.toList args.toList ds ps)
   (hv : ∀ (j : Nat) t v, Tryz.f4.params[j]? = some t → args[j]? = some v → Value.okWide Tryz.prog w .any base t v) : Calls Tryz.prog 4 args w fun e w' => e = .returned (.bool true) ∧ Below w.heap.size w w' := by
 have hl := (trodAll_length hA).1
 rw [Zd] at hl hv
 have hi : ∀ (j : Nat) v, j < 3 → args.toList[j]? = some v → ∃ n, v = .int .i64 n := fun j v hj e => by
   have e' : args[j]? = some v := by rw [← Array.getElem?_toList]; exact e
   exact Cd_ XY (hv j 3 v (by
     rcases (show j = 0 ∨ j = 1 ∨ j = 2 by omega) with h | h | h <;> rw [h] <;> rfl) e')
 clear hA hv
 obtain ⟨l⟩ := args
 have hl3 : l.length = 3 := hl
 match l, hl3, hi with
 | [x, y, z], _, hi =>
   obtain ⟨a, ea⟩ := hi 0 x (by decide) rfl
   obtain ⟨b, eb⟩ := hi 1 y (by decide) rfl
   obtain ⟨c, ec⟩ := hi 2 z (by decide) rfl
   rw [ea, eb, ec]
   exact BL_ a b c w
end
end Go.Proofs.YtchnfdaebboaeaaGreatDoor.Am
