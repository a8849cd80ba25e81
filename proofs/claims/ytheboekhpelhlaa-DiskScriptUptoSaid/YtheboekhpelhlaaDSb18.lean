import Derived.Test.YtheboekhpelhlaaDSb17
namespace Go.Proofs.Ytheboekhpelhlaa
open Go.RowKit
set_option maxRecDepth 100000 in
set_option maxHeartbeats 1600000 in
theorem XV (bb bo len cap : Nat) (hlc : len ≤ cap) (hcap : cap ≤ 9223372036854775807) (R : World → Prop)
    (hc : ∀ wr, R wr → ∀ j, j < cap → ∃ m : Int, wr.cell? ⟨bb, bo + j, none⟩ = some (.int .u8 m) ∧ wr.frozen? ⟨bb, bo + j, none⟩ = false)
    (hs : ∀ wr j m, R wr → j < cap → R (wr.setCell ⟨bb, bo + j, none⟩ (.int .u8 m))) (hd : ∀ wr, R wr → R wr.drew) (w : World) (h0 : R w) :
    Calls Try.prog 13 #[.slice (some ⟨bb, bo, none⟩) len cap] w fun e w' => e = .returned (.tuple #[]) ∧ R w' := by
  go_enter Try.func13, Try.ntmps13
  have z0 : (0 : Int) ≤ (cap : Int) := Int.natCast_nonneg _
  go_wp2
  go_loopw [3] (fun c wr => ∃ k : Nat, k ≤ cap ∧ c = .int .i64 k ∧ R wr) (fun c wr => cap - (intOf c).toNat)
  case atStart => exact ⟨0, by omega, rfl, h0⟩
  case round =>
    obtain ⟨k, hk, rfl, hR⟩ := hrel
    by_cases hlt : k < cap
    · obtain ⟨m, cm, fm⟩ := hc _ hR k hlt
      have k0 : (0 : Int) ≤ (k : Int) := Int.natCast_nonneg _
      have k1 : (k : Int) < (cap : Int) := by omega
      have w0 := IntWalk.i64_in ((k : Int) + 1) ⟨by omega, by omega⟩
      go_wp2
      go_roundw
      case rel => exact ⟨k + 1, by omega, by go_num, hs _ _ _ hR hlt⟩
      case measure => simp [intOf]; omega
    · go_wp2
      (try simp only [Exit.inBlock, Exit.then])
      refine bodyPost_end (results_none rfl _ _ _) rfl ?_
      exact ⟨rfl, hR⟩
set_option maxRecDepth 100000 in
set_option maxHeartbeats 1600000 in
theorem AlN_ (w : World) : Calls Try.prog 13 #[.slice none 0 0] w fun e w' => e = .returned (.tuple #[]) ∧ w' = w := by
  go_enter Try.func13, Try.ntmps13
  go_wp2
  go_loopw [3] (fun c wr => c = .int .i64 0 ∧ wr = w) (fun _ _ => 0)
  case atStart => exact ⟨rfl, rfl⟩
  case round =>
    obtain ⟨rfl, rfl⟩ := hrel
    go_wp2
    (try simp only [Exit.inBlock, Exit.then])
    refine bodyPost_end (results_none rfl _ _ _) rfl ?_
    exact ⟨rfl, rfl⟩
