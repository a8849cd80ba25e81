/- The Go law WorldKnown answers true, from every world: the evaluator's run of it, checked by the kernel. Conditions: none. -/
import Derived.Test.YtapojfiplajfaaaGreatDoorCards
import Derived.Test.YtapojfiplajfaaaGreatDoorWkn01
import Derived.Test.YtapojfiplajfaaaGreatDoorWkn02
import Derived.Test.YtapojfiplajfaaaGreatDoorWkn09
import Derived.Test.YtapojfiplajfaaaGreatDoorWkn11
import Derived.Test.YtapojfiplajfaaaGreatDoorWkn14
import Derived.Test.YtapojfiplajfaaaGreatDoorWkn15
import Derived.Test.YtapojfiplajfaaaGreatDoorWkn16
import Derived.Test.YtapojfiplajfaaaGreatDoorWkn29
import Derived.Test.YtapojfiplajfaaaGreatDoorWkn17
import Derived.Test.YtapojfiplajfaaaGreatDoorWkn18
import Derived.Test.YtapojfiplajfaaaGreatDoorWkn19
import Derived.Test.YtapojfiplajfaaaGreatDoorWkn34
import Derived.Test.YtapojfiplajfaaaGreatDoorWkn35
import Derived.Test.YtapojfiplajfaaaGreatDoorWkn24
import Derived.WalkKit
import Derived.ProofKit
import Derived.OpenShut
import Derived.ChangeSame
import Derived.LaidMore
import Derived.Stop.Joined
import Derived.SevenTiedAt
namespace Go.Proofs.YtapojfiplajfaaaGreatDoor.worldKnown
open Go Go.ChangeShapes Go.WideShapes Go.ChangeAt Go.RowKit
open awake

theorem own : ownKnob Tryz.prog.godebug = none := by kernel_rfl
noncomputable def env1 : Am.Env := Am.envOf Tryz.prog (Am.T.set (Am.T.set (Am.T.set (Am.T.set (Am.T.set (Am.T.set (Am.T.set (Am.T.set (Am.T.set (Am.T.set (Am.T.set .E 174 (Am.usedM)) 92 (Am.keysM 144)) 91 (Am.sortedM 144)) 121 (Am.keysM 172)) 426 (Am.keysM 440)) 276 (Am.nextM)) 311 (Am.moreM)) 39 (Am.memo39)) 120 (Am.elseM (Am.isClo 172) (Am.sortedIM 172) envE120x172 1000000 120)) 120 (Am.elseM (Am.isClo 440) (Am.sortedIM 440) envE120x440 1000000 120)) 11 (Am.closedM (.bool true))) (Am.T.set (Am.T.set (Am.T.set (Am.T.set (Am.T.set (Am.T.set (Am.T.set .E 292 Am.add64) 357 Am.idxS) 621 Am.ceilX) 624 Am.floorX) 631 Am.truncX) 619 Am.bitsX) 618 Am.fromX)
theorem env1_ok : Am.EnvOK env1 := Am.envOf_all Tryz.prog (by kernel_rfl) ((((((((((((Am.OrcT.E _).set (Am.orc_used)).set (Am.orc_keys)).set (Am.orc_sorted)).set (Am.orc_keysI)).set (Am.orc_keysJ)).set (Am.orc_next)).set (Am.orc_more)).set (Am.orc_memo39)).set (Am.orc_else envE120x172_ok 1000000 120 (by kernel_rfl) (Am.isClo 172) Am.orc_sortedI)).set (Am.orc_else envE120x440_ok 1000000 120 (by kernel_rfl) (Am.isClo 440) Am.orc_sortedJ)).set (Am.orc_closed envC11_ok (by kernel_rfl) (by kernel_rfl) c11_run rfl)) ((((((((Am.ExtT.E _).set (Am.ext_add64 Tryz.func292 (by kernel_rfl) (by kernel_rfl) (by kernel_rfl) (by kernel_rfl))).set (Am.ext_idxS Tryz.func357 (by kernel_rfl) (by kernel_rfl) (by kernel_rfl) (by kernel_rfl))).set (Am.ext_ceil Tryz.func621 (by kernel_rfl) (by kernel_rfl) (by kernel_rfl) (by kernel_rfl))).set (Am.ext_floor Tryz.func624 (by kernel_rfl) (by kernel_rfl) (by kernel_rfl) (by kernel_rfl))).set (Am.ext_trunc Tryz.func631 (by kernel_rfl) (by kernel_rfl) (by kernel_rfl) (by kernel_rfl))).set (Am.ext_bits Tryz.func619 (by kernel_rfl) (by kernel_rfl) (by kernel_rfl) (by kernel_rfl))).set (Am.ext_fromb Tryz.func618 (by kernel_rfl) (by kernel_rfl) (by kernel_rfl) (by kernel_rfl)))
theorem run : Am.valR (Am.callF env1 1000000 3 [] Am.st0) = some (.bool true) := by kernel_rfl
theorem walk (w : World) : Calls Tryz.prog 3 #[] w fun e w' => e = .returned (.bool true) ∧ Below w.heap.size w w' := Am.calls_of env1_ok (by kernel_rfl) (by kernel_rfl) run rfl w

/-- Of what lay there nothing has turned: the row's last step. -/
theorem post_kept {H : Type} {enc : TypeId × Value → H} {P : Program} {f : Func} {s : ChangeSpec} {apart fresh handsOn again : Bool} {W W' : World} {args : Array Value} {v : Value} {ds gs : List (DataW H)} {before pa pv : List MemPlace}
    (hW : DataW.Whole enc P f.params.toList s.vars apart W args.toList ds gs before)
    (hr : ∀ (b : Nat) (sp : Nat → Bool) (hd : Bool), DataW.TrodAll enc P W' b sp hd f.resultTypes.toList (v.resultList f.resultTypes.size) (s.fn H (ds ++ gs)).results [])
    (ha : ∀ sp : Nat → Bool, (∀ p ∈ before, sp p.block = true) → DataW.TrodAll enc P W' 0 sp true f.params.toList args.toList (s.fn H (ds ++ gs)).args pa)
    (hv : ∀ sp : Nat → Bool, (∀ p ∈ before, sp p.block = true) → DataW.TrodVars enc P W' sp s.vars (s.fn H (ds ++ gs)).vars pv)
    (hps : before = pa ++ pv) (hb : Below W.heap.size W W')
    (hok : ∀ (j : Nat) (t : TypeId) (r : Value), f.resultTypes[j]? = some t → (v.resultList f.resultTypes.size)[j]? = some r → Value.okWide P W' .any 0 t r) :
    s.post enc P f apart fresh handsOn again W args v W' := by
  have lt : ∀ p ∈ before, p.block < W.heap.size := fun p hp => hW.lt p hp
  have lo : ∀ p ∈ before, (fun b => decide (b < W.heap.size)) p.block = true := fun p hp => by simpa using lt p hp
  refine ⟨ds, gs, before, [], pa, pv, hW, hr _ _ _, ha _ lo, hv _ lo, World.keptBut_mono (fun p hp => ⟨hp, ?_⟩) (hb.frame (· ∈ before)), fun _ => ?_⟩
  · rw [hps, List.mem_append] at hp
    exact Or.inr hp
  · obtain ⟨_, _, _, _, _, hz, hn⟩ := hW
    refine ⟨hok, _, _, ([] ++ pa) ++ pv, ⟨[] ++ pa, pv, trodAll_append (ha _ (fun _ _ => rfl)) (hr _ _ _), hv _ (fun _ _ => rfl), rfl, ?_, ?_⟩, ?_⟩
    · intro b off hp
      have hin : MemPlace.cell b off ∈ before := by rw [hps]; simpa using hp
      rw [hb.frozen (lt _ hin)]
      exact hz b off hin
    · intro h
      have := hn h
      rw [hps] at this
      simpa using this
    · intro p hp _
      rw [hps]
      simpa using hp

/-- The door's own heap meets the condition. -/
theorem door_met (os : Os) (args : Array Value) : laidMetH Tryz.prog Rows.worldKnownRow.laid ((World.doorLaid Tryz.prog 400 os).forCall (fun _ _ => 0) ⟨#[], args, []⟩).memory :=
  laidMetH_of_parts3 (fuel := 8) (laidMet_of_run' 8 (by kernel_rfl) (by kernel_rfl)) (by kernel_rfl) (by kernel_rfl)
set_option maxRecDepth 100000 in
theorem lifted (os : Os) (started : os.Started) (H : Type) (enc : TypeId × Value → H) :
    ReturnsInHanded {} Tryz.checked os 3 .any (fun w args => (Rows.worldKnownSpec.pre enc Tryz.prog Tryz.f3 [] false w args ∧ laidMetH Tryz.prog Rows.worldKnownRow.laid w) ∧ sizedMet enc Tryz.prog Tryz.f3 (OpenSpec.ofChange Rows.worldKnownSpec) false w args)
      (Rows.worldKnownSpec.post enc Tryz.prog Tryz.f3 false true false false) := by
  refine returnsInHanded_of_change_and (C := Tryz.checked) (X := fun w _ => laidMetH Tryz.prog Rows.worldKnownRow.laid w) (fun _ _ _ hh h => h.of_heap hh) own started (by kernel_rfl) Tryz.func3
    (ChangeSpec.witness_shaped (enc := enc) (C := Tryz.checked) (os := os) (X := fun w _ => laidMetH Tryz.prog Rows.worldKnownRow.laid w) false (World.doorLaid Tryz.prog 400 os) #[] 8 rfl (World.shaped_of_RefB (by kernel_rfl) (by kernel_rfl)) (by kernel_rfl) (by kernel_rfl) (by kernel_rfl) (door_met os _)) ?_
  intro W base args ds gs before hval0 hW hcnd _ _ _
  have hW' := hW
  obtain ⟨p, q, hA0, hV, rfl, hfz, hnd⟩ := hW
  have hA : DataW.TrodAll enc Tryz.prog W 0 (fun _ => true) true Tryz.f3.params.toList args.toList ds p := hA0
  rw [Tryz.params3] at hA
  obtain ⟨rfl, rfl, rfl⟩ := trodAll_none hA
  obtain ⟨rfl, rfl⟩ := trodVars_none hV
  clear hA0 hval0
  simp only [List.append_nil] at hW'
  refine (walk W).mono fun e W' ⟨he, hg⟩ => ?_
  subst he
  exact ⟨_, rfl, post_kept (pa := []) (pv := []) hW' (fun _ _ _ => (trodAll_cons_mk (shut_bool Tryz.underlying4 _) trodAll_mk0)) (fun sp _ => rfl) (fun _ _ => rfl) rfl
    hg (ok_one (by kernel_rfl) rfl (okWide_bool_mk Tryz.underlying4 _))⟩

theorem over : Rows.worldKnownRow.holds Tryz.pinned (OpenSpec.ofChange Rows.worldKnownSpec) :=
  OpenClaim.holds_of_wide 3 Tryz.f3 rfl rfl rfl rfl rfl rfl rfl ⟨rfl, rfl, rfl, rfl, rfl⟩ rfl rfl rfl rfl rfl named Tryz.func3 facts
    (of_decide_eq_true (by kernel_rfl)) (by unfold Func.isWrapper; first | (rw [if_pos (by decide +kernel)]; kernel_rfl) | (rw [if_neg (by decide +kernel)]; exact ⟨rfl, rfl⟩))
    (fun os started H enc _ => lifted os started H enc)

/-- The statement, with what it lists tied to the program's text. -/
theorem proved : Rows.WorldKnownCardSaid :=
  Claim7.holds_tied_plain_at .later [] [.sentinel, .sentinel, .data, .data, .data] true (true, "30f475c74fc586d33aea00b6e466e7e1a818e5081ec768cc2ada417cfc8b5f65") true
    over (fun _ h => by cases h) wfText (fun _ h => by cases h) worldKnown_row_tie rfl ⟨rfl, rfl⟩ mainSays rfl
    (fun f fn hf hfn => by
      obtain rfl : f = 3 := Option.some.inj ((show Tryz.prog.funcNamed Rows.worldKnownRow.func = some 3 from named).symm.trans hf) |>.symm
      obtain rfl : fn = Tryz.f3 := (Option.some.inj (Tryz.func3.symm.trans hfn)).symm
      exact ⟨looked, fun j t ht => by rw [Tryz.params3] at ht; simp at ht⟩)
    goes
#print axioms proved
end Go.Proofs.YtapojfiplajfaaaGreatDoor.worldKnown
