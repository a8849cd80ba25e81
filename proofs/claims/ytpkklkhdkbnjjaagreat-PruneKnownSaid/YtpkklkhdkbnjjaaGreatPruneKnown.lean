/- The Go law PruneKnown answers true, from every world: the evaluator's run of it, checked by the kernel. Conditions: none. -/
import Derived.Test.YtpkklkhdkbnjjaaGreatRows
import Derived.Test.YtpkklkhdkbnjjaaGreatAmExt
import Derived.Test.YtpkklkhdkbnjjaaGreatUsedOrc
import Derived.Test.YtpkklkhdkbnjjaaGreatSorted
import Derived.Test.YtpkklkhdkbnjjaaGreatSortedI
import Derived.Test.YtpkklkhdkbnjjaaGreatShaOrc
import Derived.Test.YtpkklkhdkbnjjaaGreatMoreOrc
import Derived.WalkKit
import Derived.ProofKit
import Derived.OpenShut
import Derived.ChangeSame
namespace Go.Proofs.YtpkklkhdkbnjjaaGreat.pruneKnown
open Go.ChangeShapes Go.WideShapes Go.ChangeAt Go.RowKit

theorem own : ownKnob Tryz.prog.godebug = none := by kernel_rfl
noncomputable def envC26 : Am.Env := Am.envOf Tryz.prog (Am.T.set (Am.T.set (Am.T.set (Am.T.set (Am.T.set (Am.T.set (Am.T.set .E 129 (Am.usedM)) 74 (Am.keysM 124)) 73 (Am.sortedM 124)) 43 (Am.keysM 90)) 42 (Am.sortedIM 90)) 155 (Am.nextM)) 162 (Am.moreM)) (Am.T.set .E 176 Am.add64)
theorem envC26_ok : Am.EnvOK envC26 := Am.envOf_all Tryz.prog (by kernel_rfl) ((((((((Am.OrcT.E _).set (Am.orc_used)).set (Am.orc_keys)).set (Am.orc_sorted)).set (Am.orc_keysI)).set (Am.orc_sortedI)).set (Am.orc_next)).set (Am.orc_more)) ((Am.ExtT.E _).set (Am.ext_add64 Tryz.func176 (by kernel_rfl) (by kernel_rfl) (by kernel_rfl) (by kernel_rfl)))
theorem c26_run : Am.valR (Am.callF envC26 1000000 26 [] Am.st0) = some (.bool true) := by kernel_rfl
noncomputable def env1 : Am.Env := Am.envOf Tryz.prog (Am.T.set (Am.T.set (Am.T.set (Am.T.set (Am.T.set (Am.T.set (Am.T.set (Am.T.set .E 129 (Am.usedM)) 74 (Am.keysM 124)) 73 (Am.sortedM 124)) 43 (Am.keysM 90)) 42 (Am.sortedIM 90)) 155 (Am.nextM)) 162 (Am.moreM)) 26 (Am.closedM (.bool true))) (Am.T.set .E 176 Am.add64)
theorem env1_ok : Am.EnvOK env1 := Am.envOf_all Tryz.prog (by kernel_rfl) (((((((((Am.OrcT.E _).set (Am.orc_used)).set (Am.orc_keys)).set (Am.orc_sorted)).set (Am.orc_keysI)).set (Am.orc_sortedI)).set (Am.orc_next)).set (Am.orc_more)).set (Am.orc_closed envC26_ok (by kernel_rfl) (by kernel_rfl) c26_run rfl)) ((Am.ExtT.E _).set (Am.ext_add64 Tryz.func176 (by kernel_rfl) (by kernel_rfl) (by kernel_rfl) (by kernel_rfl)))
theorem run : Am.valR (Am.callF env1 1000000 6 [] Am.st0) = some (.bool true) := by kernel_rfl
theorem walk (w : World) : Calls Tryz.prog 6 #[] w fun e w' => e = .returned (.bool true) ∧ Below w.heap.size w w' := Am.calls_of env1_ok (by kernel_rfl) (by kernel_rfl) run rfl w

/-- Of what lay there nothing has turned: the row's last step. -/
theorem post_kept {H : Type} {enc : TypeId × Value → H} {P : Program} {f : Func} {s : ChangeSpec} {apart fresh handsOn again : Bool} {W W' : World} {args : Array Value} {v : Value} {ds gs : List (DataW H)} {before pa pv : List MemPlace}
    (hW : DataW.Whole enc P f.params.toList s.vars apart W args.toList ds gs before)
    (hr : ∀ (b : Nat) (sp : Nat → Bool) (hd : Bool), DataW.TrodAll enc P W' b sp hd f.resultTypes.toList (v.resultList f.resultTypes.size) (s.fn H (ds ++ gs)).results [])
    (ha : ∀ sp : Nat → Bool, (∀ p ∈ before, sp p.block = true) → DataW.TrodAll enc P W' 0 sp true f.params.toList args.toList (s.fn H (ds ++ gs)).args pa)
    (hv : ∀ sp : Nat → Bool, (∀ p ∈ before, sp p.block = true) → DataW.TrodVars enc P W' sp s.vars (s.fn H (ds ++ gs)).vars pv)
    (hps : before = pa ++ pv) (hb : Below W.heap.size W W')
    (hok : ∀ (j : Nat) (t : TypeId) (r : Value), f.resultTypes[j]? = some t → (v.resultList f.resultTypes.size)[j]? = some r → Value.okWide P W' .any 0 t r) :
    s.post enc P f apart fresh handsOn again W args v W' := by
  have lt : ∀ p ∈ before, p.block < W.heap.size := fun p hp => hW.lt p hp
  have lo : ∀ p ∈ before, (fun b => decide (b < W.heap.size)) p.block = true := fun p hp => by simpa using lt p hp
  refine ⟨ds, gs, before, [], pa, pv, hW, hr _ _ _, ha _ lo, hv _ lo, World.keptBut_mono (fun p hp => ⟨hp, ?_⟩) (hb.frame (· ∈ before)), fun _ => ?_⟩
  · rw [hps, List.mem_append] at hp
    exact Or.inr hp
  · obtain ⟨_, _, _, _, _, hz, hn⟩ := hW
    refine ⟨hok, _, _, ([] ++ pa) ++ pv, ⟨[] ++ pa, pv, trodAll_append (ha _ (fun _ _ => rfl)) (hr _ _ _), hv _ (fun _ _ => rfl), rfl, ?_, ?_⟩, ?_⟩
    · intro b off hp
      have hin : MemPlace.cell b off ∈ before := by rw [hps]; simpa using hp
      rw [hb.frozen (lt _ hin)]
      exact hz b off hin
    · intro h
      have := hn h
      rw [hps] at this
      simpa using this
    · intro p hp _
      rw [hps]
      simpa using hp

set_option maxRecDepth 100000 in
theorem lifted (os : Os) (started : os.Started) (H : Type) (enc : TypeId × Value → H) :
    ReturnsInHanded {} Tryz.checked os 6 .any (Rows.pruneKnownSpec.pre6 enc Tryz.prog Tryz.f6 Rows.pruneKnownRow.domain false) (Rows.pruneKnownSpec.post enc Tryz.prog Tryz.f6 false true false false) := by
  refine returnsInHanded_of_change (C := Tryz.checked) own started (by kernel_rfl) Tryz.func6
    (ChangeSpec.witness6 (enc := enc) (C := Tryz.checked) false ⟨#[], #[], []⟩ 8 (by kernel_rfl) (by kernel_rfl) (by kernel_rfl) (by kernel_rfl)) ?_
  intro W base args ds gs before hval0 hW hcnd _
  have hW' := hW
  obtain ⟨p, q, hA0, hV, rfl, hfz, hnd⟩ := hW
  have hA : DataW.TrodAll enc Tryz.prog W 0 (fun _ => true) true Tryz.f6.params.toList args.toList ds p := hA0
  rw [Tryz.params6] at hA
  obtain ⟨rfl, rfl, rfl⟩ := trodAll_none hA
  obtain ⟨rfl, rfl⟩ := trodVars_none hV
  clear hA0 hval0
  simp only [List.append_nil] at hW'
  refine (walk W).mono fun e W' ⟨he, hg⟩ => ?_
  subst he
  exact ⟨_, rfl, post_kept (pa := []) (pv := []) hW' (fun _ _ _ => (trodAll_cons_mk (shut_bool Tryz.underlying4 _) trodAll_mk0)) (fun sp _ => rfl) (fun _ _ => rfl) rfl
    hg (ok_one (by kernel_rfl) rfl (okWide_bool_mk Tryz.underlying4 _))⟩

theorem over : Rows.pruneKnownRow.holds Tryz.pinned (OpenSpec.ofChange Rows.pruneKnownSpec) :=
  OpenClaim.holds_of_wide 6 Tryz.f6 rfl rfl rfl rfl rfl rfl rfl ⟨rfl, rfl, rfl, rfl, rfl⟩ rfl rfl rfl rfl rfl (by kernel_rfl) Tryz.func6 (by kernel_rfl)
    (of_decide_eq_true (by kernel_rfl)) (by unfold Func.isWrapper; first | (rw [if_pos (by decide +kernel)]; kernel_rfl) | (rw [if_neg (by decide +kernel)]; exact ⟨rfl, rfl⟩))
    (fun os started H enc _ => lifted os started H enc)

/-- The statement. -/
theorem proved : Rows.PruneKnownSaid :=
  over
#print axioms proved
end Go.Proofs.YtpkklkhdkbnjjaaGreat.pruneKnown
