/- The closed facts of the row of SnapsNone, each by the kernel. Conditions: none. -/
import Derived.Test.YtbmkpcjkadifhaaGreatDoorCards
import Derived.Test.YtbmkpcjkadifhaaGreatDoorTie
import Derived.Test.YtbmkpcjkadifhaaGreatDoorRows
import Derived.JoinedOf
import Derived.KernelRfl
namespace Go.Proofs.YtbmkpcjkadifhaaGreatDoor.snapsNone
open Go
theorem band {a b : Bool} (h : a = true) (k : b = true) : (a && b) = true := by rw [h, k]; rfl
theorem limb0 : (Rows.snapsNoneRow.wf (OpenSpec.ofChange Rows.snapsNoneSpec)) = true := by kernel_rfl
theorem limb1 : (laidOutB Tryz.prog) = true := by kernel_rfl
theorem limb2 : (mapsRowed Tryz.prog) = true := by kernel_rfl
theorem limb3 : (Tryz.f3.params.all (Tryz.prog.readableRec ·)) = true := by kernel_rfl
theorem limb4 : (namedTie Tryz.prog Rows.snapsNoneRow.named Rows.snapsNoneSpec.vars) = true := by kernel_rfl
theorem limb5 : (Rows.snapsNoneRow.stops == []) = true := by kernel_rfl
theorem limb6 : (Tryz.prog.stops == []) = true := by kernel_rfl
theorem limb7 : (Rows.snapsNoneRow.knobs == []) = true := by kernel_rfl
theorem limb8 : (Tryz.prog.stopKnobs == []) = true := by kernel_rfl
theorem limb9 : (Rows.snapsNoneRow.inPlace == Tryz.prog.inPlace 3) = true := by kernel_rfl
theorem limb10 : (Rows.snapsNoneRow.unfollowed == Tryz.prog.unfollowed 3) = true := by kernel_rfl
theorem limb11 : (Rows.snapsNoneRow.recurses == Tryz.prog.recurses 3) = true := by kernel_rfl
theorem limb12 : (Rows.snapsNoneRow.named == Tryz.prog.varsNamed 3) = true := by kernel_rfl
theorem limb13 : (Rows.snapsNoneRow.plainKeys == Tryz.prog.plainKeys) = true := by kernel_rfl
theorem limb14 : Tryz.prog.stopsHeard = true := by kernel_rfl
theorem limb15 : Tryz.prog.mayEnter = true := by kernel_rfl
theorem limb16 : (Rows.snapsNoneRow.lifted == Tryz.prog.liftsFinal) = true := by kernel_rfl
set_option maxRecDepth 100000 in
theorem facts : joinedFacts Tryz.prog 3 Tryz.f3 Rows.snapsNoneSpec Rows.snapsNoneRow = true := by
  unfold joinedFacts
  refine band (band (band (band (band (band (band (band (band (band (band (band (band (band (band (band (band (band (band (band (band (band (band (band (band (band (band (band (band (band (band ?_ ?_) ?_) ?_) ?_) ?_) ?_) ?_) ?_) ?_) ?_) ?_) ?_) ?_) ?_) ?_) ?_) ?_) ?_) ?_) ?_) ?_) ?_) ?_) ?_) ?_) ?_) ?_) ?_) ?_) ?_) ?_
  · exact limb0
  · exact limb1
  · exact limb2
  · exact limb3
  · exact limb4
  · exact limb5
  · exact limb6
  · exact limb7
  · exact limb8
  · exact limb9
  · exact limb10
  · exact limb11
  · exact limb12
  · kernel_rfl
  · kernel_rfl
  · kernel_rfl
  · kernel_rfl
  · kernel_rfl
  · kernel_rfl
  · kernel_rfl
  · kernel_rfl
  · kernel_rfl
  · exact limb13
  · kernel_rfl
  · exact limb14
  · exact limb15
  · exact limb16
  · kernel_rfl
  · kernel_rfl
  · kernel_rfl
  · kernel_rfl
  · kernel_rfl
theorem named : Tryz.prog.funcNamed Rows.snapsNoneRow.func = some 3 := by kernel_rfl
theorem wfText : Rows.snapsNoneRow.wfByText (OpenSpec.ofChange Rows.snapsNoneSpec) = true := by kernel_rfl
theorem mainSays : Tryz.prog.mainIs = some (true, "13287ac47efc84ddd62c642add4b7b8c49448bf30d10e23827a35459d3799148".toList) := by kernel_rfl
theorem looked : true = Tryz.prog.looks [] := by kernel_rfl
theorem goes : false = Rows.snapsNoneRow.goesBy Tryz.prog := by kernel_rfl
end Go.Proofs.YtbmkpcjkadifhaaGreatDoor.snapsNone
