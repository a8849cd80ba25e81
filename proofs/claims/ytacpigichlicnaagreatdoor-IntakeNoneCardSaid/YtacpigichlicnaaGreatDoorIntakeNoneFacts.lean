/- The closed facts of the row of IntakeNone, each by the kernel. Conditions: none. -/
import Derived.Test.YtacpigichlicnaaGreatDoorCards
import Derived.Test.YtacpigichlicnaaGreatDoorTie
import Derived.Test.YtacpigichlicnaaGreatDoorRows
import Derived.JoinedOf
import Derived.KernelRfl
namespace Go.Proofs.YtacpigichlicnaaGreatDoor.intakeNone
open Go
theorem band {a b : Bool} (h : a = true) (k : b = true) : (a && b) = true := by rw [h, k]; rfl
theorem limb0 : (Rows.intakeNoneRow.wf (OpenSpec.ofChange Rows.intakeNoneSpec)) = true := by kernel_rfl
theorem limb1 : (laidOutB Tryz.prog) = true := by kernel_rfl
theorem limb2 : (mapsRowed Tryz.prog) = true := by kernel_rfl
theorem limb3 : (Tryz.f3.params.all (Tryz.prog.readableRec ·)) = true := by kernel_rfl
theorem limb4 : (namedTie Tryz.prog Rows.intakeNoneRow.named Rows.intakeNoneSpec.vars) = true := by kernel_rfl
theorem limb5 : (Rows.intakeNoneRow.stops == []) = true := by kernel_rfl
theorem limb6 : (Tryz.prog.stops == []) = true := by kernel_rfl
theorem limb7 : (Rows.intakeNoneRow.knobs == []) = true := by kernel_rfl
theorem limb8 : (Tryz.prog.stopKnobs == []) = true := by kernel_rfl
theorem limb9 : (Rows.intakeNoneRow.inPlace == Tryz.prog.inPlace 3) = true := by kernel_rfl
theorem limb10 : (Rows.intakeNoneRow.unfollowed == Tryz.prog.unfollowed 3) = true := by kernel_rfl
theorem limb11 : (Rows.intakeNoneRow.recurses == Tryz.prog.recurses 3) = true := by kernel_rfl
theorem limb12 : (Rows.intakeNoneRow.named == Tryz.prog.varsNamed 3) = true := by kernel_rfl
theorem limb13 : (Rows.intakeNoneRow.plainKeys == Tryz.prog.plainKeys) = true := by kernel_rfl
theorem limb14 : Tryz.prog.stopsHeard = true := by kernel_rfl
theorem limb15 : Tryz.prog.mayEnter = true := by kernel_rfl
theorem limb16 : (Rows.intakeNoneRow.lifted == Tryz.prog.liftsFinal) = true := by kernel_rfl
set_option maxRecDepth 100000 in
theorem facts : joinedFacts Tryz.prog 3 Tryz.f3 Rows.intakeNoneSpec Rows.intakeNoneRow = true := by
  unfold joinedFacts
  refine band (band (band (band (band (band (band (band (band (band (band (band (band (band (band (band (band (band (band (band (band (band (band (band (band (band (band (band (band (band (band ?_ ?_) ?_) ?_) ?_) ?_) ?_) ?_) ?_) ?_) ?_) ?_) ?_) ?_) ?_) ?_) ?_) ?_) ?_) ?_) ?_) ?_) ?_) ?_) ?_) ?_) ?_) ?_) ?_) ?_) ?_) ?_
  · exact limb0
  · exact limb1
  · exact limb2
  · exact limb3
  · exact limb4
  · exact limb5
  · exact limb6
  · exact limb7
  · exact limb8
  · exact limb9
  · exact limb10
  · exact limb11
  · exact limb12
  · kernel_rfl
  · kernel_rfl
  · kernel_rfl
  · kernel_rfl
  · kernel_rfl
  · kernel_rfl
  · kernel_rfl
  · kernel_rfl
  · kernel_rfl
  · exact limb13
  · kernel_rfl
  · exact limb14
  · exact limb15
  · exact limb16
  · kernel_rfl
  · kernel_rfl
  · kernel_rfl
  · kernel_rfl
  · kernel_rfl
theorem named : Tryz.prog.funcNamed Rows.intakeNoneRow.func = some 3 := by kernel_rfl
theorem wfText : Rows.intakeNoneRow.wfByText (OpenSpec.ofChange Rows.intakeNoneSpec) = true := by kernel_rfl
theorem mainSays : Tryz.prog.mainIs = some (true, "d3c438aa6b9a2bc15daa1b811c28195fb896cd1ba7f5142d98b096fd4dfb4c74".toList) := by kernel_rfl
theorem looked : true = Tryz.prog.looks [] := by kernel_rfl
theorem goes : false = Rows.intakeNoneRow.goesBy Tryz.prog := by kernel_rfl
end Go.Proofs.YtacpigichlicnaaGreatDoor.intakeNone
