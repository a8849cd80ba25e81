/- The closed facts of the row of IntakeKnown, each by the kernel. Conditions: none. -/
import Derived.Test.YtkgncjlgmnbfoaaGreatDoorCards
import Derived.Test.YtkgncjlgmnbfoaaGreatDoorTie
import Derived.Test.YtkgncjlgmnbfoaaGreatDoorRows
import Derived.JoinedOf
import Derived.KernelRfl
namespace Go.Proofs.YtkgncjlgmnbfoaaGreatDoor.intakeKnown
open Go
theorem band {a b : Bool} (h : a = true) (k : b = true) : (a && b) = true := by rw [h, k]; rfl
theorem limb0 : (Rows.intakeKnownRow.wf (OpenSpec.ofChange Rows.intakeKnownSpec)) = true := by kernel_rfl
theorem limb1 : (laidOutB Tryz.prog) = true := by kernel_rfl
theorem limb2 : (mapsRowed Tryz.prog) = true := by kernel_rfl
theorem limb3 : (Tryz.f3.params.all (Tryz.prog.readableRec ·)) = true := by kernel_rfl
theorem limb4 : (namedTie Tryz.prog Rows.intakeKnownRow.named Rows.intakeKnownSpec.vars) = true := by kernel_rfl
theorem limb5 : (Rows.intakeKnownRow.stops == []) = true := by kernel_rfl
theorem limb6 : (Tryz.prog.stops == []) = true := by kernel_rfl
theorem limb7 : (Rows.intakeKnownRow.knobs == []) = true := by kernel_rfl
theorem limb8 : (Tryz.prog.stopKnobs == []) = true := by kernel_rfl
theorem limb9 : (Rows.intakeKnownRow.inPlace == Tryz.prog.inPlace 3) = true := by kernel_rfl
theorem limb10 : (Rows.intakeKnownRow.unfollowed == Tryz.prog.unfollowed 3) = true := by kernel_rfl
theorem limb11 : (Rows.intakeKnownRow.recurses == Tryz.prog.recurses 3) = true := by kernel_rfl
theorem limb12 : (Rows.intakeKnownRow.named == Tryz.prog.varsNamed 3) = true := by kernel_rfl
theorem limb13 : (Rows.intakeKnownRow.plainKeys == Tryz.prog.plainKeys) = true := by kernel_rfl
theorem limb14 : Tryz.prog.stopsHeard = true := by kernel_rfl
theorem limb15 : Tryz.prog.mayEnter = true := by kernel_rfl
theorem limb16 : (Rows.intakeKnownRow.lifted == Tryz.prog.liftsFinal) = true := by kernel_rfl
set_option maxRecDepth 100000 in
theorem facts : joinedFacts Tryz.prog 3 Tryz.f3 Rows.intakeKnownSpec Rows.intakeKnownRow = true := by
  unfold joinedFacts
  refine band (band (band (band (band (band (band (band (band (band (band (band (band (band (band (band (band (band (band (band (band (band (band (band (band (band (band (band (band (band (band ?_ ?_) ?_) ?_) ?_) ?_) ?_) ?_) ?_) ?_) ?_) ?_) ?_) ?_) ?_) ?_) ?_) ?_) ?_) ?_) ?_) ?_) ?_) ?_) ?_) ?_) ?_) ?_) ?_) ?_) ?_) ?_
  · exact limb0
  · exact limb1
  · exact limb2
  · exact limb3
  · exact limb4
  · exact limb5
  · exact limb6
  · exact limb7
  · exact limb8
  · exact limb9
  · exact limb10
  · exact limb11
  · exact limb12
  · kernel_rfl
  · kernel_rfl
  · kernel_rfl
  · kernel_rfl
  · kernel_rfl
  · kernel_rfl
  · kernel_rfl
  · kernel_rfl
  · kernel_rfl
  · exact limb13
  · kernel_rfl
  · exact limb14
  · exact limb15
  · exact limb16
  · kernel_rfl
  · kernel_rfl
  · kernel_rfl
  · kernel_rfl
  · kernel_rfl
theorem named : Tryz.prog.funcNamed Rows.intakeKnownRow.func = some 3 := by kernel_rfl
theorem wfText : Rows.intakeKnownRow.wfByText (OpenSpec.ofChange Rows.intakeKnownSpec) = true := by kernel_rfl
theorem mainSays : Tryz.prog.mainIs = some (true, "ba5dc5e41bc62cde397ea6345a1022274470ed75965b36f95a2e01b7836871b4".toList) := by kernel_rfl
theorem looked : true = Tryz.prog.looks [] := by kernel_rfl
theorem goes : false = Rows.intakeKnownRow.goesBy Tryz.prog := by kernel_rfl
end Go.Proofs.YtkgncjlgmnbfoaaGreatDoor.intakeKnown
