/- The closed facts of the row of DaemonKnown, each by the kernel. Conditions: none. -/
import Derived.Test.YtoioicckhppnmaaGreatDoorCards
import Derived.Test.YtoioicckhppnmaaGreatDoorTie
import Derived.Test.YtoioicckhppnmaaGreatDoorRows
import Derived.JoinedOf
import Derived.Test.YtoioicckhppnmaaGreatDoorDkn18
import Derived.KernelRfl
namespace Go.Proofs.YtoioicckhppnmaaGreatDoor.daemonKnown
open Go
theorem band {a b : Bool} (h : a = true) (k : b = true) : (a && b) = true := by rw [h, k]; rfl
theorem limb0 : (Rows.daemonKnownRow.wf (OpenSpec.ofChange Rows.daemonKnownSpec)) = true := by kernel_rfl
theorem limb1 : (laidOutB Tryz.prog) = true := by kernel_rfl
theorem limb2 : (mapsRowed Tryz.prog) = true := by kernel_rfl
theorem limb3 : (Tryz.f3.params.all (Tryz.prog.readableRec ·)) = true := by kernel_rfl
theorem limb4 : (namedTie Tryz.prog Rows.daemonKnownRow.named Rows.daemonKnownSpec.vars) = true := by kernel_rfl
theorem limb5 : (Rows.daemonKnownRow.stops == []) = true := by kernel_rfl
theorem limb6 : (Tryz.prog.stops == []) = true := by kernel_rfl
theorem limb7 : (Rows.daemonKnownRow.knobs == []) = true := by kernel_rfl
theorem limb8 : (Tryz.prog.stopKnobs == []) = true := by kernel_rfl
theorem limb9 : (Rows.daemonKnownRow.inPlace == Tryz.prog.inPlace 3) = true := by kernel_rfl
theorem limb10 : (Rows.daemonKnownRow.unfollowed == Tryz.prog.unfollowed 3) = true := by kernel_rfl
theorem limb11 : (Rows.daemonKnownRow.recurses == Tryz.prog.recurses 3) = true := by kernel_rfl
theorem limb12 : (Rows.daemonKnownRow.named == Tryz.prog.varsNamed 3) = true := by kernel_rfl
theorem limb13 : (Rows.daemonKnownRow.plainKeys == Tryz.prog.plainKeys) = true := by kernel_rfl
theorem limb14 : Tryz.prog.stopsHeard = true := by kernel_rfl
theorem limb15 : Tryz.prog.mayEnter = true := by kernel_rfl
theorem limb16 : (Rows.daemonKnownRow.lifted == Tryz.prog.liftsFinal) = true := by kernel_rfl
set_option maxRecDepth 100000 in
theorem facts : joinedFacts Tryz.prog 3 Tryz.f3 Rows.daemonKnownSpec Rows.daemonKnownRow = true := by
  unfold joinedFacts
  refine band (band (band (band (band (band (band (band (band (band (band (band (band (band (band (band (band (band (band (band (band (band (band (band (band (band (band (band (band (band (band ?_ ?_) ?_) ?_) ?_) ?_) ?_) ?_) ?_) ?_) ?_) ?_) ?_) ?_) ?_) ?_) ?_) ?_) ?_) ?_) ?_) ?_) ?_) ?_) ?_) ?_) ?_) ?_) ?_) ?_) ?_) ?_
  · exact limb0
  · exact limb1
  · exact limb2
  · exact limb3
  · exact limb4
  · exact limb5
  · exact limb6
  · exact limb7
  · exact limb8
  · exact limb9
  · exact limb10
  · exact limb11
  · exact limb12
  · kernel_rfl
  · kernel_rfl
  · kernel_rfl
  · kernel_rfl
  · kernel_rfl
  · kernel_rfl
  · kernel_rfl
  · kernel_rfl
  · kernel_rfl
  · exact limb13
  · kernel_rfl
  · exact limb14
  · exact limb15
  · exact limb16
  · kernel_rfl
  · kernel_rfl
  · kernel_rfl
  · kernel_rfl
  · kernel_rfl
theorem named : Tryz.prog.funcNamed Rows.daemonKnownRow.func = some 3 := by kernel_rfl
theorem wfText : Rows.daemonKnownRow.wfByText (OpenSpec.ofChange Rows.daemonKnownSpec) = true := by kernel_rfl
theorem mainSays : Tryz.prog.mainIs = some (true, "c19c29742403b28d4bc80eebb059cd51807bd352ed6bb03f13de9005d8a5b89e".toList) := by kernel_rfl
theorem looked : true = Tryz.prog.looks [] := by kernel_rfl
theorem goes : false = Rows.daemonKnownRow.goesBy Tryz.prog := Am.goes_no rfl Am.goes_all
end Go.Proofs.YtoioicckhppnmaaGreatDoor.daemonKnown
