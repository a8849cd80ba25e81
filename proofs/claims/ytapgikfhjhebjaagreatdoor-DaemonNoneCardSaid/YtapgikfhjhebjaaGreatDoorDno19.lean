/- The closed facts of the row of DaemonNone, each by the kernel. Conditions: none. -/
import Derived.Test.YtapgikfhjhebjaaGreatDoorCards
import Derived.Test.YtapgikfhjhebjaaGreatDoorTie
import Derived.Test.YtapgikfhjhebjaaGreatDoorRows
import Derived.JoinedOf
import Derived.Test.YtapgikfhjhebjaaGreatDoorDno18
import Derived.KernelRfl
namespace Go.Proofs.YtapgikfhjhebjaaGreatDoor.daemonNone
open Go
theorem band {a b : Bool} (h : a = true) (k : b = true) : (a && b) = true := by rw [h, k]; rfl
theorem limb0 : (Rows.daemonNoneRow.wf (OpenSpec.ofChange Rows.daemonNoneSpec)) = true := by kernel_rfl
theorem limb1 : (laidOutB Tryz.prog) = true := by kernel_rfl
theorem limb2 : (mapsRowed Tryz.prog) = true := by kernel_rfl
theorem limb3 : (Tryz.f3.params.all (Tryz.prog.readableRec ·)) = true := by kernel_rfl
theorem limb4 : (namedTie Tryz.prog Rows.daemonNoneRow.named Rows.daemonNoneSpec.vars) = true := by kernel_rfl
theorem limb5 : (Rows.daemonNoneRow.stops == []) = true := by kernel_rfl
theorem limb6 : (Tryz.prog.stops == []) = true := by kernel_rfl
theorem limb7 : (Rows.daemonNoneRow.knobs == []) = true := by kernel_rfl
theorem limb8 : (Tryz.prog.stopKnobs == []) = true := by kernel_rfl
theorem limb9 : (Rows.daemonNoneRow.inPlace == Tryz.prog.inPlace 3) = true := by kernel_rfl
theorem limb10 : (Rows.daemonNoneRow.unfollowed == Tryz.prog.unfollowed 3) = true := by kernel_rfl
theorem limb11 : (Rows.daemonNoneRow.recurses == Tryz.prog.recurses 3) = true := by kernel_rfl
theorem limb12 : (Rows.daemonNoneRow.named == Tryz.prog.varsNamed 3) = true := by kernel_rfl
theorem limb13 : (Rows.daemonNoneRow.plainKeys == Tryz.prog.plainKeys) = true := by kernel_rfl
theorem limb14 : Tryz.prog.stopsHeard = true := by kernel_rfl
theorem limb15 : Tryz.prog.mayEnter = true := by kernel_rfl
theorem limb16 : (Rows.daemonNoneRow.lifted == Tryz.prog.liftsFinal) = true := by kernel_rfl
set_option maxRecDepth 100000 in
theorem facts : joinedFacts Tryz.prog 3 Tryz.f3 Rows.daemonNoneSpec Rows.daemonNoneRow = true := by
  unfold joinedFacts
  refine band (band (band (band (band (band (band (band (band (band (band (band (band (band (band (band (band (band (band (band (band (band (band (band (band (band (band (band (band (band (band ?_ ?_) ?_) ?_) ?_) ?_) ?_) ?_) ?_) ?_) ?_) ?_) ?_) ?_) ?_) ?_) ?_) ?_) ?_) ?_) ?_) ?_) ?_) ?_) ?_) ?_) ?_) ?_) ?_) ?_) ?_) ?_
  · exact limb0
  · exact limb1
  · exact limb2
  · exact limb3
  · exact limb4
  · exact limb5
  · exact limb6
  · exact limb7
  · exact limb8
  · exact limb9
  · exact limb10
  · exact limb11
  · exact limb12
  · kernel_rfl
  · kernel_rfl
  · kernel_rfl
  · kernel_rfl
  · kernel_rfl
  · kernel_rfl
  · kernel_rfl
  · kernel_rfl
  · kernel_rfl
  · exact limb13
  · kernel_rfl
  · exact limb14
  · exact limb15
  · exact limb16
  · kernel_rfl
  · kernel_rfl
  · kernel_rfl
  · kernel_rfl
  · kernel_rfl
theorem named : Tryz.prog.funcNamed Rows.daemonNoneRow.func = some 3 := by kernel_rfl
theorem wfText : Rows.daemonNoneRow.wfByText (OpenSpec.ofChange Rows.daemonNoneSpec) = true := by kernel_rfl
theorem mainSays : Tryz.prog.mainIs = some (true, "c4ddd03b2bfa78ce0d913269327c572d6a5c7bd5b33cae7c51b332ced16bfaa8".toList) := by kernel_rfl
theorem looked : true = Tryz.prog.looks [] := by kernel_rfl
theorem goes : false = Rows.daemonNoneRow.goesBy Tryz.prog := Am.goes_no rfl Am.goes_all
end Go.Proofs.YtapgikfhjhebjaaGreatDoor.daemonNone
