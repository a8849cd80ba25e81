/- The closed facts of the row of WorldNone, each by the kernel. Conditions: none. -/
import Derived.Test.YtapojfiplajfaaaGreatDoorCards
import Derived.Test.YtapojfiplajfaaaGreatDoorWnn01
import Derived.Test.YtapojfiplajfaaaGreatDoorWnn02
import Derived.Test.YtapojfiplajfaaaGreatDoorRows
import Derived.JoinedOf
import Derived.Test.YtapojfiplajfaaaGreatDoorWnn23
import Derived.Test.YtapojfiplajfaaaGreatDoorWnn25
import Derived.KernelRfl
namespace Go.Proofs.YtapojfiplajfaaaGreatDoor.worldNone
open Go
theorem band {a b : Bool} (h : a = true) (k : b = true) : (a && b) = true := by rw [h, k]; rfl
theorem limb0 : (Rows.worldNoneRow.wf (OpenSpec.ofChange Rows.worldNoneSpec)) = true := by kernel_rfl
theorem limb1 : (laidOutB Tryz.prog) = true := Am.laidAll
theorem limb2 : (mapsRowed Tryz.prog) = true := by kernel_rfl
theorem limb3 : (Tryz.f4.params.all (Tryz.prog.readableRec ·)) = true := by kernel_rfl
theorem limb4 : (namedTie Tryz.prog Rows.worldNoneRow.named Rows.worldNoneSpec.vars) = true := by kernel_rfl
theorem limb5 : (Rows.worldNoneRow.stops == []) = true := by kernel_rfl
theorem limb6 : (Tryz.prog.stops == []) = true := by kernel_rfl
theorem limb7 : (Rows.worldNoneRow.knobs == []) = true := by kernel_rfl
theorem limb8 : (Tryz.prog.stopKnobs == []) = true := by kernel_rfl
theorem limb9 : (Rows.worldNoneRow.inPlace == Tryz.prog.inPlace 4) = true := by unfold Program.inPlace; rw [Am.clos_lit]; kernel_rfl
theorem limb10 : (Rows.worldNoneRow.unfollowed == Tryz.prog.unfollowed 4) = true := by unfold Program.unfollowed; rw [Am.clos_lit]; kernel_rfl
theorem limb11 : (Rows.worldNoneRow.recurses == Tryz.prog.recurses 4) = true := by unfold Program.recurses Program.unfollowed; rw [Am.clos_lit]; kernel_rfl
theorem limb12 : (Rows.worldNoneRow.named == Tryz.prog.varsNamed 4) = true := by unfold Program.varsNamed; rw [Am.clos_lit]; kernel_rfl
theorem limb13 : (Rows.worldNoneRow.plainKeys == Tryz.prog.plainKeys) = true := by kernel_rfl
theorem limb14 : Tryz.prog.stopsHeard = true := by kernel_rfl
theorem limb15 : Tryz.prog.mayEnter = true := by kernel_rfl
theorem limb16 : (Rows.worldNoneRow.lifted == Tryz.prog.liftsFinal) = true := by kernel_rfl
set_option maxRecDepth 100000 in
theorem facts : joinedFacts Tryz.prog 4 Tryz.f4 Rows.worldNoneSpec Rows.worldNoneRow = true := by
  unfold joinedFacts
  refine band (band (band (band (band (band (band (band (band (band (band (band (band (band (band (band (band (band (band (band (band (band (band (band (band (band (band (band (band (band (band ?_ ?_) ?_) ?_) ?_) ?_) ?_) ?_) ?_) ?_) ?_) ?_) ?_) ?_) ?_) ?_) ?_) ?_) ?_) ?_) ?_) ?_) ?_) ?_) ?_) ?_) ?_) ?_) ?_) ?_) ?_) ?_
  · exact limb0
  · exact limb1
  · exact limb2
  · exact limb3
  · exact limb4
  · exact limb5
  · exact limb6
  · exact limb7
  · exact limb8
  · exact limb9
  · exact limb10
  · exact limb11
  · exact limb12
  · kernel_rfl
  · kernel_rfl
  · kernel_rfl
  · kernel_rfl
  · kernel_rfl
  · kernel_rfl
  · kernel_rfl
  · kernel_rfl
  · kernel_rfl
  · exact limb13
  · kernel_rfl
  · exact limb14
  · exact limb15
  · exact limb16
  · kernel_rfl
  · kernel_rfl
  · kernel_rfl
  · kernel_rfl
  · kernel_rfl
theorem named : Tryz.prog.funcNamed Rows.worldNoneRow.func = some 4 := by kernel_rfl
theorem wfText : Rows.worldNoneRow.wfByText (OpenSpec.ofChange Rows.worldNoneSpec) = true := by kernel_rfl
theorem mainSays : Tryz.prog.mainIs = some (true, "30f475c74fc586d33aea00b6e466e7e1a818e5081ec768cc2ada417cfc8b5f65".toList) := by kernel_rfl
theorem looked : true = Tryz.prog.looks [] := by kernel_rfl
theorem goes : false = Rows.worldNoneRow.goesBy Tryz.prog := Am.goes_no rfl Am.goes_all
end Go.Proofs.YtapojfiplajfaaaGreatDoor.worldNone
