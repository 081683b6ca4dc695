/- Closed facts of the statement StdlibTexts's row (part 3). No condition. -/
import Derived.Test.YtflhndjpfiklaaaGreatDoorRows
import Derived.Stop.Joined
import Derived.SevenTiedAt
namespace Go.Proofs.YtflhndjpfiklaaaGreatDoor.stdlibTexts
set_option linter.unusedVariables false
theorem j20 : ((Rows.stdlibTextsRow.ifacesOut == Tryz.f3.resultTypes.toList.any (Tryz.pinned.checked.prog.ifacesRec ·))) = true := by kernel_rfl
theorem j21 : ((Rows.stdlibTextsRow.loopsOut == Tryz.f3.resultTypes.toList.any (Tryz.pinned.checked.prog.loopsFrom ·))) = true := by kernel_rfl
theorem j22 : ((Rows.stdlibTextsRow.plainKeys == Tryz.pinned.checked.prog.plainKeys)) = true := by kernel_rfl
theorem j23 : (Rows.stdlibTextsRow.shortTexts.isNone) = true := by kernel_rfl
theorem j24 : (Tryz.pinned.checked.prog.stopsHeard) = true := by kernel_rfl
theorem j25 : (Tryz.pinned.checked.prog.mayEnter) = true := by kernel_rfl
theorem j26 : ((Rows.stdlibTextsRow.lifted == Tryz.pinned.checked.prog.liftsFinal)) = true := by kernel_rfl
theorem j27 : ((Tryz.pinned.checked.prog.make == some Rows.stdlibTextsRow.make)) = true := by kernel_rfl
end Go.Proofs.YtflhndjpfiklaaaGreatDoor.stdlibTexts
