/- Closed facts of the statement StdlibTexts's row (part 1). No condition. -/
import Derived.Test.YtflhndjpfiklaaaGreatDoorRows
import Derived.Stop.Joined
import Derived.SevenTiedAt
namespace Go.Proofs.YtflhndjpfiklaaaGreatDoor.stdlibTexts
set_option linter.unusedVariables false
theorem j0 : (Rows.stdlibTextsRow.wf (OpenSpec.ofChange Rows.stdlibTextsSpec)) = true := by kernel_rfl
theorem j1 : (laidOutB Tryz.pinned.checked.prog) = true := by kernel_rfl
theorem j2 : (mapsRowed Tryz.pinned.checked.prog) = true := by kernel_rfl
theorem j3 : (Tryz.f3.params.all (Tryz.pinned.checked.prog.readableRec ·)) = true := by kernel_rfl
theorem j4 : (namedTie Tryz.pinned.checked.prog Rows.stdlibTextsRow.named Rows.stdlibTextsSpec.vars) = true := by kernel_rfl
theorem j5 : ((Rows.stdlibTextsRow.stops == [])) = true := by kernel_rfl
theorem j6 : ((Tryz.pinned.checked.prog.stops == [])) = true := by kernel_rfl
theorem j7 : ((Rows.stdlibTextsRow.knobs == [])) = true := by kernel_rfl
theorem j8 : ((Tryz.pinned.checked.prog.stopKnobs == [])) = true := by kernel_rfl
theorem j9 : ((Rows.stdlibTextsRow.inPlace == Tryz.pinned.checked.prog.inPlace 3)) = true := by kernel_rfl
theorem j10 : ((Rows.stdlibTextsRow.unfollowed == Tryz.pinned.checked.prog.unfollowed 3)) = true := by kernel_rfl
theorem j11 : ((Rows.stdlibTextsRow.recurses == Tryz.pinned.checked.prog.recurses 3)) = true := by kernel_rfl
end Go.Proofs.YtflhndjpfiklaaaGreatDoor.stdlibTexts
