/- Closed facts of the statement StdlibTurned's row (part 1). No condition. -/
import Derived.Test.YtflhndjpfiklaaaGreatDoorRows
import Derived.Stop.Joined
import Derived.SevenTiedAt
namespace Go.Proofs.YtflhndjpfiklaaaGreatDoor.stdlibTurned
set_option linter.unusedVariables false
theorem j0 : (Rows.stdlibTurnedRow.wf (OpenSpec.ofChange Rows.stdlibTurnedSpec)) = true := by kernel_rfl
theorem j1 : (laidOutB Tryz.pinned.checked.prog) = true := by kernel_rfl
theorem j2 : (mapsRowed Tryz.pinned.checked.prog) = true := by kernel_rfl
theorem j3 : (Tryz.f4.params.all (Tryz.pinned.checked.prog.readableRec ·)) = true := by kernel_rfl
theorem j4 : (namedTie Tryz.pinned.checked.prog Rows.stdlibTurnedRow.named Rows.stdlibTurnedSpec.vars) = true := by kernel_rfl
theorem j5 : ((Rows.stdlibTurnedRow.stops == [])) = true := by kernel_rfl
theorem j6 : ((Tryz.pinned.checked.prog.stops == [])) = true := by kernel_rfl
theorem j7 : ((Rows.stdlibTurnedRow.knobs == [])) = true := by kernel_rfl
theorem j8 : ((Tryz.pinned.checked.prog.stopKnobs == [])) = true := by kernel_rfl
theorem j9 : ((Rows.stdlibTurnedRow.inPlace == Tryz.pinned.checked.prog.inPlace 4)) = true := by kernel_rfl
theorem j10 : ((Rows.stdlibTurnedRow.unfollowed == Tryz.pinned.checked.prog.unfollowed 4)) = true := by kernel_rfl
theorem j11 : ((Rows.stdlibTurnedRow.recurses == Tryz.pinned.checked.prog.recurses 4)) = true := by kernel_rfl
end Go.Proofs.YtflhndjpfiklaaaGreatDoor.stdlibTurned
