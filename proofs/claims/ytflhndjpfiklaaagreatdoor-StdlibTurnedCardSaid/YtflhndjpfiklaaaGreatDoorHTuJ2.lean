/- Closed facts of the statement StdlibTurned's row (part 2). No condition. -/
import Derived.Test.YtflhndjpfiklaaaGreatDoorRows
import Derived.Stop.Joined
import Derived.SevenTiedAt
namespace Go.Proofs.YtflhndjpfiklaaaGreatDoor.stdlibTurned
set_option linter.unusedVariables false
theorem j12 : ((Rows.stdlibTurnedRow.named == Tryz.pinned.checked.prog.varsNamed 4)) = true := by kernel_rfl
theorem j13 : ((Rows.stdlibTurnedRow.maps == (Tryz.f4.params.toList ++ Rows.stdlibTurnedSpec.plain.varTypes Tryz.pinned.checked.prog).any (Tryz.pinned.checked.prog.mapsRec ·))) = true := by kernel_rfl
theorem j14 : ((Rows.stdlibTurnedRow.ifaces == (Tryz.f4.params.toList ++ Rows.stdlibTurnedSpec.plain.varTypes Tryz.pinned.checked.prog).any (Tryz.pinned.checked.prog.ifacesRec ·))) = true := by kernel_rfl
theorem j15 : ((Rows.stdlibTurnedRow.mapsOut == Tryz.pinned.checked.prog.mapsAmong Tryz.f4.resultTypes.toList)) = true := by kernel_rfl
theorem j16 : ((Rows.stdlibTurnedRow.loops == (Tryz.f4.params.toList ++ Rows.stdlibTurnedSpec.plain.varTypes Tryz.pinned.checked.prog).any (Tryz.pinned.checked.prog.loopsFrom ·))) = true := by kernel_rfl
theorem j17 : ((Rows.stdlibTurnedRow.wideKeys == (Tryz.f4.params.toList ++ Rows.stdlibTurnedSpec.plain.varTypes Tryz.pinned.checked.prog ++ Tryz.f4.resultTypes.toList).any (Tryz.pinned.checked.prog.wideKeysFrom ·))) = true := by kernel_rfl
theorem j18 : (Rows.stdlibTurnedSpec.vars.all (Tryz.pinned.checked.prog.varReadable ·)) = true := by kernel_rfl
theorem j19 : (Tryz.f4.resultTypes.all (fun t => Tryz.pinned.checked.prog.readableRec t && decide (t < Tryz.pinned.checked.prog.types.size))) = true := by kernel_rfl
end Go.Proofs.YtflhndjpfiklaaaGreatDoor.stdlibTurned
