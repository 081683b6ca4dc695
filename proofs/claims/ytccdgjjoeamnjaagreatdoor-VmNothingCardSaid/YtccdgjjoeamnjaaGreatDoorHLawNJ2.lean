/- Closed facts of the statement VmNothing's row (part 2). No condition. -/
import Derived.Test.YtccdgjjoeamnjaaGreatDoorRows
import Derived.Stop.Joined
import Derived.SevenTiedAt
namespace Go.Proofs.YtccdgjjoeamnjaaGreatDoor.vmNothing
set_option linter.unusedVariables false
theorem j12 : ((Rows.vmNothingRow.named == Tryz.pinned.checked.prog.varsNamed 3)) = true := by kernel_rfl
theorem j13 : ((Rows.vmNothingRow.maps == (Tryz.f3.params.toList ++ Rows.vmNothingSpec.plain.varTypes Tryz.pinned.checked.prog).any (Tryz.pinned.checked.prog.mapsRec ·))) = true := by kernel_rfl
theorem j14 : ((Rows.vmNothingRow.ifaces == (Tryz.f3.params.toList ++ Rows.vmNothingSpec.plain.varTypes Tryz.pinned.checked.prog).any (Tryz.pinned.checked.prog.ifacesRec ·))) = true := by kernel_rfl
theorem j15 : ((Rows.vmNothingRow.mapsOut == Tryz.pinned.checked.prog.mapsAmong Tryz.f3.resultTypes.toList)) = true := by kernel_rfl
theorem j16 : ((Rows.vmNothingRow.loops == (Tryz.f3.params.toList ++ Rows.vmNothingSpec.plain.varTypes Tryz.pinned.checked.prog).any (Tryz.pinned.checked.prog.loopsFrom ·))) = true := by kernel_rfl
theorem j17 : ((Rows.vmNothingRow.wideKeys == (Tryz.f3.params.toList ++ Rows.vmNothingSpec.plain.varTypes Tryz.pinned.checked.prog ++ Tryz.f3.resultTypes.toList).any (Tryz.pinned.checked.prog.wideKeysFrom ·))) = true := by kernel_rfl
end Go.Proofs.YtccdgjjoeamnjaaGreatDoor.vmNothing
