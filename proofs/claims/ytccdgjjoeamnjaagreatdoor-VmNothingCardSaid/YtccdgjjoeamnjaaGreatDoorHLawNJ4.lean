/- Closed facts of the statement VmNothing's row (part 4). No condition. -/
import Derived.Test.YtccdgjjoeamnjaaGreatDoorRows
import Derived.Stop.Joined
import Derived.SevenTiedAt
namespace Go.Proofs.YtccdgjjoeamnjaaGreatDoor.vmNothing
set_option linter.unusedVariables false
theorem j26 : ((Rows.vmNothingRow.lifted == Tryz.pinned.checked.prog.liftsFinal)) = true := by kernel_rfl
theorem j27 : ((Tryz.pinned.checked.prog.make == some Rows.vmNothingRow.make)) = true := by kernel_rfl
theorem j28 : ((Rows.vmNothingRow.kinds == (if Rows.vmNothingRow.domain.isEmpty then [] else Tryz.f3.params.toList.map fun t => match Tryz.pinned.checked.prog.underlying t with | some (.int k) => some k | _ => none))) = true := by kernel_rfl
theorem j29 : ((Rows.vmNothingRow.pinned == Rows.vmNothingRow.pinnedBy)) = true := by kernel_rfl
theorem j30 : ((Rows.vmNothingRow.veiled == (Tryz.f3.params.toList ++ Rows.vmNothingSpec.plain.varTypes Tryz.pinned.checked.prog ++ Tryz.f3.resultTypes.toList).any (Tryz.pinned.checked.prog.veiledRec ·))) = true := by kernel_rfl
theorem j31 : (Rows.vmNothingRow.veiledFits Tryz.pinned.checked.prog Tryz.f3.params.toList (Tryz.f3.params.toList ++ Rows.vmNothingSpec.plain.varTypes Tryz.pinned.checked.prog ++ Tryz.f3.resultTypes.toList)) = true := by kernel_rfl
theorem named : Tryz.pinned.checked.prog.funcNamed Rows.vmNothingRow.func = some 3 := by kernel_rfl
theorem inst : Tryz.f3.isInstance Tryz.pinned.checked.prog Rows.vmNothingRow.origin Rows.vmNothingRow.targs := of_decide_eq_true (by kernel_rfl)
theorem wrap : Tryz.f3.isWrapper Tryz.pinned.checked.prog Rows.vmNothingRow.wrapper Rows.vmNothingRow.mainSum := by unfold Func.isWrapper; first | (rw [if_pos (by decide +kernel)]; kernel_rfl) | (rw [if_neg (by decide +kernel)]; exact ⟨rfl, rfl⟩)
end Go.Proofs.YtccdgjjoeamnjaaGreatDoor.vmNothing
