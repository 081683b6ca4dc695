/- Closed facts of the statement StdlibTexts's row (part 4). No condition. -/
import Derived.Test.YtflhndjpfiklaaaGreatDoorRows
import Derived.Stop.Joined
import Derived.SevenTiedAt
namespace Go.Proofs.YtflhndjpfiklaaaGreatDoor.stdlibTexts
set_option linter.unusedVariables false
theorem j28 : ((Rows.stdlibTextsRow.kinds == (if Rows.stdlibTextsRow.domain.isEmpty then [] else Tryz.f3.params.toList.map fun t => match Tryz.pinned.checked.prog.underlying t with | some (.int k) => some k | _ => none))) = true := by kernel_rfl
theorem j29 : ((Rows.stdlibTextsRow.pinned == Rows.stdlibTextsRow.pinnedBy)) = true := by kernel_rfl
theorem j30 : ((Rows.stdlibTextsRow.veiled == (Tryz.f3.params.toList ++ Rows.stdlibTextsSpec.plain.varTypes Tryz.pinned.checked.prog ++ Tryz.f3.resultTypes.toList).any (Tryz.pinned.checked.prog.veiledRec ·))) = true := by kernel_rfl
theorem j31 : (Rows.stdlibTextsRow.veiledFits Tryz.pinned.checked.prog Tryz.f3.params.toList (Tryz.f3.params.toList ++ Rows.stdlibTextsSpec.plain.varTypes Tryz.pinned.checked.prog ++ Tryz.f3.resultTypes.toList)) = true := by kernel_rfl
theorem named : Tryz.pinned.checked.prog.funcNamed Rows.stdlibTextsRow.func = some 3 := by kernel_rfl
theorem inst : Tryz.f3.isInstance Tryz.pinned.checked.prog Rows.stdlibTextsRow.origin Rows.stdlibTextsRow.targs := of_decide_eq_true (by kernel_rfl)
theorem wrap : Tryz.f3.isWrapper Tryz.pinned.checked.prog Rows.stdlibTextsRow.wrapper Rows.stdlibTextsRow.mainSum := by unfold Func.isWrapper; first | (rw [if_pos (by decide +kernel)]; kernel_rfl) | (rw [if_neg (by decide +kernel)]; exact ⟨rfl, rfl⟩)
end Go.Proofs.YtflhndjpfiklaaaGreatDoor.stdlibTexts
