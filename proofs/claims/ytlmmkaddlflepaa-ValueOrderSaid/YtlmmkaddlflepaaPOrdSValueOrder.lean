-- by mkprint.py, a program of this session's own
import Derived.Test.YtlmmkaddlflepaaPOrdS
import Derived.Test.YtlmmkaddlflepaaPOrd11
namespace Go.Proofs.Ytlmmkaddlflepaa.POrd
open Go.RowKit Go.Proofs.YtlmmkaddlflepaaW.PrintWords Go.Proofs.YtlmmkaddlflepaaW.PrintLast Go.Proofs.YtlmmkaddlflepaaW.PrintMore
attribute [local go_sem] max2_int min2_int max_two min_two max_three min_three max_four min_four   -- for this text's walks alone
set_option linter.unusedVariables false
set_option linter.unusedSimpArgs false

/-- THE PURE STATEMENT of relaylaw01_ValueOrder. -/
def relaylaw01_ValueOrder.Pure : Prop := ∀ (a0_0 : Int) (a0_1 : Int) (a0_2 : ByteArray) (a1_0 : Int) (a1_1 : Int) (a1_2 : ByteArray), (Lit.int .u8 a0_0).wf = true → (Lit.int .u64 a0_1).wf = true → a0_2.size ≤ 140737488351232 → (Lit.int .u8 a1_0).wf = true → (Lit.int .u64 a1_1).wf = true → a1_2.size ≤ 140737488351232 → ∃ k, relaylaw01_ValueOrder.f k a0_0 a0_1 a0_2 a1_0 a1_1 a1_2 = some true
end Go.Proofs.Ytlmmkaddlflepaa.POrd
