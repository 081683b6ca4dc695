-- by mkprint.py, a program of this session's own
import Derived.Test.YtlmmkaddlflepaaPReckS
import Derived.Test.YtlmmkaddlflepaaPReck16
namespace Go.Proofs.Ytlmmkaddlflepaa.PReck
open Go.RowKit Go.Proofs.YtlmmkaddlflepaaW.PrintWords Go.Proofs.YtlmmkaddlflepaaW.PrintLast Go.Proofs.YtlmmkaddlflepaaW.PrintMore
attribute [local go_sem] max2_int min2_int max_two min_two max_three min_three max_four min_four   -- for this text's walks alone
set_option linter.unusedVariables false
set_option linter.unusedSimpArgs false

/-- THE PURE STATEMENT of relaylaw01_ValueReckons. -/
def relaylaw01_ValueReckons.Pure : Prop := ∀ (a0 : Int) (a1_0 : Int) (a1_1 : Int) (a1_2 : ByteArray) (a2_0 : Int) (a2_1 : Int) (a2_2 : ByteArray), (Lit.int .i64 a0).wf = true → (Lit.int .u8 a1_0).wf = true → (Lit.int .u64 a1_1).wf = true → a1_2.size ≤ 140737488351232 → (Lit.int .u8 a2_0).wf = true → (Lit.int .u64 a2_1).wf = true → a2_2.size ≤ 140737488351232 → ∃ k, relaylaw01_ValueReckons.f k a0 a1_0 a1_1 a1_2 a2_0 a2_1 a2_2 = some true
end Go.Proofs.Ytlmmkaddlflepaa.PReck
