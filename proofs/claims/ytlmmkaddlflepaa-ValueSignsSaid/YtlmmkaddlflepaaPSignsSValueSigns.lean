-- by mkprint.py, a program of this session's own
import Derived.Test.YtlmmkaddlflepaaPSignsS
import Derived.Test.YtlmmkaddlflepaaPSigns9
namespace Go.Proofs.Ytlmmkaddlflepaa.PSigns
open Go.RowKit Go.Proofs.YtlmmkaddlflepaaW.PrintWords Go.Proofs.YtlmmkaddlflepaaW.PrintLast Go.Proofs.YtlmmkaddlflepaaW.PrintMore
attribute [local go_sem] max2_int min2_int max_two min_two max_three min_three max_four min_four   -- for this text's walks alone
set_option linter.unusedVariables false
set_option linter.unusedSimpArgs false

/-- THE PURE STATEMENT of relaylaw01_ValueSigns. -/
def relaylaw01_ValueSigns.Pure : Prop := ∀ (a0_0 : Int) (a0_1 : Int) (a0_2 : ByteArray), (Lit.int .u8 a0_0).wf = true → (Lit.int .u64 a0_1).wf = true → a0_2.size ≤ 140737488351232 → ∃ k, relaylaw01_ValueSigns.f k a0_0 a0_1 a0_2 = some true
end Go.Proofs.Ytlmmkaddlflepaa.PSigns
