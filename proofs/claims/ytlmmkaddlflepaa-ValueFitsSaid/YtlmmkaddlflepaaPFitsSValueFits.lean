-- by mkprint.py, a program of this session's own
import Derived.Test.YtlmmkaddlflepaaPFitsS
import Derived.Test.YtlmmkaddlflepaaPFits7
namespace Go.Proofs.Ytlmmkaddlflepaa.PFits
open Go.RowKit Go.Proofs.YtlmmkaddlflepaaW.PrintWords Go.Proofs.YtlmmkaddlflepaaW.PrintLast Go.Proofs.YtlmmkaddlflepaaW.PrintMore
attribute [local go_sem] max2_int min2_int max_two min_two max_three min_three max_four min_four   -- for this text's walks alone
set_option linter.unusedVariables false
set_option linter.unusedSimpArgs false

/-- THE PURE STATEMENT of relaylaw01_ValueFits. -/
def relaylaw01_ValueFits.Pure : Prop := ∀ (a0_0 : Int) (a0_1 : Bool) (a0_2 : Int) (a0_3 : Int) (a0_4 : Int) (a0_5 : Bool) (a0_6 : Int) (a0_7 : Int) (a0_8 : ByteArray) (a1_0 : Int) (a1_1 : Int) (a1_2 : ByteArray), (Lit.int .u8 a0_0).wf = true → (Lit.int .i64 a0_2).wf = true → (Lit.int .i64 a0_3).wf = true → (Lit.int .i64 a0_4).wf = true → (Lit.int .i64 a0_6).wf = true → (Lit.int .i64 a0_7).wf = true → a0_8.size ≤ 140737488351232 → (Lit.int .u8 a1_0).wf = true → (Lit.int .u64 a1_1).wf = true → a1_2.size ≤ 140737488351232 → ∃ k, relaylaw01_ValueFits.f k a0_0 a0_1 a0_2 a0_3 a0_4 a0_5 a0_6 a0_7 a0_8 a1_0 a1_1 a1_2 = some true
end Go.Proofs.Ytlmmkaddlflepaa.PFits
