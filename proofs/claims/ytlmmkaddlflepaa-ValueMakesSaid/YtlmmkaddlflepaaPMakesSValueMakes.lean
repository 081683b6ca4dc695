-- by mkprint.py, a program of this session's own
import Derived.Test.YtlmmkaddlflepaaPMakesS
import Derived.Test.YtlmmkaddlflepaaPMakes7
namespace Go.Proofs.Ytlmmkaddlflepaa.PMakes
open Go.RowKit Go.Proofs.YtlmmkaddlflepaaW.PrintWords Go.Proofs.YtlmmkaddlflepaaW.PrintLast Go.Proofs.YtlmmkaddlflepaaW.PrintMore
attribute [local go_sem] max2_int min2_int max_two min_two max_three min_three max_four min_four   -- for this text's walks alone
set_option linter.unusedVariables false
set_option linter.unusedSimpArgs false

/-- THE PURE STATEMENT of relaylaw01_ValueMakes. -/
def relaylaw01_ValueMakes.Pure : Prop := ∀ (a0 : Int) (a1 : Int) (a2 : Nat) (a3 : ByteArray) (a4_0 : Int) (a4_1 : Int) (a4_2 : ByteArray), (Lit.int .u8 a0).wf = true → (Lit.int .i64 a1).wf = true → (Lit.float .f64 a2).wf = true → a3.size ≤ 140737488351232 → (Lit.int .u8 a4_0).wf = true → (Lit.int .u64 a4_1).wf = true → a4_2.size ≤ 140737488351232 → ∃ k, relaylaw01_ValueMakes.f k a0 a1 a2 a3 a4_0 a4_1 a4_2 = some true
end Go.Proofs.Ytlmmkaddlflepaa.PMakes
