/- The pure statement of ValueReckons: every operation on two values gives what the document's table says, or its fault. No condition. -/
import Derived.Test.YtlmmkaddlflepaaPReckVR
import Derived.Test.YtlmmkaddlflepaaPReckVQ
import Derived.Test.YtlmmkaddlflepaaPReckSValueReckons
namespace Go.Proofs.Ytlmmkaddlflepaa.Pure
open Go.RowKit Go.Proofs.YtlmmkaddlflepaaW.PrintWords Go.Proofs.YtlmmkaddlflepaaW.PrintLast Go.Proofs.YtlmmkaddlflepaaW.PrintMore Go.Proofs.Ytlmmkaddlflepaa.Plain Go.Proofs.Ytlmmkaddlflepaa.PReck
set_option linter.unusedVariables false
set_option linter.unusedSimpArgs false

theorem ValueReckons : relaylaw01_ValueReckons.Pure := by
  intro op a b t c d u wo wa wb wt wc wd wu
  obtain ⟨h0, h1⟩ := bounds_u64 wb
  obtain ⟨g0, g1⟩ := bounds_u64 wd
  refine ⟨40, ?_⟩
  unfold relaylaw01_ValueReckons.f
  rw [show (40 : Nat) = 0 + 40 from rfl, v_reckon op a b t c d u h0 (by omega) g0 (by omega), r_reckon op a b t c d u h0 (by omega) g0 (by omega)]
  simp [relaylaw01_same.f]
end Go.Proofs.Ytlmmkaddlflepaa.Pure
