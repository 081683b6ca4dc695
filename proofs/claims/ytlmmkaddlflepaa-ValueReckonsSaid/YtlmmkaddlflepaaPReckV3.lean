/- What the document's signed and made compute, in plain words. No condition but that numbers are 64 bits. -/
import Derived.Test.YtlmmkaddlflepaaPReckV1
namespace Go.Proofs.Ytlmmkaddlflepaa.PReck
open Go.RowKit Go.Proofs.YtlmmkaddlflepaaW.PrintWords Go.Proofs.YtlmmkaddlflepaaW.PrintLast Go.Proofs.YtlmmkaddlflepaaW.PrintMore Go.Proofs.Ytlmmkaddlflepaa.Plain
set_option linter.unusedVariables false
set_option linter.unusedSimpArgs false

theorem r_made (a b fault : Int) (h0 : 0 ≤ b) (h1 : b < 18446744073709551616) (k : Nat) : relayref01_made.f (k + 6) a b fault = some (if (if a = 18 then (!nanB b || b == 9221120237041090561) else fitsB a b) = true then (a, b, ⟨#[]⟩, 0) else (0, 0, ⟨#[]⟩, fault)) := by
  simp only [relayref01_made.f, r_may a b h0 h1, Option.bind_some]
  generalize (if a = 18 then (!nanB b || b == 9221120237041090561) else fitsB a b) = q
  cases q <;> rfl
theorem r_sub (x y : Int) (hx : -9223372036854775808 ≤ x ∧ x ≤ 9223372036854775807) (hy : -9223372036854775808 ≤ y ∧ y ≤ 9223372036854775807) (k : Nat) :
    relayref01_signed.f (k + 3) 2 x y = some (if -9223372036854775808 ≤ x - y ∧ x - y ≤ 9223372036854775807 then (x - y, 0) else (0, 1)) := by
  simp only [relayref01_signed.f, relayref01_signed.j1, Int.reduceEq, if_false, if_true, Bool.false_eq_true, decide_eq_true_eq]
  have w : (wrap64 (x - y) = x - y ∧ -9223372036854775808 ≤ x - y ∧ x - y ≤ 9223372036854775807) ∨ (wrap64 (x - y) = x - y + 18446744073709551616 ∧ x - y < -9223372036854775808) ∨ (wrap64 (x - y) = x - y - 18446744073709551616 ∧ x - y > 9223372036854775807) := by
    unfold wrap64; omega
  generalize wrap64 (x - y) = W at *
  repeat' split
  all_goals first | rfl | (exfalso; omega) | (congr 2; omega)
end Go.Proofs.Ytlmmkaddlflepaa.PReck
