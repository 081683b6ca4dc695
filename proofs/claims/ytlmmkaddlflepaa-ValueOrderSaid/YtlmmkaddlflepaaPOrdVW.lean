/- What (wide).of computes, in plain words. No condition but that numbers are 64 bits. -/
import Derived.Test.YtlmmkaddlflepaaPOrdV1
namespace Go.Proofs.Ytlmmkaddlflepaa.POrd
open Go.RowKit Go.Proofs.YtlmmkaddlflepaaW.PrintWords Go.Proofs.YtlmmkaddlflepaaW.PrintLast Go.Proofs.YtlmmkaddlflepaaW.PrintMore Go.Proofs.Ytlmmkaddlflepaa.Plain
set_option linter.unusedVariables false
set_option linter.unusedSimpArgs false

theorem v_wide (m : Bool) (s a fault : Int) (h0 : 0 ≤ s) (h1 : s < 18446744073709551616) (k : Nat) : value_wide_of.f (k + 12) m s a fault = some (ofV m s a fault) := by
  have hz0 : 0 ≤ (-s) % 18446744073709551616 := by omega
  have hz1 : (-s) % 18446744073709551616 < 18446744073709551616 := by omega
  simp only [value_wide_of.f, value_wide_of.j0, value_wide_of.j1, value_wide_of.j2, value_signed.f, wrap_u64, v_fits a _ hz0 hz1, v_fits a s h0 h1, Option.bind_some]
  unfold ofV
  have hs : ((if a ≥ 2 then some (decide (a ≤ 5)) else some false) = some true ∧ signedB a = true) ∨ ((if a ≥ 2 then some (decide (a ≤ 5)) else some false) = some false ∧ signedB a = decide (a = 14)) := by
    unfold signedB
    by_cases u : 2 ≤ a ∧ a ≤ 5
    · exact .inl ⟨by rw [if_pos u.1, decide_eq_true u.2], by simp [u]⟩
    · refine .inr ⟨by split <;> simp <;> omega, ?_⟩
      by_cases v : a = 14 <;> simp [u, v]
  cases m
  · simp only [Bool.false_eq_true, if_false, false_and]
    rcases hs with ⟨e1, e2⟩ | ⟨e1, e2⟩
    · simp only [e1, e2, Option.bind_some, if_true, true_and]
      by_cases c : s > 9223372036854775807
      · simp [c]
      · cases fitsB a s <;> simp [c]
    · simp only [e1, e2, Option.bind_some, if_false, Bool.false_eq_true]
      by_cases d : a = 14
      · by_cases c : s > 9223372036854775807
        · simp [c, d]
        · subst d; cases fitsB 14 s <;> simp [c]
      · cases fitsB a s <;> simp [d]
  · simp only [if_true, true_and]
    by_cases c0 : s > 0
    · simp only [c0, decide_true, if_true]
      rcases hs with ⟨e1, e2⟩ | ⟨e1, e2⟩
      · simp only [e1, e2, Option.bind_some, if_true, true_and]
        by_cases c : s > 9223372036854775808
        · have c' : ¬ s ≤ 9223372036854775808 := by omega
          simp [c, c']
        · have c' : s ≤ 9223372036854775808 := by omega
          cases fitsB a ((-s) % 18446744073709551616) <;> simp [c, c']
      · simp only [e1, e2, Option.bind_some, if_false, Bool.false_eq_true]
        by_cases d : a = 14
        · by_cases c : s > 9223372036854775808
          · have c' : ¬ s ≤ 9223372036854775808 := by omega
            simp [c, c', d]
          · have c' : s ≤ 9223372036854775808 := by omega
            subst d; cases fitsB 14 ((-s) % 18446744073709551616) <;> simp [c, c']
        · simp [d]
    · simp only [c0, decide_false, if_false, Bool.false_eq_true]
      have c2 : ¬ s > 9223372036854775807 := by omega
      rcases hs with ⟨e1, e2⟩ | ⟨e1, e2⟩
      · simp only [e1, e2, Option.bind_some, if_true, true_and]
        cases fitsB a s <;> simp [c2]
      · simp only [e1, e2, Option.bind_some, if_false, Bool.false_eq_true]
        by_cases d : a = 14
        · subst d; cases fitsB 14 s <;> simp [c2]
        · cases fitsB a s <;> simp [d]
end Go.Proofs.Ytlmmkaddlflepaa.POrd
