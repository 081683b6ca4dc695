/- A value's number, in plain words. No condition but that bits are 64. -/
import Derived.Test.YtlmmkaddlflepaaPMakesV1
namespace Go.Proofs.Ytlmmkaddlflepaa.PMakes
open Go.RowKit Go.Proofs.YtlmmkaddlflepaaW.PrintWords Go.Proofs.YtlmmkaddlflepaaW.PrintLast Go.Proofs.YtlmmkaddlflepaaW.PrintMore Go.Proofs.Ytlmmkaddlflepaa.Plain
set_option linter.unusedVariables false
set_option linter.unusedSimpArgs false

theorem v_number (a b : Int) (t : ByteArray) (h0 : 0 ≤ b) (h1 : b < 18446744073709551616) (k : Nat) : value_Number.f (k + 8) a b t = some (numV a b t) := by
  simp only [value_Number.f, v_may a b t h0 h1, Option.bind_some, value_Number.j0, value_Number.j1, value_unsigned.f, value_row.f]
  unfold numV
  cases hm : mayB a b t
  · simp
  · have hf := may_facts hm
    by_cases c : a = 18
    · simp [c]
    by_cases d : a = 19
    · simp [d]
    have hf2 : 1 ≤ a ∧ a ≤ 17 ∧ (a = 6 ∨ a = 7 ∨ a = 8 ∨ a = 10 ∨ a = 11 ∨ a = 12 → b ≤ 4294967295) := by omega
    simp only [c, d, if_false, if_true, beq_iff_eq, ne_eq, not_false_eq_true, true_and]
    by_cases e : (6 ≤ a ∧ a ≤ 9)
    · have e1 : a ≥ 6 := e.1
      simp only [e1, e.2, if_true, Option.bind_some, decide_true]
      by_cases f : b > 9223372036854775807
      · have g : a = 9 := by omega
        simp [f, g]
      · simp [f]
    · have e1 : (if a ≥ 6 then some (decide (a ≤ 9)) else some false) = some false := by split <;> simp <;> omega
      simp only [e1, Option.bind_some, if_false, Bool.false_eq_true]
      by_cases e2 : (10 ≤ a ∧ a ≤ 13)
      · have e3 : a ≥ 10 := e2.1
        simp only [e3, e2.2, if_true, Option.bind_some, decide_true]
        by_cases f : b > 9223372036854775807
        · have g : a = 13 := by omega
          simp [f, g]
        · simp [f]
      · have e3 : (if a ≥ 10 then some (decide (a ≤ 13)) else some false) = some false := by split <;> simp <;> omega
        have e4 : ¬ (a = 9 ∨ a = 13) := by omega
        simp [e3, e4]
theorem r_number (a b : Int) (t : ByteArray) (h0 : 0 ≤ b) (h1 : b < 18446744073709551616) (k : Nat) : relayref01_Number.f (k + 9) a b t = some (numV a b t) := by
  simp only [relayref01_Number.f, r_May a b t h0 h1, r_width, Option.bind_some, relayref01_Number.j0, relayref01_Number.j1, relayref01_Time.f, relayref01_big.f]
  unfold numV
  cases hm : mayB a b t
  · simp only [Bool.false_eq_true, if_false, false_and]
    repeat' split
    all_goals first | rfl | simp_all
  · have hf := may_facts hm
    by_cases c : a = 18
    · simp [c]
    by_cases d : a = 19
    · simp [d]
    by_cases e9 : a = 9
    · subst e9
      by_cases f : b > 9223372036854775807
      · have : b / 9223372036854775808 = 1 := by omega
        simp [this, f, widthV]
      · have : ¬ b / 9223372036854775808 = 1 := by omega
        simp [this, f, widthV]
    by_cases e13 : a = 13
    · subst e13
      by_cases f : b > 9223372036854775807
      · have : b / 9223372036854775808 = 1 := by omega
        simp [this, f, widthV]
      · have : ¬ b / 9223372036854775808 = 1 := by omega
        simp [this, f, widthV]
    have hw : 0 < widthV a := by unfold widthV; repeat' split
                                 all_goals omega
    simp only [e9, e13, c, d, if_false, if_true, ne_eq, not_false_eq_true, true_and, false_and, or_self]
    by_cases e1 : a = 1
    · simp [e1]
    · by_cases e2 : 2 ≤ a ∧ a ≤ 13
      · simp [e1, e2, hw]
      · have e3 : a ≥ 14 := by omega
        have e4 : a ≤ 17 := by omega
        simp [e1, e2, e3, e4]
end Go.Proofs.Ytlmmkaddlflepaa.PMakes
