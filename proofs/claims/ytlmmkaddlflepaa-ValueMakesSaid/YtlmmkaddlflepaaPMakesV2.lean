/- What value.Int and the document's Int compute, in plain words. No condition but that numbers are 64 bits. -/
import Derived.Test.YtlmmkaddlflepaaPMakesV1
namespace Go.Proofs.Ytlmmkaddlflepaa.PMakes
open Go.RowKit Go.Proofs.YtlmmkaddlflepaaW.PrintWords Go.Proofs.YtlmmkaddlflepaaW.PrintLast Go.Proofs.YtlmmkaddlflepaaW.PrintMore Go.Proofs.Ytlmmkaddlflepaa.Plain
set_option linter.unusedVariables false
set_option linter.unusedSimpArgs false

theorem v_int (a n : Int) (k : Nat) : value_Int.f (k + 12) a n = some (intV a n) := by
  have h0 : 0 ≤ n % 18446744073709551616 := by omega
  have h1 : n % 18446744073709551616 < 18446744073709551616 := by omega
  simp only [value_Int.f, value_Int.j0, value_Int.j1, value_Int.j2, value_known.f, value_unsigned.f, value_row.f, wrap_u64, v_fits a _ h0 h1, Option.bind_some]
  unfold intV
  by_cases r : 1 ≤ a ∧ a ≤ 17
  · rw [if_pos r]
    have r1 : a ≥ 1 := r.1
    have r2 : a ≤ 19 := by omega
    have r3 : ¬ a = 18 := by omega
    have r4 : (a == 19) = false := by simp; omega
    simp only [r1, r2, r3, r4, if_true, if_false, decide_true, Option.bind_some, Bool.false_eq_true]
    by_cases s : (2 ≤ a ∧ a ≤ 5) ∨ a = 14
    · have s1 : (if a ≥ 6 then some (decide (a ≤ 9)) else some false) = some false := by split <;> simp <;> omega
      have s2 : (if a ≥ 10 then some (decide (a ≤ 13)) else some false) = some false := by split <;> simp <;> omega
      have s3 : ¬ a = 1 := by omega
      have s4 : ¬ a = 15 := by omega
      have s5 : ¬ a = 16 := by omega
      have s6 : (a == 17) = false := by simp; omega
      have s7 : ¬ (¬ (2 ≤ a ∧ a ≤ 5) ∧ a ≠ 14 ∧ n < 0) := by omega
      simp only [s1, s2, s3, s4, s5, s6, s7, Option.bind_some, if_false, Bool.false_eq_true, false_or]
      cases fitsB a (n % 18446744073709551616) <;> rfl
    · have s0 : ((if a ≥ 6 then some (decide (a ≤ 9)) else some false) = some true) ∨ ((if a ≥ 6 then some (decide (a ≤ 9)) else some false) = some false ∧ (if a ≥ 10 then some (decide (a ≤ 13)) else some false) = some true) ∨
          ((if a ≥ 6 then some (decide (a ≤ 9)) else some false) = some false ∧ (if a ≥ 10 then some (decide (a ≤ 13)) else some false) = some false ∧ (a = 1 ∨ a = 15 ∨ a = 16 ∨ a = 17)) := by
        by_cases u : 6 ≤ a ∧ a ≤ 9
        · exact .inl (by rw [if_pos u.1, decide_eq_true u.2])
        · have u1 : (if a ≥ 6 then some (decide (a ≤ 9)) else some false) = some false := by split <;> simp <;> omega
          by_cases v : 10 ≤ a ∧ a ≤ 13
          · exact .inr (.inl ⟨u1, by rw [if_pos v.1, decide_eq_true v.2]⟩)
          · exact .inr (.inr ⟨u1, by split <;> simp <;> omega, by omega⟩)
      have s7 : (¬ (2 ≤ a ∧ a ≤ 5) ∧ a ≠ 14 ∧ n < 0) ↔ n < 0 := by omega
      simp only [s7]
      have fin : (if n < 0 then (if True then some ((0 : Int), (0 : Int), (⟨#[]⟩ : ByteArray), (1 : Int)) else some (a, n % 18446744073709551616, ⟨#[]⟩, 0)) else if (!fitsB a (n % 18446744073709551616)) = true then some (0, 0, ⟨#[]⟩, 1) else some (a, n % 18446744073709551616, ⟨#[]⟩, 0)) =
          some (if n < 0 ∨ fitsB a (n % 18446744073709551616) = false then (0, 0, ⟨#[]⟩, 1) else (a, n % 18446744073709551616, ⟨#[]⟩, 0)) := by
        by_cases hn : n < 0
        · simp [hn]
        · cases fitsB a (n % 18446744073709551616) <;> simp [hn]
      rcases s0 with s0 | ⟨s0, s1⟩ | ⟨s0, s1, rfl | rfl | rfl | rfl⟩
      · simp only [s0, Option.bind_some, if_true]; exact fin
      · simp only [s0, s1, Option.bind_some, if_true, if_false, Bool.false_eq_true]; exact fin
      all_goals
        simp only [s0, s1, Option.bind_some, if_true, if_false, Bool.false_eq_true, Int.reduceEq, Int.reduceBEq]; exact fin
  · rw [if_neg r]
    by_cases r1 : a ≥ 1
    · by_cases r2 : a ≤ 19
      · by_cases r3 : a = 18
        · simp [r3]
        · have r4 : a = 19 := by omega
          simp [r4]
      · simp [r1, r2]
    · simp [r1]
theorem r_int (a n : Int) (k : Nat) : relayref01_Int.f (k + 12) a n = some (intV a n) := by
  have h0 : 0 ≤ n % 18446744073709551616 := by omega
  have h1 : n % 18446744073709551616 < 18446744073709551616 := by omega
  simp only [relayref01_Int.f, relayref01_Int.j0, relayref01_Int.j1, relayref01_Signed.f, relayref01_Time.f, r_width, wrap_u64, r_May a _ _ h0 h1, Option.bind_some]
  unfold intV
  by_cases r : 1 ≤ a ∧ a ≤ 17
  · rw [if_pos r]
    have e18 : a ≠ 18 := by omega
    have e19 : a ≠ 19 := by omega
    rw [mayB_empty a _ e18 e19]
    have hw : ¬ widthV a = 0 := by
      unfold widthV
      repeat' split
      all_goals omega
    have key : (if n < 0 then ((if a ≥ 2 then some (decide (a ≤ 5)) else some false).bind fun t126 => if t126 = true then (if (!fitsB a (n % 18446744073709551616)) = true then some ((0 : Int), (0 : Int), (⟨#[]⟩ : ByteArray), (1 : Int)) else some (a, n % 18446744073709551616, ⟨#[]⟩, 0))
          else if a = 14 then (if (!fitsB a (n % 18446744073709551616)) = true then some (0, 0, ⟨#[]⟩, 1) else some (a, n % 18446744073709551616, ⟨#[]⟩, 0)) else if True then some (0, 0, ⟨#[]⟩, 1) else some (a, n % 18446744073709551616, ⟨#[]⟩, 0))
        else if (!fitsB a (n % 18446744073709551616)) = true then some (0, 0, ⟨#[]⟩, 1) else some (a, n % 18446744073709551616, ⟨#[]⟩, 0)) =
        some (if (¬ (2 ≤ a ∧ a ≤ 5) ∧ a ≠ 14 ∧ n < 0) ∨ fitsB a (n % 18446744073709551616) = false then (0, 0, ⟨#[]⟩, 1) else (a, n % 18446744073709551616, ⟨#[]⟩, 0)) := by
      by_cases hn : n < 0
      · rw [if_pos hn]
        by_cases s : 2 ≤ a ∧ a ≤ 5
        · have s1 : a ≥ 2 := s.1
          have s2 : a ≤ 5 := s.2
          simp only [s1, s2, if_true, decide_true, Option.bind_some]
          cases fitsB a (n % 18446744073709551616) <;> simp [s1, s2]
        · have s1 : (if a ≥ 2 then some (decide (a ≤ 5)) else some false) = some false := by split <;> simp <;> omega
          simp only [s1, Option.bind_some, Bool.false_eq_true, if_false]
          by_cases t : a = 14
          · subst t
            cases fitsB 14 (n % 18446744073709551616) <;> simp
          · have : (¬ (2 ≤ a ∧ a ≤ 5) ∧ a ≠ 14 ∧ n < 0) := ⟨s, t, hn⟩
            simp [t, this]
      · rw [if_neg hn]
        cases fitsB a (n % 18446744073709551616)
        · simp
        · simp; omega
    by_cases e1 : a = 1
    · rw [if_pos e1]; simp only [Bool.false_eq_true, if_false]; exact key
    · rw [if_neg e1]
      by_cases e2 : 2 ≤ a ∧ a ≤ 13
      · rw [if_pos e2, if_neg hw]; simp only [Bool.false_eq_true, if_false]; exact key
      · have e3 : a ≥ 14 := by omega
        have e4 : a ≤ 17 := by omega
        rw [if_neg e2]
        simp only [if_true, e3, e4, decide_true, Option.bind_some, Bool.not_true, Bool.false_eq_true, if_false]
        exact key
  · rw [if_neg r]
    have e1 : ¬ a = 1 := by omega
    have e2 : ¬ (2 ≤ a ∧ a ≤ 13) := by omega
    have e3 : (if a ≥ 14 then some (decide (a ≤ 17)) else some false) = some false := by split <;> simp <;> omega
    simp [e1, e2, e3]
end Go.Proofs.Ytlmmkaddlflepaa.PMakes
