/- What the document's table of kinds and its comparisons compute, in plain words. No condition. -/
import Derived.Test.YtlmmkaddlflepaaPReckV6
import Derived.Test.YtlmmkaddlflepaaPReckVC
namespace Go.Proofs.Ytlmmkaddlflepaa.PReck
open Go.RowKit Go.Proofs.YtlmmkaddlflepaaW.PrintWords Go.Proofs.YtlmmkaddlflepaaW.PrintLast Go.Proofs.YtlmmkaddlflepaaW.PrintMore Go.Proofs.Ytlmmkaddlflepaa.Plain
set_option linter.unusedVariables false
set_option linter.unusedSimpArgs false

theorem r_result_far (op a c : Int) (h : a ≠ c) (k : Nat) : relayref01_Result.f (k + 12) op a c = some (spanK op a c) := by
  simp only [relayref01_Result.f, relayref01_Result.j0, relayref01_Result.j1, relayref01_Result.j2, relayref01_Result.j3, relayref01_Result.j4, relayref01_Result.j5, relayref01_Result.j6, h, if_false, Bool.false_eq_true, chain, ite_self]
  unfold spanK
  simp only [h, false_and, and_false, if_false]
  by_cases o1 : op = 1
  · subst o1
    by_cases a17 : a = 17
    · subst a17
      by_cases c14 : c = 14
      · simp [relayref01_Result.j7, c14]
      · simp [relayref01_Result.j7, relayref01_Result.j8, c14]
    by_cases a16 : a = 16
    · subst a16
      by_cases c14 : c = 14
      · simp [relayref01_Result.j7, c14]
      · simp [relayref01_Result.j7, relayref01_Result.j8, c14]
    have : ¬ (c = 14 ∧ (a = 14 ∨ a = 17 ∨ a = 16)) := by omega
    simp [relayref01_Result.j7, relayref01_Result.j8, a17, a16]
    omega
  by_cases o2 : op = 2
  · subst o2
    by_cases a17 : a = 17
    · subst a17
      by_cases c14 : c = 14
      · simp [relayref01_Result.j7, c14]
      · simp [relayref01_Result.j7, relayref01_Result.j8, c14]
    by_cases a16 : a = 16
    · subst a16
      by_cases c14 : c = 14
      · simp [relayref01_Result.j7, c14]
      · simp [relayref01_Result.j7, relayref01_Result.j8, c14]
    have : ¬ (c = 14 ∧ (a = 14 ∨ a = 17 ∨ a = 16)) := by omega
    simp [relayref01_Result.j7, relayref01_Result.j8, a17, a16]
    omega
  by_cases o3 : op = 3
  · subst o3
    by_cases a14 : a = 14
    · subst a14
      by_cases c5 : c = 5 <;> simp [relayref01_Result.j7, relayref01_Result.j8, c5]
    · simp [relayref01_Result.j7, relayref01_Result.j8, a14]
  by_cases o4 : op = 4
  · subst o4
    by_cases a14 : a = 14
    · subst a14
      by_cases c5 : c = 5 <;> simp [relayref01_Result.j7, relayref01_Result.j8, c5]
    · simp [relayref01_Result.j7, relayref01_Result.j8, a14]
  simp [relayref01_Result.j7, relayref01_Result.j8, o1, o2, o3, o4]
theorem r_result (op a c : Int) (k : Nat) : relayref01_Result.f (k + 12) op a c = some (resK op a c) := by
  by_cases h : a = c
  · subst h
    by_cases r : 1 ≤ a ∧ a ≤ 19
    · by_cases o : 1 ≤ op ∧ op ≤ 14
      · have ko : op = 1 ∨ op = 2 ∨ op = 3 ∨ op = 4 ∨ op = 5 ∨ op = 6 ∨ op = 7 ∨ op = 8 ∨ op = 9 ∨ op = 10 ∨ op = 11 ∨ op = 12 ∨ op = 13 ∨ op = 14 := by omega
        have ka : a = 1 ∨ a = 2 ∨ a = 3 ∨ a = 4 ∨ a = 5 ∨ a = 6 ∨ a = 7 ∨ a = 8 ∨ a = 9 ∨ a = 10 ∨ a = 11 ∨ a = 12 ∨ a = 13 ∨ a = 14 ∨ a = 15 ∨ a = 16 ∨ a = 17 ∨ a = 18 ∨ a = 19 := by omega
        rcases ko with rfl | rfl | rfl | rfl | rfl | rfl | rfl | rfl | rfl | rfl | rfl | rfl | rfl | rfl
        all_goals
          rcases ka with rfl | rfl | rfl | rfl | rfl | rfl | rfl | rfl | rfl | rfl | rfl | rfl | rfl | rfl | rfl | rfl | rfl | rfl | rfl <;> rfl
      · have n1 : ¬ (9 ≤ op ∧ op ≤ 14) := by omega
        have n2 : ¬ (1 ≤ op ∧ op ≤ 5) := by omega
        have n3 : ¬ (1 ≤ op ∧ op ≤ 4) := by omega
        have n4 : ¬ (6 ≤ op ∧ op ≤ 8) := by omega
        have n5 : ¬ op = 1 := by omega
        have n6 : ¬ op = 2 := by omega
        have n7 : ¬ op = 3 := by omega
        have n8 : ¬ op = 4 := by omega
        have e : resK op a a = 0 := by unfold resK spanK; rw [if_neg (by omega), if_neg (by omega), if_neg (by omega), if_neg (by omega), if_neg (by omega), if_neg (by omega), if_neg (by omega)]
        rw [e]
        have r1 : a ≥ 1 := r.1
        simp [relayref01_Result.f, relayref01_Result.j0, relayref01_Result.j1, relayref01_Result.j2, relayref01_Result.j3, relayref01_Result.j4, relayref01_Result.j5, relayref01_Result.j6, relayref01_Result.j7, relayref01_Result.j8, relayref01_elementary.f, chain, n1, n2, n3, n4, n5, n6, n7, n8, r1, r.2]
    · have el : relayref01_elementary.f a = some false := by unfold relayref01_elementary.f; split <;> simp <;> omega
      have n14 : ¬ a = 14 := by omega
      have n16 : ¬ a = 16 := by omega
      have n17 : ¬ a = 17 := by omega
      have e : resK op a a = 0 := by unfold resK spanK; rw [if_neg (by omega), if_neg (by omega), if_neg (by omega), if_neg (by omega), if_neg (by omega), if_neg (by omega), if_neg (by omega)]
      rw [e]
      simp [relayref01_Result.f, relayref01_Result.j0, relayref01_Result.j1, relayref01_Result.j2, relayref01_Result.j3, relayref01_Result.j4, relayref01_Result.j5, relayref01_Result.j6, relayref01_Result.j7, relayref01_Result.j8, el, n14, n16, n17]
  · rw [r_result_far op a c h]
    unfold resK
    rw [if_neg (fun q => h q.2.2.1), if_neg (fun q => h q.2.2.1), if_neg (fun q => h q.2.2.1), if_neg (fun q => h q.2.2.1)]
theorem r_order (a b : Int) (t : ByteArray) (c d : Int) (u : ByteArray) : relayref01_order.f a b t c d u = some (ordV a b t d u) := by
  unfold relayref01_order.f ordV relayref01_Signed.f
  by_cases c1 : a = 19
  · rw [if_pos c1, if_pos c1]
  rw [if_neg c1, if_neg c1]
  by_cases c2 : a = 18
  · rw [if_pos c2, if_pos c2]
  rw [if_neg c2, if_neg c2]
  by_cases s : 2 ≤ a ∧ a ≤ 5
  · have s1 : a ≥ 2 := s.1
    have s2 : signedB a = true := decide_eq_true (.inl s)
    simp [s1, s.2, s2]
  · have s1 : (if a ≥ 2 then some (decide (a ≤ 5)) else some false) = some false := by split <;> simp <;> omega
    by_cases s3 : a = 14
    · subst s3; rfl
    · have s2 : signedB a = false := decide_eq_false (by omega)
      simp [s1, s2, s3]
theorem r_compare (op a b : Int) (t : ByteArray) (c d : Int) (u : ByteArray) : relayref01_compare.f op a b t c d u = some (1, if cmpB op (ordV a b t d u) = true then 1 else 0, ⟨#[]⟩) := by
  unfold relayref01_compare.f
  rw [r_order]
  simp only [Option.bind_some]
  unfold cmpB
  generalize ordV a b t d u = o
  obtain ⟨l, s, m⟩ := o
  by_cases o9 : op = 9
  · simp only [o9, if_true]; cases s <;> rfl
  by_cases o10 : op = 10
  · simp only [o10, if_true, Int.reduceEq, if_false]; cases s <;> rfl
  by_cases o11 : op = 11
  · simp only [o11, if_true, Int.reduceEq, if_false]; cases l <;> rfl
  by_cases o12 : op = 12
  · simp only [o12, if_true, Int.reduceEq, if_false]; cases l <;> cases s <;> rfl
  by_cases o13 : op = 13
  · simp only [o13, if_true, Int.reduceEq, if_false]; cases m <;> rfl
  simp only [o9, o10, o11, o12, o13, if_false]; cases m <;> cases s <;> rfl
end Go.Proofs.Ytlmmkaddlflepaa.PReck
