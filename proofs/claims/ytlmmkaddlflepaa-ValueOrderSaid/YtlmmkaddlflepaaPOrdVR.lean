/- What Reckon computes, in plain words. No condition but that bits are 64. -/
import Derived.Test.YtlmmkaddlflepaaPOrdV5
import Derived.Test.YtlmmkaddlflepaaPOrdVC
namespace Go.Proofs.Ytlmmkaddlflepaa.POrd
open Go.RowKit Go.Proofs.YtlmmkaddlflepaaW.PrintWords Go.Proofs.YtlmmkaddlflepaaW.PrintLast Go.Proofs.YtlmmkaddlflepaaW.PrintMore Go.Proofs.Ytlmmkaddlflepaa.Plain
set_option linter.unusedVariables false
set_option linter.unusedSimpArgs false

theorem v_reckon (op a b : Int) (t : ByteArray) (c d : Int) (u : ByteArray) (h0 : 0 ≤ b) (h1 : b < 18446744073709551616) (g0 : 0 ≤ d) (g1 : d < 18446744073709551616) (k : Nat) :
    value_Reckon.f (k + 40) op a b t c d u = some (reckV op a b t c d u) := by
  unfold value_Reckon.f reckV
  rw [v_may a b t h0 h1]
  simp only [Option.bind_some]
  by_cases m1 : mayB a b t = true
  rotate_left
  · rw [if_neg m1, if_neg (fun q => m1 q.1)]; rfl
  rw [if_pos m1, v_may c d u g0 g1]
  simp only [Option.bind_some, value_Reckon.j0]
  by_cases m2 : mayB c d u = true
  rotate_left
  · rw [if_neg (c := _ ∧ _) (fun q => m2 q.2)]; simp [m2]
  rw [if_pos (c := _ ∧ _) ⟨m1, m2⟩]
  simp only [m2, Bool.not_true, Bool.false_eq_true, if_false, chain]
  by_cases p : 9 ≤ op ∧ op ≤ 14
  · rw [if_pos p]
    by_cases e : a = c
    · have e2 : (a == c) = true := by simp [e]
      rw [if_pos (c := _ ∧ _ ∧ _) ⟨p.1, p.2, e⟩, e2]
      simp only [value_Reckon.j1, if_true, v_compared op a b t c d u h0 h1 g0 g1, Option.bind_some]
    · have e2 : (a == c) = false := by simp [e]
      rw [if_neg (c := 9 ≤ op ∧ _ ∧ _) (fun q => e q.2.2), e2]
      have n1 : ¬ (6 ≤ op ∧ op ≤ 8) := by omega
      have n2 : ¬ op < 1 := by omega
      have n3 : op > 5 := by omega
      have n4 : spanK op a c = 0 := by unfold spanK; rw [if_neg (by omega), if_neg (by omega), if_neg (by omega)]
      rw [if_neg (c := 6 ≤ op ∧ _ ∧ _ ∧ _) (by omega), if_neg (c := 1 ≤ op ∧ _ ∧ _ ∧ _) (by omega), if_neg (c := 1 ≤ op ∧ _ ∧ _ ∧ _) (by omega), if_pos n4]
      simp [value_Reckon.j1, value_Reckon.j2, value_Reckon.j3, chain, n1, n2, n3]
  rw [if_neg p, if_neg (c := 9 ≤ op ∧ _ ∧ _) (fun q => p ⟨q.1, q.2.1⟩)]
  simp only [value_Reckon.j1, Bool.false_eq_true, if_false, chain]
  by_cases q : 6 ≤ op ∧ op ≤ 8 ∧ a = c ∧ (a = 1 ∨ (10 ≤ a ∧ a ≤ 13))
  · rw [if_pos (c := 6 ≤ op ∧ op ≤ 8) ⟨q.1, q.2.1⟩, if_pos (c := 6 ≤ op ∧ op ≤ 8 ∧ _ ∧ _) q]
    have e2 : (a == c) = true := by simp [q.2.2.1]
    have key : ((value_row.f a).bind fun t230 => if t230 = true then value_Reckon.j2 (k + 38) op (a == c) true a b t c d u else value_Reckon.j2 (k + 38) op (a == c) (a == 1) a b t c d u) = value_Reckon.j2 (k + 38) op (a == c) true a b t c d u := by
      unfold value_row.f
      rcases q.2.2.2 with r | r
      · subst r; rfl
      · have r1 : a ≥ 10 := r.1
        simp [r1, r.2]
    rw [if_pos e2]
    refine Eq.trans key ?_
    simp only [value_Reckon.j2, if_true]
    by_cases o6 : op = 6
    · simp [o6]
    by_cases o7 : op = 7
    · simp [o7]
    simp [o6, o7]
  rw [if_neg (c := 6 ≤ op ∧ op ≤ 8 ∧ _ ∧ _) q]
  have key : (if 6 ≤ op ∧ op ≤ 8 then (if (a == c) = true then ((value_row.f a).bind fun t230 => if t230 = true then value_Reckon.j2 (k + 38) op (a == c) true a b t c d u else value_Reckon.j2 (k + 38) op (a == c) (a == 1) a b t c d u) else value_Reckon.j2 (k + 38) op (a == c) false a b t c d u) else value_Reckon.j2 (k + 38) op (a == c) false a b t c d u) = value_Reckon.j2 (k + 38) op (a == c) false a b t c d u := by
    by_cases r : 6 ≤ op ∧ op ≤ 8
    · rw [if_pos r]
      by_cases e : a = c
      · have n1 : ¬ (a = 1 ∨ (10 ≤ a ∧ a ≤ 13)) := fun h => q ⟨r.1, r.2, e, h⟩
        have n2 : (a == 1) = false := by simp; omega
        have n3 : value_row.f a = some false := by unfold value_row.f; split <;> simp <;> omega
        rw [if_pos (by simp [e]), n3, n2]; rfl
      · rw [if_neg (by simp [e])]
    · rw [if_neg r]
  refine Eq.trans key ?_
  simp only [value_Reckon.j2, Bool.false_eq_true, if_false]
  by_cases o : 1 ≤ op ∧ op ≤ 5
  rotate_left
  · have n4 : spanK op a c = 0 := by unfold spanK; rw [if_neg (by omega), if_neg (by omega), if_neg (by omega)]
    rw [if_neg (c := 1 ≤ op ∧ _ ∧ _ ∧ _) (by omega), if_neg (c := 1 ≤ op ∧ _ ∧ _ ∧ _) (by omega), if_pos n4]
    by_cases l : op < 1
    · simp [value_Reckon.j3, l]
    · have l2 : op > 5 := by omega
      simp [value_Reckon.j3, l, l2]
  have l1 : ¬ op < 1 := by omega
  have l2 : decide (op > 5) = false := by simp; omega
  rw [if_neg l1, l2]
  simp only [value_Reckon.j3, Bool.false_eq_true, if_false]
  by_cases e : a = c
  · have e2 : (a == c) = true := by simp [e]
    rw [e2]
    simp only [if_true]
    have w : value_whole.f a = some (decide (2 ≤ a ∧ a ≤ 9)) := by
      unfold value_whole.f value_signed.f value_unsigned.f
      by_cases u1 : a ≥ 2
      · by_cases u2 : a ≤ 5
        · have : a ≤ 9 := by omega
          simp [u1, u2, this]
        · by_cases u3 : a ≥ 6
          · simp [u1, u2, u3]
          · omega
      · have u3 : ¬ a ≥ 6 := by omega
        simp [u1, u3]
    rw [w]
    simp only [Option.bind_some]
    by_cases r : 2 ≤ a ∧ a ≤ 9
    · rw [if_pos (c := 1 ≤ op ∧ _ ∧ _ ∧ _) ⟨o.1, o.2, e, r⟩]
      have key2 := v_integers op a b t c d u h0 h1 g0 g1 o (k + 19)
      simp only [value_Reckon.j4, decide_eq_true r, if_true, key2, Option.bind_some]
      subst e; rfl
    · rw [if_neg (c := 1 ≤ op ∧ op ≤ 5 ∧ _ ∧ _) (fun h => r h.2.2.2), decide_eq_false r]
      simp only [value_Reckon.j4, value_Reckon.j5, if_true, Bool.false_eq_true, if_false]
      by_cases r18 : a = 18
      · have b18 : (a == 18) = true := by simp [r18]
        rw [b18]
        simp only [if_true]
        have o5 : op = 1 ∨ op = 2 ∨ op = 3 ∨ op = 4 ∨ op = 5 := by omega
        subst r18
        have n4 : spanK op 18 c = 0 := by unfold spanK; rw [if_neg (by omega), if_neg (by omega), if_neg (by omega)]
        rcases o5 with rfl | rfl | rfl | rfl | rfl
        · rw [if_pos (c := (1 : Int) ≤ _ ∧ _ ∧ _ ∧ _) ⟨by decide, by decide, e, rfl⟩]; rfl
        · rw [if_pos (c := (1 : Int) ≤ _ ∧ _ ∧ _ ∧ _) ⟨by decide, by decide, e, rfl⟩]; rfl
        · rw [if_pos (c := (1 : Int) ≤ _ ∧ _ ∧ _ ∧ _) ⟨by decide, by decide, e, rfl⟩]; rfl
        · rw [if_pos (c := (1 : Int) ≤ _ ∧ _ ∧ _ ∧ _) ⟨by decide, by decide, e, rfl⟩]; rfl
        · rw [if_neg (c := (1 : Int) ≤ _ ∧ _ ∧ _ ∧ _) (by omega), if_pos n4]; rfl
      · have b18 : (a == 18) = false := by simp [r18]
        rw [b18, if_neg (c := 1 ≤ op ∧ op ≤ 4 ∧ _ ∧ _) (fun h => r18 h.2.2.2)]
        simp only [Bool.false_eq_true, if_false]
        by_cases tm : 14 ≤ a ∧ a ≤ 17
        · have tm1 : value_timed.f a = some true := by unfold value_timed.f; rw [if_pos tm.1, decide_eq_true tm.2]
          have key2 := v_spans op a b t c d u h0 h1 g0 g1 tm (k + 10)
          simp only [tm1, Option.bind_some, if_true, key2]
        · have tm1 : value_timed.f a = some false := by unfold value_timed.f; split <;> simp <;> omega
          have n4 : spanK op a c = 0 := by unfold spanK; rw [if_neg (by omega), if_neg (by omega), if_neg (by omega)]
          rw [tm1, if_pos n4]
          rfl
  · have e2 : (a == c) = false := by simp [e]
    rw [e2, if_neg (c := 1 ≤ op ∧ op ≤ 5 ∧ _ ∧ _) (fun h => e h.2.2.1), if_neg (c := 1 ≤ op ∧ op ≤ 4 ∧ _ ∧ _) (fun h => e h.2.2.1)]
    simp only [value_Reckon.j4, value_Reckon.j5, Bool.false_eq_true, if_false]
    by_cases tm : 14 ≤ a ∧ a ≤ 17
    · have tm1 : value_timed.f a = some true := by unfold value_timed.f; rw [if_pos tm.1, decide_eq_true tm.2]
      have key2 := v_spans op a b t c d u h0 h1 g0 g1 tm (k + 10)
      simp only [tm1, Option.bind_some, if_true, key2]
    · have tm1 : value_timed.f a = some false := by unfold value_timed.f; split <;> simp <;> omega
      have n4 : spanK op a c = 0 := by unfold spanK; rw [if_neg (by omega), if_neg (by omega), if_neg (by omega)]
      rw [tm1, if_pos n4]
      rfl
end Go.Proofs.Ytlmmkaddlflepaa.POrd
