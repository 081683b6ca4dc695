/- What the document's Reckon computes, in plain words. No condition but that bits are 64. -/
import Derived.Test.YtlmmkaddlflepaaPReckV7
namespace Go.Proofs.Ytlmmkaddlflepaa.PReck
open Go.RowKit Go.Proofs.YtlmmkaddlflepaaW.PrintWords Go.Proofs.YtlmmkaddlflepaaW.PrintLast Go.Proofs.YtlmmkaddlflepaaW.PrintMore Go.Proofs.Ytlmmkaddlflepaa.Plain
set_option linter.unusedVariables false
set_option linter.unusedSimpArgs false

theorem close_signed (op kk x y : Int) (ho : 1 ≤ op ∧ op ≤ 5) (hk : signedB kk = true ∨ kk = 16 ∨ kk = 17) (hx : -9223372036854775808 ≤ x ∧ x ≤ 9223372036854775807) (hy : -9223372036854775808 ≤ y ∧ y ≤ 9223372036854775807) (k : Nat) :
    ((relayref01_signed.f (k + 8) op x y).bind fun q => (if q.2 = 0 then ((relayref01_made.f (k + 8) kk (IntKind.u64.wrap q.1) 1).bind fun r => some (r.1, r.2.1, r.2.2.1, r.2.2.2)) else some (0, 0, (⟨#[]⟩ : ByteArray), q.2))) = some (zV op kk x y) := by
  rw [r_signed op x y ho hx hy]
  simp only [Option.bind_some]
  unfold zV
  by_cases z : (op = 4 ∨ op = 5) ∧ y = 0
  · rw [if_pos z, if_pos z]; rfl
  rw [if_neg z, if_neg z]
  have k18 : ¬ kk = 18 := by rintro rfl; revert hk; decide
  by_cases r : -9223372036854775808 ≤ opZ op x y ∧ opZ op x y ≤ 9223372036854775807
  · rw [if_pos r]
    have hz0 : 0 ≤ opZ op x y % 18446744073709551616 := by omega
    have hz1 : opZ op x y % 18446744073709551616 < 18446744073709551616 := by omega
    simp only [if_true, wrap_u64, r_made kk _ 1 hz0 hz1, if_neg k18, Option.bind_some]
    rcases hk with hk | hk
    · unfold arV; rw [hk]; simp only [if_true, r, and_self, true_and]
    · rw [← ar_time kk _ hk r]
  · rw [if_neg r]
    simp only [Int.reduceEq, if_false]
    rcases hk with hk | hk
    · unfold arV; rw [hk, if_pos rfl, if_neg (fun h => r h.1)]
    · rw [ar_time_out kk _ hk r]
theorem close_unsigned (op kk x y : Int) (ho : 1 ≤ op ∧ op ≤ 5) (hk : 6 ≤ kk ∧ kk ≤ 9) (h0 : 0 ≤ x) (h1 : x < 18446744073709551616) (g0 : 0 ≤ y) (g1 : y < 18446744073709551616) (k : Nat) :
    ((relayref01_unsigned.f (k + 8) op x y).bind fun q => (if q.2 = 0 then ((relayref01_made.f (k + 8) kk q.1 1).bind fun r => some (r.1, r.2.1, r.2.2.1, r.2.2.2)) else some (0, 0, (⟨#[]⟩ : ByteArray), q.2))) = some (zV op kk x y) := by
  rw [r_unsigned op x y ho h0 h1 g0 g1]
  simp only [Option.bind_some]
  unfold zV
  by_cases z : (op = 4 ∨ op = 5) ∧ y = 0
  · rw [if_pos z, if_pos z]; rfl
  rw [if_neg z, if_neg z]
  have k18 : ¬ kk = 18 := by omega
  have ks : signedB kk = false := decide_eq_false (by omega)
  unfold arV
  rw [ks]
  simp only [Bool.false_eq_true, if_false]
  by_cases r : 0 ≤ opZ op x y ∧ opZ op x y < 18446744073709551616
  · rw [if_pos r]
    simp only [if_true, r_made kk _ 1 r.1 r.2, if_neg k18, Option.bind_some, r, and_self, true_and]
  · rw [if_neg r]
    simp only [Int.reduceEq, if_false]
    rw [if_neg (fun h => r h.1)]
theorem r_reckon (op a b : Int) (t : ByteArray) (c d : Int) (u : ByteArray) (h0 : 0 ≤ b) (h1 : b < 18446744073709551616) (g0 : 0 ≤ d) (g1 : d < 18446744073709551616) (k : Nat) :
    relayref01_Reckon.f (k + 40) op a b t c d u = some (reckV op a b t c d u) := by
  unfold relayref01_Reckon.f reckV
  rw [r_result]
  simp only [Option.bind_some, r_May a b t h0 h1, r_May c d u g0 g1]
  by_cases m1 : mayB a b t = true
  rotate_left
  · rw [if_neg m1, if_neg (fun q => m1 q.1)]; simp [relayref01_Reckon.j0]
  by_cases m2 : mayB c d u = true
  rotate_left
  · rw [if_pos m1, if_neg m2, if_neg (fun q => m2 q.2)]; simp [relayref01_Reckon.j0]
  rw [if_pos m1, if_pos m2, if_pos (c := _ ∧ _) ⟨m1, m2⟩]
  have ha := may_facts m1
  have hb1 : -9223372036854775808 ≤ wrap64 b ∧ wrap64 b ≤ 9223372036854775807 := by unfold wrap64; omega
  have hd1 : -9223372036854775808 ≤ wrap64 d ∧ wrap64 d ≤ 9223372036854775807 := by unfold wrap64; omega
  simp only [relayref01_Reckon.j0]
  by_cases q1 : 9 ≤ op ∧ op ≤ 14 ∧ a = c
  · have e : resK op a c = 1 := by unfold resK; rw [if_pos (by omega)]
    have o9 : op ≥ 9 := q1.1
    rw [if_pos (c := 9 ≤ op ∧ _ ∧ _) q1, e]
    simp only [Int.reduceBEq, Bool.false_eq_true, if_false, o9, if_true, r_compare, Option.bind_some]
  rw [if_neg (c := 9 ≤ op ∧ _ ∧ _) q1]
  by_cases q2 : 6 ≤ op ∧ op ≤ 8 ∧ a = c ∧ (a = 1 ∨ (10 ≤ a ∧ a ≤ 13))
  · have e : resK op a c = a := by unfold resK; rw [if_neg (by omega), if_neg (by omega), if_neg (by omega), if_pos q2]
    have e0 : (a == 0) = false := by simp; omega
    have o9 : ¬ op ≥ 9 := by omega
    rw [if_pos (c := 6 ≤ op ∧ _ ∧ _) q2, e, e0]
    simp only [Bool.false_eq_true, if_false, o9]
    by_cases o6 : op = 6
    · simp [o6]
    by_cases o7 : op = 7
    · simp [o7]
    have o8 : op = 8 := by omega
    simp [o8]
  rw [if_neg (c := 6 ≤ op ∧ _ ∧ _) q2]
  by_cases q3 : 1 ≤ op ∧ op ≤ 5 ∧ a = c ∧ 2 ≤ a ∧ a ≤ 9
  · have e : resK op a c = a := by unfold resK; rw [if_neg (by omega), if_pos q3]
    have e0 : (a == 0) = false := by simp; omega
    have o9 : ¬ op ≥ 9 := by omega
    have o6 : ¬ op = 6 := by omega
    have o7 : ¬ op = 7 := by omega
    have o8 : ¬ op = 8 := by omega
    have a18 : ¬ a = 18 := by omega
    rw [if_pos (c := 1 ≤ op ∧ _ ∧ _) q3, e, e0]
    simp only [Bool.false_eq_true, if_false, o9, o6, o7, o8, a18]
    by_cases un : 6 ≤ a ∧ a ≤ 9
    · have u1 : relayref01_Unsigned.f a = some true := by unfold relayref01_Unsigned.f; rw [if_pos un.1, decide_eq_true un.2]
      have n1 : numK a b = b := by unfold numK; rw [if_pos un]
      have n2 : numK a d = d := by unfold numK; rw [if_pos un]
      rw [n1, n2, u1]
      simp only [Option.bind_some, if_true]
      exact close_unsigned op a b d ⟨q3.1, q3.2.1⟩ un h0 h1 g0 g1 (k + 31)
    · have u1 : relayref01_Unsigned.f a = some false := by unfold relayref01_Unsigned.f; split <;> simp <;> omega
      have n1 : numK a b = wrap64 b := by unfold numK; rw [if_neg un]
      have n2 : numK a d = wrap64 d := by unfold numK; rw [if_neg un]
      rw [n1, n2, u1]
      simp only [Option.bind_some, if_false, Bool.false_eq_true]
      exact close_signed op a _ _ ⟨q3.1, q3.2.1⟩ (.inl (decide_eq_true (by omega))) hb1 hd1 (k + 31)
  rw [if_neg (c := 1 ≤ op ∧ op ≤ 5 ∧ _) q3]
  by_cases q4 : 1 ≤ op ∧ op ≤ 4 ∧ a = c ∧ a = 18
  · have e : resK op a c = a := by unfold resK; rw [if_neg (by omega), if_neg (by omega), if_pos q4]
    have o9 : ¬ op ≥ 9 := by omega
    have o6 : ¬ op = 6 := by omega
    have o7 : ¬ op = 7 := by omega
    have o8 : ¬ op = 8 := by omega
    rw [if_pos (c := 1 ≤ op ∧ _ ∧ _) q4, e, q4.2.2.2]
    simp only [Bool.false_eq_true, if_false, o9, o6, o7, o8, Int.reduceBEq, if_true]
    have ko : op = 1 ∨ op = 2 ∨ op = 3 ∨ op = 4 := by omega
    rcases ko with rfl | rfl | rfl | rfl <;> rfl
  rw [if_neg (c := 1 ≤ op ∧ op ≤ 4 ∧ _) q4]
  have e : resK op a c = spanK op a c := by unfold resK; rw [if_neg (by omega), if_neg (by omega), if_neg (by omega), if_neg (by omega)]
  rw [e]
  by_cases z : spanK op a c = 0
  · rw [z, if_pos rfl]; rfl
  have ho : 1 ≤ op ∧ op ≤ 4 ∧ (spanK op a c = 14 ∨ spanK op a c = 16 ∨ spanK op a c = 17) := by
    revert z; unfold spanK
    by_cases s1 : (op = 1 ∨ op = 2) ∧ c = 14 ∧ (a = 14 ∨ a = 17 ∨ a = 16)
    · rw [if_pos s1]; omega
    rw [if_neg s1]
    by_cases s2 : op = 2 ∧ a = c ∧ 14 ≤ a ∧ a ≤ 17
    · rw [if_pos s2]; omega
    rw [if_neg s2]
    by_cases s3 : (op = 3 ∨ op = 4) ∧ a = 14 ∧ c = 5
    · rw [if_pos s3]; omega
    rw [if_neg s3]
    intro h; exact absurd rfl h
  have z2 : (spanK op a c == 0) = false := by simp [z]
  have o9 : ¬ op ≥ 9 := by omega
  have o6 : ¬ op = 6 := by omega
  have o7 : ¬ op = 7 := by omega
  have o8 : ¬ op = 8 := by omega
  have a18 : ¬ spanK op a c = 18 := by omega
  have u1 : relayref01_Unsigned.f (spanK op a c) = some false := by unfold relayref01_Unsigned.f; split <;> simp <;> omega
  rw [if_neg z, z2]
  simp only [Bool.false_eq_true, if_false, o9, o6, o7, o8, a18, u1, Option.bind_some]
  refine close_signed op _ _ _ ⟨ho.1, by omega⟩ ?_ hb1 hd1 (k + 31)
  rcases ho.2.2 with h | h | h
  · exact .inl (by rw [h]; decide)
  · exact .inr (.inl h)
  · exact .inr (.inr h)
end Go.Proofs.Ytlmmkaddlflepaa.PReck
