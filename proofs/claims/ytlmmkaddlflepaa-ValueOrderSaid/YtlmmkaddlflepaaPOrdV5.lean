/- What arithmetic on times computes, in plain words. No condition but that numbers are 64 bits. -/
import Derived.Test.YtlmmkaddlflepaaPOrdV4
namespace Go.Proofs.Ytlmmkaddlflepaa.POrd
open Go.RowKit Go.Proofs.YtlmmkaddlflepaaW.PrintWords Go.Proofs.YtlmmkaddlflepaaW.PrintLast Go.Proofs.YtlmmkaddlflepaaW.PrintMore Go.Proofs.Ytlmmkaddlflepaa.Plain
set_option linter.unusedVariables false
set_option linter.unusedSimpArgs false

/-- The core of an operation with times. -/
theorem v_span_core (op kt : Int) (m : Bool) (s : Int) (n : Bool) (r : Int) (s0 : 0 ≤ s) (s1 : s < 18446744073709551616) (r0 : 0 ≤ r) (r1 : r < 18446744073709551616) (hto : (kt = 0) ∨ (1 ≤ op ∧ op ≤ 4)) (k : Nat) :
    value_spans.j5 (k + 16) op kt m s n r = some (if kt = 0 then (0, 0, ⟨#[]⟩, 8) else zV op kt (numW m s) (numW n r)) := by
  simp only [value_spans.j5, value_spans.j6, value_spans.j7]
  by_cases zt : kt = 0
  · rw [if_pos zt, if_pos zt]
  rw [if_neg zt, if_neg zt]
  have ko : op = 1 ∨ op = 2 ∨ op = 3 ∨ op = 4 := by omega
  rcases ko with rfl | rfl | rfl | rfl
  · simp only [Int.reduceEq, if_false, if_true]
    obtain ⟨m', s', ok, e, b0, b1, h⟩ := v_plus m s n r s0 s1 r0 r1
    simp only [e, Option.bind_some]
    rw [v_close m' s' ok kt _ b0 b1 h]
    simp [zV, opZ]
  · simp only [Int.reduceEq, if_false, if_true]
    obtain ⟨m', s', ok, e, b0, b1, h⟩ := v_plus m s (!n) r s0 s1 r0 r1
    rw [num_neg] at h
    simp only [e, Option.bind_some]
    rw [v_close m' s' ok kt _ b0 b1 h]
    simp [zV, opZ, Int.sub_eq_add_neg]
  · simp only [Int.reduceEq, if_false, if_true]
    obtain ⟨m', s', ok, e, b0, b1, h⟩ := v_times m s n r s0 s1 r0 r1
    simp only [e, Option.bind_some]
    rw [v_close m' s' ok kt _ b0 b1 h]
    simp [zV, opZ]
  · simp only [Int.reduceEq, if_false, if_true]
    by_cases z : r = 0
    · rw [if_pos z]; subst z
      simp [zV, (num_zero n 0).2 rfl]
    · rw [if_neg z]
      have z2 : ¬ numW n r = 0 := fun h => z ((num_zero n r).1 h)
      have q0 : 0 ≤ Int.tdiv s r := Int.tdiv_nonneg s0 r0
      have q1 : Int.tdiv s r ≤ s := by rw [Int.tdiv_eq_ediv_of_nonneg s0]; exact Int.ediv_le_self _ s0
      have q : IntKind.u64.wrap (Int.tdiv s r) = Int.tdiv s r := by rw [wrap_u64]; omega
      rw [q, v_close2 (m != n) (Int.tdiv s r) kt q0 (by omega), num_div]
      simp [zV, opZ, z2]
theorem half (b : Int) (h0 : 0 ≤ b) (h1 : b < 18446744073709551616) : ∃ m s, 0 ≤ s ∧ s < 18446744073709551616 ∧ numW m s = wrap64 b ∧ ((wrap64 b < 0 ∧ m = true ∧ s = IntKind.u64.wrap (-b)) ∨ (¬ wrap64 b < 0 ∧ m = false ∧ s = b)) := by
  by_cases c : wrap64 b < 0
  · refine ⟨true, IntKind.u64.wrap (-b), by rw [wrap_u64]; omega, by rw [wrap_u64]; omega, ?_, .inl ⟨c, rfl, rfl⟩⟩
    rw [wrap_u64]; unfold numW
    simp only [if_true]
    unfold wrap64 at *; omega
  · refine ⟨false, b, h0, h1, ?_, .inr ⟨c, rfl, rfl⟩⟩
    unfold numW
    simp only [Bool.false_eq_true, if_false]
    unfold wrap64 at *; omega
theorem v_spans (op a b : Int) (t : ByteArray) (c d : Int) (u : ByteArray) (h0 : 0 ≤ b) (h1 : b < 18446744073709551616) (g0 : 0 ≤ d) (g1 : d < 18446744073709551616) (ha : 14 ≤ a ∧ a ≤ 17) (k : Nat) :
    value_spans.f (k + 24) op a b t c d u = some (if spanK op a c = 0 then (0, 0, ⟨#[]⟩, 8) else zV op (spanK op a c) (wrap64 b) (wrap64 d)) := by
  obtain ⟨m, s, s0, s1, e1, f1⟩ := half b h0 h1
  obtain ⟨n, r, r0, r1, e2, f2⟩ := half d g0 g1
  rw [← e1, ← e2]
  have start : value_spans.f (k + 24) op a b t c d u = value_spans.j1 (k + 23) op a b t c d u m s n r := by
    unfold value_spans.f
    rcases f1 with ⟨c1, rfl, rfl⟩ | ⟨c1, rfl, rfl⟩
    · rw [if_pos c1]
      rcases f2 with ⟨c2, rfl, rfl⟩ | ⟨c2, rfl, rfl⟩
      · simp [value_spans.j0, c2]
      · simp [value_spans.j0, c2]
    · rw [if_neg c1]
      rcases f2 with ⟨c2, rfl, rfl⟩ | ⟨c2, rfl, rfl⟩
      · simp [value_spans.j0, c2]
      · simp [value_spans.j0, c2]
  rw [start]
  have core : ∀ (kt : Int) (j : Nat), (kt = 0 ∨ (1 ≤ op ∧ op ≤ 4)) → value_spans.j5 (j + 16) op kt m s n r = some (if kt = 0 then (0, 0, ⟨#[]⟩, 8) else zV op kt (numW m s) (numW n r)) := fun kt j h => v_span_core op kt m s n r s0 s1 r0 r1 h j
  have fin : ∃ j, value_spans.j1 (k + 23) op a b t c d u m s n r = value_spans.j5 (j + 16) op (spanK op a c) m s n r := by
    have ea : a = 14 ∨ a = 15 ∨ a = 16 ∨ a = 17 := by omega
    by_cases o1 : op = 1
    · subst o1
      by_cases c14 : c = 14
      · subst c14
        rcases ea with rfl | rfl | rfl | rfl
        · exact ⟨k + 5, by simp [value_spans.j1, value_spans.j2, spanK]⟩
        · exact ⟨k + 3, by simp [value_spans.j1, value_spans.j2, value_spans.j3, value_spans.j4, spanK]⟩
        · exact ⟨k + 5, by simp [value_spans.j1, value_spans.j2, spanK]⟩
        · exact ⟨k + 5, by simp [value_spans.j1, value_spans.j2, spanK]⟩
      · exact ⟨k + 3, by simp [value_spans.j1, value_spans.j2, value_spans.j3, value_spans.j4, spanK, c14]⟩
    by_cases o2 : op = 2
    · subst o2
      by_cases c14 : c = 14
      · subst c14
        rcases ea with rfl | rfl | rfl | rfl
        · exact ⟨k + 5, by simp [value_spans.j1, value_spans.j2, spanK]⟩
        · exact ⟨k + 3, by simp [value_spans.j1, value_spans.j2, value_spans.j3, value_spans.j4, spanK]⟩
        · exact ⟨k + 5, by simp [value_spans.j1, value_spans.j2, spanK]⟩
        · exact ⟨k + 5, by simp [value_spans.j1, value_spans.j2, spanK]⟩
      · by_cases ec : a = c
        · subst ec
          exact ⟨k + 4, by simp [value_spans.j1, value_spans.j2, value_spans.j3, spanK, c14, ha]⟩
        · have ec2 : (a == c) = false := by simp [ec]
          exact ⟨k + 3, by simp [value_spans.j1, value_spans.j2, value_spans.j3, value_spans.j4, spanK, c14, ec, ec2]⟩
    by_cases o3 : op = 3
    · subst o3
      by_cases a14 : a = 14
      · subst a14
        by_cases c5 : c = 5
        · subst c5
          exact ⟨k + 3, by simp [value_spans.j1, value_spans.j2, value_spans.j3, value_spans.j4, spanK]⟩
        · have c5' : (c == 5) = false := by simp [c5]
          exact ⟨k + 3, by simp [value_spans.j1, value_spans.j2, value_spans.j3, value_spans.j4, spanK, c5, c5']⟩
      · exact ⟨k + 3, by simp [value_spans.j1, value_spans.j2, value_spans.j3, value_spans.j4, spanK, a14]⟩
    by_cases o4 : op = 4
    · subst o4
      by_cases a14 : a = 14
      · subst a14
        by_cases c5 : c = 5
        · subst c5
          exact ⟨k + 3, by simp [value_spans.j1, value_spans.j2, value_spans.j3, value_spans.j4, spanK]⟩
        · have c5' : (c == 5) = false := by simp [c5]
          exact ⟨k + 3, by simp [value_spans.j1, value_spans.j2, value_spans.j3, value_spans.j4, spanK, c5, c5']⟩
      · exact ⟨k + 3, by simp [value_spans.j1, value_spans.j2, value_spans.j3, value_spans.j4, spanK, a14]⟩
    exact ⟨k + 3, by simp [value_spans.j1, value_spans.j2, value_spans.j3, value_spans.j4, spanK, o1, o2, o3, o4]⟩
  obtain ⟨j, hj⟩ := fin
  rw [hj, core _ j]
  unfold spanK
  by_cases q1 : op = 1 ∨ op = 2
  · right; omega
  by_cases q2 : op = 3 ∨ op = 4
  · right; omega
  · left; rw [if_neg (by omega), if_neg (by omega), if_neg (by omega)]
end Go.Proofs.Ytlmmkaddlflepaa.POrd
