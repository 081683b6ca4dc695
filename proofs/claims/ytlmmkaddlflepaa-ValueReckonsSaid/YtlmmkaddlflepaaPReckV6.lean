/- What the document's arithmetic, its table of kinds and its comparisons compute, in plain words. No condition but that numbers are 64 bits. -/
import Derived.Test.YtlmmkaddlflepaaPReckV3
import Derived.Test.YtlmmkaddlflepaaPReckPlain2
namespace Go.Proofs.Ytlmmkaddlflepaa.PReck
open Go.RowKit Go.Proofs.YtlmmkaddlflepaaW.PrintWords Go.Proofs.YtlmmkaddlflepaaW.PrintLast Go.Proofs.YtlmmkaddlflepaaW.PrintMore Go.Proofs.Ytlmmkaddlflepaa.Plain
set_option linter.unusedVariables false
set_option linter.unusedSimpArgs false

theorem r_add (x y : Int) (hx : -9223372036854775808 ≤ x ∧ x ≤ 9223372036854775807) (hy : -9223372036854775808 ≤ y ∧ y ≤ 9223372036854775807) (k : Nat) :
    relayref01_signed.f (k + 3) 1 x y = some (if -9223372036854775808 ≤ x + y ∧ x + y ≤ 9223372036854775807 then (x + y, 0) else (0, 1)) := by
  simp only [relayref01_signed.f, relayref01_signed.j0, Int.reduceEq, if_false, if_true, Bool.false_eq_true, decide_eq_true_eq]
  have w : (wrap64 (x + y) = x + y ∧ -9223372036854775808 ≤ x + y ∧ x + y ≤ 9223372036854775807) ∨ (wrap64 (x + y) = x + y + 18446744073709551616 ∧ x + y < -9223372036854775808) ∨ (wrap64 (x + y) = x + y - 18446744073709551616 ∧ x + y > 9223372036854775807) := by
    unfold wrap64; omega
  generalize wrap64 (x + y) = W at *
  repeat' split
  all_goals first | rfl | (exfalso; omega) | (congr 2; omega)
/-- A product that wraps is told by its quotient. -/
theorem wraps (x y : Int) (hy0 : y ≠ 0) (hx : -9223372036854775808 ≤ x ∧ x ≤ 9223372036854775807) (hy : -9223372036854775808 ≤ y ∧ y ≤ 9223372036854775807)
    (h1 : ¬ (x = -1 ∧ y = -9223372036854775808)) (h2 : ¬ (y = -1 ∧ x = -9223372036854775808)) :
    (wrap64 (Int.tdiv (wrap64 (x * y)) y) = x) ↔ (-9223372036854775808 ≤ x * y ∧ x * y ≤ 9223372036854775807) := by
  constructor
  · intro h
    have w : -9223372036854775808 ≤ wrap64 (x * y) ∧ wrap64 (x * y) ≤ 9223372036854775807 := by unfold wrap64; omega
    have wd : ∃ q, wrap64 (x * y) = x * y + q * 18446744073709551616 := by
      refine ⟨-((x * y + 9223372036854775808) / 18446744073709551616), ?_⟩
      unfold wrap64; omega
    obtain ⟨q, hq⟩ := wd
    generalize wrap64 (x * y) = P at *
    have a1 : (Int.tdiv P y).natAbs = P.natAbs / y.natAbs := Int.natAbs_tdiv P y
    have a2 := Int.natAbs_tmod P y
    have a3 : P.natAbs % y.natAbs < y.natAbs := Nat.mod_lt _ (by omega)
    have a4 : P.natAbs / y.natAbs ≤ P.natAbs := Nat.div_le_self _ _
    have e : Int.tdiv P y = x := by
      by_cases big : Int.tdiv P y = 9223372036854775808
      · exfalso
        have b1 : P.natAbs / y.natAbs = 9223372036854775808 := by omega
        have b2 : y.natAbs < 2 := by
          rcases Nat.lt_or_ge y.natAbs 2 with c | c
          · exact c
          · have := Nat.div_le_div_left (a := P.natAbs) c (by decide)
            omega
        have b3 : y = 1 ∨ y = -1 := by omega
        rcases b3 with rfl | rfl
        · rw [Int.tdiv_one] at big; omega
        · rw [big] at h
          exact h2 ⟨rfl, by rw [← h]; unfold wrap64; decide⟩
      · rw [← h]; unfold wrap64; omega
    have d := Int.mul_tdiv_add_tmod P y
    rw [e] at d
    have d2 : y * x = x * y := Int.mul_comm _ _
    rw [d2] at d
    have : P = x * y := by omega
    omega
  · intro h
    have w : wrap64 (x * y) = x * y := by unfold wrap64; omega
    rw [w, Int.mul_tdiv_cancel x hy0]
    unfold wrap64; omega
theorem r_mul (x y : Int) (hx : -9223372036854775808 ≤ x ∧ x ≤ 9223372036854775807) (hy : -9223372036854775808 ≤ y ∧ y ≤ 9223372036854775807) (k : Nat) :
    relayref01_signed.f (k + 3) 3 x y = some (if -9223372036854775808 ≤ x * y ∧ x * y ≤ 9223372036854775807 then (x * y, 0) else (0, 1)) := by
  simp only [relayref01_signed.f, relayref01_signed.j2, relayref01_signed.j3, Int.reduceEq, if_false, if_true, Bool.false_eq_true, decide_eq_true_eq]
  by_cases x0 : x = 0
  · subst x0; simp
  by_cases y0 : y = 0
  · subst y0; simp [x0]
  have hy0 : (y == 0) = false := by simp [y0]
  simp only [x0, y0, hy0, if_false, Bool.false_eq_true]
  by_cases q1 : x = -1 ∧ y = -9223372036854775808
  · obtain ⟨rfl, rfl⟩ := q1; rfl
  by_cases q2 : y = -1 ∧ x = -9223372036854775808
  · obtain ⟨rfl, rfl⟩ := q2; rfl
  have key := wraps x y y0 hx hy q1 q2
  have w : (-9223372036854775808 ≤ x * y ∧ x * y ≤ 9223372036854775807) → wrap64 (x * y) = x * y := by intro h; unfold wrap64; omega
  have e1 : (if x = -1 then (if y = -9223372036854775808 then (if True then some ((0 : Int), (1 : Int)) else some (wrap64 (x * y), 0)) else (if y = -1 then (if x = -9223372036854775808 then (if True then some (0, 1) else some (wrap64 (x * y), 0)) else (if ((wrap64 (Int.tdiv (wrap64 (x * y)) y)) != x) = true then some (0, 1) else some (wrap64 (x * y), 0))) else (if ((wrap64 (Int.tdiv (wrap64 (x * y)) y)) != x) = true then some (0, 1) else some (wrap64 (x * y), 0)))) else (if y = -1 then (if x = -9223372036854775808 then (if True then some (0, 1) else some (wrap64 (x * y), 0)) else (if ((wrap64 (Int.tdiv (wrap64 (x * y)) y)) != x) = true then some (0, 1) else some (wrap64 (x * y), 0))) else (if ((wrap64 (Int.tdiv (wrap64 (x * y)) y)) != x) = true then some (0, 1) else some (wrap64 (x * y), 0)))) =
      (if ((wrap64 (Int.tdiv (wrap64 (x * y)) y)) != x) = true then some (0, 1) else some (wrap64 (x * y), 0)) := by
    generalize (if ((wrap64 (Int.tdiv (wrap64 (x * y)) y)) != x) = true then some ((0 : Int), (1 : Int)) else some (wrap64 (x * y), 0)) = Z
    repeat' split
    all_goals first | rfl | (exfalso; omega)
  refine Eq.trans e1 ?_
  by_cases h : -9223372036854775808 ≤ x * y ∧ x * y ≤ 9223372036854775807
  · have := key.2 h
    rw [if_pos h, w h]
    rw [w h] at this
    simp [this]
  · have : ¬ wrap64 (Int.tdiv (wrap64 (x * y)) y) = x := fun hh => h (key.1 hh)
    rw [if_neg h]
    simp [this]
theorem r_signed (op x y : Int) (ho : 1 ≤ op ∧ op ≤ 5) (hx : -9223372036854775808 ≤ x ∧ x ≤ 9223372036854775807) (hy : -9223372036854775808 ≤ y ∧ y ≤ 9223372036854775807) (k : Nat) :
    relayref01_signed.f (k + 4) op x y = some (if (op = 4 ∨ op = 5) ∧ y = 0 then (0, 2) else if -9223372036854775808 ≤ opZ op x y ∧ opZ op x y ≤ 9223372036854775807 then (opZ op x y, 0) else (0, 1)) := by
  have ko : op = 1 ∨ op = 2 ∨ op = 3 ∨ op = 4 ∨ op = 5 := by omega
  rcases ko with rfl | rfl | rfl | rfl | rfl
  · rw [r_add x y hx hy]; simp [opZ]
  · rw [r_sub x y hx hy]; simp [opZ]
  · rw [r_mul x y hx hy]; simp [opZ]
  · by_cases y0 : y = 0
    · subst y0; rfl
    by_cases y1 : y = -1
    · subst y1
      rw [relayref01_signed.f]
      simp only [Int.reduceEq, if_false, if_true, r_sub 0 x ⟨by decide, by decide⟩ hx, Option.bind_some]
      simp [opZ, Int.tdiv_neg, Int.tdiv_one]
    · have d : wrap64 (Int.tdiv x y) = Int.tdiv x y ∧ -9223372036854775808 ≤ Int.tdiv x y ∧ Int.tdiv x y ≤ 9223372036854775807 := by
        have a1 : (Int.tdiv x y).natAbs = x.natAbs / y.natAbs := Int.natAbs_tdiv x y
        have a4 : x.natAbs / y.natAbs ≤ x.natAbs := Nat.div_le_self _ _
        have : Int.tdiv x y ≠ 9223372036854775808 := by
          intro big
          have b1 : x.natAbs / y.natAbs = 9223372036854775808 := by omega
          have b2 : y.natAbs < 2 := by
            rcases Nat.lt_or_ge y.natAbs 2 with c | c
            · exact c
            · have := Nat.div_le_div_left (a := x.natAbs) c (by decide)
              omega
          have b3 : y = 1 := by omega
          subst b3
          rw [Int.tdiv_one] at big; omega
        unfold wrap64; omega
      rw [relayref01_signed.f]
      simp [y0, y1, opZ, d]
  · by_cases y0 : y = 0
    · subst y0; rfl
    by_cases y1 : y = -1
    · subst y1
      rw [relayref01_signed.f]
      simp [opZ, Int.tmod_neg, Int.tmod_one]
    · have d : -9223372036854775808 ≤ Int.tmod x y ∧ Int.tmod x y ≤ 9223372036854775807 := by
        have a2 := Int.natAbs_tmod x y
        have a3 : x.natAbs % y.natAbs < y.natAbs := Nat.mod_lt _ (by omega)
        omega
      rw [relayref01_signed.f]
      simp [y0, y1, opZ, d]
theorem r_unsigned (op x y : Int) (ho : 1 ≤ op ∧ op ≤ 5) (h0 : 0 ≤ x) (h1 : x < 18446744073709551616) (g0 : 0 ≤ y) (g1 : y < 18446744073709551616) (k : Nat) :
    relayref01_unsigned.f (k + 4) op x y = some (if (op = 4 ∨ op = 5) ∧ y = 0 then (0, 2) else if 0 ≤ opZ op x y ∧ opZ op x y < 18446744073709551616 then (opZ op x y, 0) else (0, 1)) := by
  have ko : op = 1 ∨ op = 2 ∨ op = 3 ∨ op = 4 ∨ op = 5 := by omega
  simp only [relayref01_unsigned.f, relayref01_unsigned.j0, wrap_u64]
  rcases ko with rfl | rfl | rfl | rfl | rfl
  · simp only [Int.reduceEq, if_true, if_false, or_self, false_and, opZ]
    by_cases c : (x + y) % 18446744073709551616 < x
    · rw [if_pos c, if_neg (by omega)]
    · have e : (x + y) % 18446744073709551616 = x + y := by omega
      rw [if_neg c, if_pos (by omega), e]
  · simp only [Int.reduceEq, if_true, if_false, or_self, false_and, opZ]
    by_cases c : y > x
    · rw [if_pos c, if_neg (by omega)]
    · have e : (x - y) % 18446744073709551616 = x - y := by omega
      rw [if_neg c, if_pos (by omega), e]
  · simp only [Int.reduceEq, if_true, if_false, or_self, false_and, opZ]
    by_cases x0 : x = 0
    · subst x0; simp
    by_cases y0 : y = 0
    · subst y0; simp [x0]
    have hy0 : (y == 0) = false := by simp [y0]
    simp only [x0, y0, hy0, if_false, Bool.false_eq_true]
    have hn : 0 ≤ x * y := Int.mul_nonneg h0 g0
    have p0 : 0 ≤ (x * y) % 18446744073709551616 := by omega
    have q0 : 0 ≤ (x * y) % 18446744073709551616 / y := Int.ediv_nonneg p0 g0
    have q1 : (x * y) % 18446744073709551616 / y ≤ (x * y) % 18446744073709551616 := Int.ediv_le_self _ p0
    have q : Int.tdiv ((x * y) % 18446744073709551616) y % 18446744073709551616 = (x * y) % 18446744073709551616 / y := by
      rw [Int.tdiv_eq_ediv_of_nonneg p0]; omega
    rw [q]
    by_cases c : x * y < 18446744073709551616
    · have e : (x * y) % 18446744073709551616 = x * y := by omega
      rw [e, Int.mul_ediv_cancel x y0, if_pos rfl, if_pos ⟨hn, c⟩]
    · rw [if_neg (c := (0 ≤ x * y ∧ x * y < 18446744073709551616)) (by omega), if_neg]
      intro h
      have d := Int.mul_ediv_add_emod ((x * y) % 18446744073709551616) y
      rw [h, Int.mul_comm y x] at d
      have := Int.emod_nonneg ((x * y) % 18446744073709551616) y0
      omega
  · by_cases y0 : y = 0
    · subst y0; rfl
    have q0 : 0 ≤ x / y := Int.ediv_nonneg h0 g0
    have q1 : x / y ≤ x := Int.ediv_le_self _ h0
    have t : Int.tdiv x y = x / y := Int.tdiv_eq_ediv_of_nonneg h0
    have e : x / y % 18446744073709551616 = x / y := by omega
    have e2 : 0 ≤ x / y ∧ x / y < 18446744073709551616 := by omega
    simp [y0, opZ, t, e, e2]
  · by_cases y0 : y = 0
    · subst y0; rfl
    have q0 : 0 ≤ Int.tmod x y := Int.tmod_nonneg _ h0
    have q1 : Int.tmod x y < y := Int.tmod_lt_of_pos x (show 0 < y by omega)
    have e2 : 0 ≤ Int.tmod x y ∧ Int.tmod x y < 18446744073709551616 := by omega
    simp [y0, opZ, e2]
end Go.Proofs.Ytlmmkaddlflepaa.PReck
