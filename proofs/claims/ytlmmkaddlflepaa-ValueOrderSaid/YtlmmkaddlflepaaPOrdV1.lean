/- What the functions of value and of the document's answer compute, in plain words: width, fits, May. No condition but that bits are 64. -/
import Derived.Test.YtlmmkaddlflepaaPOrdSValueOrder
import Derived.Test.YtlmmkaddlflepaaPOrdPlain
namespace Go.Proofs.Ytlmmkaddlflepaa.POrd
open Go.RowKit Go.Proofs.YtlmmkaddlflepaaW.PrintWords Go.Proofs.YtlmmkaddlflepaaW.PrintLast Go.Proofs.YtlmmkaddlflepaaW.PrintMore Go.Proofs.Ytlmmkaddlflepaa.Plain
set_option linter.unusedVariables false
set_option linter.unusedSimpArgs false

theorem v_width (a : Int) (k : Nat) : value_width.f (k + 4) a = some (widthV a) := by
  by_cases r : 2 ≤ a ∧ a ≤ 13
  · have : a = 2 ∨ a = 3 ∨ a = 4 ∨ a = 5 ∨ a = 6 ∨ a = 7 ∨ a = 8 ∨ a = 9 ∨ a = 10 ∨ a = 11 ∨ a = 12 ∨ a = 13 := by omega
    rcases this with rfl | rfl | rfl | rfl | rfl | rfl | rfl | rfl | rfl | rfl | rfl | rfl <;> rfl
  · have h2 : ¬ a = 2 := by omega
    have h3 : ¬ a = 3 := by omega
    have h4 : ¬ a = 4 := by omega
    have h6 : ¬ a = 6 := by omega
    have h7 : ¬ a = 7 := by omega
    have h8 : ¬ a = 8 := by omega
    have h10 : ¬ a = 10 := by omega
    have h11 : ¬ a = 11 := by omega
    have h12 : ¬ a = 12 := by omega
    simp [value_width.f, value_width.j0, value_width.j1, value_width.j2, widthV, h2, h3, h4, h6, h7, h8, h10, h11, h12]
theorem r_width (a : Int) (k : Nat) : relayref01_Width.f (k + 4) a = some (if 2 ≤ a ∧ a ≤ 13 then widthV a else 0) := by
  by_cases r : 2 ≤ a ∧ a ≤ 13
  · rw [if_pos r]
    have : a = 2 ∨ a = 3 ∨ a = 4 ∨ a = 5 ∨ a = 6 ∨ a = 7 ∨ a = 8 ∨ a = 9 ∨ a = 10 ∨ a = 11 ∨ a = 12 ∨ a = 13 := by omega
    rcases this with rfl | rfl | rfl | rfl | rfl | rfl | rfl | rfl | rfl | rfl | rfl | rfl <;> rfl
  · rw [if_neg r]
    have h2 : ¬ a = 2 := by omega
    have h3 : ¬ a = 3 := by omega
    have h4 : ¬ a = 4 := by omega
    have h5 : ¬ a = 5 := by omega
    have h6 : ¬ a = 6 := by omega
    have h7 : ¬ a = 7 := by omega
    have h8 : ¬ a = 8 := by omega
    have h9 : ¬ a = 9 := by omega
    have h10 : ¬ a = 10 := by omega
    have h11 : ¬ a = 11 := by omega
    have h12 : ¬ a = 12 := by omega
    have h13 : ¬ a = 13 := by omega
    simp [relayref01_Width.f, relayref01_Width.j0, relayref01_Width.j1, relayref01_Width.j2, relayref01_Width.j3, h2, h3, h4, h5, h6, h7, h8, h9, h10, h11, h12, h13]
theorem v_fits (a b : Int) (h0 : 0 ≤ b) (h1 : b < 18446744073709551616) (k : Nat) : value_fits.f (k + 6) a b = some (fitsB a b) := by
  simp only [value_fits.f, value_fits.j0, value_signed.f, value_unsigned.f, value_row.f, value_most.f, v_width, Option.bind_some, wrap_u64, shl, shr, wrap_i64]
  by_cases r : 1 ≤ a ∧ a ≤ 17
  · have : a = 1 ∨ a = 2 ∨ a = 3 ∨ a = 4 ∨ a = 5 ∨ a = 6 ∨ a = 7 ∨ a = 8 ∨ a = 9 ∨ a = 10 ∨ a = 11 ∨ a = 12 ∨ a = 13 ∨ a = 14 ∨ a = 15 ∨ a = 16 ∨ a = 17 := by omega
    rcases this with rfl | rfl | rfl | rfl | rfl | rfl | rfl | rfl | rfl | rfl | rfl | rfl | rfl | rfl | rfl | rfl | rfl
    all_goals
      simp [widthV, fitsB, IntKind.bits, w8, w8', w16, w16', w32, w32', Int.tmod_eq_emod_of_nonneg h0, Bool.beq_eq_decide_eq]
      try (first | omega | ((repeat' split) <;> simp_all <;> omega))
  · have n1 : ¬ a = 1 := by omega
    have n2 : a ≥ 2 → ¬ a ≤ 5 := by omega
    have n6 : a ≥ 6 → ¬ a ≤ 9 := by omega
    have n10 : a ≥ 10 → ¬ a ≤ 13 := by omega
    have n14 : ¬ a = 14 := by omega
    have n15 : ¬ a = 15 := by omega
    have n16 : ¬ a = 16 := by omega
    have n17 : ¬ a = 17 := by omega
    have e : fitsB a b = false := by unfold fitsB; simp; omega
    rw [e]
    simp only [n1, n14, n15, n16, n17, if_false]
    have s1 : (if a ≥ 2 then some (decide (a ≤ 5)) else some false) = some false := by split <;> simp_all
    have s2 : (if a ≥ 6 then some (decide (a ≤ 9)) else some false) = some false := by split <;> simp_all
    have s3 : (if a ≥ 10 then some (decide (a ≤ 13)) else some false) = some false := by split <;> simp_all
    simp [s1, s2, s3]
theorem isNan_eq (b : Int) (h0 : 0 ≤ b) (h1 : b < 18446744073709551616) : relayref01_isNan.f b = some (nanB b) := by
  unfold relayref01_isNan.f nanB
  rw [and_exp b h0 h1, and_low b h0 h1]
  have : b / 4503599627370496 % 2048 * 4503599627370496 = 9218868437227405312 ↔ b / 4503599627370496 % 2048 = 2047 := by omega
  simp only [this]
  split
  · rename_i h
    simp [h, bne, Bool.beq_eq_decide_eq]
  · rename_i h
    simp [h]
theorem v_isNaN (b : Int) (h0 : 0 ≤ b) (h1 : b < 18446744073709551616) : math_IsNaN.f b.toNat = some (nanB b) := by
  unfold math_IsNaN.f
  rw [order_self b h0 h1]
theorem r_may (a b : Int) (h0 : 0 ≤ b) (h1 : b < 18446744073709551616) (k : Nat) : relayref01_may.f (k + 6) a b = some (if a = 18 then (!nanB b || b == 9221120237041090561) else fitsB a b) := by
  simp only [relayref01_may.f, relayref01_Signed.f, r_width, Option.bind_some, wrap_i64, shl, shr, isNan_eq b h0 h1]
  have hw : (wrap64 b = b ∧ b < 9223372036854775808) ∨ (wrap64 b = b - 18446744073709551616 ∧ 9223372036854775808 ≤ b) := by unfold wrap64; omega
  by_cases r : 1 ≤ a ∧ a ≤ 18
  · have : a = 1 ∨ a = 2 ∨ a = 3 ∨ a = 4 ∨ a = 5 ∨ a = 6 ∨ a = 7 ∨ a = 8 ∨ a = 9 ∨ a = 10 ∨ a = 11 ∨ a = 12 ∨ a = 13 ∨ a = 14 ∨ a = 15 ∨ a = 16 ∨ a = 17 ∨ a = 18 := by omega
    rcases hw with ⟨hw, hb⟩ | ⟨hw, hb⟩
    · rcases this with rfl | rfl | rfl | rfl | rfl | rfl | rfl | rfl | rfl | rfl | rfl | rfl | rfl | rfl | rfl | rfl | rfl | rfl
      all_goals
        simp [widthV, fitsB, IntKind.bits, wrap_i64, wrap_u64, w1_, w2_, w3_, w8, w8', w16, w16', w32, w32', w8n, w16n, w32n, hw, Int.tmod_eq_emod_of_nonneg h0, Bool.beq_eq_decide_eq]
        try (first | omega | ((repeat' split) <;> simp_all <;> omega))
    · rcases this with rfl | rfl | rfl | rfl | rfl | rfl | rfl | rfl | rfl | rfl | rfl | rfl | rfl | rfl | rfl | rfl | rfl | rfl
      all_goals
        simp [widthV, fitsB, IntKind.bits, wrap_i64, wrap_u64, w1_, w2_, w3_, w8, w8', w16, w16', w32, w32', w8n, w16n, w32n, hw, Bool.beq_eq_decide_eq]
        try (first | omega | ((repeat' split) <;> simp_all <;> omega))
  · have n1 : ¬ a = 1 := by omega
    have n2 : a ≥ 2 → ¬ a ≤ 5 := by omega
    have n13 : ¬ (2 ≤ a ∧ a ≤ 13) := by omega
    have n14 : ¬ a = 14 := by omega
    have n15 : ¬ a = 15 := by omega
    have n16 : ¬ a = 16 := by omega
    have n17 : ¬ a = 17 := by omega
    have n18 : ¬ a = 18 := by omega
    have e : fitsB a b = false := by unfold fitsB; simp; omega
    rw [e, if_neg n13, if_neg n18]
    simp only [n1, n14, n15, n16, n17, n18, if_false]
    have s1 : (if a ≥ 2 then some (decide (a ≤ 5)) else some false) = some false := by split <;> simp_all
    simp [s1]
theorem v_may (a b : Int) (t : ByteArray) (h0 : 0 ≤ b) (h1 : b < 18446744073709551616) (k : Nat) : value_May.f (k + 6) a b t = some (mayB a b t) := by
  unfold mayB
  simp only [value_May.f, value_known.f, v_isNaN b h0 h1, v_fits a b h0 h1, Option.bind_some]
  by_cases c : a = 19
  · simp only [c, if_true]; split <;> rfl
  · rw [if_neg c, if_neg c]
    by_cases c1 : t.toList = ([] : List UInt8)
    · rw [if_pos c1, if_pos c1]
      by_cases c2 : a = 18
      · rw [if_pos c2, if_pos c2]; cases nanB b <;> rfl
      · rw [if_neg c2, if_neg c2]
        by_cases c3 : a ≥ 1
        · rw [if_pos c3]
          by_cases c4 : a ≤ 19
          · simp [c4]
          · have e : fitsB a b = false := by unfold fitsB; simp; omega
            simp [c4, e]
        · have e : fitsB a b = false := by unfold fitsB; simp; omega
          simp [c3, e]
    · rw [if_neg c1, if_neg c1]
theorem r_May (a b : Int) (t : ByteArray) (h0 : 0 ≤ b) (h1 : b < 18446744073709551616) (k : Nat) : relayref01_May.f (k + 6) a b t = some (mayB a b t) := by
  unfold mayB
  simp only [relayref01_May.f, r_may a b h0 h1, Option.bind_some]
  split
  · split <;> rfl
  · split <;> rfl
end Go.Proofs.Ytlmmkaddlflepaa.POrd
