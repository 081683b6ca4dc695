/- What the program's Turn and the document's compute, in plain words. No condition but that numbers are 64 bits. -/
import Derived.Test.YtlmmkaddlflepaaPSignsV3
namespace Go.Proofs.Ytlmmkaddlflepaa.PSigns
open Go.RowKit Go.Proofs.YtlmmkaddlflepaaW.PrintWords Go.Proofs.YtlmmkaddlflepaaW.PrintLast Go.Proofs.YtlmmkaddlflepaaW.PrintMore Go.Proofs.Ytlmmkaddlflepaa.Plain
set_option linter.unusedVariables false
set_option linter.unusedSimpArgs false

theorem neg_int (b k : Int) (h0 : 0 ≤ b) (h1 : b < 18446744073709551616) (hk : signedB k = true) (hf : fitsB k b = true) (n : Nat) :
    (if wrap64 b < 0 then value_wide_of.f (n + 12) false (IntKind.u64.wrap (-b)) k 1 else value_wide_of.f (n + 12) true b k 1) =
      some (if -9223372036854775808 ≤ 0 - wrap64 b ∧ 0 - wrap64 b ≤ 9223372036854775807 then (if fitsB k ((0 - wrap64 b) % 18446744073709551616) = true then (k, (0 - wrap64 b) % 18446744073709551616, ⟨#[]⟩, 0) else (0, 0, ⟨#[]⟩, 1)) else (0, 0, ⟨#[]⟩, 1)) := by
  have hz0 : 0 ≤ IntKind.u64.wrap (-b) := by rw [wrap_u64]; omega
  have hz1 : IntKind.u64.wrap (-b) < 18446744073709551616 := by rw [wrap_u64]; omega
  rw [v_wide _ _ _ _ hz0 hz1, v_wide _ _ _ _ h0 h1, wrap_u64]
  have hw : (wrap64 b = b ∧ b < 9223372036854775808) ∨ (wrap64 b = b - 18446744073709551616 ∧ 9223372036854775808 ≤ b) := by unfold wrap64; omega
  unfold ofV
  rcases hw with ⟨e, c⟩ | ⟨e, c⟩
  · rw [e, if_neg (by omega), if_pos (show -9223372036854775808 ≤ 0 - b ∧ 0 - b ≤ 9223372036854775807 by omega)]
    have e2 : (0 - b) % 18446744073709551616 = (-b) % 18446744073709551616 := by omega
    rw [e2]
    by_cases d : b > 0
    · have d2 : b ≤ 9223372036854775808 := by omega
      simp [d, d2, hk]
    · have d2 : b = 0 := by omega
      subst d2
      simp [hf]
  · rw [e, if_pos (by omega)]
    have e2 : (0 - (b - 18446744073709551616)) % 18446744073709551616 = (-b) % 18446744073709551616 := by omega
    rw [e2]
    simp only [Bool.false_eq_true, false_and, if_false, hk, true_and]
    by_cases d : b = 9223372036854775808
    · subst d
      simp
    · have d1 : ¬ (-b) % 18446744073709551616 > 9223372036854775807 := by omega
      rw [if_pos (show -9223372036854775808 ≤ 0 - (b - 18446744073709551616) ∧ 0 - (b - 18446744073709551616) ≤ 9223372036854775807 by omega)]
      simp [d1]
theorem turns (op a b : Int) (t : ByteArray) (h0 : 0 ≤ b) (h1 : b < 18446744073709551616) (k : Nat) :
    value_Turn.f (k + 40) op a b t = some (turnV op a b t) ∧ ∃ r : ByteArray, relayref01_Turn.f (k + 40) op a b t = some ((turnV op a b t).1, (turnV op a b t).2.1, r, (turnV op a b t).2.2.2) ∧ r.toList = ([] : List UInt8) := by
  have h1' := h1
  simp only [value_Turn.f, relayref01_Turn.f, v_may a b t h0 h1', r_May a b t h0 h1', Option.bind_some]
  by_cases hm : mayB a b t = false
  · have e : turnV op a b t = (0, 0, ⟨#[]⟩, 8) := by unfold turnV; rw [if_pos hm]
    rw [e, hm]
    exact ⟨rfl, _, rfl, empty_toList⟩
  have hm' : mayB a b t = true := by simpa using hm
  simp only [hm', if_true]
  by_cases c15 : op = 15
  · subst c15
    simp only [if_true, value_signed.f, relayref01_Signed.f]
    by_cases sg : signedB a = true
    · have k18 : a ≠ 18 := by intro e; subst e; revert sg; decide
      have k19 : a ≠ 19 := by intro e; subst e; revert sg; decide
      obtain ⟨hf, ht⟩ := may_fits hm' k18 k19
      have hb1 : -9223372036854775808 ≤ wrap64 b := by unfold wrap64; omega
      have hb2 : wrap64 b ≤ 9223372036854775807 := by unfold wrap64; omega
      have key : ∀ {α : Type} (F : Bool → Option α), ((if a ≥ 2 then some (decide (a ≤ 5)) else some false).bind fun t128 => if t128 = true then F true else F (a == 14)) = F true := by
        intro α F
        have := of_decide_eq_true sg
        by_cases u : 2 ≤ a ∧ a ≤ 5
        · have u1 : a ≥ 2 := u.1
          simp [u1, u.2]
        · have u1 : (if a ≥ 2 then some (decide (a ≤ 5)) else some false) = some false := by split <;> simp <;> omega
          have u2 : a = 14 := by omega
          simp [u1, u2]
      rw [key (fun x => value_Turn.j0 (k + 40) 15 x a b t), key (fun x => relayref01_Turn.j0 (k + 40) 15 x a b t 0 0 ⟨#[]⟩)]
      simp only [value_Turn.j0, relayref01_Turn.j0, if_true, r_sub 0 (wrap64 b) ⟨by decide, by decide⟩ ⟨hb1, hb2⟩, Option.bind_some]
      have hn := neg_int b a h0 h1' sg hf (k + 27)
      simp only [Nat.add_assoc, Nat.reduceAdd, wrap_u64] at hn
      have e : turnV 15 a b t = (if (-9223372036854775808 ≤ 0 - wrap64 b ∧ 0 - wrap64 b ≤ 9223372036854775807) ∧ fitsB a ((0 - wrap64 b) % 18446744073709551616) = true then (a, (0 - wrap64 b) % 18446744073709551616, ⟨#[]⟩, 0) else (0, 0, ⟨#[]⟩, 1)) := by
        unfold turnV; rw [if_neg hm, if_pos ⟨rfl, sg⟩]
      rw [e]
      have hz0 : 0 ≤ IntKind.u64.wrap (0 - wrap64 b) := by rw [wrap_u64]; omega
      have hz1 : IntKind.u64.wrap (0 - wrap64 b) < 18446744073709551616 := by rw [wrap_u64]; omega
      by_cases cr : -9223372036854775808 ≤ 0 - wrap64 b ∧ 0 - wrap64 b ≤ 9223372036854775807
      · simp only [cr, and_self, if_true, true_and, r_made a _ 1 hz0 hz1, Option.bind_some, if_neg k18] at hn ⊢
        simp only [wrap_u64]
        by_cases cn : wrap64 b < 0
        all_goals
          simp only [cn, if_true, if_false, decide_true, decide_false, Bool.not_true, Bool.not_false] at hn ⊢
          rw [hn]
          exact ⟨rfl, ⟨#[]⟩, by cases fitsB a ((0 - wrap64 b) % 18446744073709551616) <;> rfl, empty_toList⟩
      · simp only [cr, if_false, false_and, Int.reduceEq, wrap_u64] at hn ⊢
        by_cases cn : wrap64 b < 0
        all_goals
          simp only [cn, if_true, if_false, decide_true, decide_false, Bool.not_true, Bool.not_false] at hn ⊢
          rw [hn]
          exact ⟨rfl, ⟨#[]⟩, rfl, empty_toList⟩
    · have ns : ¬ ((2 ≤ a ∧ a ≤ 5) ∨ a = 14) := fun h => sg (decide_eq_true h)
      have key : ∀ {α : Type} (F : Bool → Option α), ((if a ≥ 2 then some (decide (a ≤ 5)) else some false).bind fun t128 => if t128 = true then F true else F (a == 14)) = F false := by
        intro α F
        have u1 : (if a ≥ 2 then some (decide (a ≤ 5)) else some false) = some false := by split <;> simp <;> omega
        have u2 : (a == 14) = false := by simp; omega
        simp [u1, u2]
      rw [key (fun x => value_Turn.j0 (k + 40) 15 x a b t), key (fun x => relayref01_Turn.j0 (k + 40) 15 x a b t 0 0 ⟨#[]⟩)]
      by_cases c18 : a = 18
      · subst c18
        obtain ⟨hq, ht⟩ := may_real hm'
        have hneg := neg_float b h0 h1'
        have hx0 : 0 ≤ (Op.negFloat .f64 b.toNat : Int) := by omega
        have hx1 : (Op.negFloat .f64 b.toNat : Int) < 18446744073709551616 := by rw [hneg]; split <;> omega
        have hnan : nanB (Op.negFloat .f64 b.toNat : Int) = nanB b := by
          unfold nanB
          rw [hneg]
          congr 1
          split <;> (simp; omega)
        have hI := v_isNaN (Op.negFloat .f64 b.toNat : Int) hx0 hx1
        rw [Int.toNat_natCast, hnan] at hI
        have e : turnV 15 18 b t = (18, if nanB b = true then 9221120237041090561 else if b < 9223372036854775808 then b + 9223372036854775808 else b - 9223372036854775808, ⟨#[]⟩, 0) := by
          unfold turnV; rw [if_neg hm, if_neg (by decide), if_pos ⟨rfl, rfl⟩]
        rw [e]
        simp only [value_Turn.j0, value_Turn.j1, relayref01_Turn.j0, relayref01_Turn.j1, Bool.false_eq_true, if_false, if_true, beq_self_eq_true, value_Lreal.f, hI, Option.bind_some]
        cases hb : nanB b
        · have hne : ¬ b = 9221120237041090561 := by intro e; subst e; revert hb; decide
          simp only [hne, if_false, Bool.false_eq_true, Option.bind_some, xor_sign b h0 h1']
          have e : Int.ofNat (Op.negFloat .f64 b.toNat) = if b < 9223372036854775808 then b + 9223372036854775808 else b - 9223372036854775808 := hneg
          rw [e]
          exact ⟨rfl, t, rfl, ht⟩
        · have e := hq hb
          subst e
          simp only [if_true, Option.bind_some]
          exact ⟨by first | rfl | trivial, t, rfl, ht⟩
      · have e18 : (a == 18) = false := by simp [c18]
        have e : turnV 15 a b t = (0, 0, ⟨#[]⟩, 8) := by
          unfold turnV; rw [if_neg hm, if_neg (fun h => sg h.2), if_neg (fun h => c18 h.2), if_neg (by omega), if_neg (by omega)]
        rw [e]
        simp only [value_Turn.j0, value_Turn.j1, value_Turn.j2, relayref01_Turn.j0, relayref01_Turn.j1, relayref01_Turn.j2, relayref01_Turn.j3, Bool.false_eq_true, if_false, if_true, e18, Int.reduceEq, Option.bind_some]
        exact ⟨by first | rfl | trivial, ⟨#[]⟩, rfl, empty_toList⟩
  · simp only [c15, if_false, value_Turn.j0, value_Turn.j1, relayref01_Turn.j0, relayref01_Turn.j1, Bool.false_eq_true]
    by_cases c16 : op = 16
    · subst c16
      simp only [if_true]
      by_cases k1 : a = 1
      · subst k1
        obtain ⟨hf, ht⟩ := may_fits hm' (by decide) (by decide)
        have hb : b = 0 ∨ b = 1 := by
          have := of_decide_eq_true hf
          omega
        have e : turnV 16 1 b t = (1, 1 - b, ⟨#[]⟩, 0) := by unfold turnV; rw [if_neg hm, if_neg (by decide), if_neg (by decide), if_pos ⟨rfl, rfl⟩]
        rw [e]
        rcases hb with rfl | rfl
        · simp only [value_Turn.j2, relayref01_Turn.j2, beq_self_eq_true, if_true, value_Bool.f, Option.bind_some, wrap_u64]
          exact ⟨rfl, t, rfl, ht⟩
        · simp only [value_Turn.j2, relayref01_Turn.j2, beq_self_eq_true, if_true, value_Bool.f, Option.bind_some, wrap_u64, show ((1 : Int) == 0) = false from by decide, Bool.false_eq_true, if_false]
          exact ⟨rfl, t, rfl, ht⟩
      · have e1 : (a == 1) = false := by simp [k1]
        simp only [value_Turn.j2, relayref01_Turn.j2, e1, Bool.false_eq_true, if_false, if_true, value_row.f, relayref01_Row.f, relayref01_Turn.j3, r_width, value_most.f, v_width, Option.bind_some]
        by_cases kr : 10 ≤ a ∧ a ≤ 13
        · obtain ⟨hf, ht⟩ := may_fits hm' (by omega) (by omega)
          have hbf := of_decide_eq_true hf
          have r1 : a ≥ 10 := kr.1
          have r2 : 2 ≤ a ∧ a ≤ 13 := by omega
          have e : turnV 16 a b t = (a, if a = 10 then 255 - b else if a = 11 then 65535 - b else if a = 12 then 4294967295 - b else 18446744073709551615 - b, ⟨#[]⟩, 0) := by
            unfold turnV; rw [if_neg hm, if_neg (by omega), if_neg (by omega), if_neg (by omega), if_pos ⟨rfl, kr⟩]
          rw [e]
          simp only [r1, kr.2, r2, and_self, if_true, decide_true, Option.bind_some, xor_max b h0 h1']
          have hz0 : 0 ≤ 18446744073709551615 - b := by omega
          have hz1 : 18446744073709551615 - b < 18446744073709551616 := by omega
          have m8 : Go.bits .and .u64 (18446744073709551615 - b) 255 = (18446744073709551615 - b) % 256 := by simpa using and_mask (18446744073709551615 - b) 8 hz0 hz1 (by decide)
          have m16 : Go.bits .and .u64 (18446744073709551615 - b) 65535 = (18446744073709551615 - b) % 65536 := by simpa using and_mask (18446744073709551615 - b) 16 hz0 hz1 (by decide)
          have m32 : Go.bits .and .u64 (18446744073709551615 - b) 4294967295 = (18446744073709551615 - b) % 4294967296 := by simpa using and_mask (18446744073709551615 - b) 32 hz0 hz1 (by decide)
          have m64 : Go.bits .and .u64 (18446744073709551615 - b) 18446744073709551615 = 18446744073709551615 - b := by
            have := and_mask (18446744073709551615 - b) 64 hz0 hz1 (by decide)
            simp at this
            rw [this]
            omega
          have ka : a = 10 ∨ a = 11 ∨ a = 12 ∨ a = 13 := by omega
          rcases ka with rfl | rfl | rfl | rfl
          · have q : (18446744073709551615 - b) % 256 = 255 - b := by omega
            simp [widthV, shr, shl, wrap_u64, IntKind.bits, m8, q, ht]
          · have q : (18446744073709551615 - b) % 65536 = 65535 - b := by omega
            simp [widthV, shr, shl, wrap_u64, IntKind.bits, m16, q, ht]
          · have q : (18446744073709551615 - b) % 4294967296 = 4294967295 - b := by omega
            simp [widthV, shr, shl, wrap_u64, IntKind.bits, m32, q, ht]
          · simp [widthV, shr, shl, wrap_u64, IntKind.bits, m64, ht]
        · have r1 : (if a ≥ 10 then some (decide (a ≤ 13)) else some false) = some false := by split <;> simp <;> omega
          have e : turnV 16 a b t = (0, 0, ⟨#[]⟩, 8) := by
            unfold turnV; rw [if_neg hm, if_neg (by omega), if_neg (by omega), if_neg (by omega), if_neg (by omega)]
          rw [e]
          simp only [r1, Option.bind_some, Bool.false_eq_true, if_false]
          exact ⟨by first | rfl | trivial, ⟨#[]⟩, rfl, empty_toList⟩
    · have e : turnV op a b t = (0, 0, ⟨#[]⟩, 8) := by
        unfold turnV; rw [if_neg hm, if_neg (by omega), if_neg (by omega), if_neg (by omega), if_neg (by omega)]
      rw [e]
      simp only [c16, if_false, value_Turn.j2, relayref01_Turn.j2, relayref01_Turn.j3, Bool.false_eq_true, Option.bind_some]
      exact ⟨by first | rfl | trivial, ⟨#[]⟩, rfl, empty_toList⟩
end Go.Proofs.Ytlmmkaddlflepaa.PSigns
