/- The pure statement of ValueMakes: values are made of numbers, floats and texts, and told again, as the document has it. No condition. -/
import Derived.Test.YtlmmkaddlflepaaPMakesV2
import Derived.Test.YtlmmkaddlflepaaPMakesVN
namespace Go.Proofs.Ytlmmkaddlflepaa.Pure
open Go.RowKit Go.Proofs.YtlmmkaddlflepaaW.PrintWords Go.Proofs.YtlmmkaddlflepaaW.PrintLast Go.Proofs.YtlmmkaddlflepaaW.PrintMore Go.Proofs.Ytlmmkaddlflepaa.Plain Go.Proofs.Ytlmmkaddlflepaa.PMakes
set_option linter.unusedVariables false
set_option linter.unusedSimpArgs false

theorem lreal_some (x : Nat) : ∃ p q r, value_Lreal.f x = some (p, q, r) ∧ relayref01_Lreal.f x = some (p, q, r) := by
  unfold value_Lreal.f relayref01_Lreal.f math_IsNaN.f
  cases (FloatKind.f64.format.order x x != some Ordering.eq)
  · exact ⟨_, _, _, rfl, rfl⟩
  · exact ⟨_, _, _, rfl, rfl⟩
theorem float_some (a b : Int) (t : ByteArray) (h0 : 0 ≤ b) (h1 : b < 18446744073709551616) : ∃ p q, (∀ k, value_Float.f (k + 6) a b t = some (p, q)) ∧ ∀ k, relayref01_Float.f (k + 6) a b t = some (p, q) := by
  simp only [value_Float.f, relayref01_Float.f, v_may a b t h0 h1, r_May a b t h0 h1, Option.bind_some, value_signed.f, value_unsigned.f, relayref01_Signed.f, relayref01_Unsigned.f]
  obtain ⟨s1, hs1⟩ : ∃ s, (if a ≥ 2 then some (decide (a ≤ 5)) else some false) = some s := by split <;> exact ⟨_, rfl⟩
  obtain ⟨s2, hs2⟩ : ∃ s, (if a ≥ 6 then some (decide (a ≤ 9)) else some false) = some s := by split <;> exact ⟨_, rfl⟩
  simp only [hs1, hs2, Option.bind_some]
  cases mayB a b t
  · exact ⟨_, _, fun _ => rfl, fun _ => rfl⟩
  · by_cases c : a = 18
    · simp only [c, if_true]; exact ⟨_, _, fun _ => rfl, fun _ => rfl⟩
    · simp only [c, if_true, if_false]
      cases s1
      · cases s2
        · exact ⟨_, _, fun _ => rfl, fun _ => rfl⟩
        · exact ⟨_, _, fun _ => rfl, fun _ => rfl⟩
      · exact ⟨_, _, fun _ => rfl, fun _ => rfl⟩
theorem bool_same (x : Bool) : ∃ p q r, value_Bool.f x = some (p, q, r) ∧ relayref01_Bool.f x = some (p, q, r) := by
  cases x <;> exact ⟨_, _, _, rfl, rfl⟩
theorem zero_same (a : Int) : ∃ p q r, value_Zero.f a = some (p, q, r) ∧ relayref01_Zero.f a = some (p, q, r) := by
  unfold value_Zero.f relayref01_Zero.f value_known.f relayref01_elementary.f
  obtain ⟨s1, hs1⟩ : ∃ s, (if a ≥ 1 then some (decide (a ≤ 19)) else some false) = some s := by split <;> exact ⟨_, rfl⟩
  simp only [hs1, Option.bind_some]
  cases s1 <;> exact ⟨_, _, _, rfl, rfl⟩
theorem text_same (a : ByteArray) : ∃ p q r s, value_Text.f a = some (p, q, r, s) ∧ relayref01_Text.f a = some (p, q, r, s) := by
  unfold value_Text.f relayref01_Text.f
  by_cases c : (a.size : Int) > 254
  · simp only [c, if_true]; exact ⟨_, _, _, _, rfl, rfl⟩
  · simp only [c, if_false]; exact ⟨_, _, _, _, rfl, rfl⟩
theorem same_same (p q : Int) (r : ByteArray) (s : Int) : relaylaw01_same.f p q r s p q r s = some true := by
  unfold relaylaw01_same.f
  simp
theorem ValueMakes : relaylaw01_ValueMakes.Pure := by
  intro a n f s a4 b4 t4 wa wn wf ws wa4 wb4 wt4
  obtain ⟨h0, h1⟩ := bounds_u64 wb4
  refine ⟨40, ?_⟩
  obtain ⟨p1, q1, r1, s1, e1, e2⟩ := text_same s
  obtain ⟨p2, q2, r2, e3, e4⟩ := zero_same a
  obtain ⟨p3, q3, r3, e5, e6⟩ := lreal_some f
  obtain ⟨p4, q4, r4, e7, e8⟩ := bool_same (decide (n > 0))
  obtain ⟨p5, q5, e9, e10⟩ := float_some a4 b4 t4 h0 (by omega)
  obtain ⟨p6, q6, r6, e11, e12⟩ := lreal_some p5
  have hn1 := fun k => v_number a4 b4 t4 h0 (by omega) k
  have hn2 := fun k => r_number a4 b4 t4 h0 (by omega) k
  unfold relaylaw01_ValueMakes.f
  simp only [v_int, r_int, e1, e2, same_same, Option.bind_some, if_true, e3, e4, e5, e6, beq_self_eq_true, Bool.not_true, Bool.false_or, Bool.or_self, Bool.false_eq_true, if_false, relaylaw01_ValueMakes.j0, hn1, hn2, e9, e10, e7, e8, Bool.and_self, e11, e12]
end Go.Proofs.Ytlmmkaddlflepaa.Pure
