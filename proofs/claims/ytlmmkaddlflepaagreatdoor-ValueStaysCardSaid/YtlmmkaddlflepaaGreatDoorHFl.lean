/- The document's 'whole' and 'fromReal'. No condition but that bits are 64. -/
import Derived.Test.YtlmmkaddlflepaaGreatDoorHWhole2
import Derived.Test.YtlmmkaddlflepaaGreatDoorHFloat
import Derived.Deep.QuietTactic
import Derived.BigQuiet
namespace Go.Proofs.YtlmmkaddlflepaaGreatDoor.H
set_option linter.unusedVariables false
open Go.RowKit Go.Proofs.YtlmmkaddlflepaaGreatDoor.Plain
set_option maxHeartbeats 3200000
set_option maxRecDepth 100000
set_option linter.unusedSimpArgs false
attribute [local go_sem] ext_from ext_bits cell_isSome un_neg_float
/-- A word's sign, exponent field, fraction field. -/
structure Parts (b : Int) (sg ex fr : Nat) : Prop where
  eq : b = ((sg * 9223372036854775808 + ex * 4503599627370496 + fr : Nat) : Int)
  s2 : sg < 2
  e2 : ex < 2048
  f2 : fr < 4503599627370496
theorem parts_of (b : Int) (h0 : 0 ≤ b) (h1 : b < 18446744073709551616) : ∃ sg ex fr, Parts b sg ex fr := by
  obtain ⟨n, rfl⟩ := Int.eq_ofNat_of_zero_le h0
  exact ⟨n / 9223372036854775808, n / 4503599627370496 % 2048, n % 4503599627370496, by omega, by omega, by omega, by omega⟩
theorem p_exp {b : Int} {sg ex fr : Nat} (h : Parts b sg ex fr) : Go.bits .and .u64 (b / 4503599627370496) 2047 = ex := by
  have h1 := h.eq; have h2 := h.s2; have h3 := h.e2; have h4 := h.f2
  have := and_mask (b / 4503599627370496) 11 (by omega) (by omega) (by decide)
  rw [show ((2 : Int) ^ 11 - 1) = 2047 by decide, show ((2 : Int) ^ 11) = 2048 by decide] at this
  rw [this]; omega
theorem p_frac {b : Int} {sg ex fr : Nat} (h : Parts b sg ex fr) : Go.bits .and .u64 b 4503599627370495 = fr := by
  have h1 := h.eq; have h2 := h.s2; have h3 := h.e2; have h4 := h.f2
  rw [and_low b (by omega) (by omega)]; omega
theorem p_sign {b : Int} {sg ex fr : Nat} (h : Parts b sg ex fr) : b / 9223372036854775808 = (sg : Int) := by
  have h1 := h.eq; have h2 := h.s2; have h3 := h.e2; have h4 := h.f2
  omega
theorem or_one (fr : Nat) (h : fr < 4503599627370496) : Go.bits .or .u64 (fr : Int) 4503599627370496 = ((4503599627370496 + fr : Nat) : Int) := by
  have e : (fr ||| 4503599627370496) = 4503599627370496 + fr := by
    have := Nat.two_pow_add_eq_or_of_lt (i := 52) (b := fr) (by simpa using h) 1
    rw [Nat.or_comm]
    have e52 : (2 : Nat) ^ 52 = 4503599627370496 := by decide
    rw [e52, Nat.mul_one] at this
    exact this.symm
  have := bits_or_u64_nat fr 4503599627370496 (by omega) (by decide)
  rw [e] at this
  exact this
theorem b_drN {w W : World} (h : Below w.heap.size w W) (n : Nat) : Below w.heap.size w (W.drewN n) := ⟨h.os, h.tape, h.output, h.size, h.block⟩
theorem mag_small {ex fr : Nat} (h : ex ≤ 1086) (hf : fr < 4503599627370496) : magE ex fr < 18446744073709551616 := by
  unfold magE
  by_cases c : ex = 0
  · rw [if_pos c]; omega
  · rw [if_neg c]
    by_cases d : 1075 ≤ ex
    · rw [if_pos d]
      have : (4503599627370496 + fr) * 2 ^ (ex - 1075) ≤ (4503599627370496 + fr) * 2 ^ 11 := Nat.mul_le_mul_left _ (Nat.pow_le_pow_right (by decide) (by omega))
      have e : (2 : Nat) ^ 11 = 2048 := by decide
      rw [e] at this
      omega
    · rw [if_neg d]
      by_cases f : 1021 ≤ ex
      · rw [if_pos f]; have := cut_frac (m := 4503599627370496 + fr) (by omega) (by omega) (d := 1075 - ex) (by omega); omega
      · rw [if_neg f]; omega
theorem mag_great {ex fr : Nat} (h : 1087 ≤ ex) : 18446744073709551616 ≤ magE ex fr := by
  unfold magE
  rw [if_neg (by omega), if_pos (by omega)]
  have : 4503599627370496 * 2 ^ 12 ≤ (4503599627370496 + fr) * 2 ^ (ex - 1075) := Nat.mul_le_mul (by omega) (Nat.pow_le_pow_right (by decide) (by omega))
  have e : (4503599627370496 : Nat) * 2 ^ 12 = 18446744073709551616 := by decide
  omega
theorem and_bit (Q : Nat) (h : Q ≤ 9007199254740992) : Go.bits .and .u64 (Q : Int) 1 = ((Q % 2 : Nat) : Int) := by
  have := and_mask (Q : Int) 1 (by omega) (by omega) (by decide)
  rw [show ((2 : Int) ^ 1 - 1) = 1 by decide, show ((2 : Int) ^ 1) = 2 by decide] at this
  rw [this]; omega
theorem r_whole (b : Int) (sg ex fr : Nat) (hP : Parts b sg ex fr) (hx : ex < 2047) (w : World) : Calls Tryz.prog 59 #[.int .u64 b] w fun e w' => ∃ n : Int, e = .returned (.tuple #[.int .u64 n, .bool (sg == 1), .bool (decide (ex ≤ 1086))]) ∧ (0 ≤ n ∧ n < 18446744073709551616) ∧ (ex ≤ 1086 → n = magE ex fr) ∧ Below w.heap.size w w' := by
  have e1 := p_exp hP
  have e2 := p_frac hP
  have e3 := p_sign hP
  have e4 := or_one fr hP.f2
  have e5 : (((sg : Nat) : Int) == 1) = (sg == 1) := by
    have := hP.s2
    have : sg = 0 ∨ sg = 1 := by omega
    rcases this with rfl | rfl <;> rfl
  have F2 := Lib.hid hP.f2
  clear hP
  by_cases c : ex = 0
  · subst c
    have M := Lib.hid (show magE 0 fr = 0 by unfold magE; rfl)
    rw [show decide (0 ≤ 1086) = true from rfl]
    clear hx
    go_enter Tryz.func59, Tryz.ntmps59
    go_wp2
    go_ret3
    exact ⟨0, rfl, by omega, fun _ => by rw [M.out]; rfl, Below.refl _ _⟩
  have cM : ((4503599627370496 + fr : Nat) : Int) = 4503599627370496 + (fr : Int) := Int.natCast_add ..
  by_cases d : 1075 ≤ ex
  · have d1 : 1075 ≤ (ex : Int) := by omega
    have d2 : (ex : Int) < 2047 := by omega
    have d3 : ((ex : Int) - 1075 == -1075) = false := by simp; omega
    rw [show decide (ex ≤ 1086) = decide ((ex : Int) - 1075 ≤ 11) from decide_eq_decide.2 (by omega)]
    have HD := Lib.hid (show ex ≤ 1086 → IntKind.u64.wrap ((4503599627370496 + (fr : Int)) * 2 ^ (min ((ex : Int) - 1075) 63).toNat) = (magE ex fr : Int) from fun h => by
      have hs := mag_small (fr := fr) h F2.out
      have e : magE ex fr = (4503599627370496 + fr) * 2 ^ (ex - 1075) := by unfold magE; rw [if_neg c, if_pos d]
      rw [show (min ((ex : Int) - 1075) 63).toNat = ex - 1075 by omega, wrap_u64]
      have e7 : (4503599627370496 + (fr : Int)) * 2 ^ (ex - 1075) = ((magE ex fr : Nat) : Int) := by rw [e, Int.natCast_mul, cM, Int.natCast_pow]; rfl
      rw [e7]
      omega)
    clear c d hx cM
    go_enter Tryz.func59, Tryz.ntmps59
    go_wp2
    go_ret3
    exact ⟨_, rfl, by rw [wrap_u64]; omega, fun h => HD.out h, Below.refl _ _⟩
  by_cases f : 1021 ≤ ex
  · obtain ⟨s, hs, s1, s2⟩ : ∃ s : Nat, ex = 1075 - s ∧ 1 ≤ s ∧ s ≤ 54 := ⟨1075 - ex, by omega, by omega, by omega⟩
    have hM : magE ex fr = cutE (4503599627370496 + fr) s := by unfold magE; rw [if_neg c, if_neg d, if_pos f, hs, show 1075 - (1075 - s) = s by omega]
    rw [show decide (ex ≤ 1086) = true from decide_eq_true (by omega)]
    have es : ((ex : Nat) : Int) = 1075 - (s : Int) := by omega
    rw [es] at e1
    have g1 : (1075 - (s : Int) - 1075) = -(s : Int) := by omega
    have g2 : (-(s : Int) == -1075) = false := by simp; omega
    have g3 : (s : Int) ≤ 54 := by omega
    have g4 : 1 ≤ (s : Int) := by omega
    have g5 : IntKind.i64.wrap ((s : Int) - 1) = (s : Int) - 1 := by rw [wrap_i64]; unfold wrap64; omega
    have g6 : 0 ≤ (s : Int) - 1 := by omega
    have hf := F2.out
    have hp : (2 : Nat) ^ s ≤ 2 ^ 54 := Nat.pow_le_pow_right (by decide) s2
    have e54 : (2 : Nat) ^ 54 = 18014398509481984 := by decide
    have hp1 : 1 ≤ (2 : Nat) ^ s := Nat.one_le_two_pow
    have hpe : (2 : Nat) ^ s = 2 * 2 ^ (s - 1) := by rw [← Nat.pow_succ']; congr 1; omega
    have c1 : ((2 : Int) ^ s) = ((2 ^ s : Nat) : Int) := (Int.natCast_pow 2 s).symm
    have c2 : ((2 : Int) ^ (s - 1)) = ((2 ^ (s - 1) : Nat) : Int) := (Int.natCast_pow 2 (s - 1)).symm
    have q1 : Go.bits .and .u64 (4503599627370496 + (fr : Int)) (IntKind.u64.wrap (IntKind.u64.wrap (2 ^ s) - 1)) = (((4503599627370496 + fr) % 2 ^ s : Nat) : Int) := by
      have := and_mask (4503599627370496 + (fr : Int)) s (by omega) (by omega) (by omega)
      rw [show IntKind.u64.wrap (IntKind.u64.wrap (2 ^ s) - 1) = (2 : Int) ^ s - 1 by rw [wrap_u64, wrap_u64, c1]; omega, this, c1, Int.natCast_emod, cM]
    have q2 : IntKind.u64.wrap ((2 : Int) ^ (s - 1)) = ((2 ^ (s - 1) : Nat) : Int) := by rw [wrap_u64, c2]; generalize 2 ^ (s - 1) = z at *; omega
    have q3 : (4503599627370496 + (fr : Int)) / 2 ^ s = (((4503599627370496 + fr) / 2 ^ s : Nat) : Int) := by rw [c1, Int.natCast_ediv, cM]
    have hq : (4503599627370496 + fr) / 2 ^ s ≤ 4503599627370496 + fr := Nat.div_le_self _ _
    have q4 := and_bit ((4503599627370496 + fr) / 2 ^ s) (Nat.le_trans hq (by omega))
    unfold cutE at hM
    rw [hpe] at hM
    rw [hpe] at q1 q3 q4 hq
    generalize hR : (4503599627370496 + fr) % (2 * 2 ^ (s - 1)) = R at *
    generalize hQ : (4503599627370496 + fr) / (2 * 2 ^ (s - 1)) = Q at *
    generalize hH : 2 ^ (s - 1) = H at *
    have hQ2 : (Q : Int) ≤ 9007199254740992 := by omega
    have HM := Lib.hid hM
    clear hs es c d f s1 s2 hR hQ hH hM hp hp1 hpe c1 c2 e54 hq hf hx cM
    go_enter Tryz.func59, Tryz.ntmps59
    go_wp2
    go_quiet (fail)
    go_wp2
    all_goals
      (go_ret3
       refine ⟨_, rfl, by omega, fun _ => ?_, b_drN (Below.refl _ _) _⟩
       rw [HM.out]
       simp only [beq_iff_eq, beq_eq_false_iff_ne] at *
       split <;> omega)
  · have M := Lib.hid (show magE ex fr = 0 by unfold magE; rw [if_neg c, if_neg d, if_neg f])
    rw [show decide (ex ≤ 1086) = true from decide_eq_true (by omega)]
    go_enter Tryz.func59, Tryz.ntmps59
    go_wp2
    go_ret3
    exact ⟨0, rfl, by omega, fun _ => by rw [M.out]; rfl, Below.refl _ _⟩
end Go.Proofs.YtlmmkaddlflepaaGreatDoor.H
