/- The program's fromFloat. Conditions: bits are 64, and the value may be. -/
import Derived.Test.YtlmmkaddlflepaaGreatDoorHReal
import GoSem.Extern.MathFloor
namespace Go.Proofs.YtlmmkaddlflepaaGreatDoor.H
set_option linter.unusedVariables false
open Go.RowKit Go.Proofs.YtlmmkaddlflepaaGreatDoor.Plain
set_option maxHeartbeats 3200000
set_option maxRecDepth 100000
set_option linter.unusedSimpArgs false
attribute [local go_sem] ext_from ext_bits cell_isSome un_neg_float
theorem near_sign (M : Nat) (p : Int) : Ieee.double.nearest true M p = 9223372036854775808 + Ieee.double.nearest false M p ∧ Ieee.double.nearest false M p < 9223372036854775808 := by
  have e2 : Ieee.double.signWeight = 9223372036854775808 := by decide
  have e1 : Ieee.double.infRung = 9218868437227405312 := by decide
  unfold Ieee.Format.nearest Ieee.Format.word
  rw [e2, e1]
  by_cases c : M = 0
  · rw [if_pos c, if_pos c]; simp
  · rw [if_neg c, if_neg c]
    simp only [if_true, Bool.false_eq_true, if_false]
    refine ⟨rfl, ?_⟩
    exact Nat.lt_of_le_of_lt (Nat.min_le_right _ _) (by decide)
theorem near_sg (sg M : Nat) (h : sg < 2) : Ieee.double.nearest (sg == 1) M 0 = sg * 9223372036854775808 + Ieee.double.nearest false M 0 := by
  have : sg = 0 ∨ sg = 1 := by omega
  rcases this with rfl | rfl
  · simp
  · have := (near_sign M 0).1
    simpa using this
theorem and_not (R : Nat) (h : R < 18446744073709551616) : Go.bits .andNot .u64 (R : Int) 9223372036854775808 = ((R % 9223372036854775808 : Nat) : Int) := by
  have := u64_andNot (R : Int) 9223372036854775808 (by omega) (by omega) (by omega) (by omega)
  rw [this]
  congr 1
  rw [Int.toNat_natCast, show (18446744073709551615 - (9223372036854775808 : Int).toNat) = 2 ^ 63 - 1 by decide, Nat.and_two_pow_sub_one_eq_mod]
theorem v_abs (R : Nat) (h : R < 18446744073709551616) (w : World) : Calls Tryz.prog 51 #[.float .f64 R] w fun e w' => e = .returned (.float .f64 (R % 9223372036854775808)) ∧ w = w' := by
  have e1 := and_not R h
  clear h
  go_enter Tryz.func51, Tryz.ntmps51
  go_wp2
  go_ret
  exact ⟨rfl, rfl⟩
theorem ext_round (n R : Nat) (h : ∀ w, (Extern.MathFloor.toIntegral "math.RoundToEven" .even #[.float .f64 n]).run Tryz.prog w = .ok (.float .f64 R) w) (w : World) : (callFunc 50 #[.float .f64 n]).run Tryz.prog w = .ok (.value (.float .f64 R)) w := by
  rw [run_callFunc_extern (e := Extern.MathFloor.toIntegral "math.RoundToEven" .even) Tryz.func50 (by kernel_rfl) (by kernel_rfl) (by kernel_rfl) (by kernel_rfl), h]
  rfl
theorem round_num {b : Int} {sg ex fr : Nat} (hP : Parts b sg ex fr) (hx : ex < 2047) (w : World) : (Extern.MathFloor.toIntegral "math.RoundToEven" .even #[.float .f64 b.toNat]).run Tryz.prog w = .ok (.float .f64 (Ieee.double.nearest (sg == 1) (magE ex fr) 0)) w := by
  have hb : b.toNat = sg * 9223372036854775808 + ex * 4503599627370496 + fr := by have := hP.eq; omega
  have hI := integral_at sg ex fr hP.s2 hx hP.f2
  have hr := read_at sg ex fr hP.s2 hx hP.f2
  rw [← hb] at hI hr
  show Sem.run _ (Extern.MathFloor.toIntegral.match_1 (fun _ => Sem Value) (FloatKind.f64.decode b.toNat) _ _) w = _
  have hr : FloatKind.f64.decode b.toNat = _ := hr
  have hI : (FloatKind.f64.decode b.toNat).integral .even = _ := hI
  by_cases c : ex = 0
  · rw [if_pos c] at hr
    rw [hr] at hI ⊢
    show Result.ok (Value.float .f64 (Ieee.double.write ((Ieee.Datum.number _ _ _).integral .even))) w = _
    rw [hI]
    rfl
  · rw [if_neg c] at hr
    rw [hr] at hI ⊢
    show Result.ok (Value.float .f64 (Ieee.double.write ((Ieee.Datum.number _ _ _).integral .even))) w = _
    rw [hI]
    rfl
theorem read_inf (sg : Nat) (h : sg < 2) : Ieee.double.read (sg * 9223372036854775808 + 2047 * 4503599627370496) = .infinity (sg == 1) := by
  have : sg = 0 ∨ sg = 1 := by omega
  rcases this with rfl | rfl <;> decide +kernel
theorem round_inf0 (n : Nat) (s : Bool) (hr : Ieee.double.read n = .infinity s) (w : World) : (Extern.MathFloor.toIntegral "math.RoundToEven" .even #[.float .f64 n]).run Tryz.prog w = .ok (.float .f64 (Ieee.double.write (.infinity s))) w := by
  show Sem.run _ (Extern.MathFloor.toIntegral.match_1 (fun _ => Sem Value) (FloatKind.f64.decode n) _ _) w = _
  have hr : FloatKind.f64.decode n = _ := hr
  rw [hr]
  rfl
theorem round_inf (sg : Nat) (h : sg < 2) (w : World) : (Extern.MathFloor.toIntegral "math.RoundToEven" .even #[.float .f64 (sg * 9223372036854775808 + 2047 * 4503599627370496)]).run Tryz.prog w = .ok (.float .f64 (sg * 9223372036854775808 + 2047 * 4503599627370496)) w := by
  rw [round_inf0 _ _ (read_inf sg h)]
  congr 2
  have : sg = 0 ∨ sg = 1 := by omega
  rcases this with rfl | rfl <;> decide +kernel
theorem round_nan0 (n : Nat) (s : Bool) (t : Nat) (hr : Ieee.double.read n = .nan s t) (hq : Ieee.double.quiet t = t) (w : World) : (Extern.MathFloor.toIntegral "math.RoundToEven" .even #[.float .f64 n]).run Tryz.prog w = .ok (.float .f64 n) w := by
  show Sem.run _ (Extern.MathFloor.toIntegral.match_1 (fun _ => Sem Value) (FloatKind.f64.decode n) _ _) w = _
  have hr : FloatKind.f64.decode n = _ := hr
  rw [hr]
  show Sem.run _ (if FloatKind.f64.format.quiet t = t then _ else _) w = _
  rw [if_pos (show FloatKind.f64.format.quiet t = t from hq)]
  rfl
theorem round_nan (w : World) : (Extern.MathFloor.toIntegral "math.RoundToEven" .even #[.float .f64 9221120237041090561]).run Tryz.prog w = .ok (.float .f64 9221120237041090561) w :=
  round_nan0 _ false 2251799813685249 (by decide +kernel) (by decide +kernel) w
theorem zero_order (b : Int) (h0 : 0 ≤ b) (h1 : b < 18446744073709551616) (hn : nanB b = false) : (FloatKind.f64.format.order b.toNat 0 != some Ordering.eq) = !decide (b % 9223372036854775808 = 0) := by
  obtain ⟨sg, ex, fr, hP⟩ := parts_of b h0 h1
  have q1 := hP.eq; have q2 := hP.s2; have q3 := hP.e2; have q4 := hP.f2
  have hb : b.toNat = sg * 9223372036854775808 + ex * 4503599627370496 + fr := by omega
  show (Ieee.double.order b.toNat 0 != some Ordering.eq) = _
  unfold Ieee.Format.order
  rw [read_zero]
  by_cases cx : ex = 2047
  · have hf : fr = 0 := by
      have := of_decide_eq_false hn
      omega
    subst cx hf
    rw [hb, Nat.add_zero, read_inf sg q2]
    have e : ¬ b % 9223372036854775808 = 0 := by omega
    rw [decide_eq_false e]
    have : sg = 0 ∨ sg = 1 := by omega
    rcases this with rfl | rfl <;> rfl
  · rw [hb, read_at sg ex fr q2 (by omega) q4]
    have cmp : ∀ (s : Bool) (m k : Nat), (compare (Ieee.signed s m k) (Ieee.signed false 0 0) != Ordering.eq) = decide (m ≠ 0) := fun s m k => by
      have hz : Ieee.signed false 0 0 = 0 := by rfl
      rw [hz]
      by_cases c : m = 0
      · subst c
        have : Ieee.signed s 0 k = 0 := by unfold Ieee.signed; rw [Nat.zero_shiftLeft]; simp
        rw [this]; rfl
      · have hp : 0 < m <<< k := by rw [Nat.shiftLeft_eq]; exact Nat.mul_pos (by omega) (Nat.two_pow_pos _)
        unfold Ieee.signed
        cases s
        · simp only [Bool.false_eq_true, if_false]
          rw [show compare ((m <<< k : Nat) : Int) 0 = .gt from Int.compare_eq_gt.2 (by omega), decide_eq_true c]; rfl
        · simp only [if_true]
          rw [show compare (-((m <<< k : Nat) : Int)) 0 = .lt from Int.compare_eq_lt.2 (by omega), decide_eq_true c]; rfl
    by_cases c : ex = 0
    · subst c
      rw [if_pos rfl]
      simp only [Ieee.Datum.order]
      have := cmp (sg == 1) fr 0
      rw [show (min (-1074 : Int) (-1074)) = -1074 by decide, show ((-1074 : Int) - -1074).toNat = 0 by decide]
      rw [show ∀ o : Ordering, ((some o != some Ordering.eq) = (o != Ordering.eq)) from fun o => by cases o <;> rfl, this, ← decide_not]
      exact decide_eq_decide.2 (by omega)
    · rw [if_neg c]
      simp only [Ieee.Datum.order]
      rw [show (min ((ex : Int) - 1075) (-1074)) = -1074 by omega, show ((-1074 : Int) - -1074).toNat = 0 by decide]
      rw [show ∀ o : Ordering, ((some o != some Ordering.eq) = (o != Ordering.eq)) from fun o => by cases o <;> rfl, cmp, ← decide_not]
      exact decide_eq_decide.2 (by omega)
end Go.Proofs.YtlmmkaddlflepaaGreatDoor.H
