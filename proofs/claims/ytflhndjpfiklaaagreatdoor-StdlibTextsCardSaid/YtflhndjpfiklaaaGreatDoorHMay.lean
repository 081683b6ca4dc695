/- Contracts of the functions of layer 1 that tell which values may be, of the program and of the document. No condition but that bits are 64. -/
import Derived.Test.YtflhndjpfiklaaaGreatDoorHLeaf
namespace Go.Proofs.YtflhndjpfiklaaaGreatDoor.H
set_option linter.unusedSimpArgs false
set_option linter.unusedVariables false
open Go.RowKit Go.Proofs.YtflhndjpfiklaaaGreatDoor.Plain
set_option maxHeartbeats 3200000
set_option maxRecDepth 100000
attribute [local go_sem] ext_from ext_bits cell_isSome un_neg_float
theorem r_isNan (b : Int) (h0 : 0 ≤ b) (h1 : b < 18446744073709551616) (w : World) : Calls Tryz.prog 27 #[.int .u64 b] w fun e w' => e = .returned (.bool (nanB b)) ∧ w = w' := by
  have e1 := and_exp b h0 h1
  have e2 := and_low b h0 h1
  have H1 := Lib.hid h1
  have E1 := Lib.hid e1
  have E2 := Lib.hid e2
  clear h1 e1 e2
  go_enter Tryz.func27, Tryz.ntmps27
  go_wp2
  all_goals (go_ret; refine ⟨ret_bool ?_, rfl⟩; go_light; have e1 := E1.out; have e2 := E2.out; rw [Bool.eq_iff_iff]; simp only [e1] at *; simp [nanB, e2] <;> omega)
theorem v_isNaN (b : Int) (h0 : 0 ≤ b) (h1 : b < 18446744073709551616) (w : World) : Calls Tryz.prog 67 #[.float .f64 b.toNat] w fun e w' => e = .returned (.bool (nanB b)) ∧ w = w' := by
  have E1 := Lib.hid (order_self b h0 h1)
  have H1 := Lib.hid h1
  clear h1
  go_enter Tryz.func67, Tryz.ntmps67
  go_wp2
  go_ret
  exact ⟨ret_bool E1.out, rfl⟩
theorem wrap_cases {b : Int} (h0 : 0 ≤ b) (h1 : b < 18446744073709551616) : (b < 9223372036854775808 ∧ wrap64 b = b) ∨ (9223372036854775808 ≤ b ∧ b < 18446744073709551616 ∧ wrap64 b = b - 18446744073709551616) := by unfold wrap64; omega
/-- Bits that a kind but STRING may have. -/
def bitsB (k b : Int) : Bool := if k = 18 then (!nanB b || b == 9221120237041090561) else fitsB k b
theorem r_may (k b : Int) (h0 : 0 ≤ b) (h1 : b < 18446744073709551616) (w : World) : Calls Tryz.prog 18 #[.int .u8 k, .int .u64 b] w fun e w' => e = .returned (.bool (bitsB k b)) ∧ w = w' := by
  have N1 := fun W => r_isNan b h0 h1 W
  have H1 := Lib.hid h1
  clear h1
  go_enter Tryz.func18, Tryz.ntmps18
  go_wp2_with (first | (go_at_call 27; refine (N1 _).mono ?_; rintro e w' ⟨rfl, rfl⟩) | go_in)
  all_goals (try (exfalso; clear N1; go_light; simp only [beq_iff_eq, beq_eq_false_iff_ne] at *; omega))
  all_goals (go_ret; refine ⟨ret_bool ?_, rfl⟩; clear N1; go_light)
  all_goals (have hw := wrap_cases h0 H1.out; simp only [beq_iff_eq, beq_eq_false_iff_ne] at *; (try rw [Int.tmod_eq_emod_of_nonneg (by omega)]); rw [Bool.eq_iff_iff]; simp [bitsB, fitsB, *] <;> omega)
theorem v_may (k b : Int) (t : ByteArray) (h0 : 0 ≤ b) (h1 : b < 18446744073709551616) (w : World) : Calls Tryz.prog 23 #[.agg #[.int .u8 k, .int .u64 b, .string t]] w fun e w' => e = .returned (.bool (mayB k b t)) ∧ Below w.heap.size w w' := by
  have N1 := fun W => v_isNaN b h0 h1 W
  have N2 := fun W => v_fits k b h0 h1 W
  have H1 := Lib.hid h1
  clear h1
  go_enter Tryz.func23, Tryz.ntmps23
  go_wp2_with (first | (go_at_call 69; refine (v_known _ _).mono ?_; rintro e w' ⟨rfl, rfl⟩) | (go_at_call 70; refine (N2 _).mono ?_; rintro e w' ⟨rfl, rfl⟩) | (go_at_call 67; refine (N1 _).mono ?_; rintro e w' ⟨rfl, rfl⟩))
  all_goals (go_ret; refine ⟨ret_bool ?_, (Below.refl _ _).alloc (Nat.le_refl _) _⟩; clear N1 N2; go_light)
  all_goals (simp only [beq_iff_eq, beq_eq_false_iff_ne] at *; simp_all [mayB, elB, fitsB]; try omega)
theorem r_May (k b : Int) (t : ByteArray) (h0 : 0 ≤ b) (h1 : b < 18446744073709551616) (w : World) : Calls Tryz.prog 9 #[.agg #[.int .u8 k, .int .u64 b, .string t]] w fun e w' => e = .returned (.bool (mayB k b t)) ∧ Below w.heap.size w w' := by
  have N1 := fun W => r_may k b h0 h1 W
  have H1 := Lib.hid h1
  clear h1
  go_enter Tryz.func9, Tryz.ntmps9
  go_wp2_with (first | (go_at_call 18; refine (N1 _).mono ?_; rintro e w' ⟨rfl, rfl⟩))
  all_goals (go_ret; refine ⟨ret_bool ?_, (Below.refl _ _).alloc (Nat.le_refl _) _⟩; clear N1; go_light)
  all_goals (simp only [beq_iff_eq, beq_eq_false_iff_ne] at *; simp_all [mayB, bitsB])
end Go.Proofs.YtflhndjpfiklaaaGreatDoor.H
