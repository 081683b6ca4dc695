/- Contracts of the functions of layer 1 that make values, of the program and of the document. No condition but that bits are 64. -/
import Derived.Test.YtflhndjpfiklaaaGreatDoorHMay
namespace Go.Proofs.YtflhndjpfiklaaaGreatDoor.H
set_option linter.unusedSimpArgs false
set_option linter.unusedVariables false
open Go.RowKit Go.Proofs.YtflhndjpfiklaaaGreatDoor.Plain
set_option maxHeartbeats 3200000
set_option maxRecDepth 100000
attribute [local go_sem] ext_from ext_bits cell_isSome un_neg_float
def boolV (n : Bool) : Int × Int × ByteArray := (1, if n = true then 1 else 0, ⟨#[]⟩)
def lrealV (b : Int) : Int × Int × ByteArray := (18, if nanB b = true then 9221120237041090561 else b, ⟨#[]⟩)
def textV (t : ByteArray) : Int × Int × ByteArray × Int := if (t.size : Int) ≤ 254 then (19, 0, t, 0) else (0, 0, ⟨#[]⟩, 5)
def madeV (k b f : Int) : Int × Int × ByteArray × Int := if bitsB k b = true then (k, b, ⟨#[]⟩, 0) else (0, 0, ⟨#[]⟩, f)
theorem v_Bool (n : Bool) (w : World) : Calls Tryz.prog 76 #[.bool n] w fun e w' => e = .returned (.agg #[.int .u8 (boolV n).1, .int .u64 (boolV n).2.1, .string (boolV n).2.2]) ∧ Below w.heap.size w w' := by
  go_enter Tryz.func76, Tryz.ntmps76
  go_wp2
  all_goals (refine bodyPost_ret (v := .agg #[.int .u8 (boolV n).1, .int .u64 (boolV n).2.1, .string (boolV n).2.2]) (by simp [results, Tryz.results76, go_sem, boolV, *]) rfl ⟨rfl, ((Below.refl _ _).alloc (Nat.le_refl _) _).alloc (by simp) _⟩)
theorem r_Bool (n : Bool) (w : World) : Calls Tryz.prog 201 #[.bool n] w fun e w' => e = .returned (.agg #[.int .u8 (boolV n).1, .int .u64 (boolV n).2.1, .string (boolV n).2.2]) ∧ Below w.heap.size w w' := by
  go_enter Tryz.func201, Tryz.ntmps201
  go_wp2
  all_goals (refine bodyPost_ret (v := .agg #[.int .u8 (boolV n).1, .int .u64 (boolV n).2.1, .string (boolV n).2.2]) (by simp [results, Tryz.results201, go_sem, boolV, *]) rfl ⟨rfl, (Below.refl _ _).alloc (Nat.le_refl _) _⟩)
theorem v_Lreal (n : Nat) (h1 : (n : Int) < 18446744073709551616) (w : World) : Calls Tryz.prog 78 #[.float .f64 n] w fun e w' => e = .returned (.agg #[.int .u8 (lrealV n).1, .int .u64 (lrealV n).2.1, .string (lrealV n).2.2]) ∧ Below w.heap.size w w' := by
  have N1 : ∀ W, Calls Tryz.prog 67 #[.float .f64 n] W fun e w' => e = .returned (.bool (nanB n)) ∧ W = w' := fun W => v_isNaN n (by omega) h1 W
  clear h1
  go_enter Tryz.func78, Tryz.ntmps78
  go_wp2_with (first | (go_at_call 67; refine (N1 _).mono ?_; rintro e w' ⟨rfl, rfl⟩))
  all_goals (refine bodyPost_ret (v := .agg #[.int .u8 (lrealV n).1, .int .u64 (lrealV n).2.1, .string (lrealV n).2.2]) (by simp [results, Tryz.results78, go_sem, lrealV, *]) rfl ⟨rfl, (Below.refl _ _).alloc (Nat.le_refl _) _⟩)
theorem r_Lreal (n : Nat) (h1 : (n : Int) < 18446744073709551616) (w : World) : Calls Tryz.prog 206 #[.float .f64 n] w fun e w' => e = .returned (.agg #[.int .u8 (lrealV n).1, .int .u64 (lrealV n).2.1, .string (lrealV n).2.2]) ∧ Below w.heap.size w w' := by
  have E1 := order_self n (by omega) h1
  rw [Int.toNat_natCast] at E1
  clear h1
  go_enter Tryz.func206, Tryz.ntmps206
  go_wp2
  all_goals (refine bodyPost_ret (v := .agg #[.int .u8 (lrealV n).1, .int .u64 (lrealV n).2.1, .string (lrealV n).2.2]) (by simp [results, Tryz.results206, go_sem, lrealV, *]) rfl ⟨rfl, (Below.refl _ _).alloc (Nat.le_refl _) _⟩)
theorem v_Text (n : ByteArray) (w : World) : Calls Tryz.prog 82 #[.string n] w fun e w' => e = .returned (.tuple #[.agg #[.int .u8 (textV n).1, .int .u64 (textV n).2.1, .string (textV n).2.2.1], .int .i64 (textV n).2.2.2]) ∧ Below w.heap.size w w' := by
  rcases Int.lt_or_le 254 n.size with c | c
  all_goals
    have E := Lib.hid (show textV n = _ from by first | exact if_pos c | exact if_neg (by omega))
    go_enter Tryz.func82, Tryz.ntmps82
    go_wp2
    refine bodyPost_ret (v := .tuple #[.agg #[.int .u8 (textV n).1, .int .u64 (textV n).2.1, .string (textV n).2.2.1], .int .i64 (textV n).2.2.2]) (by simp [results, Tryz.results82, go_sem, E.out]) rfl ⟨rfl, (Below.refl _ _).alloc (Nat.le_refl _) _⟩
theorem r_Text (n : ByteArray) (w : World) : Calls Tryz.prog 6 #[.string n] w fun e w' => e = .returned (.tuple #[.agg #[.int .u8 (textV n).1, .int .u64 (textV n).2.1, .string (textV n).2.2.1], .int .i64 (textV n).2.2.2]) ∧ Below w.heap.size w w' := by
  rcases Int.lt_or_le 254 n.size with c | c
  all_goals
    have E := Lib.hid (show textV n = _ from by first | exact if_pos c | exact if_neg (by omega))
    go_enter Tryz.func6, Tryz.ntmps6
    go_wp2
    refine bodyPost_ret (v := .tuple #[.agg #[.int .u8 (textV n).1, .int .u64 (textV n).2.1, .string (textV n).2.2.1], .int .i64 (textV n).2.2.2]) (by simp [results, Tryz.results6, go_sem, E.out]) rfl ⟨rfl, (Below.refl _ _).alloc (Nat.le_refl _) _⟩
theorem r_made (k b f : Int) (h0 : 0 ≤ b) (h1 : b < 18446744073709551616) (w : World) : Calls Tryz.prog 205 #[.int .u8 k, .int .u64 b, .int .i64 f] w fun e w' => e = .returned (.tuple #[.agg #[.int .u8 (madeV k b f).1, .int .u64 (madeV k b f).2.1, .string (madeV k b f).2.2.1], .int .i64 (madeV k b f).2.2.2]) ∧ Below w.heap.size w w' := by
  have N1 := fun W => r_may k b h0 h1 W
  clear h1
  go_enter Tryz.func205, Tryz.ntmps205
  go_wp2_with (first | (go_at_call 18; refine (N1 _).mono ?_; rintro e w' ⟨rfl, rfl⟩))
  all_goals (clear N1; refine bodyPost_ret (v := .tuple #[.agg #[.int .u8 (madeV k b f).1, .int .u64 (madeV k b f).2.1, .string (madeV k b f).2.2.1], .int .i64 (madeV k b f).2.2.2]) (by simp_all [results, Tryz.results205, go_sem, madeV]) rfl ⟨rfl, (Below.refl _ _).alloc (Nat.le_refl _) _⟩)
end Go.Proofs.YtflhndjpfiklaaaGreatDoor.H
