/- Contracts of the methods of a resource over the empty image: it starts, and lets time go on. Condition: it is as New made it. -/
import Derived.Test.YtilbgcinmnndhaaGreatDoorHNob
namespace Go.Proofs.YtilbgcinmnndhaaGreatDoor.H
set_option linter.unusedSimpArgs false
set_option linter.unusedVariables false
open Go.RowKit Go.MuLone
set_option maxHeartbeats 3200000
set_option maxRecDepth 100000
theorem a_chosen (b c : Nat) (a : Option Addr) (w : World) (q13 : w.cell? ⟨b, 13, none⟩ = some (.slice a 0 c)) : Calls Tryz.prog 36 #[.pointer (some ⟨b, 0, none⟩)] w fun e w' => e = .returned (.int .i64 (-1)) ∧ w = w' := by
  go_enter Tryz.func36, Tryz.ntmps36
  go_wp2
  go_rounds 1
  go_ret
  exact ⟨rfl, rfl⟩
theorem a_due (b : Nat) (w : World) (q6 : w.cell? ⟨b, 6, none⟩ = some (.slice none 0 0)) : Calls Tryz.prog 21 #[.pointer (some ⟨b, 0, none⟩)] w fun e w' => e = .returned (.tuple #[]) ∧ w = w' := by
  go_enter Tryz.func21, Tryz.ntmps21
  go_wp2
  go_rounds 1
  go_end0
  exact ⟨rfl, rfl⟩
theorem a_all (b c : Nat) (a : Option Addr) (p : Value) (w : World) (q13 : w.cell? ⟨b, 13, none⟩ = some (.slice a 0 c)) : Calls Tryz.prog 22 #[.pointer (some ⟨b, 0, none⟩), p] w fun e w' => e = .returned (.tuple #[]) ∧ w = w' := by
  go_enter Tryz.func22, Tryz.ntmps22
  go_wp2_with (first | (go_at_call 36; refine (a_chosen b c a _ q13).mono ?_; rintro e w' ⟨rfl, rfl⟩))
  refine wp_loop_rounds 1 ?_
  rw [rounds_succ]
  go_wp2
  go_end0
  exact ⟨rfl, rfl⟩
theorem a_outputs (b : Nat) (w : World) (q4 : w.cell? ⟨b, 4, none⟩ = some (.slice none 0 0)) : Calls Tryz.prog 23 #[.pointer (some ⟨b, 0, none⟩)] w fun e w' => e = .returned (.slice none 0 0) ∧ w = w' := by
  go_enter Tryz.func23, Tryz.ntmps23
  go_wp2
  go_rounds 1
  go_ret
  exact ⟨rfl, rfl⟩
theorem a_commit (b : Nat) (w : World) (q4 : w.cell? ⟨b, 4, none⟩ = some (.slice none 0 0)) (q8 : w.cell? ⟨b, 8, none⟩ = some (.slice none 0 0)) (f8 : w.frozen? ⟨b, 8, none⟩ = false) : Calls Tryz.prog 26 #[.pointer (some ⟨b, 0, none⟩)] w fun e w' => e = .returned (.tuple #[]) ∧ w = w' := by
  go_enter Tryz.func26, Tryz.ntmps26
  go_wp2
  go_rounds 1
  go_end0
  exact ⟨rfl, (setCell_self q8).symm⟩
theorem a_ready (b : Nat) (w : World) (q0 : w.cell? ⟨b, 0, none⟩ = some (.int .i32 0)) (q2 : w.cell? ⟨b, 2, none⟩ = some (.bool true)) (f0 : w.frozen? ⟨b, 0, none⟩ = false) : Calls Tryz.prog 16 #[.pointer (some ⟨b, 0, none⟩)] w fun e w' => e = .returned (.bool true) ∧ w' = w.setCell ⟨b, 0, none⟩ (.int .i32 1) := by
  go_enter Tryz.func16, Tryz.ntmps16
  go_wp2_with (first | (go_at_call 29; refine (lock_free Tryz.muLib ⟨b, 0, none⟩ _ q0 f0).mono ?_; rintro e w' ⟨rfl, rfl⟩))
  go_ret
  exact ⟨rfl, rfl⟩
theorem a_vmStart (w : World) : Calls Tryz.prog 25 #[.slice none 0 0] w fun e w' => e = .returned (.slice none 0 0) ∧ w = w' := by
  go_enter Tryz.func25, Tryz.ntmps25
  go_wp2
  go_rounds 1
  go_ret
  exact ⟨rfl, rfl⟩
end Go.Proofs.YtilbgcinmnndhaaGreatDoor.H
