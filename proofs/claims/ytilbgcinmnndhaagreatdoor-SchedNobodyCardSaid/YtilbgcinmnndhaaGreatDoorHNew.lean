/- sched.New of the empty image: a made resource that has stopped. No condition. -/
import Derived.Test.YtilbgcinmnndhaaGreatDoorHRes2
import Derived.Carry
namespace Go.Proofs.YtilbgcinmnndhaaGreatDoor.H
set_option linter.unusedSimpArgs false
set_option linter.unusedVariables false
open Go.RowKit Go.MuLone
set_option maxHeartbeats 3200000
set_option maxRecDepth 100000
attribute [local go_sem] mk0
/-- The empty image. -/
abbrev img : Value := .agg #[.string ⟨#[77]⟩, .slice none 0 0, .slice none 0 0, .slice none 0 0]
theorem s_empty (w : World) : Calls Tryz.prog 28 #[] w fun e w' => e = .returned img ∧ Below w.heap.size w w' := by
  go_enter Tryz.func28, Tryz.ntmps28
  go_wp2
  exact bodyPost_ret (v := img) (by simp [results, Tryz.results28, go_sem]) rfl ⟨rfl, by go_grown⟩
theorem s_letter (w : World) : Calls Tryz.prog 75 #[.int .u8 77] w fun e w' => e = .returned (.bool true) ∧ w = w' := by
  go_enter Tryz.func75, Tryz.ntmps75
  go_wp2
  go_ret
  exact ⟨rfl, rfl⟩
theorem s_inWord (w : World) : Calls Tryz.prog 76 #[.int .u8 77] w fun e w' => e = .returned (.bool true) ∧ w = w' := by
  go_enter Tryz.func76, Tryz.ntmps76
  go_wp2_with (first | (go_at_call 75; refine (s_letter _).mono ?_; rintro e w' ⟨rfl, rfl⟩))
  go_ret
  exact ⟨rfl, rfl⟩
theorem s_isName (s : ByteArray) (hs : s.size = 1) (he : s.toList.isEmpty = false) (h0 : ∀ h : 0 < s.size, s[0] = 77) (w : World) : Calls Tryz.prog 58 #[.string s] w fun e w' => e = .returned (.bool true) ∧ w = w' := by
  go_enter Tryz.func58, Tryz.ntmps58
  go_wp2_with (first | (go_at_call 75; refine (s_letter _).mono ?_; rintro e w' ⟨rfl, rfl⟩))
  refine wp_loop_rounds 2 ?_
  rw [rounds_succ]
  go_wp2_with (first | (go_at_call 76; refine (s_inWord _).mono ?_; rintro e w' ⟨rfl, rfl⟩))
  rw [rounds_succ]
  go_wp2
  go_ret
  exact ⟨rfl, rfl⟩
theorem s_codes (w : World) : Calls Tryz.prog 60 #[img] w fun e w' => e = .returned (.tuple #[.int .i64 0, .int .i64 0, .int .i64 0]) ∧ Below w.heap.size w w' := by
  go_enter Tryz.func60, Tryz.ntmps60
  go_wp2
  go_rounds 1
  exact bodyPost_ret (v := .tuple #[.int .i64 0, .int .i64 0, .int .i64 0]) (by simp [results, Tryz.results60, go_sem]) rfl ⟨rfl, by go_grown⟩
theorem s_copied (w : World) : Calls Tryz.prog 43 #[img] w fun e w' => e = .returned img ∧ Below w.heap.size w w' := by
  go_enter Tryz.func43, Tryz.ntmps43
  go_wp2
  go_region
  all_goals
    go_wp2
    go_rounds 1
    go_rounds 1
    exact bodyPost_ret (v := img) (by simp [results, Tryz.results43, go_sem]) rfl ⟨rfl, by go_grown⟩
theorem mkm (t : TypeId) (w : World) : (Instr.makeMap t none).run Tryz.prog w = .ok (.map (some w.heap.size)) (w.alloc (.map #[] 0)) := rfl
attribute [local go_sem] mkm
theorem s_Check (w : World) : Calls Tryz.prog 42 #[img] w fun e w' => e = .returned (.tuple #[.int .i64 0, .int .i64 0, .int .i64 0]) ∧ Below w.heap.size w w' := by
  have N1 := fun W => s_isName ⟨#[77]⟩ rfl (by decide +kernel) (fun _ => rfl) W
  have N2 := fun W => s_codes W
  go_enter Tryz.func42, Tryz.ntmps42
  go_wp2_with (first | (go_at_call 58; refine (N1 _).mono ?_; rintro e w' ⟨rfl, rfl⟩))
  refine wp_loop_rounds 1 ?_
  rw [rounds_succ]
  go_wp2_with (first | (go_at_call 60; refine (N2 _).mono ?_; rintro e w1 ⟨rfl, hb1⟩; have z0 : w.heap.size < w1.heap.size := (by have hx := hb1.size; (try simp at hx); omega); have k0 : w1.heap[w.heap.size]? = some (.cells #[.string ⟨#[77]⟩, .slice none 0 0, .slice none 0 0, .slice none 0 0] 39 (0, 0)) := (by repeat (first | assumption | (refine k_new ?_; simp; done) | apply k_al | (refine k_go ?_ (by assumption)))); have q3 : w1.cell? ⟨w.heap.size, 3, none⟩ = some (.slice none 0 0) := (k_cell k0 3).trans (by simp)))
  refine wp_loop_rounds 1 ?_
  rw [rounds_succ]
  go_wp2
  exact bodyPost_ret (v := .tuple #[.int .i64 0, .int .i64 0, .int .i64 0]) (by simp [results, Tryz.results42, go_sem]) rfl ⟨rfl, by repeat (first | exact Below.refl _ _ | with_reducible apply b_al | (with_reducible refine b_go ?_ (by assumption)))⟩
theorem s_New (w : World) : Calls Tryz.prog 27 #[img] w fun e w' => ∃ g a c, e = .returned (.tuple #[.pointer (some ⟨g, 0, none⟩), .int .i64 0]) ∧ w.heap.size ≤ g ∧ w'.heap[g]? = some (.cells (Rc 0 0 1 0 false ⟨#[77]⟩ a c) 43 (0, 0)) ∧ Below w.heap.size w w' := by
  have N1 := fun W => s_Check W
  have N2 := fun W => s_copied W
  go_enter Tryz.func27, Tryz.ntmps27
  go_wp2_with (first | (go_at_call 42; refine (N1 _).mono ?_; rintro e w1 ⟨rfl, hb1⟩; have z0 : w.heap.size < w1.heap.size := (by have hx := hb1.size; (try simp at hx); omega); have k0 : w1.heap[w.heap.size]? = some (.cells #[.string ⟨#[77]⟩, .slice none 0 0, .slice none 0 0, .slice none 0 0] 39 (0, 0)) := (by repeat (first | assumption | (refine k_new ?_; simp; done) | apply k_al | (refine k_go ?_ (by assumption)))); have q0 : w1.cell? ⟨w.heap.size, 0, none⟩ = some (.string ⟨#[77]⟩) := (k_cell k0 0).trans (by simp); have q1 : w1.cell? ⟨w.heap.size, 1, none⟩ = some (.slice none 0 0) := (k_cell k0 1).trans (by simp); have q2 : w1.cell? ⟨w.heap.size, 2, none⟩ = some (.slice none 0 0) := (k_cell k0 2).trans (by simp); have q3 : w1.cell? ⟨w.heap.size, 3, none⟩ = some (.slice none 0 0) := (k_cell k0 3).trans (by simp)))
  go_region_with (go_at_call 43; refine (N2 _).mono ?_; rintro e w2 ⟨rfl, hb2⟩; have z0 : w.heap.size < w2.heap.size := (by have hx := hb2.size; (try simp at hx); omega); have k0 : w2.heap[w.heap.size]? = some (.cells #[.string ⟨#[77]⟩, .slice none 0 0, .slice none 0 0, .slice none 0 0] 39 (0, 0)) := (by repeat (first | assumption | (refine k_new ?_; simp; done) | apply k_al | with_reducible apply k_dr | (refine k_go ?_ (by assumption)))); have q3 : w2.cell? ⟨w.heap.size, 3, none⟩ = some (.slice none 0 0) := (k_cell k0 3).trans (by simp))
  all_goals
    go_wp2_with (first | (go_at_call 25; refine (a_vmStart _).mono ?_; rintro e w' ⟨rfl, rfl⟩) | (go_at_call 26; refine (a_commit _ _ ((k_cell (by repeat (first | (refine k_new ?_; simp; done) | with_reducible apply k_al | with_reducible apply k_dr)) 4).trans (by simp)) ((k_cell (by repeat (first | (refine k_new ?_; simp; done) | with_reducible apply k_al | with_reducible apply k_dr)) 8).trans (by simp)) (frozen_of_row _ _ _ _ _ (by repeat (first | (refine k_new ?_; simp; done) | with_reducible apply k_al | with_reducible apply k_dr)))).mono ?_; rintro e w' ⟨rfl, rfl⟩))
    go_ret2
    refine Exists.intro _ (Exists.intro ?_ (Exists.intro ?_ (And.intro rfl (And.intro ?_ (And.intro ?_ ?_)))))
    rotate_left 2
    · (try simp); omega
    · repeat (first | (refine k_new ?_; simp; done) | with_reducible apply k_al | with_reducible apply k_dr)
    · repeat (first | exact Below.refl _ _ | with_reducible apply b_al | with_reducible refine Below.drew ?_ | (with_reducible refine b_go ?_ (by assumption)))
end Go.Proofs.YtilbgcinmnndhaaGreatDoor.H
