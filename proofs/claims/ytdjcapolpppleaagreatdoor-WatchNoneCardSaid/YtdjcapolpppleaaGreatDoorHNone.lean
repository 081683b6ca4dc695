/- Contracts of the methods of a panel and of a pair that no call made: they answer ErrNil, and zero values. No condition. -/
import Derived.Test.YtdjcapolpppleaaGreatDoorProg
import Derived.WalkKit
import Derived.WalkLawsBesides
import Derived.WalkSpells
import Derived.BigCall
import Derived.BigGuard
import Derived.Laws.Externs
import Derived.Lib.Hide
import Derived.Below
import Derived.Deep.Light
import Derived.Handy
namespace Go.Proofs.YtdjcapolpppleaaGreatDoor.H
set_option linter.unusedSimpArgs false
set_option linter.unusedVariables false
open Go.RowKit
set_option maxHeartbeats 3200000
set_option maxRecDepth 100000
theorem b_al {w W : World} (h : Below w.heap.size w W) (o : Obj) : Below w.heap.size w (W.alloc o) := h.alloc h.size o
theorem b_st {w W : World} (h : Below w.heap.size w W) {g j : Nat} (hg : w.heap.size ≤ g) (v : Value) : Below w.heap.size w (W.setCell ⟨g, j, none⟩ v) := h.setCell hg _
theorem b_go {w W W2 : World} (h : Below w.heap.size w W) (k : Below W.heap.size W W2) : Below w.heap.size w W2 := h.trans (k.mono h.size)
/-- A pointer to none, or to a struct whose first cell is a nil pointer. -/
def NoP (p : Value) (w : World) : Prop := p = .pointer none ∨ ∃ b, b < w.heap.size ∧ p = .pointer (some ⟨b, 0, none⟩) ∧ w.cell? ⟨b, 0, none⟩ = some (.pointer none)
theorem NoP.go {p : Value} {W w1 : World} (h : NoP p W) (hb : Below W.heap.size W w1) : NoP p w1 := by
  rcases h with h | ⟨b, hl, hp, hc⟩
  · exact .inl h
  · exact .inr ⟨b, by have := hb.size; omega, hp, (hb.cell (p := ⟨b, 0, none⟩) hl).trans hc⟩
theorem w_made (p : Value) (w : World) (h : NoP p w) : Calls Tryz.prog 24 #[p] w fun e w' => e = .returned (.bool false) ∧ w = w' := by
  rcases h with rfl | ⟨b, hl, rfl, hc⟩
  all_goals
    go_enter Tryz.func24, Tryz.ntmps24
    go_wp2
    go_ret
    exact ⟨rfl, rfl⟩
theorem w_made2 (p : Value) (w : World) (h : NoP p w) : Calls Tryz.prog 41 #[p] w fun e w' => e = .returned (.bool false) ∧ w = w' := by
  rcases h with rfl | ⟨b, hl, rfl, hc⟩
  all_goals
    go_enter Tryz.func41, Tryz.ntmps41
    go_wp2
    go_ret
    exact ⟨rfl, rfl⟩
theorem p_Start (p : Value) (w : World) (h : NoP p w) : Calls Tryz.prog 9 #[p] w fun e w' => e = .returned (.int .i64 8) ∧ Below w.heap.size w w' := by
  have N1 := fun W (hb : Below w.heap.size w W) => w_made p W (h.go hb)
  clear h
  go_enter Tryz.func9, Tryz.ntmps9
  go_wp2_with (first | (go_at_call 24; with_reducible refine (N1 _ (by repeat (first | exact Below.refl _ _ | with_reducible apply b_al | (with_reducible refine b_st ?_ ?hg _; case hg => omega) | (with_reducible refine b_go ?_ (by assumption))))).mono ?_; rintro e w' ⟨rfl, rfl⟩))
  all_goals (go_ret; exact ⟨rfl, by repeat (first | exact Below.refl _ _ | with_reducible apply b_al | (with_reducible refine b_st ?_ ?hg _; case hg => omega) | (with_reducible refine b_go ?_ (by assumption)))⟩)
theorem p_Stop (p : Value) (w : World) (h : NoP p w) : Calls Tryz.prog 10 #[p] w fun e w' => e = .returned (.int .i64 8) ∧ Below w.heap.size w w' := by
  have N1 := fun W (hb : Below w.heap.size w W) => w_made p W (h.go hb)
  clear h
  go_enter Tryz.func10, Tryz.ntmps10
  go_wp2_with (first | (go_at_call 24; with_reducible refine (N1 _ (by repeat (first | exact Below.refl _ _ | with_reducible apply b_al | (with_reducible refine b_st ?_ ?hg _; case hg => omega) | (with_reducible refine b_go ?_ (by assumption))))).mono ?_; rintro e w' ⟨rfl, rfl⟩))
  all_goals (go_ret; exact ⟨rfl, by repeat (first | exact Below.refl _ _ | with_reducible apply b_al | (with_reducible refine b_st ?_ ?hg _; case hg => omega) | (with_reducible refine b_go ?_ (by assumption)))⟩)
theorem p_Reset (p : Value) (x : Bool) (w : World) (h : NoP p w) : Calls Tryz.prog 11 #[p, .bool x] w fun e w' => e = .returned (.int .i64 8) ∧ Below w.heap.size w w' := by
  have N1 := fun W (hb : Below w.heap.size w W) => w_made p W (h.go hb)
  clear h
  go_enter Tryz.func11, Tryz.ntmps11
  go_wp2_with (first | (go_at_call 24; with_reducible refine (N1 _ (by repeat (first | exact Below.refl _ _ | with_reducible apply b_al | (with_reducible refine b_st ?_ ?hg _; case hg => omega) | (with_reducible refine b_go ?_ (by assumption))))).mono ?_; rintro e w' ⟨rfl, rfl⟩))
  all_goals (go_ret; exact ⟨rfl, by repeat (first | exact Below.refl _ _ | with_reducible apply b_al | (with_reducible refine b_st ?_ ?hg _; case hg => omega) | (with_reducible refine b_go ?_ (by assumption)))⟩)
theorem p_Force (p : Value) (n : Int) (k b : Int) (t : ByteArray) (w : World) (h : NoP p w) : Calls Tryz.prog 12 #[p, .int .i64 n, .agg #[.int .u8 k, .int .u64 b, .string t]] w fun e w' => e = .returned (.int .i64 8) ∧ Below w.heap.size w w' := by
  have N1 := fun W (hb : Below w.heap.size w W) => w_made p W (h.go hb)
  clear h
  go_enter Tryz.func12, Tryz.ntmps12
  go_wp2_with (first | (go_at_call 24; with_reducible refine (N1 _ (by repeat (first | exact Below.refl _ _ | with_reducible apply b_al | (with_reducible refine b_st ?_ ?hg _; case hg => omega) | (with_reducible refine b_go ?_ (by assumption))))).mono ?_; rintro e w' ⟨rfl, rfl⟩))
  all_goals (go_ret; exact ⟨rfl, by repeat (first | exact Below.refl _ _ | with_reducible apply b_al | (with_reducible refine b_st ?_ ?hg _; case hg => omega) | (with_reducible refine b_go ?_ (by assumption)))⟩)
theorem p_Free (p : Value) (n : Int) (w : World) (h : NoP p w) : Calls Tryz.prog 13 #[p, .int .i64 n] w fun e w' => e = .returned (.int .i64 8) ∧ Below w.heap.size w w' := by
  have N1 := fun W (hb : Below w.heap.size w W) => w_made p W (h.go hb)
  clear h
  go_enter Tryz.func13, Tryz.ntmps13
  go_wp2_with (first | (go_at_call 24; with_reducible refine (N1 _ (by repeat (first | exact Below.refl _ _ | with_reducible apply b_al | (with_reducible refine b_st ?_ ?hg _; case hg => omega) | (with_reducible refine b_go ?_ (by assumption))))).mono ?_; rintro e w' ⟨rfl, rfl⟩))
  all_goals (go_ret; exact ⟨rfl, by repeat (first | exact Below.refl _ _ | with_reducible apply b_al | (with_reducible refine b_st ?_ ?hg _; case hg => omega) | (with_reducible refine b_go ?_ (by assumption)))⟩)
theorem p_Load (p : Value) (x : Value) (w : World) (h : NoP p w) : Calls Tryz.prog 14 #[p, x] w fun e w' => e = .returned (.int .i64 8) ∧ Below w.heap.size w w' := by
  have N1 := fun W (hb : Below w.heap.size w W) => w_made p W (h.go hb)
  clear h
  go_enter Tryz.func14, Tryz.ntmps14
  go_wp2_with (first | (go_at_call 24; with_reducible refine (N1 _ (by repeat (first | exact Below.refl _ _ | with_reducible apply b_al | (with_reducible refine b_st ?_ ?hg _; case hg => omega) | (with_reducible refine b_go ?_ (by assumption))))).mono ?_; rintro e w' ⟨rfl, rfl⟩))
  all_goals (go_ret; exact ⟨rfl, by repeat (first | exact Below.refl _ _ | with_reducible apply b_al | (with_reducible refine b_st ?_ ?hg _; case hg => omega) | (with_reducible refine b_go ?_ (by assumption)))⟩)
theorem p_Forced (p : Value) (w : World) (h : NoP p w) : Calls Tryz.prog 15 #[p] w fun e w' => e = .returned (.slice none 0 0) ∧ Below w.heap.size w w' := by
  have N1 := fun W (hb : Below w.heap.size w W) => w_made p W (h.go hb)
  clear h
  go_enter Tryz.func15, Tryz.ntmps15
  go_wp2_with (first | (go_at_call 24; with_reducible refine (N1 _ (by repeat (first | exact Below.refl _ _ | with_reducible apply b_al | (with_reducible refine b_st ?_ ?hg _; case hg => omega) | (with_reducible refine b_go ?_ (by assumption))))).mono ?_; rintro e w' ⟨rfl, rfl⟩))
  all_goals (go_ret; exact ⟨rfl, by repeat (first | exact Below.refl _ _ | with_reducible apply b_al | (with_reducible refine b_st ?_ ?hg _; case hg => omega) | (with_reducible refine b_go ?_ (by assumption)))⟩)
theorem p_Changed (p : Value) (w : World) (h : NoP p w) : Calls Tryz.prog 16 #[p] w fun e w' => e = .returned (.slice none 0 0) ∧ Below w.heap.size w w' := by
  have N1 := fun W (hb : Below w.heap.size w W) => w_made p W (h.go hb)
  clear h
  go_enter Tryz.func16, Tryz.ntmps16
  go_wp2_with (first | (go_at_call 24; with_reducible refine (N1 _ (by repeat (first | exact Below.refl _ _ | with_reducible apply b_al | (with_reducible refine b_st ?_ ?hg _; case hg => omega) | (with_reducible refine b_go ?_ (by assumption))))).mono ?_; rintro e w' ⟨rfl, rfl⟩))
  all_goals (go_ret; exact ⟨rfl, by repeat (first | exact Below.refl _ _ | with_reducible apply b_al | (with_reducible refine b_st ?_ ?hg _; case hg => omega) | (with_reducible refine b_go ?_ (by assumption)))⟩)
theorem p_Save (p : Value) (w : World) (h : NoP p w) : Calls Tryz.prog 17 #[p] w fun e w' => e = .returned (.slice none 0 0) ∧ Below w.heap.size w w' := by
  have N1 := fun W (hb : Below w.heap.size w W) => w_made p W (h.go hb)
  clear h
  go_enter Tryz.func17, Tryz.ntmps17
  go_wp2_with (first | (go_at_call 24; with_reducible refine (N1 _ (by repeat (first | exact Below.refl _ _ | with_reducible apply b_al | (with_reducible refine b_st ?_ ?hg _; case hg => omega) | (with_reducible refine b_go ?_ (by assumption))))).mono ?_; rintro e w' ⟨rfl, rfl⟩))
  all_goals (go_ret; exact ⟨rfl, by repeat (first | exact Below.refl _ _ | with_reducible apply b_al | (with_reducible refine b_st ?_ ?hg _; case hg => omega) | (with_reducible refine b_go ?_ (by assumption)))⟩)
theorem p_Look (p : Value) (x : Value) (w : World) (h : NoP p w) : Calls Tryz.prog 7 #[p, x] w fun e w' => e = .returned (.tuple #[.slice none 0 0, .int .i64 8]) ∧ Below w.heap.size w w' := by
  have N1 := fun W (hb : Below w.heap.size w W) => w_made p W (h.go hb)
  clear h
  go_enter Tryz.func7, Tryz.ntmps7
  go_wp2_with (first | (go_at_call 24; with_reducible refine (N1 _ (by repeat (first | exact Below.refl _ _ | with_reducible apply b_al | (with_reducible refine b_st ?_ ?hg _; case hg => omega) | (with_reducible refine b_go ?_ (by assumption))))).mono ?_; rintro e w' ⟨rfl, rfl⟩))
  all_goals (exact bodyPost_ret (v := .tuple #[.slice none 0 0, .int .i64 8]) (by simp [results, Tryz.results7, go_sem]) rfl ⟨rfl, by repeat (first | exact Below.refl _ _ | with_reducible apply b_al | (with_reducible refine b_st ?_ ?hg _; case hg => omega) | (with_reducible refine b_go ?_ (by assumption)))⟩)
theorem p_Entry (p : Value) (n : Int) (x : Value) (w : World) (h : NoP p w) : Calls Tryz.prog 6 #[p, .int .i64 n, x] w fun e w' => e = .returned (.tuple #[(.agg #[.slice none 0 0, .slice none 0 0, .int .i64 0, .int .i64 0, .string ⟨#[]⟩, .slice none 0 0, .int .i64 0]), .int .i64 8]) ∧ Below w.heap.size w w' := by
  have N1 := fun W (hb : Below w.heap.size w W) => w_made p W (h.go hb)
  clear h
  go_enter Tryz.func6, Tryz.ntmps6
  go_wp2_with (first | (go_at_call 24; with_reducible refine (N1 _ (by repeat (first | exact Below.refl _ _ | with_reducible apply b_al | (with_reducible refine b_st ?_ ?hg _; case hg => omega) | (with_reducible refine b_go ?_ (by assumption))))).mono ?_; rintro e w' ⟨rfl, rfl⟩))
  all_goals (exact bodyPost_ret (v := .tuple #[(.agg #[.slice none 0 0, .slice none 0 0, .int .i64 0, .int .i64 0, .string ⟨#[]⟩, .slice none 0 0, .int .i64 0]), .int .i64 8]) (by simp [results, Tryz.results6, go_sem]) rfl ⟨rfl, by repeat (first | exact Below.refl _ _ | with_reducible apply b_al | (with_reducible refine b_st ?_ ?hg _; case hg => omega) | (with_reducible refine b_go ?_ (by assumption)))⟩)
theorem q_Start (p : Value) (w : World) (h : NoP p w) : Calls Tryz.prog 19 #[p] w fun e w' => e = .returned (.int .i64 8) ∧ Below w.heap.size w w' := by
  have N1 := fun W (hb : Below w.heap.size w W) => w_made2 p W (h.go hb)
  clear h
  go_enter Tryz.func19, Tryz.ntmps19
  go_wp2_with (first | (go_at_call 41; with_reducible refine (N1 _ (by repeat (first | exact Below.refl _ _ | with_reducible apply b_al | (with_reducible refine b_st ?_ ?hg _; case hg => omega) | (with_reducible refine b_go ?_ (by assumption))))).mono ?_; rintro e w' ⟨rfl, rfl⟩))
  all_goals (go_ret; exact ⟨rfl, by repeat (first | exact Below.refl _ _ | with_reducible apply b_al | (with_reducible refine b_st ?_ ?hg _; case hg => omega) | (with_reducible refine b_go ?_ (by assumption)))⟩)
theorem q_Down (p : Value) (n : Int) (w : World) (h : NoP p w) : Calls Tryz.prog 20 #[p, .int .i64 n] w fun e w' => e = .returned (.int .i64 8) ∧ Below w.heap.size w w' := by
  have N1 := fun W (hb : Below w.heap.size w W) => w_made2 p W (h.go hb)
  clear h
  go_enter Tryz.func20, Tryz.ntmps20
  go_wp2_with (first | (go_at_call 41; with_reducible refine (N1 _ (by repeat (first | exact Below.refl _ _ | with_reducible apply b_al | (with_reducible refine b_st ?_ ?hg _; case hg => omega) | (with_reducible refine b_go ?_ (by assumption))))).mono ?_; rintro e w' ⟨rfl, rfl⟩))
  all_goals (go_ret; exact ⟨rfl, by repeat (first | exact Below.refl _ _ | with_reducible apply b_al | (with_reducible refine b_st ?_ ?hg _; case hg => omega) | (with_reducible refine b_go ?_ (by assumption)))⟩)
theorem q_Follow (p : Value) (n : Int) (w : World) (h : NoP p w) : Calls Tryz.prog 21 #[p, .int .i64 n] w fun e w' => e = .returned (.int .i64 0) ∧ Below w.heap.size w w' := by
  have N1 := fun W (hb : Below w.heap.size w W) => w_made2 p W (h.go hb)
  clear h
  go_enter Tryz.func21, Tryz.ntmps21
  go_wp2_with (first | (go_at_call 41; with_reducible refine (N1 _ (by repeat (first | exact Below.refl _ _ | with_reducible apply b_al | (with_reducible refine b_st ?_ ?hg _; case hg => omega) | (with_reducible refine b_go ?_ (by assumption))))).mono ?_; rintro e w' ⟨rfl, rfl⟩))
  all_goals (go_ret; exact ⟨rfl, by repeat (first | exact Below.refl _ _ | with_reducible apply b_al | (with_reducible refine b_st ?_ ?hg _; case hg => omega) | (with_reducible refine b_go ?_ (by assumption)))⟩)
theorem q_Leads (p : Value) (w : World) (h : NoP p w) : Calls Tryz.prog 22 #[p] w fun e w' => e = .returned (.int .i64 (-1)) ∧ Below w.heap.size w w' := by
  have N1 := fun W (hb : Below w.heap.size w W) => w_made2 p W (h.go hb)
  clear h
  go_enter Tryz.func22, Tryz.ntmps22
  go_wp2_with (first | (go_at_call 41; with_reducible refine (N1 _ (by repeat (first | exact Below.refl _ _ | with_reducible apply b_al | (with_reducible refine b_st ?_ ?hg _; case hg => omega) | (with_reducible refine b_go ?_ (by assumption))))).mono ?_; rintro e w' ⟨rfl, rfl⟩))
  all_goals (go_ret; exact ⟨rfl, by repeat (first | exact Below.refl _ _ | with_reducible apply b_al | (with_reducible refine b_st ?_ ?hg _; case hg => omega) | (with_reducible refine b_go ?_ (by assumption)))⟩)
theorem q_Cells (p : Value) (n : Int) (w : World) (h : NoP p w) : Calls Tryz.prog 23 #[p, .int .i64 n] w fun e w' => e = .returned (.slice none 0 0) ∧ Below w.heap.size w w' := by
  have N1 := fun W (hb : Below w.heap.size w W) => w_made2 p W (h.go hb)
  clear h
  go_enter Tryz.func23, Tryz.ntmps23
  go_wp2_with (first | (go_at_call 41; with_reducible refine (N1 _ (by repeat (first | exact Below.refl _ _ | with_reducible apply b_al | (with_reducible refine b_st ?_ ?hg _; case hg => omega) | (with_reducible refine b_go ?_ (by assumption))))).mono ?_; rintro e w' ⟨rfl, rfl⟩))
  all_goals (go_ret; exact ⟨rfl, by repeat (first | exact Below.refl _ _ | with_reducible apply b_al | (with_reducible refine b_st ?_ ?hg _; case hg => omega) | (with_reducible refine b_go ?_ (by assumption)))⟩)
theorem q_Entry (p : Value) (n : Int) (x : Value) (w : World) (h : NoP p w) : Calls Tryz.prog 18 #[p, .int .i64 n, x] w fun e w' => e = .returned (.tuple #[(.agg #[.slice none 0 0, .slice none 0 0, .int .i64 0, .int .i64 0, .string ⟨#[]⟩, .slice none 0 0, .int .i64 0]), .int .i64 8]) ∧ Below w.heap.size w w' := by
  have N1 := fun W (hb : Below w.heap.size w W) => w_made2 p W (h.go hb)
  clear h
  go_enter Tryz.func18, Tryz.ntmps18
  go_wp2_with (first | (go_at_call 41; with_reducible refine (N1 _ (by repeat (first | exact Below.refl _ _ | with_reducible apply b_al | (with_reducible refine b_st ?_ ?hg _; case hg => omega) | (with_reducible refine b_go ?_ (by assumption))))).mono ?_; rintro e w' ⟨rfl, rfl⟩))
  all_goals (exact bodyPost_ret (v := .tuple #[(.agg #[.slice none 0 0, .slice none 0 0, .int .i64 0, .int .i64 0, .string ⟨#[]⟩, .slice none 0 0, .int .i64 0]), .int .i64 8]) (by simp [results, Tryz.results18, go_sem]) rfl ⟨rfl, by repeat (first | exact Below.refl _ _ | with_reducible apply b_al | (with_reducible refine b_st ?_ ?hg _; case hg => omega) | (with_reducible refine b_go ?_ (by assumption)))⟩)
end Go.Proofs.YtdjcapolpppleaaGreatDoor.H
