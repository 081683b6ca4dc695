/- The made resource over the empty image: Start, Entry, Now. Condition: it is as New made it. -/
import Derived.Test.YtilbgcinmnndhaaGreatDoorHRes
import Derived.RegionTactic
import Derived.Laws.MakeOwn
import Derived.Deep.RegionWith
import Derived.Deep.RegionHeld3
namespace Go.Proofs.YtilbgcinmnndhaaGreatDoor.H
set_option linter.unusedSimpArgs false
set_option linter.unusedVariables false
open Go.RowKit Go.MuLone
set_option maxHeartbeats 3200000
set_option maxRecDepth 100000
theorem k_st {w : World} {g : Nat} {cs : Array Value} {T : TypeId} (h : w.heap[g]? = some (.cells cs T (0, 0))) (i : Nat) (v : Value) : (w.setCell ⟨g, i, none⟩ v).heap[g]? = some (.cells (cs.setIfInBounds i v) T (0, 0)) := by
  simp [World.setCell, Array.getElem?_modify, h]
/-- A made resource's cells. -/
abbrev Rc (l now mode frm : Int) (fr : Bool) (nm : ByteArray) (a : Option Addr) (c : Nat) : Array Value := #[.int .i32 l, .int .u32 0, .bool true, .string nm, .slice none 0 0, .slice none 0 0, .slice none 0 0, .slice none 0 0, .slice none 0 0, .int .i64 now, .int .i64 mode, .int .i64 frm, .bool fr, .slice a 0 c]
theorem k_dr {w : World} {g : Nat} {o : Obj} (h : w.heap[g]? = some o) : w.drew.heap[g]? = some o := h
theorem mk0 (W : World) : (Instr.makeSlice 41 (.int .i64 0) (.int .i64 0)).run Tryz.prog W = .ok (.slice (some ⟨W.heap.size, 0, none⟩) 0 0) (W.alloc (.cells #[] 74)) := by
  have h : (Tryz.prog.info? 74).map (fun i => i.zero.isSome) = some true := by kernel_rfl
  cases hi : Tryz.prog.info? 74 with
  | none => rw [hi] at h; cases h
  | some i =>
    rw [hi] at h
    cases hz : i.zero with
    | none => simp [hz] at h
    | some z =>
      have e := run_makeSlice W 41 74 i z Tryz.underlying41 hi hz .i64 .i64 0 0 (by decide) (by decide) (by simp) (by simp) (by decide)
      have e0 : Array.range 0 = #[] := rfl
      simpa [madeCells, e0] using e
attribute [local go_sem] mk0
theorem a_Start (b c : Nat) (nm : ByteArray) (a : Option Addr) (w : World) (H : w.heap[b]? = some (.cells (Rc 0 0 1 0 false nm a c) 43 (0, 0))) : Calls Tryz.prog 7 #[.pointer (some ⟨b, 0, none⟩)] w fun e w' => e = .returned (.int .i64 0) ∧ (∃ a' c', w'.heap[b]? = some (.cells (Rc 0 0 2 0 true nm a' c') 43 (0, 0))) ∧ ∀ n, n ≤ b → Below n w w' := by
  have hb := k_lt H
  have q0 : w.cell? ⟨b, 0, none⟩ = some (.int .i32 0) := k_cell H 0
  have q2 : w.cell? ⟨b, 2, none⟩ = some (.bool true) := k_cell H 2
  have q6 : w.cell? ⟨b, 6, none⟩ = some (.slice none 0 0) := k_cell H 6
  have q9 : w.cell? ⟨b, 9, none⟩ = some (.int .i64 0) := k_cell H 9
  have q10 : w.cell? ⟨b, 10, none⟩ = some (.int .i64 1) := k_cell H 10
  have q11 : w.cell? ⟨b, 11, none⟩ = some (.int .i64 0) := k_cell H 11
  have q12 : w.cell? ⟨b, 12, none⟩ = some (.bool false) := k_cell H 12
  have q13 : w.cell? ⟨b, 13, none⟩ = some (.slice a 0 c) := k_cell H 13
  have f0 : ∀ i, w.frozen? ⟨b, i, none⟩ = false := fun i => frozen_of_row _ _ _ _ _ H
  go_enter_defers Tryz.func7, Tryz.ntmps7
  go_wp2_with (first | (go_at_call 16; refine (a_ready b _ q0 q2 (f0 0)).mono ?_; rintro e w' ⟨rfl, rfl⟩))
  refine leaves_cons (f := 17) (args := #[.pointer (some ⟨b, 0, none⟩)]) (by simp) (by simp [go_sem]) ?_
  refine (unlock_deferred Tryz.muLib ⟨b, 0, none⟩ .returning _ ?q ?f).mono ?_
  case q => exact (k_cell (by repeat (first | with_reducible exact H | with_reducible apply k_al | with_reducible apply k_st)) 0).trans (by simp)
  case f => exact frozen_of_row _ _ _ _ _ (by repeat (first | with_reducible exact H | with_reducible apply k_al | with_reducible apply k_st))
  rintro e u' w'' ⟨rfl, rfl, rfl⟩
  exact ⟨_, results_tmp rfl _ _ _, rfl, ⟨some ⟨w.heap.size, 0, none⟩, 0, (k_st (by repeat (first | with_reducible exact H | with_reducible apply k_al | with_reducible apply k_st)) 0 _).trans (by simp)⟩, fun n hn => by go_grown⟩
theorem a_Now (b c : Nat) (now mode frm : Int) (fr : Bool) (nm : ByteArray) (a : Option Addr) (w : World) (H : w.heap[b]? = some (.cells (Rc 0 now mode frm fr nm a c) 43 (0, 0))) : Calls Tryz.prog 11 #[.pointer (some ⟨b, 0, none⟩)] w fun e w' => e = .returned (.int .i64 now) ∧ w' = w := by
  have hb := k_lt H
  have q0 : w.cell? ⟨b, 0, none⟩ = some (.int .i32 0) := k_cell H 0
  have q2 : w.cell? ⟨b, 2, none⟩ = some (.bool true) := k_cell H 2
  have q9 : w.cell? ⟨b, 9, none⟩ = some (.int .i64 now) := k_cell H 9
  have f0 : ∀ i, w.frozen? ⟨b, i, none⟩ = false := fun i => frozen_of_row _ _ _ _ _ H
  go_enter_defers Tryz.func11, Tryz.ntmps11
  go_wp2_with (first | (go_at_call 16; refine (a_ready b _ q0 q2 (f0 0)).mono ?_; rintro e w' ⟨rfl, rfl⟩))
  refine leaves_cons (f := 17) (args := #[.pointer (some ⟨b, 0, none⟩)]) (by simp) (by simp [go_sem]) ?_
  refine (unlock_deferred Tryz.muLib ⟨b, 0, none⟩ .returning _ ?q ?f).mono ?_
  case q => exact (k_cell (by repeat (first | with_reducible exact H | with_reducible apply k_al | with_reducible apply k_st)) 0).trans (by simp)
  case f => exact frozen_of_row _ _ _ _ _ (by repeat (first | with_reducible exact H | with_reducible apply k_al | with_reducible apply k_st))
  rintro e u' w'' ⟨rfl, rfl, rfl⟩
  exact ⟨_, results_tmp rfl _ _ _, rfl, (setCell_twice w b 0 _ _).trans (setCell_self q0)⟩
/-- The report of an entry of the empty image. -/
abbrev rep1 : Value := .agg #[.slice none 0 0, .slice none 0 0, .int .i64 2, .int .i64 0, .string ⟨#[]⟩, .slice none 0 0, .int .i64 0]
theorem a_Entry (b c : Nat) (nm : ByteArray) (a : Option Addr) (w : World) (H : w.heap[b]? = some (.cells (Rc 0 0 2 0 true nm a c) 43 (0, 0))) : Calls Tryz.prog 4 #[.pointer (some ⟨b, 0, none⟩), .int .i64 7, .slice none 0 0] w fun e w' => e = .returned (.tuple #[rep1, .int .i64 0]) ∧ (w'.heap[b]? = some (.cells (Rc 0 7 2 7 false nm a c) 43 (0, 0))) ∧ ∀ n, n ≤ b → Below n w w' := by
  have hb := k_lt H
  have q0 : w.cell? ⟨b, 0, none⟩ = some (.int .i32 0) := k_cell H 0
  have q2 : w.cell? ⟨b, 2, none⟩ = some (.bool true) := k_cell H 2
  have q4 : w.cell? ⟨b, 4, none⟩ = some (.slice none 0 0) := k_cell H 4
  have q6 : w.cell? ⟨b, 6, none⟩ = some (.slice none 0 0) := k_cell H 6
  have q9 : w.cell? ⟨b, 9, none⟩ = some (.int .i64 0) := k_cell H 9
  have q10 : w.cell? ⟨b, 10, none⟩ = some (.int .i64 2) := k_cell H 10
  have q11 : w.cell? ⟨b, 11, none⟩ = some (.int .i64 0) := k_cell H 11
  have q12 : w.cell? ⟨b, 12, none⟩ = some (.bool true) := k_cell H 12
  have q13 : w.cell? ⟨b, 13, none⟩ = some (.slice a 0 c) := k_cell H 13
  have f0 : ∀ i, w.frozen? ⟨b, i, none⟩ = false := fun i => frozen_of_row _ _ _ _ _ H
  go_enter_defers Tryz.func4, Tryz.ntmps4
  go_wp2_with (first | (go_at_call 16; refine (a_ready b _ ((k_cell (by repeat (first | with_reducible exact H | with_reducible apply k_al | with_reducible apply k_st | with_reducible apply k_dr)) 0).trans (by simp)) ((k_cell (by repeat (first | with_reducible exact H | with_reducible apply k_al | with_reducible apply k_st | with_reducible apply k_dr)) 2).trans (by simp)) (frozen_of_row _ _ _ _ _ (by repeat (first | with_reducible exact H | with_reducible apply k_al | with_reducible apply k_st | with_reducible apply k_dr)))).mono ?_; rintro e w' ⟨rfl, rfl⟩))
  refine wp_loop_rounds 1 ?_
  rw [rounds_succ]
  go_wp2_with (first | (go_at_call 21; refine (a_due b _ ((k_cell (by repeat (first | with_reducible exact H | with_reducible apply k_al | with_reducible apply k_st | with_reducible apply k_dr)) 6).trans (by simp))).mono ?_; rintro e w' ⟨rfl, rfl⟩) | (go_at_call 22; refine (a_all b c a _ _ ((k_cell (by repeat (first | with_reducible exact H | with_reducible apply k_al | with_reducible apply k_st | with_reducible apply k_dr)) 13).trans (by simp))).mono ?_; rintro e w' ⟨rfl, rfl⟩))
  refine wp_loop_rounds 1 ?_
  rw [rounds_succ]
  go_wp2_with (first | (go_at_call 21; refine (a_due b _ ((k_cell (by repeat (first | with_reducible exact H | with_reducible apply k_al | with_reducible apply k_st | with_reducible apply k_dr)) 6).trans (by simp))).mono ?_; rintro e w' ⟨rfl, rfl⟩) | (go_at_call 22; refine (a_all b c a _ _ ((k_cell (by repeat (first | with_reducible exact H | with_reducible apply k_al | with_reducible apply k_st | with_reducible apply k_dr)) 13).trans (by simp))).mono ?_; rintro e w' ⟨rfl, rfl⟩))
  refine wp_region_noPanic ?_
  go_region_with (go_at_call 23; refine (a_outputs b _ ((k_cell (by repeat (first | with_reducible exact H | with_reducible apply k_al | with_reducible apply k_st | with_reducible apply k_dr)) 4).trans (by simp))).mono ?_; rintro e w' ⟨rfl, rfl⟩)
  all_goals
    refine NoPanic.normal ?_
    go_wp2
    refine wp_loop_rounds 1 ?_
    rw [rounds_succ]
    go_wp2
    refine leaves_cons (f := 17) (args := #[.pointer (some ⟨b, 0, none⟩)]) (by simp) (by simp [go_sem]) ?_
    refine (unlock_deferred Tryz.muLib ⟨b, 0, none⟩ .returning _ ?q ?f).mono ?_
    case q => exact (k_cell (by repeat (first | with_reducible exact H | with_reducible apply k_al | with_reducible apply k_st | with_reducible apply k_dr)) 0).trans (by simp)
    case f => exact frozen_of_row _ _ _ _ _ (by repeat (first | with_reducible exact H | with_reducible apply k_al | with_reducible apply k_st | with_reducible apply k_dr))
    rintro e u' w'' ⟨rfl, rfl, rfl⟩
    refine ⟨.tuple #[rep1, .int .i64 0], ?_, rfl, (k_st (by repeat (first | with_reducible exact H | with_reducible apply k_al | with_reducible apply k_st | with_reducible apply k_dr)) 0 _).trans (by simp), fun n hn => by go_grown⟩
    simp [results, Tryz.results4, go_sem]
end Go.Proofs.YtilbgcinmnndhaaGreatDoor.H
