/- Contracts of the methods of a resource that no call made: they answer ErrNil, and zero values. No condition. -/
import Derived.Test.YtilbgcinmnndhaaGreatDoorProg
import Derived.Test.YtilbgcinmnndhaaGreatDoorHLocks
import Derived.Conc.MuLone
import Derived.WalkKit
import Derived.WalkLawsBesides
import Derived.WalkSpells
import Derived.BigCall
import Derived.BigGuard
import Derived.Laws.Externs
import Derived.Lib.Hide
import Derived.Below
import Derived.Deep.Light
import Derived.Handy
import Derived.Defers
namespace Go.Proofs.YtilbgcinmnndhaaGreatDoor.H
set_option linter.unusedSimpArgs false
set_option linter.unusedVariables false
open Go.RowKit Go.MuLone
set_option maxHeartbeats 3200000
set_option maxRecDepth 100000
theorem b_al {w W : World} (h : Below w.heap.size w W) (o : Obj) : Below w.heap.size w (W.alloc o) := h.alloc h.size o
theorem b_st {w W : World} (h : Below w.heap.size w W) {g j : Nat} (hg : w.heap.size ≤ g) (v : Value) : Below w.heap.size w (W.setCell ⟨g, j, none⟩ v) := h.setCell hg _
theorem b_go {w W W2 : World} (h : Below w.heap.size w W) (k : Below W.heap.size W W2) : Below w.heap.size w W2 := h.trans (k.mono h.size)
theorem k_new {w : World} {o : Obj} {n : Nat} (h : n = w.heap.size) : (w.alloc o).heap[n]? = some o := by rw [h]; exact (MapKept.heap_alloc w o).1
theorem k_lt {w : World} {g : Nat} {o : Obj} (h : w.heap[g]? = some o) : g < w.heap.size := by
  rcases Nat.lt_or_ge g w.heap.size with c | c
  · exact c
  · rw [Array.getElem?_eq_none c] at h; cases h
theorem k_al {w : World} {g : Nat} {o : Obj} (h : w.heap[g]? = some o) (o' : Obj) : (w.alloc o').heap[g]? = some o := (Below.heap_alloc w o' g (k_lt h)).trans h
theorem k_go {w w1 : World} {g : Nat} {o : Obj} (h : w.heap[g]? = some o) (hb : Below w.heap.size w w1) : w1.heap[g]? = some o := (hb.block g (k_lt h)).trans h
theorem k_cell {w : World} {g : Nat} {T : TypeId} {cs : Array Value} (h : w.heap[g]? = some (.cells cs T (0, 0))) (i : Nat) : w.cell? ⟨g, i, none⟩ = cs[i]? := cell_of_row w g i cs T (0, 0) h
/-- A store of what the cell holds turns nothing. -/
theorem setCell_self {w : World} {b o : Nat} {v : Value} (h : w.cell? ⟨b, o, none⟩ = some v) : w.setCell ⟨b, o, none⟩ v = w := by
  have e : (w.setCell ⟨b, o, none⟩ v).heap = w.heap := by
    unfold World.setCell
    apply Array.ext
    · simp
    · intro i h1 h2
      simp only [Array.getElem_modify]
      split
      · rename_i hi
        subst hi
        unfold World.cell? at h
        simp only [Array.getElem?_eq_getElem h2] at h
        cases hh : w.heap[b] with
        | cells c t fr =>
          rw [hh] at h
          simp only [Option.isSome_none, Bool.false_eq_true, if_false] at h ⊢
          congr 1
          apply Array.ext
          · simp
          · intro j j1 j2
            rw [Array.getElem_setIfInBounds]
            · split
              · rename_i ej; subst ej
                rw [Array.getElem?_eq_getElem j2] at h
                exact (Option.some.inj h).symm
              · rfl
        | _ => rfl
      · rfl
  have e2 : w.setCell ⟨b, o, none⟩ v = { w with heap := (w.setCell ⟨b, o, none⟩ v).heap } := rfl
  rw [e2, e]
theorem setCell_twice (w : World) (b o : Nat) (v u : Value) : (w.setCell ⟨b, o, none⟩ v).setCell ⟨b, o, none⟩ u = w.setCell ⟨b, o, none⟩ u := by
  have e : ((w.setCell ⟨b, o, none⟩ v).setCell ⟨b, o, none⟩ u).heap = (w.setCell ⟨b, o, none⟩ u).heap := by
    unfold World.setCell
    apply Array.ext
    · simp
    · intro i h1 h2
      simp only [Array.getElem_modify]
      split
      · rename_i hi
        have h3 : i < w.heap.size := by simpa using h2
        cases hh : w.heap[i] with
        | cells c t fr => simp
        | _ => simp
      · rfl
  have e2 : (w.setCell ⟨b, o, none⟩ v).setCell ⟨b, o, none⟩ u = { w.setCell ⟨b, o, none⟩ u with heap := ((w.setCell ⟨b, o, none⟩ v).setCell ⟨b, o, none⟩ u).heap } := rfl
  rw [e2, e]
/-- A pointer to none, or to a resource that no call made. -/
def NoR (p : Value) (w : World) : Prop := p = .pointer none ∨ ∃ b, b < w.heap.size ∧ p = .pointer (some ⟨b, 0, none⟩) ∧ w.cell? ⟨b, 0, none⟩ = some (.int .i32 0) ∧ w.cell? ⟨b, 2, none⟩ = some (.bool false) ∧ w.frozen? ⟨b, 0, none⟩ = false
theorem NoR.go {p : Value} {W w1 : World} (h : NoR p W) (hb : Below W.heap.size W w1) : NoR p w1 := by
  rcases h with h | ⟨b, hl, hp, hc, h2, hf⟩
  · exact .inl h
  · exact .inr ⟨b, by have := hb.size; omega, hp, (hb.cell (p := ⟨b, 0, none⟩) hl).trans hc, (hb.cell (p := ⟨b, 2, none⟩) hl).trans h2, (hb.frozen (p := ⟨b, 0, none⟩) hl).trans hf⟩
theorem n_ready (p : Value) (w : World) (h : NoR p w) : Calls Tryz.prog 16 #[p] w fun e w' => e = .returned (.bool false) ∧ w = w' := by
  rcases h with rfl | ⟨b, hl, rfl, hc, h2, hf⟩
  · go_enter Tryz.func16, Tryz.ntmps16
    go_wp2
    go_ret
    exact ⟨rfl, rfl⟩
  · go_enter Tryz.func16, Tryz.ntmps16
    go_wp2_with (first | (go_at_call 29; refine (lock_free Tryz.muLib ⟨b, 0, none⟩ _ hc hf).mono ?_; rintro e w' ⟨rfl, rfl⟩) | (go_at_call 17; refine (unlock_held Tryz.muLib ⟨b, 0, none⟩ _ (World.cell?_setCell_same _ _ _ hc) (by simp [hf])).mono ?_; rintro e w' ⟨rfl, rfl⟩))
    go_ret
    exact ⟨rfl, ((setCell_twice w b 0 _ _).trans (setCell_self hc)).symm⟩
theorem n_Start (p : Value) (w : World) (h : NoR p w) : Calls Tryz.prog 7 #[p] w fun e w' => e = .returned (.int .i64 8) ∧ Below w.heap.size w w' := by
  have N1 := fun W (hb : Below w.heap.size w W) => n_ready p W (h.go hb)
  clear h
  go_enter Tryz.func7, Tryz.ntmps7
  go_wp2_with (first | (go_at_call 16; with_reducible refine (N1 _ (by repeat (first | exact Below.refl _ _ | with_reducible apply b_al | (with_reducible refine b_st ?_ ?hg _; case hg => omega) | (with_reducible refine b_go ?_ (by assumption))))).mono ?_; rintro e w' ⟨rfl, rfl⟩))
  all_goals (go_ret; exact ⟨rfl, by repeat (first | exact Below.refl _ _ | with_reducible apply b_al | (with_reducible refine b_st ?_ ?hg _; case hg => omega) | (with_reducible refine b_go ?_ (by assumption)))⟩)
theorem n_Stop (p : Value) (w : World) (h : NoR p w) : Calls Tryz.prog 8 #[p] w fun e w' => e = .returned (.int .i64 8) ∧ Below w.heap.size w w' := by
  have N1 := fun W (hb : Below w.heap.size w W) => n_ready p W (h.go hb)
  clear h
  go_enter Tryz.func8, Tryz.ntmps8
  go_wp2_with (first | (go_at_call 16; with_reducible refine (N1 _ (by repeat (first | exact Below.refl _ _ | with_reducible apply b_al | (with_reducible refine b_st ?_ ?hg _; case hg => omega) | (with_reducible refine b_go ?_ (by assumption))))).mono ?_; rintro e w' ⟨rfl, rfl⟩))
  all_goals (go_ret; exact ⟨rfl, by repeat (first | exact Below.refl _ _ | with_reducible apply b_al | (with_reducible refine b_st ?_ ?hg _; case hg => omega) | (with_reducible refine b_go ?_ (by assumption)))⟩)
theorem n_Reset (p : Value) (x : Bool) (w : World) (h : NoR p w) : Calls Tryz.prog 9 #[p, .bool x] w fun e w' => e = .returned (.int .i64 8) ∧ Below w.heap.size w w' := by
  have N1 := fun W (hb : Below w.heap.size w W) => n_ready p W (h.go hb)
  clear h
  go_enter Tryz.func9, Tryz.ntmps9
  go_wp2_with (first | (go_at_call 16; with_reducible refine (N1 _ (by repeat (first | exact Below.refl _ _ | with_reducible apply b_al | (with_reducible refine b_st ?_ ?hg _; case hg => omega) | (with_reducible refine b_go ?_ (by assumption))))).mono ?_; rintro e w' ⟨rfl, rfl⟩))
  all_goals (go_ret; exact ⟨rfl, by repeat (first | exact Below.refl _ _ | with_reducible apply b_al | (with_reducible refine b_st ?_ ?hg _; case hg => omega) | (with_reducible refine b_go ?_ (by assumption)))⟩)
theorem n_Poke (p : Value) (n : Int) (k b : Int) (t : ByteArray) (w : World) (h : NoR p w) : Calls Tryz.prog 10 #[p, .int .i64 n, .agg #[.int .u8 k, .int .u64 b, .string t]] w fun e w' => e = .returned (.int .i64 8) ∧ Below w.heap.size w w' := by
  have N1 := fun W (hb : Below w.heap.size w W) => n_ready p W (h.go hb)
  clear h
  go_enter Tryz.func10, Tryz.ntmps10
  go_wp2_with (first | (go_at_call 16; with_reducible refine (N1 _ (by repeat (first | exact Below.refl _ _ | with_reducible apply b_al | (with_reducible refine b_st ?_ ?hg _; case hg => omega) | (with_reducible refine b_go ?_ (by assumption))))).mono ?_; rintro e w' ⟨rfl, rfl⟩))
  all_goals (go_ret; exact ⟨rfl, by repeat (first | exact Below.refl _ _ | with_reducible apply b_al | (with_reducible refine b_st ?_ ?hg _; case hg => omega) | (with_reducible refine b_go ?_ (by assumption)))⟩)
theorem n_Now (p : Value) (w : World) (h : NoR p w) : Calls Tryz.prog 11 #[p] w fun e w' => e = .returned (.int .i64 0) ∧ Below w.heap.size w w' := by
  have N1 := fun W (hb : Below w.heap.size w W) => n_ready p W (h.go hb)
  clear h
  go_enter Tryz.func11, Tryz.ntmps11
  go_wp2_with (first | (go_at_call 16; with_reducible refine (N1 _ (by repeat (first | exact Below.refl _ _ | with_reducible apply b_al | (with_reducible refine b_st ?_ ?hg _; case hg => omega) | (with_reducible refine b_go ?_ (by assumption))))).mono ?_; rintro e w' ⟨rfl, rfl⟩))
  all_goals (go_ret; exact ⟨rfl, by repeat (first | exact Below.refl _ _ | with_reducible apply b_al | (with_reducible refine b_st ?_ ?hg _; case hg => omega) | (with_reducible refine b_go ?_ (by assumption)))⟩)
theorem n_Mode (p : Value) (w : World) (h : NoR p w) : Calls Tryz.prog 12 #[p] w fun e w' => e = .returned (.int .i64 0) ∧ Below w.heap.size w w' := by
  have N1 := fun W (hb : Below w.heap.size w W) => n_ready p W (h.go hb)
  clear h
  go_enter Tryz.func12, Tryz.ntmps12
  go_wp2_with (first | (go_at_call 16; with_reducible refine (N1 _ (by repeat (first | exact Below.refl _ _ | with_reducible apply b_al | (with_reducible refine b_st ?_ ?hg _; case hg => omega) | (with_reducible refine b_go ?_ (by assumption))))).mono ?_; rintro e w' ⟨rfl, rfl⟩))
  all_goals (go_ret; exact ⟨rfl, by repeat (first | exact Below.refl _ _ | with_reducible apply b_al | (with_reducible refine b_st ?_ ?hg _; case hg => omega) | (with_reducible refine b_go ?_ (by assumption)))⟩)
theorem n_Cells (p : Value) (w : World) (h : NoR p w) : Calls Tryz.prog 13 #[p] w fun e w' => e = .returned (.slice none 0 0) ∧ Below w.heap.size w w' := by
  have N1 := fun W (hb : Below w.heap.size w W) => n_ready p W (h.go hb)
  clear h
  go_enter Tryz.func13, Tryz.ntmps13
  go_wp2_with (first | (go_at_call 16; with_reducible refine (N1 _ (by repeat (first | exact Below.refl _ _ | with_reducible apply b_al | (with_reducible refine b_st ?_ ?hg _; case hg => omega) | (with_reducible refine b_go ?_ (by assumption))))).mono ?_; rintro e w' ⟨rfl, rfl⟩))
  all_goals (go_ret; exact ⟨rfl, by repeat (first | exact Below.refl _ _ | with_reducible apply b_al | (with_reducible refine b_st ?_ ?hg _; case hg => omega) | (with_reducible refine b_go ?_ (by assumption)))⟩)
theorem n_Outputs (p : Value) (w : World) (h : NoR p w) : Calls Tryz.prog 14 #[p] w fun e w' => e = .returned (.slice none 0 0) ∧ Below w.heap.size w w' := by
  have N1 := fun W (hb : Below w.heap.size w W) => n_ready p W (h.go hb)
  clear h
  go_enter Tryz.func14, Tryz.ntmps14
  go_wp2_with (first | (go_at_call 16; with_reducible refine (N1 _ (by repeat (first | exact Below.refl _ _ | with_reducible apply b_al | (with_reducible refine b_st ?_ ?hg _; case hg => omega) | (with_reducible refine b_go ?_ (by assumption))))).mono ?_; rintro e w' ⟨rfl, rfl⟩))
  all_goals (go_ret; exact ⟨rfl, by repeat (first | exact Below.refl _ _ | with_reducible apply b_al | (with_reducible refine b_st ?_ ?hg _; case hg => omega) | (with_reducible refine b_go ?_ (by assumption)))⟩)
theorem n_Entry (p : Value) (n : Int) (x : Value) (w : World) (h : NoR p w) : Calls Tryz.prog 4 #[p, .int .i64 n, x] w fun e w' => e = .returned (.tuple #[(.agg #[.slice none 0 0, .slice none 0 0, .int .i64 0, .int .i64 0, .string ⟨#[]⟩, .slice none 0 0, .int .i64 0]), .int .i64 8]) ∧ Below w.heap.size w w' := by
  have N1 := fun W (hb : Below w.heap.size w W) => n_ready p W (h.go hb)
  clear h
  go_enter Tryz.func4, Tryz.ntmps4
  go_wp2_with (first | (go_at_call 16; with_reducible refine (N1 _ (by repeat (first | exact Below.refl _ _ | with_reducible apply b_al | (with_reducible refine b_st ?_ ?hg _; case hg => omega) | (with_reducible refine b_go ?_ (by assumption))))).mono ?_; rintro e w' ⟨rfl, rfl⟩))
  all_goals (exact bodyPost_ret (v := .tuple #[(.agg #[.slice none 0 0, .slice none 0 0, .int .i64 0, .int .i64 0, .string ⟨#[]⟩, .slice none 0 0, .int .i64 0]), .int .i64 8]) (by simp [results, Tryz.results4, go_sem]) rfl ⟨rfl, by repeat (first | exact Below.refl _ _ | with_reducible apply b_al | (with_reducible refine b_st ?_ ?hg _; case hg => omega) | (with_reducible refine b_go ?_ (by assumption)))⟩)
end Go.Proofs.YtilbgcinmnndhaaGreatDoor.H
