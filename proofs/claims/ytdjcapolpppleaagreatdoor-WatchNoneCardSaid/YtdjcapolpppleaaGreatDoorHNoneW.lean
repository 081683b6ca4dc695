/- The law WatchNone walked. No condition. -/
import Derived.Test.YtdjcapolpppleaaGreatDoorHNone
namespace Go.Proofs.YtdjcapolpppleaaGreatDoor.H
set_option linter.unusedSimpArgs false
set_option linter.unusedVariables false
open Go.RowKit
set_option maxHeartbeats 3200000
set_option maxRecDepth 100000
theorem eq_77 (w : World) : Calls Tryz.prog 77 #[.slice none 0 0, .slice none 0 0] w fun e w' => e = .returned (.bool true) ∧ w = w' := by
  go_enter Tryz.func77, Tryz.ntmps77
  go_wp2
  go_rounds 1
  all_goals (go_ret; exact ⟨rfl, rfl⟩)
theorem eq_78 (w : World) : Calls Tryz.prog 78 #[.slice none 0 0, .slice none 0 0] w fun e w' => e = .returned (.bool true) ∧ w = w' := by
  go_enter Tryz.func78, Tryz.ntmps78
  go_wp2
  go_rounds 1
  all_goals (go_ret; exact ⟨rfl, rfl⟩)
theorem eq_79 (w : World) : Calls Tryz.prog 79 #[.slice none 0 0, .slice none 0 0] w fun e w' => e = .returned (.bool true) ∧ w = w' := by
  go_enter Tryz.func79, Tryz.ntmps79
  go_wp2
  go_rounds 1
  all_goals (go_ret; exact ⟨rfl, rfl⟩)
/-- The empty report. -/
abbrev rep0 : Value := .agg #[.slice none 0 0, .slice none 0 0, .int .i64 0, .int .i64 0, .string ⟨#[]⟩, .slice none 0 0, .int .i64 0]
theorem same_told (w : World) : Calls Tryz.prog 58 #[rep0, rep0] w fun e w' => e = .returned (.bool true) ∧ Below w.heap.size w w' := by
  have N1 := fun W => eq_77 W
  have N2 := fun W => eq_78 W
  have N3 := fun W => eq_79 W
  go_enter Tryz.func58, Tryz.ntmps58
  go_wp2_with (first | (go_at_call 77; with_reducible refine (N1 _).mono ?_; rintro e w' ⟨rfl, rfl⟩) | (go_at_call 78; with_reducible refine (N2 _).mono ?_; rintro e w' ⟨rfl, rfl⟩) | (go_at_call 79; with_reducible refine (N3 _).mono ?_; rintro e w' ⟨rfl, rfl⟩))
  go_ret
  exact ⟨rfl, by go_grown⟩
theorem same_rep (w : World) : Calls Tryz.prog 32 #[rep0, rep0] w fun e w' => e = .returned (.bool true) ∧ Below w.heap.size w w' := by
  have N1 := fun W => same_told W
  go_enter Tryz.func32, Tryz.ntmps32
  go_wp2_with (first | (go_at_call 58; with_reducible refine (N1 _).mono ?_; rintro e w1 ⟨rfl, hb⟩))
  go_ret
  exact ⟨rfl, by repeat (first | exact Below.refl _ _ | with_reducible apply b_al | (with_reducible refine b_go ?_ (by assumption)))⟩
theorem same_rep2 (w : World) : Calls Tryz.prog 8 #[rep0, rep0] w fun e w' => e = .returned (.bool true) ∧ Below w.heap.size w w' := by
  have N1 := fun W => same_rep W
  go_enter Tryz.func8, Tryz.ntmps8
  go_wp2_with (first | (go_at_call 32; with_reducible refine (N1 _).mono ?_; rintro e w1 ⟨rfl, hb⟩))
  go_ret
  exact ⟨rfl, by repeat (first | exact Below.refl _ _ | with_reducible apply b_al | (with_reducible refine b_go ?_ (by assumption)))⟩
theorem k_new {w : World} {o : Obj} {n : Nat} (h : n = w.heap.size) : (w.alloc o).heap[n]? = some o := by rw [h]; exact (MapKept.heap_alloc w o).1
theorem k_lt {w : World} {g : Nat} {o : Obj} (h : w.heap[g]? = some o) : g < w.heap.size := by
  rcases Nat.lt_or_ge g w.heap.size with c | c
  · exact c
  · rw [Array.getElem?_eq_none c] at h; cases h
theorem k_al {w : World} {g : Nat} {o : Obj} (h : w.heap[g]? = some o) (o' : Obj) : (w.alloc o').heap[g]? = some o := (Below.heap_alloc w o' g (k_lt h)).trans h
theorem k_go {w w1 : World} {g : Nat} {o : Obj} (h : w.heap[g]? = some o) (hb : Below w.heap.size w w1) : w1.heap[g]? = some o := (hb.block g (k_lt h)).trans h
theorem k_cell {w : World} {g : Nat} {T : TypeId} {cs : Array Value} (h : w.heap[g]? = some (.cells cs T (0, 0))) (i : Nat) : w.cell? ⟨g, i, none⟩ = cs[i]? := cell_of_row w g i cs T (0, 0) h
theorem law_nobody (p x : Value) (c n k b : Int) (t : ByteArray) (y : Bool) (w0 : World) (h : NoP p w0) : Calls Tryz.prog 4 #[p, .int .i64 c, .int .i64 n, .agg #[.int .u8 k, .int .u64 b, .string t], x, .bool y] w0 fun e w' => e = .returned (.bool true) ∧ Below w0.heap.size w0 w' := by
  have N_pEntry := fun {W} (hb : Below w0.heap.size w0 W) => p_Entry p n (.slice none 0 0) W (h.go hb)
  have N_pLook := fun {W} (hb : Below w0.heap.size w0 W) => fun v => p_Look p v W (h.go hb)
  have N_pStart := fun {W} (hb : Below w0.heap.size w0 W) => p_Start p W (h.go hb)
  have N_pStop := fun {W} (hb : Below w0.heap.size w0 W) => p_Stop p W (h.go hb)
  have N_pReset := fun {W} (hb : Below w0.heap.size w0 W) => p_Reset p y W (h.go hb)
  have N_pForce := fun {W} (hb : Below w0.heap.size w0 W) => p_Force p c k b t W (h.go hb)
  have N_pFree := fun {W} (hb : Below w0.heap.size w0 W) => p_Free p c W (h.go hb)
  have N_pLoad := fun {W} (hb : Below w0.heap.size w0 W) => p_Load p x W (h.go hb)
  have N_pForced := fun {W} (hb : Below w0.heap.size w0 W) => p_Forced p W (h.go hb)
  have N_pChanged := fun {W} (hb : Below w0.heap.size w0 W) => p_Changed p W (h.go hb)
  have N_pSave := fun {W} (hb : Below w0.heap.size w0 W) => p_Save p W (h.go hb)
  have N_rep := fun {W} (hb : Below w0.heap.size w0 W) => same_rep2 W
  clear h
  go_enter Tryz.func4, Tryz.ntmps4
  go_wp2_with (first | (go_at_call 6; with_reducible refine (N_pEntry (by repeat (first | exact Below.refl _ _ | with_reducible apply b_al | (with_reducible refine b_st ?_ ?hg _; case hg => omega) | (with_reducible refine b_go ?_ (by assumption))))).mono ?_; rintro e w1 ⟨rfl, hb_w1⟩; have z_w1 : w0.heap.size < w1.heap.size := (by have hx := hb_w1.size; (try simp at hx); omega); have k_w1 : w1.heap[w0.heap.size]? = some (.cells #[.int .u8 k, .int .u64 b, .string t] 25 (0, 0)) := (by repeat (first | assumption | (refine k_new ?_; simp; done) | apply k_al | (refine k_go ?_ (by assumption)))); have q_w1_0 : w1.cell? ⟨w0.heap.size, 0, none⟩ = some (.int .u8 k) := (k_cell k_w1 0).trans (by simp); have q_w1_1 : w1.cell? ⟨w0.heap.size, 1, none⟩ = some (.int .u64 b) := (k_cell k_w1 1).trans (by simp); have q_w1_2 : w1.cell? ⟨w0.heap.size, 2, none⟩ = some (.string t) := (k_cell k_w1 2).trans (by simp)) | (go_at_call 7; with_reducible refine (N_pLook (by repeat (first | exact Below.refl _ _ | with_reducible apply b_al | (with_reducible refine b_st ?_ ?hg _; case hg => omega) | (with_reducible refine b_go ?_ (by assumption)))) _).mono ?_; rintro e w2 ⟨rfl, hb_w2⟩; have z_w2 : w0.heap.size < w2.heap.size := (by have hx := hb_w2.size; (try simp at hx); omega); have k_w2 : w2.heap[w0.heap.size]? = some (.cells #[.int .u8 k, .int .u64 b, .string t] 25 (0, 0)) := (by repeat (first | assumption | (refine k_new ?_; simp; done) | apply k_al | (refine k_go ?_ (by assumption)))); have q_w2_0 : w2.cell? ⟨w0.heap.size, 0, none⟩ = some (.int .u8 k) := (k_cell k_w2 0).trans (by simp); have q_w2_1 : w2.cell? ⟨w0.heap.size, 1, none⟩ = some (.int .u64 b) := (k_cell k_w2 1).trans (by simp); have q_w2_2 : w2.cell? ⟨w0.heap.size, 2, none⟩ = some (.string t) := (k_cell k_w2 2).trans (by simp); have kr : w2.heap[w1.heap.size]? = some (.cells #[.slice none 0 0, .slice none 0 0, .int .i64 0, .int .i64 0, .string ⟨#[]⟩, .slice none 0 0, .int .i64 0] 47 (0, 0)) := (by repeat (first | assumption | (refine k_new ?_; simp; done) | apply k_al | (refine k_go ?_ (by assumption)))); have qr0 : w2.cell? ⟨w1.heap.size, 0, none⟩ = some (.slice none 0 0) := (k_cell kr 0).trans (by simp); have qr1 : w2.cell? ⟨w1.heap.size, 1, none⟩ = some (.slice none 0 0) := (k_cell kr 1).trans (by simp); have qr2 : w2.cell? ⟨w1.heap.size, 2, none⟩ = some (.int .i64 0) := (k_cell kr 2).trans (by simp); have qr3 : w2.cell? ⟨w1.heap.size, 3, none⟩ = some (.int .i64 0) := (k_cell kr 3).trans (by simp); have qr4 : w2.cell? ⟨w1.heap.size, 4, none⟩ = some (.string ⟨#[]⟩) := (k_cell kr 4).trans (by simp); have qr5 : w2.cell? ⟨w1.heap.size, 5, none⟩ = some (.slice none 0 0) := (k_cell kr 5).trans (by simp); have qr6 : w2.cell? ⟨w1.heap.size, 6, none⟩ = some (.int .i64 0) := (k_cell kr 6).trans (by simp)) | (go_at_call 8; with_reducible refine (N_rep (by repeat (first | exact Below.refl _ _ | with_reducible apply b_al | (with_reducible refine b_st ?_ ?hg _; case hg => omega) | (with_reducible refine b_go ?_ (by assumption))))).mono ?_; rintro e w3 ⟨rfl, hb_w3⟩; have z_w3 : w0.heap.size < w3.heap.size := (by have hx := hb_w3.size; (try simp at hx); omega); have k_w3 : w3.heap[w0.heap.size]? = some (.cells #[.int .u8 k, .int .u64 b, .string t] 25 (0, 0)) := (by repeat (first | assumption | (refine k_new ?_; simp; done) | apply k_al | (refine k_go ?_ (by assumption)))); have q_w3_0 : w3.cell? ⟨w0.heap.size, 0, none⟩ = some (.int .u8 k) := (k_cell k_w3 0).trans (by simp); have q_w3_1 : w3.cell? ⟨w0.heap.size, 1, none⟩ = some (.int .u64 b) := (k_cell k_w3 1).trans (by simp); have q_w3_2 : w3.cell? ⟨w0.heap.size, 2, none⟩ = some (.string t) := (k_cell k_w3 2).trans (by simp)) | (go_at_call 9; with_reducible refine (N_pStart (by repeat (first | exact Below.refl _ _ | with_reducible apply b_al | (with_reducible refine b_st ?_ ?hg _; case hg => omega) | (with_reducible refine b_go ?_ (by assumption))))).mono ?_; rintro e w4 ⟨rfl, hb_w4⟩; have z_w4 : w0.heap.size < w4.heap.size := (by have hx := hb_w4.size; (try simp at hx); omega); have k_w4 : w4.heap[w0.heap.size]? = some (.cells #[.int .u8 k, .int .u64 b, .string t] 25 (0, 0)) := (by repeat (first | assumption | (refine k_new ?_; simp; done) | apply k_al | (refine k_go ?_ (by assumption)))); have q_w4_0 : w4.cell? ⟨w0.heap.size, 0, none⟩ = some (.int .u8 k) := (k_cell k_w4 0).trans (by simp); have q_w4_1 : w4.cell? ⟨w0.heap.size, 1, none⟩ = some (.int .u64 b) := (k_cell k_w4 1).trans (by simp); have q_w4_2 : w4.cell? ⟨w0.heap.size, 2, none⟩ = some (.string t) := (k_cell k_w4 2).trans (by simp)) | (go_at_call 10; with_reducible refine (N_pStop (by repeat (first | exact Below.refl _ _ | with_reducible apply b_al | (with_reducible refine b_st ?_ ?hg _; case hg => omega) | (with_reducible refine b_go ?_ (by assumption))))).mono ?_; rintro e w5 ⟨rfl, hb_w5⟩; have z_w5 : w0.heap.size < w5.heap.size := (by have hx := hb_w5.size; (try simp at hx); omega); have k_w5 : w5.heap[w0.heap.size]? = some (.cells #[.int .u8 k, .int .u64 b, .string t] 25 (0, 0)) := (by repeat (first | assumption | (refine k_new ?_; simp; done) | apply k_al | (refine k_go ?_ (by assumption)))); have q_w5_0 : w5.cell? ⟨w0.heap.size, 0, none⟩ = some (.int .u8 k) := (k_cell k_w5 0).trans (by simp); have q_w5_1 : w5.cell? ⟨w0.heap.size, 1, none⟩ = some (.int .u64 b) := (k_cell k_w5 1).trans (by simp); have q_w5_2 : w5.cell? ⟨w0.heap.size, 2, none⟩ = some (.string t) := (k_cell k_w5 2).trans (by simp)) | (go_at_call 11; with_reducible refine (N_pReset (by repeat (first | exact Below.refl _ _ | with_reducible apply b_al | (with_reducible refine b_st ?_ ?hg _; case hg => omega) | (with_reducible refine b_go ?_ (by assumption))))).mono ?_; rintro e w6 ⟨rfl, hb_w6⟩; have z_w6 : w0.heap.size < w6.heap.size := (by have hx := hb_w6.size; (try simp at hx); omega); have k_w6 : w6.heap[w0.heap.size]? = some (.cells #[.int .u8 k, .int .u64 b, .string t] 25 (0, 0)) := (by repeat (first | assumption | (refine k_new ?_; simp; done) | apply k_al | (refine k_go ?_ (by assumption)))); have q_w6_0 : w6.cell? ⟨w0.heap.size, 0, none⟩ = some (.int .u8 k) := (k_cell k_w6 0).trans (by simp); have q_w6_1 : w6.cell? ⟨w0.heap.size, 1, none⟩ = some (.int .u64 b) := (k_cell k_w6 1).trans (by simp); have q_w6_2 : w6.cell? ⟨w0.heap.size, 2, none⟩ = some (.string t) := (k_cell k_w6 2).trans (by simp)) | (go_at_call 12; with_reducible refine (N_pForce (by repeat (first | exact Below.refl _ _ | with_reducible apply b_al | (with_reducible refine b_st ?_ ?hg _; case hg => omega) | (with_reducible refine b_go ?_ (by assumption))))).mono ?_; rintro e w7 ⟨rfl, hb_w7⟩) | (go_at_call 13; with_reducible refine (N_pFree (by repeat (first | exact Below.refl _ _ | with_reducible apply b_al | (with_reducible refine b_st ?_ ?hg _; case hg => omega) | (with_reducible refine b_go ?_ (by assumption))))).mono ?_; rintro e w8 ⟨rfl, hb_w8⟩) | (go_at_call 14; with_reducible refine (N_pLoad (by repeat (first | exact Below.refl _ _ | with_reducible apply b_al | (with_reducible refine b_st ?_ ?hg _; case hg => omega) | (with_reducible refine b_go ?_ (by assumption))))).mono ?_; rintro e w9 ⟨rfl, hb_w9⟩) | (go_at_call 15; with_reducible refine (N_pForced (by repeat (first | exact Below.refl _ _ | with_reducible apply b_al | (with_reducible refine b_st ?_ ?hg _; case hg => omega) | (with_reducible refine b_go ?_ (by assumption))))).mono ?_; rintro e w10 ⟨rfl, hb_w10⟩) | (go_at_call 16; with_reducible refine (N_pChanged (by repeat (first | exact Below.refl _ _ | with_reducible apply b_al | (with_reducible refine b_st ?_ ?hg _; case hg => omega) | (with_reducible refine b_go ?_ (by assumption))))).mono ?_; rintro e w11 ⟨rfl, hb_w11⟩) | (go_at_call 17; with_reducible refine (N_pSave (by repeat (first | exact Below.refl _ _ | with_reducible apply b_al | (with_reducible refine b_st ?_ ?hg _; case hg => omega) | (with_reducible refine b_go ?_ (by assumption))))).mono ?_; rintro e w12 ⟨rfl, hb_w12⟩))
  clear N_pEntry N_pLook N_pStart N_pStop N_pReset N_pForce N_pFree N_pLoad N_pForced N_pChanged N_pSave N_rep
  go_ret
  exact ⟨rfl, by repeat (first | exact Below.refl _ _ | with_reducible apply b_al | (with_reducible refine b_st ?_ ?hg _; case hg => omega) | (with_reducible refine b_go ?_ (by assumption)))⟩
theorem law_nopair (p : Value) (c n : Int) (w0 : World) (h : NoP p w0) : Calls Tryz.prog 5 #[p, .int .i64 c, .int .i64 n] w0 fun e w' => e = .returned (.bool true) ∧ Below w0.heap.size w0 w' := by
  have N_qEntry := fun {W} (hb : Below w0.heap.size w0 W) => q_Entry p n (.slice none 0 0) W (h.go hb)
  have N_qStart := fun {W} (hb : Below w0.heap.size w0 W) => q_Start p W (h.go hb)
  have N_qDown := fun {W} (hb : Below w0.heap.size w0 W) => q_Down p c W (h.go hb)
  have N_qFollow := fun {W} (hb : Below w0.heap.size w0 W) => q_Follow p n W (h.go hb)
  have N_qLeads := fun {W} (hb : Below w0.heap.size w0 W) => q_Leads p W (h.go hb)
  have N_qCells := fun {W} (hb : Below w0.heap.size w0 W) => q_Cells p c W (h.go hb)
  have N_rep := fun {W} (hb : Below w0.heap.size w0 W) => same_rep2 W
  clear h
  go_enter Tryz.func5, Tryz.ntmps5
  go_wp2_with (first | (go_at_call 18; with_reducible refine (N_qEntry (by repeat (first | exact Below.refl _ _ | with_reducible apply b_al | (with_reducible refine b_st ?_ ?hg _; case hg => omega) | (with_reducible refine b_go ?_ (by assumption))))).mono ?_; rintro e w1 ⟨rfl, hb_w1⟩) | (go_at_call 8; with_reducible refine (N_rep (by repeat (first | exact Below.refl _ _ | with_reducible apply b_al | (with_reducible refine b_st ?_ ?hg _; case hg => omega) | (with_reducible refine b_go ?_ (by assumption))))).mono ?_; rintro e w3 ⟨rfl, hb_w3⟩) | (go_at_call 19; with_reducible refine (N_qStart (by repeat (first | exact Below.refl _ _ | with_reducible apply b_al | (with_reducible refine b_st ?_ ?hg _; case hg => omega) | (with_reducible refine b_go ?_ (by assumption))))).mono ?_; rintro e w4 ⟨rfl, hb_w4⟩) | (go_at_call 20; with_reducible refine (N_qDown (by repeat (first | exact Below.refl _ _ | with_reducible apply b_al | (with_reducible refine b_st ?_ ?hg _; case hg => omega) | (with_reducible refine b_go ?_ (by assumption))))).mono ?_; rintro e w5 ⟨rfl, hb_w5⟩) | (go_at_call 21; with_reducible refine (N_qFollow (by repeat (first | exact Below.refl _ _ | with_reducible apply b_al | (with_reducible refine b_st ?_ ?hg _; case hg => omega) | (with_reducible refine b_go ?_ (by assumption))))).mono ?_; rintro e w6 ⟨rfl, hb_w6⟩) | (go_at_call 22; with_reducible refine (N_qLeads (by repeat (first | exact Below.refl _ _ | with_reducible apply b_al | (with_reducible refine b_st ?_ ?hg _; case hg => omega) | (with_reducible refine b_go ?_ (by assumption))))).mono ?_; rintro e w7 ⟨rfl, hb_w7⟩) | (go_at_call 23; with_reducible refine (N_qCells (by repeat (first | exact Below.refl _ _ | with_reducible apply b_al | (with_reducible refine b_st ?_ ?hg _; case hg => omega) | (with_reducible refine b_go ?_ (by assumption))))).mono ?_; rintro e w8 ⟨rfl, hb_w8⟩))
  all_goals (clear N_qEntry N_qStart N_qDown N_qFollow N_qLeads N_qCells N_rep)
  all_goals (go_ret; exact ⟨rfl, by repeat (first | exact Below.refl _ _ | with_reducible apply b_al | (with_reducible refine b_st ?_ ?hg _; case hg => omega) | (with_reducible refine b_go ?_ (by assumption)))⟩)
theorem law_None (c n k b : Int) (t : ByteArray) (x : Value) (y : Bool) (w0 : World) : Calls Tryz.prog 3 #[.int .i64 c, .int .i64 n, .agg #[.int .u8 k, .int .u64 b, .string t], x, .bool y] w0 fun e w' => e = .returned (.bool true) ∧ Below w0.heap.size w0 w' := by
  have N1 := fun W => law_nobody (.pointer none) x c n k b t y W (.inl rfl)
  have N2 := fun W g (hg : g < W.heap.size) (hc : W.cell? ⟨g, 0, none⟩ = some (.pointer none)) => law_nobody (.pointer (some ⟨g, 0, none⟩)) x c n k b t y W (.inr ⟨g, hg, rfl, hc⟩)
  have N3 := fun W => law_nopair (.pointer none) c n W (.inl rfl)
  have N4 := fun W g (hg : g < W.heap.size) (hc : W.cell? ⟨g, 0, none⟩ = some (.pointer none)) => law_nopair (.pointer (some ⟨g, 0, none⟩)) c n W (.inr ⟨g, hg, rfl, hc⟩)
  go_enter Tryz.func3, Tryz.ntmps3
  go_wp2_with (first | (go_at_call 4; with_reducible refine (N1 _).mono ?_; rintro e w1 ⟨rfl, hb_w1⟩; have z_w1 : w0.heap.size < w1.heap.size := (by have hx := hb_w1.size; (try simp at hx); omega); have k_w1 : w1.heap[w0.heap.size]? = some (.cells #[.int .u8 k, .int .u64 b, .string t] 25 (0, 0)) := (by repeat (first | assumption | (refine k_new ?_; simp; done) | apply k_al | (refine k_go ?_ (by assumption)))); have q_0 : w1.cell? ⟨w0.heap.size, 0, none⟩ = some (.int .u8 k) := (k_cell k_w1 0).trans (by simp); have q_1 : w1.cell? ⟨w0.heap.size, 1, none⟩ = some (.int .u64 b) := (k_cell k_w1 1).trans (by simp); have q_2 : w1.cell? ⟨w0.heap.size, 2, none⟩ = some (.string t) := (k_cell k_w1 2).trans (by simp)) | (go_at_call 4; with_reducible refine (N2 _ _ (by simp) (by simp)).mono ?_; rintro e w2 ⟨rfl, hb_w2⟩) | (go_at_call 5; with_reducible refine (N3 _).mono ?_; rintro e w3 ⟨rfl, hb_w3⟩) | (go_at_call 5; with_reducible refine (N4 _ _ (by simp) (by simp)).mono ?_; rintro e w4 ⟨rfl, hb_w4⟩))
  clear N1 N2 N3 N4
  go_ret
  exact ⟨rfl, by repeat (first | exact Below.refl _ _ | with_reducible apply b_al | (with_reducible refine b_st ?_ ?hg _; case hg => omega) | (with_reducible refine b_go ?_ (by assumption)))⟩
end Go.Proofs.YtdjcapolpppleaaGreatDoor.H
