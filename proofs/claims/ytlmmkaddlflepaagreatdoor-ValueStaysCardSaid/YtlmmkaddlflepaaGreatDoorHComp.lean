/- Contract of the program's comparison of two values: its answer may be. No condition. -/
import Derived.Test.YtlmmkaddlflepaaGreatDoorHFloats
namespace Go.Proofs.YtlmmkaddlflepaaGreatDoor.H
set_option linter.unusedSimpArgs false
set_option linter.unusedVariables false
open Go.RowKit Go.Proofs.YtlmmkaddlflepaaGreatDoor.Plain
set_option maxHeartbeats 3200000
set_option maxRecDepth 100000
attribute [local go_sem] ext_from ext_bits cell_isSome un_neg_float
theorem v_compared (op a b c d : Int) (t u : ByteArray) (w0 : World) : Calls Tryz.prog 43 #[.int .i64 op, .agg #[.int .u8 a, .int .u64 b, .string t], .agg #[.int .u8 c, .int .u64 d, .string u]] w0 fun e w' => ∃ r : Int × Int × ByteArray, e = .returned (.agg #[.int .u8 (r).1, .int .u64 (r).2.1, .string (r).2.2]) ∧ MayR r ∧ Below w0.heap.size w0 w' := by
  have NB := fun n W => v_BoolE n W
  have NO := fun W => v_order a b c d t u W
  have NF := fun op x y W => v_fcomp op x y W
  go_enter Tryz.func43, Tryz.ntmps43
  go_wp2_with (first | (go_at_call 21; with_reducible refine (NB _ _).mono ?_; rintro e w2 ⟨r, rfl, hm, hb2⟩; have z6 : w0.heap.size + 1 + 1 < w2.heap.size := (by have hx := hb2.size; (try simp at hx); omega); have k6 : w2.heap[w0.heap.size + 1 + 1]? = some (.cells #[.int .u8 0, .int .u64 0, .string ⟨#[]⟩] 25 (0, 0)) := (by repeat (first | assumption | (refine k_new ?_; simp; done) | apply k_al | with_reducible apply k_dr | (refine k_sn ?_ (by omega) _) | (refine k_go ?_ (by assumption)))); have f60 : w2.frozen? ⟨w0.heap.size + 1 + 1, 0, none⟩ = false := frozen_of_row _ _ _ _ _ k6; have f61 : w2.frozen? ⟨w0.heap.size + 1 + 1, 1, none⟩ = false := frozen_of_row _ _ _ _ _ k6; have f62 : w2.frozen? ⟨w0.heap.size + 1 + 1, 2, none⟩ = false := frozen_of_row _ _ _ _ _ k6; have q60 : w2.cell? ⟨w0.heap.size + 1 + 1, 0, none⟩ = some (.int .u8 0) := (k_cell k6 0).trans (by simp); have q61 : w2.cell? ⟨w0.heap.size + 1 + 1, 1, none⟩ = some (.int .u64 0) := (k_cell k6 1).trans (by simp); have q62 : w2.cell? ⟨w0.heap.size + 1 + 1, 2, none⟩ = some (.string ⟨#[]⟩) := (k_cell k6 2).trans (by simp)) | (go_at_call 70; with_reducible refine (NO _).mono ?_; rintro e w1 ⟨n, rfl, hb1⟩; have z6 : w0.heap.size + 1 + 1 < w1.heap.size := (by have hx := hb1.size; (try simp at hx); omega); have k6 : w1.heap[w0.heap.size + 1 + 1]? = some (.cells #[.int .u8 0, .int .u64 0, .string ⟨#[]⟩] 25 (0, 0)) := (by repeat (first | assumption | (refine k_new ?_; simp; done) | apply k_al | with_reducible apply k_dr | (refine k_sn ?_ (by omega) _) | (refine k_go ?_ (by assumption)))); have f60 : w1.frozen? ⟨w0.heap.size + 1 + 1, 0, none⟩ = false := frozen_of_row _ _ _ _ _ k6; have f61 : w1.frozen? ⟨w0.heap.size + 1 + 1, 1, none⟩ = false := frozen_of_row _ _ _ _ _ k6; have f62 : w1.frozen? ⟨w0.heap.size + 1 + 1, 2, none⟩ = false := frozen_of_row _ _ _ _ _ k6; have q60 : w1.cell? ⟨w0.heap.size + 1 + 1, 0, none⟩ = some (.int .u8 0) := (k_cell k6 0).trans (by simp); have q61 : w1.cell? ⟨w0.heap.size + 1 + 1, 1, none⟩ = some (.int .u64 0) := (k_cell k6 1).trans (by simp); have q62 : w1.cell? ⟨w0.heap.size + 1 + 1, 2, none⟩ = some (.string ⟨#[]⟩) := (k_cell k6 2).trans (by simp)))
  all_goals (try (go_region_with (go_at_call 69; with_reducible refine (NF _ _ _ _).mono ?_; rintro e w2 ⟨r, rfl, hm, hb2⟩; have z6 : w0.heap.size + 1 + 1 < w2.heap.size := (by have hx := hb2.size; (try simp at hx); omega); have k6 : w2.heap[w0.heap.size + 1 + 1]? = some (.cells #[.int .u8 0, .int .u64 0, .string ⟨#[]⟩] 25 (0, 0)) := (by repeat (first | assumption | (refine k_new ?_; simp; done) | apply k_al | with_reducible apply k_dr | (refine k_sn ?_ (by omega) _) | (refine k_go ?_ (by assumption)))); have f60 : w2.frozen? ⟨w0.heap.size + 1 + 1, 0, none⟩ = false := frozen_of_row _ _ _ _ _ k6; have f61 : w2.frozen? ⟨w0.heap.size + 1 + 1, 1, none⟩ = false := frozen_of_row _ _ _ _ _ k6; have f62 : w2.frozen? ⟨w0.heap.size + 1 + 1, 2, none⟩ = false := frozen_of_row _ _ _ _ _ k6; have q60 : w2.cell? ⟨w0.heap.size + 1 + 1, 0, none⟩ = some (.int .u8 0) := (k_cell k6 0).trans (by simp); have q61 : w2.cell? ⟨w0.heap.size + 1 + 1, 1, none⟩ = some (.int .u64 0) := (k_cell k6 1).trans (by simp); have q62 : w2.cell? ⟨w0.heap.size + 1 + 1, 2, none⟩ = some (.string ⟨#[]⟩) := (k_cell k6 2).trans (by simp)); go_wp2))
  all_goals
    clear NB NO NF
    refine bodyPost_ret (v := .agg #[.int .u8 (r).1, .int .u64 (r).2.1, .string (r).2.2]) ?hr rfl ⟨r, rfl, hm, ?hB⟩
    case hB => repeat (first | exact Below.refl _ _ | with_reducible apply b_al | (with_reducible refine b_st ?_ ?hg _; case hg => omega) | with_reducible apply b_dr | (with_reducible refine b_go ?_ (by assumption)))
    case hr =>
      have q := fun (y0 y1 y2 : Value) => set3 (g := w0.heap.size + 1 + 1) k6 y0 y1 y2
      have q0 := fun (y0 y1 y2 : Value) => (q y0 y1 y2).1
      have q1 := fun (y0 y1 y2 : Value) => (q y0 y1 y2).2.1
      have q2 := fun (y0 y1 y2 : Value) => (q y0 y1 y2).2.2
      clear q
      go_light
      (simp [results, Tryz.results43, go_sem, q0, q1, q2]; done)
end Go.Proofs.YtlmmkaddlflepaaGreatDoor.H
