/- Contract of the program's Turn: what it answers without a fault may be. Condition: bits are 64. -/
import Derived.Test.YtlmmkaddlflepaaGreatDoorHReck
namespace Go.Proofs.YtlmmkaddlflepaaGreatDoor.H
set_option linter.unusedSimpArgs false
set_option linter.unusedVariables false
open Go.RowKit Go.Proofs.YtlmmkaddlflepaaGreatDoor.Plain
set_option maxHeartbeats 3200000
set_option maxRecDepth 100000
attribute [local go_sem] ext_from ext_bits cell_isSome un_neg_float
/-- The greatest bits of a row. -/
def mostV (k : Int) : Int := if k = 10 then 255 else if k = 11 then 65535 else if k = 12 then 4294967295 else 18446744073709551615
theorem v_most (k : Int) (hk : rowB k = true) (w : World) : Calls Tryz.prog 47 #[.int .u8 k] w fun e w' => e = .returned (.int .u64 (mostV k)) ∧ w = w' := by
  have hk' : k = 10 ∨ k = 11 ∨ k = 12 ∨ k = 13 := by unfold rowB at hk; have := of_decide_eq_true hk; omega
  clear hk
  rcases hk' with rfl | rfl | rfl | rfl
  all_goals
    go_enter Tryz.func47, Tryz.ntmps47
    go_wp2_with (first | (go_at_call 67; refine (v_width _ _).mono ?_; rintro e w' ⟨rfl, rfl⟩; simp only [widthV]; simp only [Int.reduceEq, or_false, or_true, false_or, true_or, or_self, if_true, if_false]))
    go_ret
    exact ⟨by simp [mostV]; try decide, rfl⟩
theorem row_stay {k b : Int} (hk : rowB k = true) (h0 : 0 ≤ b ∧ b < 18446744073709551616) : MayR (k, Go.bits .and .u64 (Go.bits .xor .u64 (IntKind.max .u64) b) (mostV k), ⟨#[]⟩) := by
  have hk' : k = 10 ∨ k = 11 ∨ k = 12 ∨ k = 13 := by unfold rowB at hk; have := of_decide_eq_true hk; omega
  rw [xor_max b h0.1 h0.2]
  have key : ∀ w : Nat, w ≤ 64 → Go.bits .and .u64 (18446744073709551615 - b) (2 ^ w - 1 : Int) = (18446744073709551615 - b) % 2 ^ w := fun w hw => and_mask _ w (by omega) (by omega) hw
  have fin : fitsB k (Go.bits .and .u64 (18446744073709551615 - b) (mostV k)) = true ∧ 0 ≤ Go.bits .and .u64 (18446744073709551615 - b) (mostV k) ∧ Go.bits .and .u64 (18446744073709551615 - b) (mostV k) < 18446744073709551616 := by
    rcases hk' with rfl | rfl | rfl | rfl
    · have e := key 8 (by decide); rw [show mostV 10 = 2 ^ 8 - 1 from rfl, e]; exact ⟨by unfold fitsB; simp; omega, by omega, by omega⟩
    · have e := key 16 (by decide); rw [show mostV 11 = 2 ^ 16 - 1 from rfl, e]; exact ⟨by unfold fitsB; simp; omega, by omega, by omega⟩
    · have e := key 32 (by decide); rw [show mostV 12 = 2 ^ 32 - 1 from rfl, e]; exact ⟨by unfold fitsB; simp; omega, by omega, by omega⟩
    · have e := key 64 (by decide); rw [show mostV 13 = 2 ^ 64 - 1 from rfl, e]; exact ⟨by unfold fitsB; simp, by omega, by omega⟩
  exact ⟨may_of_fits fin.1, fin.2⟩
theorem neg_lt (b : Int) (h : 0 ≤ b ∧ b < 18446744073709551616) : Op.negFloat .f64 b.toNat < 18446744073709551616 := by
  have := neg_float b h.1 h.2
  split at this <;> omega
theorem v_TurnA (op a b : Int) (t : ByteArray) (hB0 : 0 ≤ b ∧ b < 18446744073709551616) (ha : mayB a b t = false) (w0 : World) : Calls Tryz.prog 14 #[.int .i64 op, .agg #[.int .u8 a, .int .u64 b, .string t]] w0 (OutV w0) := by
  have N1 : ∀ W, Calls Tryz.prog 17 #[.agg #[.int .u8 a, .int .u64 b, .string t]] W fun e w' => e = .returned (.bool false) ∧ Below W.heap.size W w' := fun W => by have := v_may a b t hB0.1 hB0.2 W; rwa [ha] at this
  clear ha hB0
  go_enter Tryz.func14, Tryz.ntmps14
  go_wp2_with (first | (go_at_call 17; with_reducible refine (N1 _).mono ?_; rintro e w1 ⟨rfl, hb1⟩; have z3 : w0.heap.size < w1.heap.size := (by have hx := hb1.size; (try simp at hx); omega); have k3 : w1.heap[w0.heap.size]? = some (.cells #[.int .u8 a, .int .u64 b, .string t] 25 (0, 0)) := (by repeat (first | assumption | (refine k_new ?_; simp; done) | apply k_al | with_reducible apply k_dr | (refine k_sn ?_ (by omega) _) | (refine k_go ?_ (by assumption)))); have q30 : w1.cell? ⟨w0.heap.size, 0, none⟩ = some (.int .u8 a) := (k_cell k3 0).trans (by simp); have q31 : w1.cell? ⟨w0.heap.size, 1, none⟩ = some (.int .u64 b) := (k_cell k3 1).trans (by simp); have q32 : w1.cell? ⟨w0.heap.size, 2, none⟩ = some (.string t) := (k_cell k3 2).trans (by simp); have z6 : w0.heap.size + 1 < w1.heap.size := (by have hx := hb1.size; (try simp at hx); omega); have k6 : w1.heap[w0.heap.size + 1]? = some (.cells #[.int .u8 0, .int .u64 0, .string ⟨#[]⟩] 25 (0, 0)) := (by repeat (first | assumption | (refine k_new ?_; simp; done) | apply k_al | with_reducible apply k_dr | (refine k_sn ?_ (by omega) _) | (refine k_go ?_ (by assumption)))); have f60 : w1.frozen? ⟨w0.heap.size + 1, 0, none⟩ = false := frozen_of_row _ _ _ _ _ k6; have f61 : w1.frozen? ⟨w0.heap.size + 1, 1, none⟩ = false := frozen_of_row _ _ _ _ _ k6; have f62 : w1.frozen? ⟨w0.heap.size + 1, 2, none⟩ = false := frozen_of_row _ _ _ _ _ k6; have q60 : w1.cell? ⟨w0.heap.size + 1, 0, none⟩ = some (.int .u8 0) := (k_cell k6 0).trans (by simp); have q61 : w1.cell? ⟨w0.heap.size + 1, 1, none⟩ = some (.int .u64 0) := (k_cell k6 1).trans (by simp); have q62 : w1.cell? ⟨w0.heap.size + 1, 2, none⟩ = some (.string ⟨#[]⟩) := (k_cell k6 2).trans (by simp)))
  all_goals
    clear N1
    refine bodyPost_ret (v := .tuple #[.agg #[.int .u8 (((0, 0, ⟨#[]⟩, 8) : Int × Int × ByteArray × Int)).1, .int .u64 (((0, 0, ⟨#[]⟩, 8) : Int × Int × ByteArray × Int)).2.1, .string (((0, 0, ⟨#[]⟩, 8) : Int × Int × ByteArray × Int)).2.2.1], .int .i64 (((0, 0, ⟨#[]⟩, 8) : Int × Int × ByteArray × Int)).2.2.2]) ?hr rfl (OutV.mk' ((0, 0, ⟨#[]⟩, 8)) rfl (stay_bad _ _ _ _ (by decide)) ?hB)
    case hB => repeat (first | exact Below.refl _ _ | with_reducible apply b_al | (with_reducible refine b_st ?_ ?hg _; case hg => omega) | with_reducible apply b_dr | (with_reducible refine b_go ?_ (by assumption)))
    case hr =>
      have q := fun (y0 y1 y2 : Value) => set3 (g := w0.heap.size + 1) k6 y0 y1 y2
      have q0 := fun (y0 y1 y2 : Value) => (q y0 y1 y2).1
      have q1 := fun (y0 y1 y2 : Value) => (q y0 y1 y2).2.1
      have q2 := fun (y0 y1 y2 : Value) => (q y0 y1 y2).2.2
      clear q
      go_light
      (simp [results, Tryz.results14, go_sem, q0, q1, q2]; done)
theorem v_TurnB (op a b : Int) (t : ByteArray) (hB0 : 0 ≤ b ∧ b < 18446744073709551616) (ha : mayB a b t = true) (w0 : World) : Calls Tryz.prog 14 #[.int .i64 op, .agg #[.int .u8 a, .int .u64 b, .string t]] w0 (OutV w0) := by
  have N1 : ∀ W, Calls Tryz.prog 17 #[.agg #[.int .u8 a, .int .u64 b, .string t]] W fun e w' => e = .returned (.bool true) ∧ Below W.heap.size W w' := fun W => by have := v_may a b t hB0.1 hB0.2 W; rwa [ha] at this
  have NO := fun k m s h W => v_ofE m s k 1 h (by decide) W
  have NL := fun n h W => v_LrealE n h W
  have NB := fun n W => v_BoolE n W
  have NM := fun k (h : rowB k = true) W => v_most k h W
  have hneg := neg_lt b hB0
  have hB := Lib.hid hB0
  clear ha hB0
  go_enter Tryz.func14, Tryz.ntmps14
  go_wp2_with (first | (go_at_call 17; with_reducible refine (N1 _).mono ?_; rintro e w1 ⟨rfl, hb1⟩; have z3 : w0.heap.size < w1.heap.size := (by have hx := hb1.size; (try simp at hx); omega); have k3 : w1.heap[w0.heap.size]? = some (.cells #[.int .u8 a, .int .u64 b, .string t] 25 (0, 0)) := (by repeat (first | assumption | (refine k_new ?_; simp; done) | apply k_al | with_reducible apply k_dr | (refine k_sn ?_ (by omega) _) | (refine k_go ?_ (by assumption)))); have q30 : w1.cell? ⟨w0.heap.size, 0, none⟩ = some (.int .u8 a) := (k_cell k3 0).trans (by simp); have q31 : w1.cell? ⟨w0.heap.size, 1, none⟩ = some (.int .u64 b) := (k_cell k3 1).trans (by simp); have q32 : w1.cell? ⟨w0.heap.size, 2, none⟩ = some (.string t) := (k_cell k3 2).trans (by simp); have z6 : w0.heap.size + 1 < w1.heap.size := (by have hx := hb1.size; (try simp at hx); omega); have k6 : w1.heap[w0.heap.size + 1]? = some (.cells #[.int .u8 0, .int .u64 0, .string ⟨#[]⟩] 25 (0, 0)) := (by repeat (first | assumption | (refine k_new ?_; simp; done) | apply k_al | with_reducible apply k_dr | (refine k_sn ?_ (by omega) _) | (refine k_go ?_ (by assumption)))); have f60 : w1.frozen? ⟨w0.heap.size + 1, 0, none⟩ = false := frozen_of_row _ _ _ _ _ k6; have f61 : w1.frozen? ⟨w0.heap.size + 1, 1, none⟩ = false := frozen_of_row _ _ _ _ _ k6; have f62 : w1.frozen? ⟨w0.heap.size + 1, 2, none⟩ = false := frozen_of_row _ _ _ _ _ k6; have q60 : w1.cell? ⟨w0.heap.size + 1, 0, none⟩ = some (.int .u8 0) := (k_cell k6 0).trans (by simp); have q61 : w1.cell? ⟨w0.heap.size + 1, 1, none⟩ = some (.int .u64 0) := (k_cell k6 1).trans (by simp); have q62 : w1.cell? ⟨w0.heap.size + 1, 2, none⟩ = some (.string ⟨#[]⟩) := (k_cell k6 2).trans (by simp)) | (go_at_call 22; with_reducible refine (v_signed _ _).mono ?_; rintro e w' ⟨rfl, rfl⟩) | (go_at_call 16; with_reducible refine (v_row _ _).mono ?_; rintro e w' ⟨rfl, rfl⟩) | (go_at_call 20; with_reducible refine (NO _ _ _ (by first | exact hB.out | exact u_rng _) _).mono ?_; rintro e w3 ⟨r, rfl, hst, hb3⟩; have z6 : w0.heap.size + 1 < w3.heap.size := (by have hx := hb3.size; (try simp at hx); omega); have k6 : w3.heap[w0.heap.size + 1]? = some (.cells #[.int .u8 0, .int .u64 0, .string ⟨#[]⟩] 25 (0, 0)) := (by repeat (first | assumption | (refine k_new ?_; simp; done) | apply k_al | with_reducible apply k_dr | (refine k_sn ?_ (by omega) _) | (refine k_go ?_ (by assumption)))); have f60 : w3.frozen? ⟨w0.heap.size + 1, 0, none⟩ = false := frozen_of_row _ _ _ _ _ k6; have f61 : w3.frozen? ⟨w0.heap.size + 1, 1, none⟩ = false := frozen_of_row _ _ _ _ _ k6; have f62 : w3.frozen? ⟨w0.heap.size + 1, 2, none⟩ = false := frozen_of_row _ _ _ _ _ k6; have q60 : w3.cell? ⟨w0.heap.size + 1, 0, none⟩ = some (.int .u8 0) := (k_cell k6 0).trans (by simp); have q61 : w3.cell? ⟨w0.heap.size + 1, 1, none⟩ = some (.int .u64 0) := (k_cell k6 1).trans (by simp); have q62 : w3.cell? ⟨w0.heap.size + 1, 2, none⟩ = some (.string ⟨#[]⟩) := (k_cell k6 2).trans (by simp)) | (go_at_call 23; with_reducible refine (NL _ hneg _).mono ?_; rintro e w3 ⟨r, rfl, hm, hb3⟩; have z6 : w0.heap.size + 1 < w3.heap.size := (by have hx := hb3.size; (try simp at hx); omega); have k6 : w3.heap[w0.heap.size + 1]? = some (.cells #[.int .u8 0, .int .u64 0, .string ⟨#[]⟩] 25 (0, 0)) := (by repeat (first | assumption | (refine k_new ?_; simp; done) | apply k_al | with_reducible apply k_dr | (refine k_sn ?_ (by omega) _) | (refine k_go ?_ (by assumption)))); have f60 : w3.frozen? ⟨w0.heap.size + 1, 0, none⟩ = false := frozen_of_row _ _ _ _ _ k6; have f61 : w3.frozen? ⟨w0.heap.size + 1, 1, none⟩ = false := frozen_of_row _ _ _ _ _ k6; have f62 : w3.frozen? ⟨w0.heap.size + 1, 2, none⟩ = false := frozen_of_row _ _ _ _ _ k6; have q60 : w3.cell? ⟨w0.heap.size + 1, 0, none⟩ = some (.int .u8 0) := (k_cell k6 0).trans (by simp); have q61 : w3.cell? ⟨w0.heap.size + 1, 1, none⟩ = some (.int .u64 0) := (k_cell k6 1).trans (by simp); have q62 : w3.cell? ⟨w0.heap.size + 1, 2, none⟩ = some (.string ⟨#[]⟩) := (k_cell k6 2).trans (by simp)) | (go_at_call 21; with_reducible refine (NB _ _).mono ?_; rintro e w3 ⟨r, rfl, hm, hb3⟩; have z6 : w0.heap.size + 1 < w3.heap.size := (by have hx := hb3.size; (try simp at hx); omega); have k6 : w3.heap[w0.heap.size + 1]? = some (.cells #[.int .u8 0, .int .u64 0, .string ⟨#[]⟩] 25 (0, 0)) := (by repeat (first | assumption | (refine k_new ?_; simp; done) | apply k_al | with_reducible apply k_dr | (refine k_sn ?_ (by omega) _) | (refine k_go ?_ (by assumption)))); have f60 : w3.frozen? ⟨w0.heap.size + 1, 0, none⟩ = false := frozen_of_row _ _ _ _ _ k6; have f61 : w3.frozen? ⟨w0.heap.size + 1, 1, none⟩ = false := frozen_of_row _ _ _ _ _ k6; have f62 : w3.frozen? ⟨w0.heap.size + 1, 2, none⟩ = false := frozen_of_row _ _ _ _ _ k6; have q60 : w3.cell? ⟨w0.heap.size + 1, 0, none⟩ = some (.int .u8 0) := (k_cell k6 0).trans (by simp); have q61 : w3.cell? ⟨w0.heap.size + 1, 1, none⟩ = some (.int .u64 0) := (k_cell k6 1).trans (by simp); have q62 : w3.cell? ⟨w0.heap.size + 1, 2, none⟩ = some (.string ⟨#[]⟩) := (k_cell k6 2).trans (by simp)))
  all_goals (try (go_region_with (go_at_call 47; with_reducible refine (NM _ (by assumption) _).mono ?_; rintro e w' ⟨rfl, rfl⟩); go_wp2))
  all_goals clear N1 NO NL NB NM
  all_goals
    first
      | (refine bodyPost_ret (v := .tuple #[.agg #[.int .u8 (r).1, .int .u64 (r).2.1, .string (r).2.2.1], .int .i64 (r).2.2.2]) ?hr rfl (OutV.mk' (r) rfl (hst) ?hB)
         case hB => repeat (first | exact Below.refl _ _ | with_reducible apply b_al | (with_reducible refine b_st ?_ ?hg _; case hg => omega) | with_reducible apply b_dr | (with_reducible refine b_go ?_ (by assumption)))
         case hr =>
           have q := fun (y0 y1 y2 : Value) => set3 (g := w0.heap.size + 1) k6 y0 y1 y2
           have q0 := fun (y0 y1 y2 : Value) => (q y0 y1 y2).1
           have q1 := fun (y0 y1 y2 : Value) => (q y0 y1 y2).2.1
           have q2 := fun (y0 y1 y2 : Value) => (q y0 y1 y2).2.2
           clear q
           go_light
           (simp [results, Tryz.results14, go_sem, q0, q1, q2]; done))
      | (refine bodyPost_ret (v := .tuple #[.agg #[.int .u8 ((r.1, r.2.1, r.2.2, (0 : Int))).1, .int .u64 ((r.1, r.2.1, r.2.2, (0 : Int))).2.1, .string ((r.1, r.2.1, r.2.2, (0 : Int))).2.2.1], .int .i64 ((r.1, r.2.1, r.2.2, (0 : Int))).2.2.2]) ?hr rfl (OutV.mk' ((r.1, r.2.1, r.2.2, (0 : Int))) rfl (hm.stay 0) ?hB)
         case hB => repeat (first | exact Below.refl _ _ | with_reducible apply b_al | (with_reducible refine b_st ?_ ?hg _; case hg => omega) | with_reducible apply b_dr | (with_reducible refine b_go ?_ (by assumption)))
         case hr =>
           have q := fun (y0 y1 y2 : Value) => set3 (g := w0.heap.size + 1) k6 y0 y1 y2
           have q0 := fun (y0 y1 y2 : Value) => (q y0 y1 y2).1
           have q1 := fun (y0 y1 y2 : Value) => (q y0 y1 y2).2.1
           have q2 := fun (y0 y1 y2 : Value) => (q y0 y1 y2).2.2
           clear q
           go_light
           (simp [results, Tryz.results14, go_sem, q0, q1, q2]; done))
      | (refine bodyPost_ret (v := .tuple #[.agg #[.int .u8 (((0, 0, ⟨#[]⟩, 8) : Int × Int × ByteArray × Int)).1, .int .u64 (((0, 0, ⟨#[]⟩, 8) : Int × Int × ByteArray × Int)).2.1, .string (((0, 0, ⟨#[]⟩, 8) : Int × Int × ByteArray × Int)).2.2.1], .int .i64 (((0, 0, ⟨#[]⟩, 8) : Int × Int × ByteArray × Int)).2.2.2]) ?hr rfl (OutV.mk' ((0, 0, ⟨#[]⟩, 8)) rfl (stay_bad _ _ _ _ (by decide)) ?hB)
         case hB => repeat (first | exact Below.refl _ _ | with_reducible apply b_al | (with_reducible refine b_st ?_ ?hg _; case hg => omega) | with_reducible apply b_dr | (with_reducible refine b_go ?_ (by assumption)))
         case hr =>
           have q := fun (y0 y1 y2 : Value) => set3 (g := w0.heap.size + 1) k6 y0 y1 y2
           have q0 := fun (y0 y1 y2 : Value) => (q y0 y1 y2).1
           have q1 := fun (y0 y1 y2 : Value) => (q y0 y1 y2).2.1
           have q2 := fun (y0 y1 y2 : Value) => (q y0 y1 y2).2.2
           clear q
           go_light
           (simp [results, Tryz.results14, go_sem, q0, q1, q2]; done))
      | (refine bodyPost_ret (v := .tuple #[.agg #[.int .u8 ((a, Go.bits .and .u64 (Go.bits .xor .u64 (IntKind.max .u64) b) (mostV a), (⟨#[]⟩ : ByteArray), (0 : Int))).1, .int .u64 ((a, Go.bits .and .u64 (Go.bits .xor .u64 (IntKind.max .u64) b) (mostV a), (⟨#[]⟩ : ByteArray), (0 : Int))).2.1, .string ((a, Go.bits .and .u64 (Go.bits .xor .u64 (IntKind.max .u64) b) (mostV a), (⟨#[]⟩ : ByteArray), (0 : Int))).2.2.1], .int .i64 ((a, Go.bits .and .u64 (Go.bits .xor .u64 (IntKind.max .u64) b) (mostV a), (⟨#[]⟩ : ByteArray), (0 : Int))).2.2.2]) ?hr rfl (OutV.mk' ((a, Go.bits .and .u64 (Go.bits .xor .u64 (IntKind.max .u64) b) (mostV a), ⟨#[]⟩, 0)) rfl ((row_stay (by assumption) hB.out).stay 0) ?hB)
         case hB => repeat (first | exact Below.refl _ _ | with_reducible apply b_al | (with_reducible refine b_st ?_ ?hg _; case hg => omega) | with_reducible apply b_dr | (with_reducible refine b_go ?_ (by assumption)))
         case hr =>
           have q := fun (y0 y1 y2 : Value) => set3 (g := w0.heap.size + 1) k6 y0 y1 y2
           have q0 := fun (y0 y1 y2 : Value) => (q y0 y1 y2).1
           have q1 := fun (y0 y1 y2 : Value) => (q y0 y1 y2).2.1
           have q2 := fun (y0 y1 y2 : Value) => (q y0 y1 y2).2.2
           clear q
           go_light
           (simp [results, Tryz.results14, go_sem, q0, q1, q2]; done))
theorem v_Turn (op a b : Int) (t : ByteArray) (hB0 : 0 ≤ b ∧ b < 18446744073709551616) (w0 : World) : Calls Tryz.prog 14 #[.int .i64 op, .agg #[.int .u8 a, .int .u64 b, .string t]] w0 fun e w' => ∃ r : Int × Int × ByteArray × Int, e = .returned (.tuple #[.agg #[.int .u8 (r).1, .int .u64 (r).2.1, .string (r).2.2.1], .int .i64 (r).2.2.2]) ∧ StayV r ∧ Below w0.heap.size w0 w' := by
  cases ha : mayB a b t with
  | false => exact v_TurnA op a b t hB0 ha w0
  | true => exact v_TurnB op a b t hB0 ha w0
end Go.Proofs.YtlmmkaddlflepaaGreatDoor.H
