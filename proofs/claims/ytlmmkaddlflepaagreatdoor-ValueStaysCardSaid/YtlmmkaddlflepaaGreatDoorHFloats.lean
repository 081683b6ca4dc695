/- Contracts of the program's comparisons and of its arithmetic on floats: what they answer without a fault may be. Condition: bits are 64. -/
import Derived.Test.YtlmmkaddlflepaaGreatDoorHStay
import Derived.Deep.RegionWith
namespace Go.Proofs.YtlmmkaddlflepaaGreatDoor.H
set_option linter.unusedSimpArgs false
set_option linter.unusedVariables false
open Go.RowKit Go.Proofs.YtlmmkaddlflepaaGreatDoor.Plain
set_option maxHeartbeats 3200000
set_option maxRecDepth 100000
attribute [local go_sem] ext_from ext_bits cell_isSome un_neg_float
/-- A value that may be. -/
def MayR (r : Int × Int × ByteArray) : Prop := mayB r.1 r.2.1 r.2.2 = true ∧ 0 ≤ r.2.1 ∧ r.2.1 < 18446744073709551616
theorem MayR.stay {r : Int × Int × ByteArray} (h : MayR r) (f : Int) : StayV (r.1, r.2.1, r.2.2, f) := fun _ => h
theorem v_BoolE (n : Bool) (w : World) : Calls Tryz.prog 21 #[.bool n] w fun e w' => ∃ r : Int × Int × ByteArray, e = .returned (.agg #[.int .u8 (r).1, .int .u64 (r).2.1, .string (r).2.2]) ∧ MayR r ∧ Below w.heap.size w w' :=
  (v_Bool n w).mono fun e w' ⟨he, hb⟩ => ⟨_, he, may_bool n, hb⟩
theorem v_LrealE (n : Nat) (h1 : n < 18446744073709551616) (w : World) : Calls Tryz.prog 23 #[.float .f64 n] w fun e w' => ∃ r : Int × Int × ByteArray, e = .returned (.agg #[.int .u8 (r).1, .int .u64 (r).2.1, .string (r).2.2]) ∧ MayR r ∧ Below w.heap.size w w' :=
  (v_Lreal n (by omega) w).mono fun e w' ⟨he, hb⟩ => ⟨_, he, by
    have := (lreal_stayK n 0 (by omega) (by omega)).1 rfl
    exact this, hb⟩
/-- An operation on floats gives some float; it may draw. -/
theorem float_op (op : BinOp) (hop : op = .add ∨ op = .sub ∨ op = .mul ∨ op = .quo) (x y : Nat) :
    (∃ r, r < 18446744073709551616 ∧ ∀ (W : World) (t : TypeId), (binOp op t (.float .f64 x) (.float .f64 y)).run Tryz.prog W = .ok (.float .f64 r) W) ∨
      (∃ F : World → Nat, (∀ W, F W < 18446744073709551616) ∧ ∀ (W : World) (t : TypeId), (binOp op t (.float .f64 x) (.float .f64 y)).run Tryz.prog W = .ok (.float .f64 (F W)) W.drew) := by
  cases h : floatBits op .f64 x y with
  | some r =>
    refine .inl ⟨r, ?_, fun W t => run_float_arith (P := Tryz.prog) W op t .f64 x y r h⟩
    have := floatBits_wf h
    simpa [Lit.wf] using this
  | none =>
    refine .inr ⟨fun w => (w.tape w.drawn (.nanBits .f64 x y) % 2) * 2 ^ 63 + 0x7ff0000000000000 + 1 + (w.tape w.drawn (.nanBits .f64 x y) / 2) % (2 ^ 52 - 1), fun W => ?_, fun W t => ?_⟩
    · generalize W.tape W.drawn (.nanBits .f64 x y) = q
      have a : q % 2 < 2 := Nat.mod_lt _ (by decide)
      have b : (q / 2) % (2 ^ 52 - 1) < 2 ^ 52 - 1 := Nat.mod_lt _ (by decide)
      simp only
      omega
    · rcases hop with rfl | rfl | rfl | rfl
      all_goals
        unfold floatBits at h
        simp only at h
        simp [binOp, Op.floatArith, h]
        rfl
theorem v_floats (op : Int) (x y : Nat) (w0 : World) : Calls Tryz.prog 45 #[.int .i64 op, .float .f64 x, .float .f64 y] w0 fun e w' => ∃ r : Int × Int × ByteArray × Int, e = .returned (.tuple #[.agg #[.int .u8 (r).1, .int .u64 (r).2.1, .string (r).2.2.1], .int .i64 (r).2.2.2]) ∧ StayV r ∧ Below w0.heap.size w0 w' := by
  have NL := fun n h W => v_LrealE n h W
  by_cases c1 : op = 1
  · subst c1
    rcases float_op .add (by simp) x y with ⟨n, hn, R⟩ | ⟨F, hF, R⟩
    all_goals
      go_enter Tryz.func45, Tryz.ntmps45
      go_wp2_with (first | (go_at_call 23; with_reducible refine (NL _ (by first | assumption | exact hF _) _).mono ?_; rintro e w1 ⟨r, rfl, hm, hb⟩; have z6 : w0.heap.size < w1.heap.size := (by have hx := hb.size; (try simp at hx); omega); have k6 : w1.heap[w0.heap.size]? = some (.cells #[.int .u8 0, .int .u64 0, .string ⟨#[]⟩] 25 (0, 0)) := (by repeat (first | assumption | (refine k_new ?_; simp; done) | apply k_al | with_reducible apply k_dr | (refine k_sn ?_ (by omega) _) | (refine k_go ?_ (by assumption)))); have f60 : w1.frozen? ⟨w0.heap.size, 0, none⟩ = false := frozen_of_row _ _ _ _ _ k6; have f61 : w1.frozen? ⟨w0.heap.size, 1, none⟩ = false := frozen_of_row _ _ _ _ _ k6; have f62 : w1.frozen? ⟨w0.heap.size, 2, none⟩ = false := frozen_of_row _ _ _ _ _ k6; have q60 : w1.cell? ⟨w0.heap.size, 0, none⟩ = some (.int .u8 0) := (k_cell k6 0).trans (by simp); have q61 : w1.cell? ⟨w0.heap.size, 1, none⟩ = some (.int .u64 0) := (k_cell k6 1).trans (by simp); have q62 : w1.cell? ⟨w0.heap.size, 2, none⟩ = some (.string ⟨#[]⟩) := (k_cell k6 2).trans (by simp)))
      clear NL
      refine bodyPost_ret (v := .tuple #[.agg #[.int .u8 ((r.1, r.2.1, r.2.2, (0 : Int))).1, .int .u64 ((r.1, r.2.1, r.2.2, (0 : Int))).2.1, .string ((r.1, r.2.1, r.2.2, (0 : Int))).2.2.1], .int .i64 ((r.1, r.2.1, r.2.2, (0 : Int))).2.2.2]) ?hr rfl ⟨(r.1, r.2.1, r.2.2, (0 : Int)), rfl, hm.stay 0, ?hB⟩
      case hB => repeat (first | exact Below.refl _ _ | with_reducible apply b_al | (with_reducible refine b_st ?_ ?hg _; case hg => omega) | with_reducible apply b_dr | (with_reducible refine b_go ?_ (by assumption)))
      case hr =>
        have q := fun (y0 y1 y2 : Value) => set3 (g := w0.heap.size) k6 y0 y1 y2
        have q0 := fun (y0 y1 y2 : Value) => (q y0 y1 y2).1
        have q1 := fun (y0 y1 y2 : Value) => (q y0 y1 y2).2.1
        have q2 := fun (y0 y1 y2 : Value) => (q y0 y1 y2).2.2
        clear q
        go_light
        (simp [results, Tryz.results45, go_sem, q0, q1, q2]; done)
  by_cases c2 : op = 2
  · subst c2
    rcases float_op .sub (by simp) x y with ⟨n, hn, R⟩ | ⟨F, hF, R⟩
    all_goals
      go_enter Tryz.func45, Tryz.ntmps45
      go_wp2_with (first | (go_at_call 23; with_reducible refine (NL _ (by first | assumption | exact hF _) _).mono ?_; rintro e w1 ⟨r, rfl, hm, hb⟩; have z6 : w0.heap.size < w1.heap.size := (by have hx := hb.size; (try simp at hx); omega); have k6 : w1.heap[w0.heap.size]? = some (.cells #[.int .u8 0, .int .u64 0, .string ⟨#[]⟩] 25 (0, 0)) := (by repeat (first | assumption | (refine k_new ?_; simp; done) | apply k_al | with_reducible apply k_dr | (refine k_sn ?_ (by omega) _) | (refine k_go ?_ (by assumption)))); have f60 : w1.frozen? ⟨w0.heap.size, 0, none⟩ = false := frozen_of_row _ _ _ _ _ k6; have f61 : w1.frozen? ⟨w0.heap.size, 1, none⟩ = false := frozen_of_row _ _ _ _ _ k6; have f62 : w1.frozen? ⟨w0.heap.size, 2, none⟩ = false := frozen_of_row _ _ _ _ _ k6; have q60 : w1.cell? ⟨w0.heap.size, 0, none⟩ = some (.int .u8 0) := (k_cell k6 0).trans (by simp); have q61 : w1.cell? ⟨w0.heap.size, 1, none⟩ = some (.int .u64 0) := (k_cell k6 1).trans (by simp); have q62 : w1.cell? ⟨w0.heap.size, 2, none⟩ = some (.string ⟨#[]⟩) := (k_cell k6 2).trans (by simp)))
      clear NL
      refine bodyPost_ret (v := .tuple #[.agg #[.int .u8 ((r.1, r.2.1, r.2.2, (0 : Int))).1, .int .u64 ((r.1, r.2.1, r.2.2, (0 : Int))).2.1, .string ((r.1, r.2.1, r.2.2, (0 : Int))).2.2.1], .int .i64 ((r.1, r.2.1, r.2.2, (0 : Int))).2.2.2]) ?hr rfl ⟨(r.1, r.2.1, r.2.2, (0 : Int)), rfl, hm.stay 0, ?hB⟩
      case hB => repeat (first | exact Below.refl _ _ | with_reducible apply b_al | (with_reducible refine b_st ?_ ?hg _; case hg => omega) | with_reducible apply b_dr | (with_reducible refine b_go ?_ (by assumption)))
      case hr =>
        have q := fun (y0 y1 y2 : Value) => set3 (g := w0.heap.size) k6 y0 y1 y2
        have q0 := fun (y0 y1 y2 : Value) => (q y0 y1 y2).1
        have q1 := fun (y0 y1 y2 : Value) => (q y0 y1 y2).2.1
        have q2 := fun (y0 y1 y2 : Value) => (q y0 y1 y2).2.2
        clear q
        go_light
        (simp [results, Tryz.results45, go_sem, q0, q1, q2]; done)
  by_cases c3 : op = 3
  · subst c3
    rcases float_op .mul (by simp) x y with ⟨n, hn, R⟩ | ⟨F, hF, R⟩
    all_goals
      go_enter Tryz.func45, Tryz.ntmps45
      go_wp2_with (first | (go_at_call 23; with_reducible refine (NL _ (by first | assumption | exact hF _) _).mono ?_; rintro e w1 ⟨r, rfl, hm, hb⟩; have z6 : w0.heap.size < w1.heap.size := (by have hx := hb.size; (try simp at hx); omega); have k6 : w1.heap[w0.heap.size]? = some (.cells #[.int .u8 0, .int .u64 0, .string ⟨#[]⟩] 25 (0, 0)) := (by repeat (first | assumption | (refine k_new ?_; simp; done) | apply k_al | with_reducible apply k_dr | (refine k_sn ?_ (by omega) _) | (refine k_go ?_ (by assumption)))); have f60 : w1.frozen? ⟨w0.heap.size, 0, none⟩ = false := frozen_of_row _ _ _ _ _ k6; have f61 : w1.frozen? ⟨w0.heap.size, 1, none⟩ = false := frozen_of_row _ _ _ _ _ k6; have f62 : w1.frozen? ⟨w0.heap.size, 2, none⟩ = false := frozen_of_row _ _ _ _ _ k6; have q60 : w1.cell? ⟨w0.heap.size, 0, none⟩ = some (.int .u8 0) := (k_cell k6 0).trans (by simp); have q61 : w1.cell? ⟨w0.heap.size, 1, none⟩ = some (.int .u64 0) := (k_cell k6 1).trans (by simp); have q62 : w1.cell? ⟨w0.heap.size, 2, none⟩ = some (.string ⟨#[]⟩) := (k_cell k6 2).trans (by simp)))
      clear NL
      refine bodyPost_ret (v := .tuple #[.agg #[.int .u8 ((r.1, r.2.1, r.2.2, (0 : Int))).1, .int .u64 ((r.1, r.2.1, r.2.2, (0 : Int))).2.1, .string ((r.1, r.2.1, r.2.2, (0 : Int))).2.2.1], .int .i64 ((r.1, r.2.1, r.2.2, (0 : Int))).2.2.2]) ?hr rfl ⟨(r.1, r.2.1, r.2.2, (0 : Int)), rfl, hm.stay 0, ?hB⟩
      case hB => repeat (first | exact Below.refl _ _ | with_reducible apply b_al | (with_reducible refine b_st ?_ ?hg _; case hg => omega) | with_reducible apply b_dr | (with_reducible refine b_go ?_ (by assumption)))
      case hr =>
        have q := fun (y0 y1 y2 : Value) => set3 (g := w0.heap.size) k6 y0 y1 y2
        have q0 := fun (y0 y1 y2 : Value) => (q y0 y1 y2).1
        have q1 := fun (y0 y1 y2 : Value) => (q y0 y1 y2).2.1
        have q2 := fun (y0 y1 y2 : Value) => (q y0 y1 y2).2.2
        clear q
        go_light
        (simp [results, Tryz.results45, go_sem, q0, q1, q2]; done)
  by_cases c4 : op = 4
  · subst c4
    rcases float_op .quo (by simp) x y with ⟨n, hn, R⟩ | ⟨F, hF, R⟩
    all_goals
      go_enter Tryz.func45, Tryz.ntmps45
      go_wp2_with (first | (go_at_call 23; with_reducible refine (NL _ (by first | assumption | exact hF _) _).mono ?_; rintro e w1 ⟨r, rfl, hm, hb⟩; have z6 : w0.heap.size < w1.heap.size := (by have hx := hb.size; (try simp at hx); omega); have k6 : w1.heap[w0.heap.size]? = some (.cells #[.int .u8 0, .int .u64 0, .string ⟨#[]⟩] 25 (0, 0)) := (by repeat (first | assumption | (refine k_new ?_; simp; done) | apply k_al | with_reducible apply k_dr | (refine k_sn ?_ (by omega) _) | (refine k_go ?_ (by assumption)))); have f60 : w1.frozen? ⟨w0.heap.size, 0, none⟩ = false := frozen_of_row _ _ _ _ _ k6; have f61 : w1.frozen? ⟨w0.heap.size, 1, none⟩ = false := frozen_of_row _ _ _ _ _ k6; have f62 : w1.frozen? ⟨w0.heap.size, 2, none⟩ = false := frozen_of_row _ _ _ _ _ k6; have q60 : w1.cell? ⟨w0.heap.size, 0, none⟩ = some (.int .u8 0) := (k_cell k6 0).trans (by simp); have q61 : w1.cell? ⟨w0.heap.size, 1, none⟩ = some (.int .u64 0) := (k_cell k6 1).trans (by simp); have q62 : w1.cell? ⟨w0.heap.size, 2, none⟩ = some (.string ⟨#[]⟩) := (k_cell k6 2).trans (by simp)))
      clear NL
      refine bodyPost_ret (v := .tuple #[.agg #[.int .u8 ((r.1, r.2.1, r.2.2, (0 : Int))).1, .int .u64 ((r.1, r.2.1, r.2.2, (0 : Int))).2.1, .string ((r.1, r.2.1, r.2.2, (0 : Int))).2.2.1], .int .i64 ((r.1, r.2.1, r.2.2, (0 : Int))).2.2.2]) ?hr rfl ⟨(r.1, r.2.1, r.2.2, (0 : Int)), rfl, hm.stay 0, ?hB⟩
      case hB => repeat (first | exact Below.refl _ _ | with_reducible apply b_al | (with_reducible refine b_st ?_ ?hg _; case hg => omega) | with_reducible apply b_dr | (with_reducible refine b_go ?_ (by assumption)))
      case hr =>
        have q := fun (y0 y1 y2 : Value) => set3 (g := w0.heap.size) k6 y0 y1 y2
        have q0 := fun (y0 y1 y2 : Value) => (q y0 y1 y2).1
        have q1 := fun (y0 y1 y2 : Value) => (q y0 y1 y2).2.1
        have q2 := fun (y0 y1 y2 : Value) => (q y0 y1 y2).2.2
        clear q
        go_light
        (simp [results, Tryz.results45, go_sem, q0, q1, q2]; done)
  go_enter Tryz.func45, Tryz.ntmps45
  go_wp2
  all_goals
    refine bodyPost_ret (v := .tuple #[.agg #[.int .u8 (((0, 0, ⟨#[]⟩, 8) : Int × Int × ByteArray × Int)).1, .int .u64 (((0, 0, ⟨#[]⟩, 8) : Int × Int × ByteArray × Int)).2.1, .string (((0, 0, ⟨#[]⟩, 8) : Int × Int × ByteArray × Int)).2.2.1], .int .i64 (((0, 0, ⟨#[]⟩, 8) : Int × Int × ByteArray × Int)).2.2.2]) ?hr rfl ⟨(0, 0, ⟨#[]⟩, 8), rfl, stay_bad _ _ _ _ (by decide), ?hB⟩
    case hB => repeat (first | exact Below.refl _ _ | with_reducible apply b_al | (with_reducible refine b_st ?_ ?hg _; case hg => omega) | with_reducible apply b_dr | (with_reducible refine b_go ?_ (by assumption)))
    case hr =>
      go_light
      (simp [results, Tryz.results45, go_sem]; done)
theorem v_order (a b c d : Int) (t u : ByteArray) (w0 : World) : Calls Tryz.prog 70 #[.agg #[.int .u8 a, .int .u64 b, .string t], .agg #[.int .u8 c, .int .u64 d, .string u]] w0 fun e w' => ∃ n, e = .returned (.int .i64 n) ∧ Below w0.heap.size w0 w' := by
  go_enter Tryz.func70, Tryz.ntmps70
  go_wp2_with (first | (go_at_call 22; refine (v_signed _ _).mono ?_; rintro e w' ⟨rfl, rfl⟩))
  all_goals (go_ret; exact ⟨_, rfl, by repeat (first | exact Below.refl _ _ | with_reducible apply b_al | (with_reducible refine b_st ?_ ?hg _; case hg => omega) | with_reducible apply b_dr | (with_reducible refine b_go ?_ (by assumption)))⟩)
theorem v_fcomp (op : Int) (x y : Nat) (w0 : World) : Calls Tryz.prog 69 #[.int .i64 op, .float .f64 x, .float .f64 y] w0 fun e w' => ∃ r : Int × Int × ByteArray, e = .returned (.agg #[.int .u8 (r).1, .int .u64 (r).2.1, .string (r).2.2]) ∧ MayR r ∧ Below w0.heap.size w0 w' := by
  have NB := fun n W => v_BoolE n W
  go_enter Tryz.func69, Tryz.ntmps69
  go_wp2_with (first | (go_at_call 21; with_reducible refine (NB _ _).mono ?_; rintro e w1 ⟨r, rfl, hm, hb⟩; have z6 : w0.heap.size < w1.heap.size := (by have hx := hb.size; (try simp at hx); omega); have k6 : w1.heap[w0.heap.size]? = some (.cells #[.int .u8 0, .int .u64 0, .string ⟨#[]⟩] 25 (0, 0)) := (by repeat (first | assumption | (refine k_new ?_; simp; done) | apply k_al | with_reducible apply k_dr | (refine k_sn ?_ (by omega) _) | (refine k_go ?_ (by assumption)))); have f60 : w1.frozen? ⟨w0.heap.size, 0, none⟩ = false := frozen_of_row _ _ _ _ _ k6; have f61 : w1.frozen? ⟨w0.heap.size, 1, none⟩ = false := frozen_of_row _ _ _ _ _ k6; have f62 : w1.frozen? ⟨w0.heap.size, 2, none⟩ = false := frozen_of_row _ _ _ _ _ k6; have q60 : w1.cell? ⟨w0.heap.size, 0, none⟩ = some (.int .u8 0) := (k_cell k6 0).trans (by simp); have q61 : w1.cell? ⟨w0.heap.size, 1, none⟩ = some (.int .u64 0) := (k_cell k6 1).trans (by simp); have q62 : w1.cell? ⟨w0.heap.size, 2, none⟩ = some (.string ⟨#[]⟩) := (k_cell k6 2).trans (by simp)))
  all_goals
    clear NB
    refine bodyPost_ret (v := .agg #[.int .u8 (r).1, .int .u64 (r).2.1, .string (r).2.2]) ?hr rfl ⟨r, rfl, hm, ?hB⟩
    case hB => repeat (first | exact Below.refl _ _ | with_reducible apply b_al | (with_reducible refine b_st ?_ ?hg _; case hg => omega) | with_reducible apply b_dr | (with_reducible refine b_go ?_ (by assumption)))
    case hr =>
      have q := fun (y0 y1 y2 : Value) => set3 (g := w0.heap.size) k6 y0 y1 y2
      have q0 := fun (y0 y1 y2 : Value) => (q y0 y1 y2).1
      have q1 := fun (y0 y1 y2 : Value) => (q y0 y1 y2).2.1
      have q2 := fun (y0 y1 y2 : Value) => (q y0 y1 y2).2.2
      clear q
      go_light
      (simp [results, Tryz.results69, go_sem, q0, q1, q2]; done)
end Go.Proofs.YtlmmkaddlflepaaGreatDoor.H
