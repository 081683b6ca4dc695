/- Contracts of the program's integers and spans: what they answer without a fault may be. Condition: bits are 64. -/
import Derived.Test.YtlmmkaddlflepaaGreatDoorHArith
import Derived.Test.YtlmmkaddlflepaaGreatDoorHStay
import Derived.Test.YtlmmkaddlflepaaGreatDoorHSizedX
import Derived.Deep.RegionWith
import Derived.Deep.RegionHeld3
import Derived.Deep.CutRange
namespace Go.Proofs.YtlmmkaddlflepaaGreatDoor.H
set_option linter.unusedSimpArgs false
set_option linter.unusedVariables false
open Go.RowKit Go.Proofs.YtlmmkaddlflepaaGreatDoor.Plain
set_option maxHeartbeats 3200000
set_option maxRecDepth 100000
attribute [local go_sem] ext_from ext_bits cell_isSome un_neg_float
theorem sz_r (k b : Int) (h0 : 0 ≤ b) (h1 : b < 18446744073709551616) : 0 ≤ (szV k b).2 ∧ (szV k b).2 < 18446744073709551616 := by unfold szV; split <;> simp only <;> omega
theorem u_rng (x : Int) : 0 ≤ IntKind.u64.wrap x ∧ IntKind.u64.wrap x < 18446744073709551616 := by rw [wrap_u64]; omega
theorem t_rng {s t : Int} (h : 0 ≤ s ∧ s < 18446744073709551616) (g : 0 ≤ t ∧ t < 18446744073709551616) : 0 ≤ s.tmod t ∧ s.tmod t < 18446744073709551616 := by
  rw [Int.tmod_eq_emod_of_nonneg h.1]
  by_cases c : t = 0
  · subst c; simpa using h
  · have a := Int.emod_nonneg s c
    have b := Int.emod_lt_of_pos s (show 0 < t by omega)
    omega
theorem v_plusE (m : Bool) (s : Int) (n : Bool) (t : Int) (h0 : 0 ≤ s ∧ s < 18446744073709551616) (g0 : 0 ≤ t ∧ t < 18446744073709551616) (w : World) : Calls Tryz.prog 71 #[.agg #[.bool m, .int .u64 s], .agg #[.bool n, .int .u64 t]] w fun e w' => ∃ x y z, e = .returned (.tuple #[.agg #[.bool x, .int .u64 y], .bool z]) ∧ (0 ≤ y ∧ y < 18446744073709551616) ∧ Below w.heap.size w w' :=
  (v_plus m s n t h0.1 h0.2 g0.1 g0.2 w).mono fun e w' ⟨he, hb⟩ => ⟨_, _, _, he, plus_rng m s n t h0.1 h0.2 g0.1 g0.2, hb⟩
theorem v_timesE (m : Bool) (s : Int) (n : Bool) (t : Int) (h0 : 0 ≤ s) (w : World) : Calls Tryz.prog 72 #[.agg #[.bool m, .int .u64 s], .agg #[.bool n, .int .u64 t]] w fun e w' => ∃ x y z, e = .returned (.tuple #[.agg #[.bool x, .int .u64 y], .bool z]) ∧ (0 ≤ y ∧ y < 18446744073709551616) ∧ Below w.heap.size w w' :=
  (v_times m s n t h0 w).mono fun e w' ⟨he, hb⟩ => ⟨_, _, _, he, times_rng m s n t, hb⟩
theorem v_ofE (m : Bool) (s k f : Int) (h0 : 0 ≤ s ∧ s < 18446744073709551616) (hf : f ≠ 0) (w : World) : Calls Tryz.prog 20 #[.agg #[.bool m, .int .u64 s], .int .u8 k, .int .i64 f] w fun e w' => ∃ r : Int × Int × ByteArray × Int, e = .returned (.tuple #[.agg #[.int .u8 (r).1, .int .u64 (r).2.1, .string (r).2.2.1], .int .i64 (r).2.2.2]) ∧ StayV r ∧ Below w.heap.size w w' :=
  (v_of m s k f h0.1 h0.2 w).mono fun e w' ⟨he, hb⟩ => ⟨_, he, of_stay m s k f h0.1 h0.2 hf, hb⟩
theorem v_ints (op a b c d : Int) (t u : ByteArray) (h0 : 0 ≤ b) (h1 : b < 18446744073709551616) (g0 : 0 ≤ d) (g1 : d < 18446744073709551616) (w0 : World) : Calls Tryz.prog 44 #[.int .i64 op, .agg #[.int .u8 a, .int .u64 b, .string t], .agg #[.int .u8 c, .int .u64 d, .string u]] w0 fun e w' => ∃ r : Int × Int × ByteArray × Int, e = .returned (.tuple #[.agg #[.int .u8 (r).1, .int .u64 (r).2.1, .string (r).2.2.1], .int .i64 (r).2.2.2]) ∧ StayV r ∧ Below w0.heap.size w0 w' := by
  obtain ⟨m1, s1, e1⟩ : ∃ m s, szV a b = (m, s) := ⟨_, _, rfl⟩
  obtain ⟨m2, s2, e2⟩ : ∃ m s, szV c d = (m, s) := ⟨_, _, rfl⟩
  have R1 := Lib.hid (sz_r a b h0 h1)
  have R2 := Lib.hid (sz_r c d g0 g1)
  have N1 := fun W => v_sizedX a b t W
  have N2 := fun W => v_sizedX c d u W
  rw [e1] at N1 R1
  rw [e2] at N2 R2
  simp only at N1 N2
  clear e1 e2
  clear h0 h1 g0 g1
  go_enter Tryz.func44, Tryz.ntmps44
  go_upto_region 1 with fail
  go_cut [8, 9] from 12 to 15 (fun s8 s9 wx => ∃ g8 g9 m1 m2 s1 s2, s8 = .pointer (some ⟨g8, 0, none⟩) ∧ s9 = .pointer (some ⟨g9, 0, none⟩) ∧ g8 ≠ g9 ∧ w0.heap.size + 2 < g8 ∧ w0.heap.size + 2 < g9 ∧ Below (w0.heap.size + 3) (((w0.alloc (.cells #[.int .u8 a, .int .u64 b, .string t] 25 (0, 0))).alloc (.cells #[.int .u8 c, .int .u64 d, .string u] 25 (0, 0))).alloc (.cells #[.int .u8 0, .int .u64 0, .string ⟨#[]⟩] 25 (0, 0))) wx ∧ wx.heap[g8]? = some (.cells #[.bool m1, .int .u64 s1] 38 (0, 0)) ∧ wx.heap[g9]? = some (.cells #[.bool m2, .int .u64 s2] 38 (0, 0)) ∧ (0 ≤ s1 ∧ s1 < 18446744073709551616) ∧ (0 ≤ s2 ∧ s2 < 18446744073709551616))
  case first =>
    go_region_held3 (fun w' => w'.cell? ⟨w0.heap.size, 0, none⟩ = some (.int .u8 a) ∧ w'.cell? ⟨w0.heap.size, 1, none⟩ = some (.int .u64 b) ∧ w'.cell? ⟨w0.heap.size, 2, none⟩ = some (.string t) ∧ w'.cell? ⟨w0.heap.size + 1, 0, none⟩ = some (.int .u8 c) ∧ w'.cell? ⟨w0.heap.size + 1, 1, none⟩ = some (.int .u64 d) ∧ w'.cell? ⟨w0.heap.size + 1, 2, none⟩ = some (.string u)) (first | (refine ⟨?_, ?_, ?_, ?_, ?_, ?_⟩ <;> exact (k_cell (by repeat (first | (refine k_new ?_; simp; done) | apply k_al | with_reducible apply k_dr)) _).trans (by simp)) | go_keep) (first | (go_at_call 27; ((with_reducible refine (N1 _).mono ?_); rintro e w1 ⟨rfl, rfl⟩)) | (go_at_call 27; ((with_reducible refine (N2 _).mono ?_); rintro e w2 ⟨rfl, rfl⟩)))
    all_goals
      go_wp2_with fail
      go_meet
      clear N1 N2
      go_light
      refine ⟨_, _, m1, m2, s1, s2, rfl, rfl, by omega, by omega, by omega, ?_, ?_, ?_, R1.out, R2.out⟩
      · repeat (first | exact Below.refl _ _ | refine Below.drew ?_ | refine Below.alloc ?_ (by first | (simp; done) | (simp; omega)) _)
      · repeat (first | (refine k_new ?_; simp; done) | apply k_al | with_reducible apply k_dr)
      · repeat (first | (refine k_new ?_; simp; done) | apply k_al | with_reducible apply k_dr)
  case rest =>
    obtain ⟨g8, g9, m1, m2, s1, s2, rfl, rfl, hne, l8, l9, hbel, k8, k9, r1, r2⟩ := hcut
    clear N1 N2 R1 R2
    have z0 : w0.heap.size + 3 ≤ wc.heap.size := by have hx := hbel.size; simpa using hx
    have z4 : w0.heap.size < wc.heap.size := by omega
    have z6 : w0.heap.size + 1 + 1 < wc.heap.size := by omega
    have hbc : Below w0.heap.size w0 wc := (b_al (b_al (b_al (Below.refl _ _) _) _) _).trans (hbel.mono (by omega))
    have k4 : wc.heap[w0.heap.size]? = some (.cells #[.int .u8 a, .int .u64 b, .string t] 25 (0, 0)) := (hbel.block _ (by omega)).trans (k_al (k_al (k_new rfl) _) _)
    have k6 : wc.heap[w0.heap.size + 1 + 1]? = some (.cells #[.int .u8 0, .int .u64 0, .string ⟨#[]⟩] 25 (0, 0)) := (hbel.block _ (by omega)).trans (k_new (by simp))
    have z8 : g8 < wc.heap.size := k_lt k8
    have z9 : g9 < wc.heap.size := k_lt k9
    have q4 : wc.cell? ⟨w0.heap.size, 0, none⟩ = some (.int .u8 a) := (k_cell k4 0).trans (by simp)
    have q60 : wc.cell? ⟨w0.heap.size + 1 + 1, 0, none⟩ = some (.int .u8 0) := (k_cell k6 0).trans (by simp)
    have q61 : wc.cell? ⟨w0.heap.size + 1 + 1, 1, none⟩ = some (.int .u64 0) := (k_cell k6 1).trans (by simp)
    have q62 : wc.cell? ⟨w0.heap.size + 1 + 1, 2, none⟩ = some (.string ⟨#[]⟩) := (k_cell k6 2).trans (by simp)
    have q80 : wc.cell? ⟨g8, 0, none⟩ = some (.bool m1) := (k_cell k8 0).trans (by simp)
    have q81 : wc.cell? ⟨g8, 1, none⟩ = some (.int .u64 s1) := (k_cell k8 1).trans (by simp)
    have q90 : wc.cell? ⟨g9, 0, none⟩ = some (.bool m2) := (k_cell k9 0).trans (by simp)
    have q91 : wc.cell? ⟨g9, 1, none⟩ = some (.int .u64 s2) := (k_cell k9 1).trans (by simp)
    have f90 : wc.frozen? ⟨g9, 0, none⟩ = false := frozen_of_row _ _ _ _ _ k9
    have f60 : wc.frozen? ⟨w0.heap.size + 1 + 1, 0, none⟩ = false := frozen_of_row _ _ _ _ _ k6
    have f61 : wc.frozen? ⟨w0.heap.size + 1 + 1, 1, none⟩ = false := frozen_of_row _ _ _ _ _ k6
    have f62 : wc.frozen? ⟨w0.heap.size + 1 + 1, 2, none⟩ = false := frozen_of_row _ _ _ _ _ k6
    have hne' : g9 ≠ g8 := fun e => hne e.symm
    clear hbel
    have NP := fun m n W => v_plusE m s1 n s2 r1 r2 W
    have NT := fun m n W => v_timesE m s1 n s2 r1.1 W
    have NO := fun m s h W => v_ofE m s a 1 h (by decide) W
    have H1 := Lib.hid r1
    have H2 := Lib.hid r2
    clear r1 r2
    go_wp2_with (first | (go_at_call 71; with_reducible refine (NP _ _ _).mono ?_; rintro e w1 ⟨m3, s3, ok, rfl, hr3, hb⟩; have R3 := Lib.hid hr3; clear hr3; have z4 : w0.heap.size < w1.heap.size := (by have hx := hb.size; (try simp at hx); omega); have z6 : w0.heap.size + 1 + 1 < w1.heap.size := (by have hx := hb.size; (try simp at hx); omega); have zz : wc.heap.size < w1.heap.size := (by have hx := hb.size; (try simp at hx); omega); have k4 : w1.heap[w0.heap.size]? = some (.cells #[.int .u8 a, .int .u64 b, .string t] 25 (0, 0)) := (by repeat (first | assumption | (refine k_new ?_; simp; done) | apply k_al | with_reducible apply k_dr | (refine k_sn ?_ (by omega) _) | (refine k_go ?_ (by assumption)))); have k6 : w1.heap[w0.heap.size + 1 + 1]? = some (.cells #[.int .u8 0, .int .u64 0, .string ⟨#[]⟩] 25 (0, 0)) := (by repeat (first | assumption | (refine k_new ?_; simp; done) | apply k_al | with_reducible apply k_dr | (refine k_sn ?_ (by omega) _) | (refine k_go ?_ (by assumption)))); have kz : w1.heap[wc.heap.size]? = some (.cells #[.bool false, .int .u64 0] 38 (0, 0)) := (by repeat (first | assumption | (refine k_new ?_; simp; done) | apply k_al | with_reducible apply k_dr | (refine k_sn ?_ (by omega) _) | (refine k_go ?_ (by assumption)))); have q4 : w1.cell? ⟨w0.heap.size, 0, none⟩ = some (.int .u8 a) := (k_cell k4 0).trans (by simp); have qz0 : w1.cell? ⟨wc.heap.size, 0, none⟩ = some (.bool false) := (k_cell kz 0).trans (by simp); have qz1 : w1.cell? ⟨wc.heap.size, 1, none⟩ = some (.int .u64 0) := (k_cell kz 1).trans (by simp); have fz0 : w1.frozen? ⟨wc.heap.size, 0, none⟩ = false := frozen_of_row _ _ _ _ _ kz; have fz1 : w1.frozen? ⟨wc.heap.size, 1, none⟩ = false := frozen_of_row _ _ _ _ _ kz; have f60 : w1.frozen? ⟨w0.heap.size + 1 + 1, 0, none⟩ = false := frozen_of_row _ _ _ _ _ k6; have f61 : w1.frozen? ⟨w0.heap.size + 1 + 1, 1, none⟩ = false := frozen_of_row _ _ _ _ _ k6; have f62 : w1.frozen? ⟨w0.heap.size + 1 + 1, 2, none⟩ = false := frozen_of_row _ _ _ _ _ k6; have q60 : w1.cell? ⟨w0.heap.size + 1 + 1, 0, none⟩ = some (.int .u8 0) := (k_cell k6 0).trans (by simp); have q61 : w1.cell? ⟨w0.heap.size + 1 + 1, 1, none⟩ = some (.int .u64 0) := (k_cell k6 1).trans (by simp); have q62 : w1.cell? ⟨w0.heap.size + 1 + 1, 2, none⟩ = some (.string ⟨#[]⟩) := (k_cell k6 2).trans (by simp)) | (go_at_call 72; with_reducible refine (NT _ _ _).mono ?_; rintro e w1 ⟨m3, s3, ok, rfl, hr3, hb⟩; have R3 := Lib.hid hr3; clear hr3; have z4 : w0.heap.size < w1.heap.size := (by have hx := hb.size; (try simp at hx); omega); have z6 : w0.heap.size + 1 + 1 < w1.heap.size := (by have hx := hb.size; (try simp at hx); omega); have zz : wc.heap.size < w1.heap.size := (by have hx := hb.size; (try simp at hx); omega); have k4 : w1.heap[w0.heap.size]? = some (.cells #[.int .u8 a, .int .u64 b, .string t] 25 (0, 0)) := (by repeat (first | assumption | (refine k_new ?_; simp; done) | apply k_al | with_reducible apply k_dr | (refine k_sn ?_ (by omega) _) | (refine k_go ?_ (by assumption)))); have k6 : w1.heap[w0.heap.size + 1 + 1]? = some (.cells #[.int .u8 0, .int .u64 0, .string ⟨#[]⟩] 25 (0, 0)) := (by repeat (first | assumption | (refine k_new ?_; simp; done) | apply k_al | with_reducible apply k_dr | (refine k_sn ?_ (by omega) _) | (refine k_go ?_ (by assumption)))); have kz : w1.heap[wc.heap.size]? = some (.cells #[.bool false, .int .u64 0] 38 (0, 0)) := (by repeat (first | assumption | (refine k_new ?_; simp; done) | apply k_al | with_reducible apply k_dr | (refine k_sn ?_ (by omega) _) | (refine k_go ?_ (by assumption)))); have q4 : w1.cell? ⟨w0.heap.size, 0, none⟩ = some (.int .u8 a) := (k_cell k4 0).trans (by simp); have qz0 : w1.cell? ⟨wc.heap.size, 0, none⟩ = some (.bool false) := (k_cell kz 0).trans (by simp); have qz1 : w1.cell? ⟨wc.heap.size, 1, none⟩ = some (.int .u64 0) := (k_cell kz 1).trans (by simp); have fz0 : w1.frozen? ⟨wc.heap.size, 0, none⟩ = false := frozen_of_row _ _ _ _ _ kz; have fz1 : w1.frozen? ⟨wc.heap.size, 1, none⟩ = false := frozen_of_row _ _ _ _ _ kz; have f60 : w1.frozen? ⟨w0.heap.size + 1 + 1, 0, none⟩ = false := frozen_of_row _ _ _ _ _ k6; have f61 : w1.frozen? ⟨w0.heap.size + 1 + 1, 1, none⟩ = false := frozen_of_row _ _ _ _ _ k6; have f62 : w1.frozen? ⟨w0.heap.size + 1 + 1, 2, none⟩ = false := frozen_of_row _ _ _ _ _ k6; have q60 : w1.cell? ⟨w0.heap.size + 1 + 1, 0, none⟩ = some (.int .u8 0) := (k_cell k6 0).trans (by simp); have q61 : w1.cell? ⟨w0.heap.size + 1 + 1, 1, none⟩ = some (.int .u64 0) := (k_cell k6 1).trans (by simp); have q62 : w1.cell? ⟨w0.heap.size + 1 + 1, 2, none⟩ = some (.string ⟨#[]⟩) := (k_cell k6 2).trans (by simp)) | (go_at_call 20; with_reducible refine (NO _ _ (by first | exact R3.out | exact u_rng _ | exact t_rng H1.out H2.out) _).mono ?_; rintro e w2 ⟨r, rfl, hst, hb2⟩; have z6 : w0.heap.size + 1 + 1 < w2.heap.size := (by have hx := hb2.size; (try simp at hx); omega); have k6 : w2.heap[w0.heap.size + 1 + 1]? = some (.cells #[.int .u8 0, .int .u64 0, .string ⟨#[]⟩] 25 (0, 0)) := (by repeat (first | assumption | (refine k_new ?_; simp; done) | apply k_al | with_reducible apply k_dr | (refine k_sn ?_ (by omega) _) | (refine k_go ?_ (by assumption)))); have f60 : w2.frozen? ⟨w0.heap.size + 1 + 1, 0, none⟩ = false := frozen_of_row _ _ _ _ _ k6; have f61 : w2.frozen? ⟨w0.heap.size + 1 + 1, 1, none⟩ = false := frozen_of_row _ _ _ _ _ k6; have f62 : w2.frozen? ⟨w0.heap.size + 1 + 1, 2, none⟩ = false := frozen_of_row _ _ _ _ _ k6; have q60 : w2.cell? ⟨w0.heap.size + 1 + 1, 0, none⟩ = some (.int .u8 0) := (k_cell k6 0).trans (by simp); have q61 : w2.cell? ⟨w0.heap.size + 1 + 1, 1, none⟩ = some (.int .u64 0) := (k_cell k6 1).trans (by simp); have q62 : w2.cell? ⟨w0.heap.size + 1 + 1, 2, none⟩ = some (.string ⟨#[]⟩) := (k_cell k6 2).trans (by simp)))
    all_goals (clear NP NT)
    all_goals (try (have hz : (s2 == 0) = false := (by assumption)
                    have hz2 : ¬ s2 = 0 := (by simpa using hz)
                    go_region
                    go_wp2_with (first | (go_at_call 20; with_reducible refine (NO _ _ (by first | exact R3.out | exact u_rng _ | exact t_rng H1.out H2.out) _).mono ?_; rintro e w2 ⟨r, rfl, hst, hb2⟩; have z6 : w0.heap.size + 1 + 1 < w2.heap.size := (by have hx := hb2.size; (try simp at hx); omega); have k6 : w2.heap[w0.heap.size + 1 + 1]? = some (.cells #[.int .u8 0, .int .u64 0, .string ⟨#[]⟩] 25 (0, 0)) := (by repeat (first | assumption | (refine k_new ?_; simp; done) | apply k_al | with_reducible apply k_dr | (refine k_sn ?_ (by omega) _) | (refine k_go ?_ (by assumption)))); have f60 : w2.frozen? ⟨w0.heap.size + 1 + 1, 0, none⟩ = false := frozen_of_row _ _ _ _ _ k6; have f61 : w2.frozen? ⟨w0.heap.size + 1 + 1, 1, none⟩ = false := frozen_of_row _ _ _ _ _ k6; have f62 : w2.frozen? ⟨w0.heap.size + 1 + 1, 2, none⟩ = false := frozen_of_row _ _ _ _ _ k6; have q60 : w2.cell? ⟨w0.heap.size + 1 + 1, 0, none⟩ = some (.int .u8 0) := (k_cell k6 0).trans (by simp); have q61 : w2.cell? ⟨w0.heap.size + 1 + 1, 1, none⟩ = some (.int .u64 0) := (k_cell k6 1).trans (by simp); have q62 : w2.cell? ⟨w0.heap.size + 1 + 1, 2, none⟩ = some (.string ⟨#[]⟩) := (k_cell k6 2).trans (by simp)))))
    all_goals (clear NO)
    all_goals first
      | (refine bodyPost_ret (v := .tuple #[.agg #[.int .u8 (r).1, .int .u64 (r).2.1, .string (r).2.2.1], .int .i64 (r).2.2.2]) ?hr rfl ⟨r, rfl, hst, ?hB⟩
         case hB => repeat (first | exact Below.refl _ _ | exact hbc | with_reducible apply b_al | (with_reducible refine b_st ?_ ?hg _; case hg => omega) | with_reducible apply b_dr | (with_reducible refine b_go ?_ (by assumption)))
         case hr =>
           have q := fun (y0 y1 y2 : Value) => set3 (g := w0.heap.size + 1 + 1) k6 y0 y1 y2
           have q0 := fun (y0 y1 y2 : Value) => (q y0 y1 y2).1
           have q1 := fun (y0 y1 y2 : Value) => (q y0 y1 y2).2.1
           have q2 := fun (y0 y1 y2 : Value) => (q y0 y1 y2).2.2
           clear q
           go_light
           (simp [results, Tryz.results44, go_sem, q0, q1, q2]; done))
      | (have ks := k_sn (k_sn k6 (g' := wc.heap.size) (i := 0) (by omega) (.bool m3)) (g' := wc.heap.size) (i := 1) (by omega) (.int .u64 s3)
         refine bodyPost_ret (v := .tuple #[.agg #[.int .u8 (((0, 0, ⟨#[]⟩, 1) : Int × Int × ByteArray × Int)).1, .int .u64 (((0, 0, ⟨#[]⟩, 1) : Int × Int × ByteArray × Int)).2.1, .string (((0, 0, ⟨#[]⟩, 1) : Int × Int × ByteArray × Int)).2.2.1], .int .i64 (((0, 0, ⟨#[]⟩, 1) : Int × Int × ByteArray × Int)).2.2.2]) ?hr rfl ⟨(0, 0, ⟨#[]⟩, 1), rfl, stay_bad _ _ _ _ (by decide), ?hB⟩
         case hB => repeat (first | exact Below.refl _ _ | exact hbc | with_reducible apply b_al | (with_reducible refine b_st ?_ ?hg _; case hg => omega) | with_reducible apply b_dr | (with_reducible refine b_go ?_ (by assumption)))
         case hr =>
           have q := fun (y0 y1 y2 : Value) => set3 (g := w0.heap.size + 1 + 1) ks y0 y1 y2
           have q0 := fun (y0 y1 y2 : Value) => (q y0 y1 y2).1
           have q1 := fun (y0 y1 y2 : Value) => (q y0 y1 y2).2.1
           have q2 := fun (y0 y1 y2 : Value) => (q y0 y1 y2).2.2
           clear q
           go_light
           (simp [results, Tryz.results44, go_sem, q0, q1, q2]; done))
      | (refine bodyPost_ret (v := .tuple #[.agg #[.int .u8 (((0, 0, ⟨#[]⟩, 2) : Int × Int × ByteArray × Int)).1, .int .u64 (((0, 0, ⟨#[]⟩, 2) : Int × Int × ByteArray × Int)).2.1, .string (((0, 0, ⟨#[]⟩, 2) : Int × Int × ByteArray × Int)).2.2.1], .int .i64 (((0, 0, ⟨#[]⟩, 2) : Int × Int × ByteArray × Int)).2.2.2]) ?hr rfl ⟨(0, 0, ⟨#[]⟩, 2), rfl, stay_bad _ _ _ _ (by decide), ?hB⟩
         case hB => repeat (first | exact Below.refl _ _ | exact hbc | with_reducible apply b_al | (with_reducible refine b_st ?_ ?hg _; case hg => omega) | with_reducible apply b_dr | (with_reducible refine b_go ?_ (by assumption)))
         case hr =>
           have q := fun (y0 y1 y2 : Value) => set3 (g := w0.heap.size + 1 + 1) k6 y0 y1 y2
           have q0 := fun (y0 y1 y2 : Value) => (q y0 y1 y2).1
           have q1 := fun (y0 y1 y2 : Value) => (q y0 y1 y2).2.1
           have q2 := fun (y0 y1 y2 : Value) => (q y0 y1 y2).2.2
           clear q
           go_light
           (simp [results, Tryz.results44, go_sem, q0, q1, q2, World.cell?_alloc_past, z6]; done))
end Go.Proofs.YtlmmkaddlflepaaGreatDoor.H
