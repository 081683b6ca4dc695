/- Contract of the program's spans: what it answers without a fault may be. Condition: bits are 64. -/
import Derived.Test.YtlmmkaddlflepaaGreatDoorHInts
import Derived.Deep.CutBlock
namespace Go.Proofs.YtlmmkaddlflepaaGreatDoor.H
set_option linter.unusedSimpArgs false
set_option linter.unusedVariables false
open Go.RowKit Go.Proofs.YtlmmkaddlflepaaGreatDoor.Plain
set_option maxHeartbeats 6400000
set_option maxRecDepth 100000
attribute [local go_sem] ext_from ext_bits cell_isSome un_neg_float
theorem k_ss {w : World} {g : Nat} {T : TypeId} {x y : Value} (h : w.heap[g]? = some (.cells #[x, y] T (0, 0))) (v : Value) : (w.setCell ⟨g, 1, none⟩ v).heap[g]? = some (.cells #[x, v] T (0, 0)) := by
  simp [World.setCell, Array.getElem?_modify, h]
/-- Two numbers lie in two blocks of the call's own, and all else is as it was. -/
def XY (W3 : World) (n g8 g9 : Nat) (wx : World) : Prop := ∃ m1 m2 s1 s2, Below n W3 wx ∧ wx.heap[g8]? = some (.cells #[.bool m1, .int .u64 s1] 38 (0, 0)) ∧ wx.heap[g9]? = some (.cells #[.bool m2, .int .u64 s2] 38 (0, 0)) ∧ (0 ≤ s1 ∧ s1 < 18446744073709551616) ∧ (0 ≤ s2 ∧ s2 < 18446744073709551616)
theorem XY.st8 {W3 : World} {n g8 g9 : Nat} {w : World} (h : XY W3 n g8 g9 w) (hn : n ≤ g8) (hg : g8 ≠ g9) {x : Int} (hx : 0 ≤ x ∧ x < 18446744073709551616) : XY W3 n g8 g9 (w.setCell ⟨g8, 1, none⟩ (.int .u64 x)) := by
  obtain ⟨m1, m2, s1, s2, hb, k8, k9, r1, r2⟩ := h
  exact ⟨m1, m2, x, s2, hb.setCell hn _, k_ss k8 _, k_sn k9 hg _, hx, r2⟩
theorem XY.st9 {W3 : World} {n g8 g9 : Nat} {w : World} (h : XY W3 n g8 g9 w) (hn : n ≤ g9) (hg : g9 ≠ g8) {x : Int} (hx : 0 ≤ x ∧ x < 18446744073709551616) : XY W3 n g8 g9 (w.setCell ⟨g9, 1, none⟩ (.int .u64 x)) := by
  obtain ⟨m1, m2, s1, s2, hb, k8, k9, r1, r2⟩ := h
  exact ⟨m1, m2, s1, x, hb.setCell hn _, k_sn k8 hg _, k_ss k9 _, r1, hx⟩
theorem v_spans (op a b c d : Int) (t u : ByteArray) (h0 : 0 ≤ b) (h1 : b < 18446744073709551616) (g0 : 0 ≤ d) (g1 : d < 18446744073709551616) (w0 : World) : Calls Tryz.prog 46 #[.int .i64 op, .agg #[.int .u8 a, .int .u64 b, .string t], .agg #[.int .u8 c, .int .u64 d, .string u]] w0 fun e w' => ∃ r : Int × Int × ByteArray × Int, e = .returned (.tuple #[.agg #[.int .u8 (r).1, .int .u64 (r).2.1, .string (r).2.2.1], .int .i64 (r).2.2.2]) ∧ StayV r ∧ Below w0.heap.size w0 w' := by
  have B1 := Lib.hid (show 0 ≤ b ∧ b < 18446744073709551616 from ⟨h0, h1⟩)
  have B2 := Lib.hid (show 0 ≤ d ∧ d < 18446744073709551616 from ⟨g0, g1⟩)
  clear h0 h1 g0 g1
  obtain ⟨W3, hW⟩ : ∃ W3, (((w0.alloc (.cells #[.int .u8 a, .int .u64 b, .string t] 25 (0, 0))).alloc (.cells #[.int .u8 c, .int .u64 d, .string u] 25 (0, 0))).alloc (.cells #[.int .u8 0, .int .u64 0, .string ⟨#[]⟩] 25 (0, 0))) = W3 := ⟨_, rfl⟩
  have HW := Lib.hid hW
  clear hW
  go_enter Tryz.func46, Tryz.ntmps46
  go_upto_region 1 with fail
  go_cut [8, 9] from 15 to 28 (fun s8 s9 wx => ∃ g8 g9, s8 = .pointer (some ⟨g8, 0, none⟩) ∧ s9 = .pointer (some ⟨g9, 0, none⟩) ∧ g8 ≠ g9 ∧ w0.heap.size + 2 < g8 ∧ w0.heap.size + 2 < g9 ∧ XY W3 (w0.heap.size + 3) g8 g9 wx)
  case first =>
    go_region
    all_goals
      go_wp2_with fail
      go_meet
      go_light
      refine ⟨_, _, rfl, rfl, by omega, by omega, by omega, ?m1, ?m2, b, d, ?kb, ?k8, ?k9, B1.out, B2.out⟩
      case kb => rw [← HW.out]; repeat (first | exact Below.refl _ _ | refine Below.drew ?_ | refine Below.alloc ?_ (by first | (simp; done) | (simp; omega)) _)
      case k8 => repeat (first | (refine k_new ?_; simp; done) | apply k_al | with_reducible apply k_dr)
      case k9 => repeat (first | (refine k_new ?_; simp; done) | apply k_al | with_reducible apply k_dr)
  case rest =>
  obtain ⟨g8, g9, rfl, rfl, hne, l8, l9, hcut⟩ := hcut
  have hne' : g9 ≠ g8 := fun e => hne e.symm
  have X0 := Lib.hid hcut
  rw [← HW.out] at hcut
  obtain ⟨m1, m2, s1, s2, hbel, k8, k9, r1, r2⟩ := hcut
  have z0 : w0.heap.size + 3 ≤ wc.heap.size := by have hx := hbel.size; simpa using hx
  have z4 : w0.heap.size < wc.heap.size := by omega
  have z5 : w0.heap.size + 1 < wc.heap.size := by omega
  have z6 : w0.heap.size + 1 + 1 < wc.heap.size := by omega
  have hbc : Below w0.heap.size w0 wc := (b_al (b_al (b_al (Below.refl _ _) _) _) _).trans (hbel.mono (by omega))
  have k4 : wc.heap[w0.heap.size]? = some (.cells #[.int .u8 a, .int .u64 b, .string t] 25 (0, 0)) := (hbel.block _ (by omega)).trans (k_al (k_al (k_new rfl) _) _)
  have k5 : wc.heap[w0.heap.size + 1]? = some (.cells #[.int .u8 c, .int .u64 d, .string u] 25 (0, 0)) := (hbel.block _ (by omega)).trans (k_al (k_new (by simp)) _)
  have k6 : wc.heap[w0.heap.size + 1 + 1]? = some (.cells #[.int .u8 0, .int .u64 0, .string ⟨#[]⟩] 25 (0, 0)) := (hbel.block _ (by omega)).trans (k_new (by simp))
  have z8 : g8 < wc.heap.size := k_lt k8
  have z9 : g9 < wc.heap.size := k_lt k9
  have q40 : wc.cell? ⟨w0.heap.size, 0, none⟩ = some (.int .u8 a) := (k_cell k4 0).trans (by simp)
  have q41 : wc.cell? ⟨w0.heap.size, 1, none⟩ = some (.int .u64 b) := (k_cell k4 1).trans (by simp)
  have q50 : wc.cell? ⟨w0.heap.size + 1, 0, none⟩ = some (.int .u8 c) := (k_cell k5 0).trans (by simp)
  have q51 : wc.cell? ⟨w0.heap.size + 1, 1, none⟩ = some (.int .u64 d) := (k_cell k5 1).trans (by simp)
  have q80 : wc.cell? ⟨g8, 0, none⟩ = some (.bool m1) := (k_cell k8 0).trans (by simp)
  have q81 : wc.cell? ⟨g8, 1, none⟩ = some (.int .u64 s1) := (k_cell k8 1).trans (by simp)
  have q90 : wc.cell? ⟨g9, 0, none⟩ = some (.bool m2) := (k_cell k9 0).trans (by simp)
  have q91 : wc.cell? ⟨g9, 1, none⟩ = some (.int .u64 s2) := (k_cell k9 1).trans (by simp)
  have f81 : wc.frozen? ⟨g8, 1, none⟩ = false := frozen_of_row _ _ _ _ _ k8
  have f90 : wc.frozen? ⟨g9, 0, none⟩ = false := frozen_of_row _ _ _ _ _ k9
  have f91 : wc.frozen? ⟨g9, 1, none⟩ = false := frozen_of_row _ _ _ _ _ k9
  have f60 : wc.frozen? ⟨w0.heap.size + 1 + 1, 0, none⟩ = false := frozen_of_row _ _ _ _ _ k6
  have f61 : wc.frozen? ⟨w0.heap.size + 1 + 1, 1, none⟩ = false := frozen_of_row _ _ _ _ _ k6
  have f62 : wc.frozen? ⟨w0.heap.size + 1 + 1, 2, none⟩ = false := frozen_of_row _ _ _ _ _ k6
  have q60 : wc.cell? ⟨w0.heap.size + 1 + 1, 0, none⟩ = some (.int .u8 0) := (k_cell k6 0).trans (by simp)
  have q61 : wc.cell? ⟨w0.heap.size + 1 + 1, 1, none⟩ = some (.int .u64 0) := (k_cell k6 1).trans (by simp)
  have q62 : wc.cell? ⟨w0.heap.size + 1 + 1, 2, none⟩ = some (.string ⟨#[]⟩) := (k_cell k6 2).trans (by simp)
  clear hbel r1 r2
  go_upto_if 30 with fail
  go_cut [] from 29 to 34 (fun wx => XY W3 (w0.heap.size + 3) g8 g9 wx)
  case first =>
    go_wp2
    all_goals (go_meet; go_light; first | exact X0.out | exact X0.out.st8 (by omega) hne (u_rng _))
  case rest =>
  clear z0 z4 z5 z6 hbc k4 k5 k6 k8 k9 z8 z9 q40 q41 q50 q51 q80 q81 q90 q91 f81 f90 f91 f60 f61 f62 q60 q61 q62 X0
  have X0 := Lib.hid hcut
  rw [← HW.out] at hcut
  obtain ⟨m1, m2, s1, s2, hbel, k8, k9, r1, r2⟩ := hcut
  have z0 : w0.heap.size + 3 ≤ wc.heap.size := by have hx := hbel.size; simpa using hx
  have z4 : w0.heap.size < wc.heap.size := by omega
  have z5 : w0.heap.size + 1 < wc.heap.size := by omega
  have z6 : w0.heap.size + 1 + 1 < wc.heap.size := by omega
  have hbc : Below w0.heap.size w0 wc := (b_al (b_al (b_al (Below.refl _ _) _) _) _).trans (hbel.mono (by omega))
  have k4 : wc.heap[w0.heap.size]? = some (.cells #[.int .u8 a, .int .u64 b, .string t] 25 (0, 0)) := (hbel.block _ (by omega)).trans (k_al (k_al (k_new rfl) _) _)
  have k5 : wc.heap[w0.heap.size + 1]? = some (.cells #[.int .u8 c, .int .u64 d, .string u] 25 (0, 0)) := (hbel.block _ (by omega)).trans (k_al (k_new (by simp)) _)
  have k6 : wc.heap[w0.heap.size + 1 + 1]? = some (.cells #[.int .u8 0, .int .u64 0, .string ⟨#[]⟩] 25 (0, 0)) := (hbel.block _ (by omega)).trans (k_new (by simp))
  have z8 : g8 < wc.heap.size := k_lt k8
  have z9 : g9 < wc.heap.size := k_lt k9
  have q40 : wc.cell? ⟨w0.heap.size, 0, none⟩ = some (.int .u8 a) := (k_cell k4 0).trans (by simp)
  have q41 : wc.cell? ⟨w0.heap.size, 1, none⟩ = some (.int .u64 b) := (k_cell k4 1).trans (by simp)
  have q50 : wc.cell? ⟨w0.heap.size + 1, 0, none⟩ = some (.int .u8 c) := (k_cell k5 0).trans (by simp)
  have q51 : wc.cell? ⟨w0.heap.size + 1, 1, none⟩ = some (.int .u64 d) := (k_cell k5 1).trans (by simp)
  have q80 : wc.cell? ⟨g8, 0, none⟩ = some (.bool m1) := (k_cell k8 0).trans (by simp)
  have q81 : wc.cell? ⟨g8, 1, none⟩ = some (.int .u64 s1) := (k_cell k8 1).trans (by simp)
  have q90 : wc.cell? ⟨g9, 0, none⟩ = some (.bool m2) := (k_cell k9 0).trans (by simp)
  have q91 : wc.cell? ⟨g9, 1, none⟩ = some (.int .u64 s2) := (k_cell k9 1).trans (by simp)
  have f81 : wc.frozen? ⟨g8, 1, none⟩ = false := frozen_of_row _ _ _ _ _ k8
  have f90 : wc.frozen? ⟨g9, 0, none⟩ = false := frozen_of_row _ _ _ _ _ k9
  have f91 : wc.frozen? ⟨g9, 1, none⟩ = false := frozen_of_row _ _ _ _ _ k9
  have f60 : wc.frozen? ⟨w0.heap.size + 1 + 1, 0, none⟩ = false := frozen_of_row _ _ _ _ _ k6
  have f61 : wc.frozen? ⟨w0.heap.size + 1 + 1, 1, none⟩ = false := frozen_of_row _ _ _ _ _ k6
  have f62 : wc.frozen? ⟨w0.heap.size + 1 + 1, 2, none⟩ = false := frozen_of_row _ _ _ _ _ k6
  have q60 : wc.cell? ⟨w0.heap.size + 1 + 1, 0, none⟩ = some (.int .u8 0) := (k_cell k6 0).trans (by simp)
  have q61 : wc.cell? ⟨w0.heap.size + 1 + 1, 1, none⟩ = some (.int .u64 0) := (k_cell k6 1).trans (by simp)
  have q62 : wc.cell? ⟨w0.heap.size + 1 + 1, 2, none⟩ = some (.string ⟨#[]⟩) := (k_cell k6 2).trans (by simp)
  clear hbel r1 r2
  go_upto_if 36 with fail
  go_cut [] from 35 to 40 (fun wx => XY W3 (w0.heap.size + 3) g8 g9 wx)
  case first =>
    go_wp2
    all_goals (go_meet; go_light; first | exact X0.out | exact X0.out.st9 (by omega) hne' (u_rng _))
  case rest =>
  clear z0 z4 z5 z6 hbc k4 k5 k6 k8 k9 z8 z9 q40 q41 q50 q51 q80 q81 q90 q91 f81 f90 f91 f60 f61 f62 q60 q61 q62 X0
  rw [← HW.out] at hcut
  obtain ⟨m1, m2, s1, s2, hbel, k8, k9, r1, r2⟩ := hcut
  have z0 : w0.heap.size + 3 ≤ wc.heap.size := by have hx := hbel.size; simpa using hx
  have z4 : w0.heap.size < wc.heap.size := by omega
  have z5 : w0.heap.size + 1 < wc.heap.size := by omega
  have z6 : w0.heap.size + 1 + 1 < wc.heap.size := by omega
  have hbc : Below w0.heap.size w0 wc := (b_al (b_al (b_al (Below.refl _ _) _) _) _).trans (hbel.mono (by omega))
  have k4 : wc.heap[w0.heap.size]? = some (.cells #[.int .u8 a, .int .u64 b, .string t] 25 (0, 0)) := (hbel.block _ (by omega)).trans (k_al (k_al (k_new rfl) _) _)
  have k5 : wc.heap[w0.heap.size + 1]? = some (.cells #[.int .u8 c, .int .u64 d, .string u] 25 (0, 0)) := (hbel.block _ (by omega)).trans (k_al (k_new (by simp)) _)
  have k6 : wc.heap[w0.heap.size + 1 + 1]? = some (.cells #[.int .u8 0, .int .u64 0, .string ⟨#[]⟩] 25 (0, 0)) := (hbel.block _ (by omega)).trans (k_new (by simp))
  have z8 : g8 < wc.heap.size := k_lt k8
  have z9 : g9 < wc.heap.size := k_lt k9
  have q40 : wc.cell? ⟨w0.heap.size, 0, none⟩ = some (.int .u8 a) := (k_cell k4 0).trans (by simp)
  have q41 : wc.cell? ⟨w0.heap.size, 1, none⟩ = some (.int .u64 b) := (k_cell k4 1).trans (by simp)
  have q50 : wc.cell? ⟨w0.heap.size + 1, 0, none⟩ = some (.int .u8 c) := (k_cell k5 0).trans (by simp)
  have q51 : wc.cell? ⟨w0.heap.size + 1, 1, none⟩ = some (.int .u64 d) := (k_cell k5 1).trans (by simp)
  have q80 : wc.cell? ⟨g8, 0, none⟩ = some (.bool m1) := (k_cell k8 0).trans (by simp)
  have q81 : wc.cell? ⟨g8, 1, none⟩ = some (.int .u64 s1) := (k_cell k8 1).trans (by simp)
  have q90 : wc.cell? ⟨g9, 0, none⟩ = some (.bool m2) := (k_cell k9 0).trans (by simp)
  have q91 : wc.cell? ⟨g9, 1, none⟩ = some (.int .u64 s2) := (k_cell k9 1).trans (by simp)
  have f81 : wc.frozen? ⟨g8, 1, none⟩ = false := frozen_of_row _ _ _ _ _ k8
  have f90 : wc.frozen? ⟨g9, 0, none⟩ = false := frozen_of_row _ _ _ _ _ k9
  have f91 : wc.frozen? ⟨g9, 1, none⟩ = false := frozen_of_row _ _ _ _ _ k9
  have f60 : wc.frozen? ⟨w0.heap.size + 1 + 1, 0, none⟩ = false := frozen_of_row _ _ _ _ _ k6
  have f61 : wc.frozen? ⟨w0.heap.size + 1 + 1, 1, none⟩ = false := frozen_of_row _ _ _ _ _ k6
  have f62 : wc.frozen? ⟨w0.heap.size + 1 + 1, 2, none⟩ = false := frozen_of_row _ _ _ _ _ k6
  have q60 : wc.cell? ⟨w0.heap.size + 1 + 1, 0, none⟩ = some (.int .u8 0) := (k_cell k6 0).trans (by simp)
  have q61 : wc.cell? ⟨w0.heap.size + 1 + 1, 1, none⟩ = some (.int .u64 0) := (k_cell k6 1).trans (by simp)
  have q62 : wc.cell? ⟨w0.heap.size + 1 + 1, 2, none⟩ = some (.string ⟨#[]⟩) := (k_cell k6 2).trans (by simp)
  clear hbel
  have H1 := Lib.hid r1
  have H2 := Lib.hid r2
  have NP := fun m n W => v_plusE m s1 n s2 r1 r2 W
  have NT := fun m n W => v_timesE m s1 n s2 r1.1 W
  clear r1 r2
  go_upto_region 6 with fail
  go_region
  go_upto_block 0 with fail
  go_cut [0, 1, 2, 10, 11, 12] from 15 to 98 (fun s0 s1 s2 s10 s11 s12 wx => s0 = .int .i64 op ∧ s1 = .agg #[.int .u8 a, .int .u64 b, .string t] ∧ s2 = .agg #[.int .u8 c, .int .u64 d, .string u] ∧ (∃ x, s10 = .bool x) ∧ (∃ x, s11 = .bool x) ∧ (∃ k, s12 = .int .u8 k) ∧ wx = wc.drew)
  case first =>
    go_wp2
    all_goals (go_meet; exact ⟨by first | rfl | simp [*], by first | rfl | simp [*], by first | rfl | simp [*], ⟨_, rfl⟩, ⟨_, rfl⟩, ⟨_, rfl⟩, rfl⟩)
  case rest =>
  obtain ⟨rfl, rfl, rfl, ⟨x10, rfl⟩, ⟨x11, rfl⟩, ⟨k, rfl⟩, rfl⟩ := hcut
  have NO := fun m s h W => v_ofE m s k 1 h (by decide) W
  go_wp2_with (first | (go_at_call 71; with_reducible refine (NP _ _ _).mono ?_; rintro e w1 ⟨m3, s3, ok, rfl, hr3, hb⟩; have R3 := Lib.hid hr3; clear hr3; have z6 : w0.heap.size + 1 + 1 < w1.heap.size := (by have hx := hb.size; (try simp at hx); omega); have zz : wc.heap.size < w1.heap.size := (by have hx := hb.size; (try simp at hx); omega); have k6 : w1.heap[w0.heap.size + 1 + 1]? = some (.cells #[.int .u8 0, .int .u64 0, .string ⟨#[]⟩] 25 (0, 0)) := (by repeat (first | assumption | (refine k_new ?_; simp; done) | apply k_al | with_reducible apply k_dr | (refine k_sn ?_ (by omega) _) | (refine k_go ?_ (by assumption)))); have kz : w1.heap[wc.heap.size]? = some (.cells #[.bool m1, .int .u64 s1] 38 (0, 0)) := (by repeat (first | assumption | (refine k_new ?_; simp; done) | apply k_al | with_reducible apply k_dr | (refine k_sn ?_ (by omega) _) | (refine k_go ?_ (by assumption)))); have qz0 : w1.cell? ⟨wc.heap.size, 0, none⟩ = some (.bool m1) := (k_cell kz 0).trans (by simp); have qz1 : w1.cell? ⟨wc.heap.size, 1, none⟩ = some (.int .u64 s1) := (k_cell kz 1).trans (by simp); have fz0 : w1.frozen? ⟨wc.heap.size, 0, none⟩ = false := frozen_of_row _ _ _ _ _ kz; have fz1 : w1.frozen? ⟨wc.heap.size, 1, none⟩ = false := frozen_of_row _ _ _ _ _ kz; have f60 : w1.frozen? ⟨w0.heap.size + 1 + 1, 0, none⟩ = false := frozen_of_row _ _ _ _ _ k6; have f61 : w1.frozen? ⟨w0.heap.size + 1 + 1, 1, none⟩ = false := frozen_of_row _ _ _ _ _ k6; have f62 : w1.frozen? ⟨w0.heap.size + 1 + 1, 2, none⟩ = false := frozen_of_row _ _ _ _ _ k6; have q60 : w1.cell? ⟨w0.heap.size + 1 + 1, 0, none⟩ = some (.int .u8 0) := (k_cell k6 0).trans (by simp); have q61 : w1.cell? ⟨w0.heap.size + 1 + 1, 1, none⟩ = some (.int .u64 0) := (k_cell k6 1).trans (by simp); have q62 : w1.cell? ⟨w0.heap.size + 1 + 1, 2, none⟩ = some (.string ⟨#[]⟩) := (k_cell k6 2).trans (by simp)) | (go_at_call 72; with_reducible refine (NT _ _ _).mono ?_; rintro e w1 ⟨m3, s3, ok, rfl, hr3, hb⟩; have R3 := Lib.hid hr3; clear hr3; have z6 : w0.heap.size + 1 + 1 < w1.heap.size := (by have hx := hb.size; (try simp at hx); omega); have zz : wc.heap.size < w1.heap.size := (by have hx := hb.size; (try simp at hx); omega); have k6 : w1.heap[w0.heap.size + 1 + 1]? = some (.cells #[.int .u8 0, .int .u64 0, .string ⟨#[]⟩] 25 (0, 0)) := (by repeat (first | assumption | (refine k_new ?_; simp; done) | apply k_al | with_reducible apply k_dr | (refine k_sn ?_ (by omega) _) | (refine k_go ?_ (by assumption)))); have kz : w1.heap[wc.heap.size]? = some (.cells #[.bool m1, .int .u64 s1] 38 (0, 0)) := (by repeat (first | assumption | (refine k_new ?_; simp; done) | apply k_al | with_reducible apply k_dr | (refine k_sn ?_ (by omega) _) | (refine k_go ?_ (by assumption)))); have qz0 : w1.cell? ⟨wc.heap.size, 0, none⟩ = some (.bool m1) := (k_cell kz 0).trans (by simp); have qz1 : w1.cell? ⟨wc.heap.size, 1, none⟩ = some (.int .u64 s1) := (k_cell kz 1).trans (by simp); have fz0 : w1.frozen? ⟨wc.heap.size, 0, none⟩ = false := frozen_of_row _ _ _ _ _ kz; have fz1 : w1.frozen? ⟨wc.heap.size, 1, none⟩ = false := frozen_of_row _ _ _ _ _ kz; have f60 : w1.frozen? ⟨w0.heap.size + 1 + 1, 0, none⟩ = false := frozen_of_row _ _ _ _ _ k6; have f61 : w1.frozen? ⟨w0.heap.size + 1 + 1, 1, none⟩ = false := frozen_of_row _ _ _ _ _ k6; have f62 : w1.frozen? ⟨w0.heap.size + 1 + 1, 2, none⟩ = false := frozen_of_row _ _ _ _ _ k6; have q60 : w1.cell? ⟨w0.heap.size + 1 + 1, 0, none⟩ = some (.int .u8 0) := (k_cell k6 0).trans (by simp); have q61 : w1.cell? ⟨w0.heap.size + 1 + 1, 1, none⟩ = some (.int .u64 0) := (k_cell k6 1).trans (by simp); have q62 : w1.cell? ⟨w0.heap.size + 1 + 1, 2, none⟩ = some (.string ⟨#[]⟩) := (k_cell k6 2).trans (by simp)) | (go_at_call 20; with_reducible refine (NO _ _ (by first | exact R3.out | exact u_rng _ | exact H1.out) _).mono ?_; rintro e w2 ⟨r, rfl, hst, hb2⟩; have z6 : w0.heap.size + 1 + 1 < w2.heap.size := (by have hx := hb2.size; (try simp at hx); omega); have k6 : w2.heap[w0.heap.size + 1 + 1]? = some (.cells #[.int .u8 0, .int .u64 0, .string ⟨#[]⟩] 25 (0, 0)) := (by repeat (first | assumption | (refine k_new ?_; simp; done) | apply k_al | with_reducible apply k_dr | (refine k_sn ?_ (by omega) _) | (refine k_go ?_ (by assumption)))); have f60 : w2.frozen? ⟨w0.heap.size + 1 + 1, 0, none⟩ = false := frozen_of_row _ _ _ _ _ k6; have f61 : w2.frozen? ⟨w0.heap.size + 1 + 1, 1, none⟩ = false := frozen_of_row _ _ _ _ _ k6; have f62 : w2.frozen? ⟨w0.heap.size + 1 + 1, 2, none⟩ = false := frozen_of_row _ _ _ _ _ k6; have q60 : w2.cell? ⟨w0.heap.size + 1 + 1, 0, none⟩ = some (.int .u8 0) := (k_cell k6 0).trans (by simp); have q61 : w2.cell? ⟨w0.heap.size + 1 + 1, 1, none⟩ = some (.int .u64 0) := (k_cell k6 1).trans (by simp); have q62 : w2.cell? ⟨w0.heap.size + 1 + 1, 2, none⟩ = some (.string ⟨#[]⟩) := (k_cell k6 2).trans (by simp)))
  all_goals (clear NP NT)
  all_goals (try (have hz : (s2 == 0) = false := (by assumption)
                  have hz2 : ¬ s2 = 0 := (by simpa using hz)
                  go_region
                  go_wp2_with (first | (go_at_call 20; with_reducible refine (NO _ _ (by first | exact R3.out | exact u_rng _ | exact H1.out) _).mono ?_; rintro e w2 ⟨r, rfl, hst, hb2⟩; have z6 : w0.heap.size + 1 + 1 < w2.heap.size := (by have hx := hb2.size; (try simp at hx); omega); have k6 : w2.heap[w0.heap.size + 1 + 1]? = some (.cells #[.int .u8 0, .int .u64 0, .string ⟨#[]⟩] 25 (0, 0)) := (by repeat (first | assumption | (refine k_new ?_; simp; done) | apply k_al | with_reducible apply k_dr | (refine k_sn ?_ (by omega) _) | (refine k_go ?_ (by assumption)))); have f60 : w2.frozen? ⟨w0.heap.size + 1 + 1, 0, none⟩ = false := frozen_of_row _ _ _ _ _ k6; have f61 : w2.frozen? ⟨w0.heap.size + 1 + 1, 1, none⟩ = false := frozen_of_row _ _ _ _ _ k6; have f62 : w2.frozen? ⟨w0.heap.size + 1 + 1, 2, none⟩ = false := frozen_of_row _ _ _ _ _ k6; have q60 : w2.cell? ⟨w0.heap.size + 1 + 1, 0, none⟩ = some (.int .u8 0) := (k_cell k6 0).trans (by simp); have q61 : w2.cell? ⟨w0.heap.size + 1 + 1, 1, none⟩ = some (.int .u64 0) := (k_cell k6 1).trans (by simp); have q62 : w2.cell? ⟨w0.heap.size + 1 + 1, 2, none⟩ = some (.string ⟨#[]⟩) := (k_cell k6 2).trans (by simp)))))
  all_goals (clear NO)
  all_goals first
      | (refine bodyPost_ret (v := .tuple #[.agg #[.int .u8 (r).1, .int .u64 (r).2.1, .string (r).2.2.1], .int .i64 (r).2.2.2]) ?hr rfl ⟨r, rfl, hst, ?hB⟩
         case hB => repeat (first | exact Below.refl _ _ | exact hbc | with_reducible apply b_al | (with_reducible refine b_st ?_ ?hg _; case hg => omega) | with_reducible apply b_dr | (with_reducible refine b_go ?_ (by assumption)))
         case hr =>
           have q := fun (y0 y1 y2 : Value) => set3 (g := w0.heap.size + 1 + 1) k6 y0 y1 y2
           have q0 := fun (y0 y1 y2 : Value) => (q y0 y1 y2).1
           have q1 := fun (y0 y1 y2 : Value) => (q y0 y1 y2).2.1
           have q2 := fun (y0 y1 y2 : Value) => (q y0 y1 y2).2.2
           clear q
           go_light
           (simp [results, Tryz.results46, go_sem, q0, q1, q2, World.cell?_alloc_past, z6]; done))
      | (have ks := k_sn (k_sn k6 (g' := wc.heap.size) (i := 0) (by omega) (.bool m3)) (g' := wc.heap.size) (i := 1) (by omega) (.int .u64 s3)
         refine bodyPost_ret (v := .tuple #[.agg #[.int .u8 (((0, 0, ⟨#[]⟩, 1) : Int × Int × ByteArray × Int)).1, .int .u64 (((0, 0, ⟨#[]⟩, 1) : Int × Int × ByteArray × Int)).2.1, .string (((0, 0, ⟨#[]⟩, 1) : Int × Int × ByteArray × Int)).2.2.1], .int .i64 (((0, 0, ⟨#[]⟩, 1) : Int × Int × ByteArray × Int)).2.2.2]) ?hr rfl ⟨(0, 0, ⟨#[]⟩, 1), rfl, stay_bad _ _ _ _ (by decide), ?hB⟩
         case hB => repeat (first | exact Below.refl _ _ | exact hbc | with_reducible apply b_al | (with_reducible refine b_st ?_ ?hg _; case hg => omega) | with_reducible apply b_dr | (with_reducible refine b_go ?_ (by assumption)))
         case hr =>
           have q := fun (y0 y1 y2 : Value) => set3 (g := w0.heap.size + 1 + 1) ks y0 y1 y2
           have q0 := fun (y0 y1 y2 : Value) => (q y0 y1 y2).1
           have q1 := fun (y0 y1 y2 : Value) => (q y0 y1 y2).2.1
           have q2 := fun (y0 y1 y2 : Value) => (q y0 y1 y2).2.2
           clear q
           go_light
           (simp [results, Tryz.results46, go_sem, q0, q1, q2, World.cell?_alloc_past, z6]; done))
      | (refine bodyPost_ret (v := .tuple #[.agg #[.int .u8 (((0, 0, ⟨#[]⟩, 2) : Int × Int × ByteArray × Int)).1, .int .u64 (((0, 0, ⟨#[]⟩, 2) : Int × Int × ByteArray × Int)).2.1, .string (((0, 0, ⟨#[]⟩, 2) : Int × Int × ByteArray × Int)).2.2.1], .int .i64 (((0, 0, ⟨#[]⟩, 2) : Int × Int × ByteArray × Int)).2.2.2]) ?hr rfl ⟨(0, 0, ⟨#[]⟩, 2), rfl, stay_bad _ _ _ _ (by decide), ?hB⟩
         case hB => repeat (first | exact Below.refl _ _ | exact hbc | with_reducible apply b_al | (with_reducible refine b_st ?_ ?hg _; case hg => omega) | with_reducible apply b_dr | (with_reducible refine b_go ?_ (by assumption)))
         case hr =>
           have q := fun (y0 y1 y2 : Value) => set3 (g := w0.heap.size + 1 + 1) k6 y0 y1 y2
           have q0 := fun (y0 y1 y2 : Value) => (q y0 y1 y2).1
           have q1 := fun (y0 y1 y2 : Value) => (q y0 y1 y2).2.1
           have q2 := fun (y0 y1 y2 : Value) => (q y0 y1 y2).2.2
           clear q
           go_light
           (simp [results, Tryz.results46, go_sem, q0, q1, q2, World.cell?_alloc_past, z6]; done))
      | (refine bodyPost_ret (v := .tuple #[.agg #[.int .u8 (((0, 0, ⟨#[]⟩, 8) : Int × Int × ByteArray × Int)).1, .int .u64 (((0, 0, ⟨#[]⟩, 8) : Int × Int × ByteArray × Int)).2.1, .string (((0, 0, ⟨#[]⟩, 8) : Int × Int × ByteArray × Int)).2.2.1], .int .i64 (((0, 0, ⟨#[]⟩, 8) : Int × Int × ByteArray × Int)).2.2.2]) ?hr rfl ⟨(0, 0, ⟨#[]⟩, 8), rfl, stay_bad _ _ _ _ (by decide), ?hB⟩
         case hB => repeat (first | exact Below.refl _ _ | exact hbc | with_reducible apply b_al | (with_reducible refine b_st ?_ ?hg _; case hg => omega) | with_reducible apply b_dr | (with_reducible refine b_go ?_ (by assumption)))
         case hr =>
           have q := fun (y0 y1 y2 : Value) => set3 (g := w0.heap.size + 1 + 1) k6 y0 y1 y2
           have q0 := fun (y0 y1 y2 : Value) => (q y0 y1 y2).1
           have q1 := fun (y0 y1 y2 : Value) => (q y0 y1 y2).2.1
           have q2 := fun (y0 y1 y2 : Value) => (q y0 y1 y2).2.2
           clear q
           go_light
           (simp [results, Tryz.results46, go_sem, q0, q1, q2, World.cell?_alloc_past, z6]; done))
end Go.Proofs.YtlmmkaddlflepaaGreatDoor.H
