/- Contracts of the program's arithmetic on numbers of 65 bits: plus, times, integers, spans. Condition: sizes are of 64 bits. -/
import Derived.Test.YtlmmkaddlflepaaGreatDoorHConv
import Derived.Deep.QuietTactic
import Derived.BigQuiet
namespace Go.Proofs.YtlmmkaddlflepaaGreatDoor.H
set_option linter.unusedSimpArgs false
set_option linter.unusedVariables false
open Go.RowKit Go.Proofs.YtlmmkaddlflepaaGreatDoor.Plain
set_option maxHeartbeats 3200000
set_option maxRecDepth 100000
attribute [local go_sem] ext_from ext_bits cell_isSome un_neg_float
/-- The sum; false: it has more than 64 bits. -/
def plusV (m : Bool) (s : Int) (n : Bool) (t : Int) : Bool × Int × Bool :=
  if (m == n) = true then (m, (s + t) % 18446744073709551616, decide (s ≤ (s + t) % 18446744073709551616)) else if t ≤ s then (m, s - t, true) else (n, t - s, true)
theorem plus_rng (m : Bool) (s : Int) (n : Bool) (t : Int) (h0 : 0 ≤ s) (h1 : s < 18446744073709551616) (g0 : 0 ≤ t) (g1 : t < 18446744073709551616) : 0 ≤ (plusV m s n t).2.1 ∧ (plusV m s n t).2.1 < 18446744073709551616 := by
  unfold plusV; split
  · exact ⟨by simp only; omega, by simp only; omega⟩
  · split
    · exact ⟨by simp only; omega, by simp only; omega⟩
    · exact ⟨by simp only; omega, by simp only; omega⟩
theorem v_plus (m : Bool) (s : Int) (n : Bool) (t : Int) (h0 : 0 ≤ s) (h1 : s < 18446744073709551616) (g0 : 0 ≤ t) (g1 : t < 18446744073709551616) (w : World) : Calls Tryz.prog 71 #[.agg #[.bool m, .int .u64 s], .agg #[.bool n, .int .u64 t]] w fun e w' => e = .returned (.tuple #[.agg #[.bool (plusV m s n t).1, .int .u64 (plusV m s n t).2.1], .bool (plusV m s n t).2.2]) ∧ Below w.heap.size w w' := by
  obtain ⟨r, hr⟩ : ∃ r, plusV m s n t = r := ⟨_, rfl⟩
  rw [hr]
  have E := Lib.hid hr
  have H := Lib.hid (show 0 ≤ s ∧ s < 18446744073709551616 ∧ 0 ≤ t ∧ t < 18446744073709551616 from ⟨h0, h1, g0, g1⟩)
  clear hr h0 h1 g0 g1
  go_enter Tryz.func71, Tryz.ntmps71
  go_wp2
  · go_region
    go_wp2
    have hr := E.out
    have H2 := H.out
    clear E H
    (refine bodyPost_ret (v := .tuple #[.agg #[.bool r.1, .int .u64 r.2.1], .bool r.2.2]) ?hr rfl ⟨rfl, ?hB⟩
     case hB => repeat (first | exact Below.refl _ _ | apply b_al | apply b_dr | (refine b_st ?_ ?hg _; case hg => omega) | (refine b_go ?_ (by assumption)))
     case hr =>
      first
       | (have q := fun (y0 y1 : Value) => set2 (w1 := w1) (g := w.heap.size) (by repeat (first | (refine k_new ?_; simp; done) | apply k_al | (refine k_go ?_ (by assumption)))) y0 y1
          have q0 := fun (y0 y1 : Value) => (q y0 y1).1
          have q1 := fun (y0 y1 : Value) => (q y0 y1).2
          clear q
          (try clear hb hc1 hf1)
          go_light
          simp [results, Tryz.results71, go_sem, wrap_u64, q0, q1]
          (try clear q0 q1)
          all_goals grind [plusV])
       | (go_light
          simp [results, Tryz.results71, go_sem, wrap_u64]
          all_goals grind [plusV]))
  all_goals
    have hr := E.out
    have H2 := H.out
    clear E H
    (refine bodyPost_ret (v := .tuple #[.agg #[.bool r.1, .int .u64 r.2.1], .bool r.2.2]) ?hr rfl ⟨rfl, ?hB⟩
     case hB => repeat (first | exact Below.refl _ _ | apply b_al | (refine b_st ?_ ?hg _; case hg => omega) | (refine b_go ?_ (by assumption)))
     case hr =>
      first
       | (have q := fun (y0 y1 : Value) => set2 (w1 := w1) (g := w.heap.size) (by repeat (first | (refine k_new ?_; simp; done) | apply k_al | (refine k_go ?_ (by assumption)))) y0 y1
          have q0 := fun (y0 y1 : Value) => (q y0 y1).1
          have q1 := fun (y0 y1 : Value) => (q y0 y1).2
          clear q
          (try clear hb hc1 hf1)
          go_light
          simp [results, Tryz.results71, go_sem, wrap_u64, q0, q1]
          (try clear q0 q1)
          all_goals grind [plusV])
       | (go_light
          simp [results, Tryz.results71, go_sem, wrap_u64]
          all_goals grind [plusV]))
/-- The product; false: it has more than 64 bits. -/
def timesV (m : Bool) (s : Int) (n : Bool) (t : Int) : Bool × Int × Bool :=
  if s ≠ 0 ∧ 18446744073709551615 / s < t then (false, 0, false) else ((m != n), (s * t) % 18446744073709551616, true)
theorem times_rng (m : Bool) (s : Int) (n : Bool) (t : Int) : 0 ≤ (timesV m s n t).2.1 ∧ (timesV m s n t).2.1 < 18446744073709551616 := by
  unfold timesV; split
  · exact ⟨by simp, by simp⟩
  · exact ⟨by simp only; omega, by simp only; omega⟩
theorem quo_max (s : Int) (h0 : 0 < s) : IntKind.u64.wrap (Int.tdiv 18446744073709551615 s) = 18446744073709551615 / s := by
  have a : Int.tdiv 18446744073709551615 s = 18446744073709551615 / s := Int.tdiv_eq_ediv_of_nonneg (by decide)
  have b : 0 ≤ 18446744073709551615 / s := Int.ediv_nonneg (by decide) (by omega)
  have c : 18446744073709551615 / s ≤ 18446744073709551615 := Int.ediv_le_self _ (by decide)
  rw [a, wrap_u64]
  omega
theorem v_times (m : Bool) (s : Int) (n : Bool) (t : Int) (h0 : 0 ≤ s) (w : World) : Calls Tryz.prog 72 #[.agg #[.bool m, .int .u64 s], .agg #[.bool n, .int .u64 t]] w fun e w' => e = .returned (.tuple #[.agg #[.bool (timesV m s n t).1, .int .u64 (timesV m s n t).2.1], .bool (timesV m s n t).2.2]) ∧ Below w.heap.size w w' := by
  obtain ⟨r, hr⟩ : ∃ r, timesV m s n t = r := ⟨_, rfl⟩
  rw [hr]
  have E := Lib.hid hr
  clear hr
  by_cases c : s = 0
  · subst c
    go_enter Tryz.func72, Tryz.ntmps72
    go_wp2
    go_region
    go_wp2
    all_goals
      have hr := E.out
      clear E
      (refine bodyPost_ret (v := .tuple #[.agg #[.bool r.1, .int .u64 r.2.1], .bool r.2.2]) ?hr rfl ⟨rfl, ?hB⟩
       case hB => repeat (first | exact Below.refl _ _ | apply b_al | apply b_dr | (refine b_st ?_ ?hg _; case hg => omega) | (refine b_go ?_ (by assumption)))
       case hr =>
        first
         | (have q := fun (y0 y1 : Value) => set2 (w1 := w1) (g := w.heap.size) (by repeat (first | (refine k_new ?_; simp; done) | apply k_al | (refine k_go ?_ (by assumption)))) y0 y1
            have q0 := fun (y0 y1 : Value) => (q y0 y1).1
            have q1 := fun (y0 y1 : Value) => (q y0 y1).2
            clear q
            (try clear hb hc1 hf1)
            go_light
            simp [results, Tryz.results72, go_sem, wrap_u64, q0, q1]
            (try clear q0 q1)
            all_goals grind [timesV])
         | (go_light
            simp [results, Tryz.results72, go_sem, wrap_u64]
            all_goals grind [timesV]))
  · have Q := Lib.hid (quo_max s (by omega))
    have c1 : (s != 0) = true := by simpa using c
    have c2 : (s == 0) = false := by simpa using c
    go_enter Tryz.func72, Tryz.ntmps72
    go_wp2
    go_region
    go_wp2
    all_goals
      have hr := E.out
      have hQ := Q.out
      clear E Q
      (refine bodyPost_ret (v := .tuple #[.agg #[.bool r.1, .int .u64 r.2.1], .bool r.2.2]) ?hr rfl ⟨rfl, ?hB⟩
       case hB => repeat (first | exact Below.refl _ _ | apply b_al | apply b_dr | (refine b_st ?_ ?hg _; case hg => omega) | (refine b_go ?_ (by assumption)))
       case hr =>
        first
         | (have q := fun (y0 y1 : Value) => set2 (w1 := w1) (g := w.heap.size) (by repeat (first | (refine k_new ?_; simp; done) | apply k_al | (refine k_go ?_ (by assumption)))) y0 y1
            have q0 := fun (y0 y1 : Value) => (q y0 y1).1
            have q1 := fun (y0 y1 : Value) => (q y0 y1).2
            clear q
            (try clear hb hc1 hf1)
            go_light
            simp [results, Tryz.results72, go_sem, wrap_u64, q0, q1]
            (try clear q0 q1)
            all_goals grind [timesV])
         | (go_light
            simp [results, Tryz.results72, go_sem, wrap_u64]
            all_goals grind [timesV]))
end Go.Proofs.YtlmmkaddlflepaaGreatDoor.H
