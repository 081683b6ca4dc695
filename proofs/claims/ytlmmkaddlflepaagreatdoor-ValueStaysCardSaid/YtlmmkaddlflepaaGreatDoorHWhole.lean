/- Contracts of the document's fromTime and fromWhole, and what they answer. Conditions: bits are 64, the value may be, strconv's table is as laid. -/
import Derived.Test.YtlmmkaddlflepaaGreatDoorHTxV
namespace Go.Proofs.YtlmmkaddlflepaaGreatDoor.H
set_option linter.unusedVariables false
open Go.RowKit Go.Proofs.YtlmmkaddlflepaaGreatDoor.Plain
set_option maxHeartbeats 3200000
set_option maxRecDepth 100000
set_option linter.unusedSimpArgs false
attribute [local go_sem] ext_from ext_bits cell_isSome un_neg_float
/-- A time as another kind. -/
def timV (k kd b : Int) : Int × Int × ByteArray × Int :=
  if k = 5 then (5, b, ⟨#[]⟩, 0) else if k = 15 ∧ kd = 17 then (15, b - b % 86400000000000, ⟨#[]⟩, 0) else if k = 16 ∧ kd = 17 then (16, b % 86400000000000, ⟨#[]⟩, 0) else (0, 0, ⟨#[]⟩, 8)
theorem made_date {b : Int} (h0 : 0 ≤ b) (h : b < 7258118400000000000) : madeV 15 (b - b % 86400000000000) 7 = (15, b - b % 86400000000000, ⟨#[]⟩, 0) := by
  unfold madeV bitsB fitsB; rw [if_pos]; simp; omega
theorem made_tod {b : Int} (h0 : 0 ≤ b) : madeV 16 (b % 86400000000000) 7 = (16, b % 86400000000000, ⟨#[]⟩, 0) := by
  unfold madeV bitsB fitsB; rw [if_pos]; simp; omega
theorem made_lint (b : Int) : madeV 5 b 7 = (5, b, ⟨#[]⟩, 0) := by
  unfold madeV bitsB fitsB; rw [if_pos]; simp
theorem r_fromTime (k kd b : Int) (t : ByteArray) (hk : 14 ≤ kd ∧ kd ≤ 17) (hm : mayB kd b t = true) (h0 : 0 ≤ b) (h1 : b < 18446744073709551616) (w : World) : Calls Tryz.prog 35 #[.int .u8 k, .agg #[.int .u8 kd, .int .u64 b, .string t]] w fun e w' => e = .returned (.tuple #[.agg #[.int .u8 (timV k kd b).1, .int .u64 (timV k kd b).2.1, .string (timV k kd b).2.2.1], .int .i64 (timV k kd b).2.2.2]) ∧ Below w.heap.size w w' := by
  have N1 := fun W => r_made 5 b 7 h0 h1 W
  rw [made_lint] at N1
  have hf := (may_fits hm (by omega) (by omega)).1
  by_cases c : kd = 17
  · subst c
    have hb2 : b < 7258118400000000000 := by have := of_decide_eq_true hf; omega
    have e1 : IntKind.u64.wrap (wrap64 (wrap64 b - (wrap64 b).tmod 86400000000000)) = b - b % 86400000000000 := by
      rw [wrap_u64]; have : wrap64 b = b := by unfold wrap64; omega
      rw [this, Int.tmod_eq_emod_of_nonneg h0]; unfold wrap64; omega
    have e2 : IntKind.u64.wrap ((wrap64 b).tmod 86400000000000) = b % 86400000000000 := by
      rw [wrap_u64]; have : wrap64 b = b := by unfold wrap64; omega
      rw [this, Int.tmod_eq_emod_of_nonneg h0]; omega
    have N2 := fun W => r_made 15 (b - b % 86400000000000) 7 (by omega) (by omega) W
    have N3 := fun W => r_made 16 (b % 86400000000000) 7 (by omega) (by omega) W
    rw [made_date h0 hb2, ← e1] at N2
    rw [made_tod h0, ← e2] at N3
    have E1 := Lib.hid e1
    have E2 := Lib.hid e2
    clear e1 e2 hf hm hb2 h0 h1 hk
    by_cases c5 : k = 5
    · subst c5
      go_enter Tryz.func35, Tryz.ntmps35
      go_wp2_with (first | (go_at_call 62; ((with_reducible refine (N1 _).mono ?_); rintro e w1 ⟨rfl, hb2⟩; (first | (have hb1 := b_go hb hb2; clear hb hb2 hc1 hf1; have hb := hb1; clear hb1) | (have hb1 := b_go (b_al hb _) hb2; clear hb hb2 hc1 hf1; have hb := hb1; clear hb1) | (have hb := hb2; clear hb2)); obtain ⟨hc1, hf1⟩ := bcell hb)))
      clear N1 N2 N3
      (refine bodyPost_ret (v := .tuple #[.agg #[.int .u8 (timV 5 17 b).1, .int .u64 (timV 5 17 b).2.1, .string (timV 5 17 b).2.2.1], .int .i64 (timV 5 17 b).2.2.2]) ?hr rfl ⟨rfl, ?hB⟩
       case hB => repeat (first | exact Below.refl _ _ | apply b_al | (refine b_st ?_ ?hg _; case hg => omega) | (refine b_go ?_ (by assumption)))
       case hr =>
        first
         | (have q := fun (y0 y1 y2 : Value) => set3 (w1 := w1) (g := w.heap.size + 1) (by repeat (first | (refine k_new ?_; simp; done) | apply k_al | (refine k_go ?_ (by assumption)))) y0 y1 y2
            have q0 := fun (y0 y1 y2 : Value) => (q y0 y1 y2).1
            have q1 := fun (y0 y1 y2 : Value) => (q y0 y1 y2).2.1
            have q2 := fun (y0 y1 y2 : Value) => (q y0 y1 y2).2.2
            clear q
            (try clear hb hc1 hf1)
            go_light
            simp [results, Tryz.results35, go_sem, wrap_u64, q0, q1, q2]
            (try clear q0 q1 q2)
            all_goals grind [timV])
         | (go_light
            simp [results, Tryz.results35, go_sem, wrap_u64]
            all_goals grind [timV]))
    by_cases c15 : k = 15
    · subst c15
      go_enter Tryz.func35, Tryz.ntmps35
      go_wp2_with (first | (go_at_call 62; ((with_reducible refine (N2 _).mono ?_); rintro e w1 ⟨rfl, hb2⟩; (first | (have hb1 := b_go hb hb2; clear hb hb2 hc1 hf1; have hb := hb1; clear hb1) | (have hb1 := b_go (b_al hb _) hb2; clear hb hb2 hc1 hf1; have hb := hb1; clear hb1) | (have hb := hb2; clear hb2)); obtain ⟨hc1, hf1⟩ := bcell hb)))
      clear N1 N2 N3
      have e1 := E1.out
      (refine bodyPost_ret (v := .tuple #[.agg #[.int .u8 (timV 15 17 b).1, .int .u64 (timV 15 17 b).2.1, .string (timV 15 17 b).2.2.1], .int .i64 (timV 15 17 b).2.2.2]) ?hr rfl ⟨rfl, ?hB⟩
       case hB => repeat (first | exact Below.refl _ _ | apply b_al | (refine b_st ?_ ?hg _; case hg => omega) | (refine b_go ?_ (by assumption)))
       case hr =>
        first
         | (have q := fun (y0 y1 y2 : Value) => set3 (w1 := w1) (g := w.heap.size + 1) (by repeat (first | (refine k_new ?_; simp; done) | apply k_al | (refine k_go ?_ (by assumption)))) y0 y1 y2
            have q0 := fun (y0 y1 y2 : Value) => (q y0 y1 y2).1
            have q1 := fun (y0 y1 y2 : Value) => (q y0 y1 y2).2.1
            have q2 := fun (y0 y1 y2 : Value) => (q y0 y1 y2).2.2
            clear q
            (try clear hb hc1 hf1)
            go_light
            simp [results, Tryz.results35, go_sem, wrap_u64, q0, q1, q2]
            (try clear q0 q1 q2)
            all_goals grind [timV, wrap_u64])
         | (go_light
            simp [results, Tryz.results35, go_sem, wrap_u64]
            all_goals grind [timV, wrap_u64]))
    by_cases c16 : k = 16
    · subst c16
      go_enter Tryz.func35, Tryz.ntmps35
      go_wp2_with (first | (go_at_call 62; ((with_reducible refine (N3 _).mono ?_); rintro e w1 ⟨rfl, hb2⟩; (first | (have hb1 := b_go hb hb2; clear hb hb2 hc1 hf1; have hb := hb1; clear hb1) | (have hb1 := b_go (b_al hb _) hb2; clear hb hb2 hc1 hf1; have hb := hb1; clear hb1) | (have hb := hb2; clear hb2)); obtain ⟨hc1, hf1⟩ := bcell hb)))
      clear N1 N2 N3
      have e2 := E2.out
      (refine bodyPost_ret (v := .tuple #[.agg #[.int .u8 (timV 16 17 b).1, .int .u64 (timV 16 17 b).2.1, .string (timV 16 17 b).2.2.1], .int .i64 (timV 16 17 b).2.2.2]) ?hr rfl ⟨rfl, ?hB⟩
       case hB => repeat (first | exact Below.refl _ _ | apply b_al | (refine b_st ?_ ?hg _; case hg => omega) | (refine b_go ?_ (by assumption)))
       case hr =>
        first
         | (have q := fun (y0 y1 y2 : Value) => set3 (w1 := w1) (g := w.heap.size + 1) (by repeat (first | (refine k_new ?_; simp; done) | apply k_al | (refine k_go ?_ (by assumption)))) y0 y1 y2
            have q0 := fun (y0 y1 y2 : Value) => (q y0 y1 y2).1
            have q1 := fun (y0 y1 y2 : Value) => (q y0 y1 y2).2.1
            have q2 := fun (y0 y1 y2 : Value) => (q y0 y1 y2).2.2
            clear q
            (try clear hb hc1 hf1)
            go_light
            simp [results, Tryz.results35, go_sem, wrap_u64, q0, q1, q2]
            (try clear q0 q1 q2)
            all_goals grind [timV, wrap_u64])
         | (go_light
            simp [results, Tryz.results35, go_sem, wrap_u64]
            all_goals grind [timV, wrap_u64]))
    · have d5 : (k == 5) = false := by simpa using c5
      go_enter Tryz.func35, Tryz.ntmps35
      go_wp2
      all_goals (clear N1 N2 N3)
      all_goals
        (refine bodyPost_ret (v := .tuple #[.agg #[.int .u8 (timV k 17 b).1, .int .u64 (timV k 17 b).2.1, .string (timV k 17 b).2.2.1], .int .i64 (timV k 17 b).2.2.2]) ?hr rfl ⟨rfl, ?hB⟩
         case hB => repeat (first | exact Below.refl _ _ | apply b_al | (refine b_st ?_ ?hg _; case hg => omega) | (refine b_go ?_ (by assumption)))
         case hr =>
          first
           | (have q := fun (y0 y1 y2 : Value) => set3 (w1 := w1) (g := w.heap.size + 1) (by repeat (first | (refine k_new ?_; simp; done) | apply k_al | (refine k_go ?_ (by assumption)))) y0 y1 y2
              have q0 := fun (y0 y1 y2 : Value) => (q y0 y1 y2).1
              have q1 := fun (y0 y1 y2 : Value) => (q y0 y1 y2).2.1
              have q2 := fun (y0 y1 y2 : Value) => (q y0 y1 y2).2.2
              clear q
              (try clear hb hc1 hf1)
              go_light
              simp [results, Tryz.results35, go_sem, wrap_u64, q0, q1, q2]
              (try clear q0 q1 q2)
              all_goals grind [timV])
           | (go_light
              simp [results, Tryz.results35, go_sem, wrap_u64]
              all_goals grind [timV]))
  · have d17 : (kd == 17) = false := by simpa using c
    clear hf hm h0 h1 hk
    by_cases c5 : k = 5
    · subst c5
      go_enter Tryz.func35, Tryz.ntmps35
      go_wp2_with (first | (go_at_call 62; ((with_reducible refine (N1 _).mono ?_); rintro e w1 ⟨rfl, hb2⟩; (first | (have hb1 := b_go hb hb2; clear hb hb2 hc1 hf1; have hb := hb1; clear hb1) | (have hb1 := b_go (b_al hb _) hb2; clear hb hb2 hc1 hf1; have hb := hb1; clear hb1) | (have hb := hb2; clear hb2)); obtain ⟨hc1, hf1⟩ := bcell hb)))
      clear N1
      (refine bodyPost_ret (v := .tuple #[.agg #[.int .u8 (timV 5 kd b).1, .int .u64 (timV 5 kd b).2.1, .string (timV 5 kd b).2.2.1], .int .i64 (timV 5 kd b).2.2.2]) ?hr rfl ⟨rfl, ?hB⟩
       case hB => repeat (first | exact Below.refl _ _ | apply b_al | (refine b_st ?_ ?hg _; case hg => omega) | (refine b_go ?_ (by assumption)))
       case hr =>
        first
         | (have q := fun (y0 y1 y2 : Value) => set3 (w1 := w1) (g := w.heap.size + 1) (by repeat (first | (refine k_new ?_; simp; done) | apply k_al | (refine k_go ?_ (by assumption)))) y0 y1 y2
            have q0 := fun (y0 y1 y2 : Value) => (q y0 y1 y2).1
            have q1 := fun (y0 y1 y2 : Value) => (q y0 y1 y2).2.1
            have q2 := fun (y0 y1 y2 : Value) => (q y0 y1 y2).2.2
            clear q
            (try clear hb hc1 hf1)
            go_light
            simp [results, Tryz.results35, go_sem, wrap_u64, q0, q1, q2]
            (try clear q0 q1 q2)
            all_goals grind [timV])
         | (go_light
            simp [results, Tryz.results35, go_sem, wrap_u64]
            all_goals grind [timV]))
    · have d5 : (k == 5) = false := by simpa using c5
      clear N1
      by_cases c15 : k = 15
      · subst c15
        go_enter Tryz.func35, Tryz.ntmps35
        go_wp2
        (refine bodyPost_ret (v := .tuple #[.agg #[.int .u8 (timV 15 kd b).1, .int .u64 (timV 15 kd b).2.1, .string (timV 15 kd b).2.2.1], .int .i64 (timV 15 kd b).2.2.2]) ?hr rfl ⟨rfl, ?hB⟩
         case hB => repeat (first | exact Below.refl _ _ | apply b_al | (refine b_st ?_ ?hg _; case hg => omega) | (refine b_go ?_ (by assumption)))
         case hr =>
          first
           | (have q := fun (y0 y1 y2 : Value) => set3 (w1 := w1) (g := w.heap.size + 1) (by repeat (first | (refine k_new ?_; simp; done) | apply k_al | (refine k_go ?_ (by assumption)))) y0 y1 y2
              have q0 := fun (y0 y1 y2 : Value) => (q y0 y1 y2).1
              have q1 := fun (y0 y1 y2 : Value) => (q y0 y1 y2).2.1
              have q2 := fun (y0 y1 y2 : Value) => (q y0 y1 y2).2.2
              clear q
              (try clear hb hc1 hf1)
              go_light
              simp [results, Tryz.results35, go_sem, wrap_u64, q0, q1, q2]
              (try clear q0 q1 q2)
              all_goals grind [timV])
           | (go_light
              simp [results, Tryz.results35, go_sem, wrap_u64]
              all_goals grind [timV]))
      by_cases c16 : k = 16
      · subst c16
        go_enter Tryz.func35, Tryz.ntmps35
        go_wp2
        (refine bodyPost_ret (v := .tuple #[.agg #[.int .u8 (timV 16 kd b).1, .int .u64 (timV 16 kd b).2.1, .string (timV 16 kd b).2.2.1], .int .i64 (timV 16 kd b).2.2.2]) ?hr rfl ⟨rfl, ?hB⟩
         case hB => repeat (first | exact Below.refl _ _ | apply b_al | (refine b_st ?_ ?hg _; case hg => omega) | (refine b_go ?_ (by assumption)))
         case hr =>
          first
           | (have q := fun (y0 y1 y2 : Value) => set3 (w1 := w1) (g := w.heap.size + 1) (by repeat (first | (refine k_new ?_; simp; done) | apply k_al | (refine k_go ?_ (by assumption)))) y0 y1 y2
              have q0 := fun (y0 y1 y2 : Value) => (q y0 y1 y2).1
              have q1 := fun (y0 y1 y2 : Value) => (q y0 y1 y2).2.1
              have q2 := fun (y0 y1 y2 : Value) => (q y0 y1 y2).2.2
              clear q
              (try clear hb hc1 hf1)
              go_light
              simp [results, Tryz.results35, go_sem, wrap_u64, q0, q1, q2]
              (try clear q0 q1 q2)
              all_goals grind [timV])
           | (go_light
              simp [results, Tryz.results35, go_sem, wrap_u64]
              all_goals grind [timV]))
      · go_enter Tryz.func35, Tryz.ntmps35
        go_wp2
        (refine bodyPost_ret (v := .tuple #[.agg #[.int .u8 (timV k kd b).1, .int .u64 (timV k kd b).2.1, .string (timV k kd b).2.2.1], .int .i64 (timV k kd b).2.2.2]) ?hr rfl ⟨rfl, ?hB⟩
         case hB => repeat (first | exact Below.refl _ _ | apply b_al | (refine b_st ?_ ?hg _; case hg => omega) | (refine b_go ?_ (by assumption)))
         case hr =>
          first
           | (have q := fun (y0 y1 y2 : Value) => set3 (w1 := w1) (g := w.heap.size + 1) (by repeat (first | (refine k_new ?_; simp; done) | apply k_al | (refine k_go ?_ (by assumption)))) y0 y1 y2
              have q0 := fun (y0 y1 y2 : Value) => (q y0 y1 y2).1
              have q1 := fun (y0 y1 y2 : Value) => (q y0 y1 y2).2.1
              have q2 := fun (y0 y1 y2 : Value) => (q y0 y1 y2).2.2
              clear q
              (try clear hb hc1 hf1)
              go_light
              simp [results, Tryz.results35, go_sem, wrap_u64, q0, q1, q2]
              (try clear q0 q1 q2)
              all_goals grind [timV])
           | (go_light
              simp [results, Tryz.results35, go_sem, wrap_u64]
              all_goals grind [timV]))
end Go.Proofs.YtlmmkaddlflepaaGreatDoor.H
