/- The program's fromFloat: the walk. Conditions: bits are 64, and the value may be. -/
import Derived.Test.YtlmmkaddlflepaaGreatDoorHFloatV
namespace Go.Proofs.YtlmmkaddlflepaaGreatDoor.H
set_option linter.unusedVariables false
open Go.RowKit Go.Proofs.YtlmmkaddlflepaaGreatDoor.Plain
set_option maxHeartbeats 3200000
set_option maxRecDepth 100000
set_option linter.unusedSimpArgs false
attribute [local go_sem] ext_from ext_bits cell_isSome un_neg_float
theorem v_fromFloat (k b : Int) (t : ByteArray) (hk : k = 1 ∨ (2 ≤ k ∧ k ≤ 13)) (hm : mayB 18 b t = true) (h0 : 0 ≤ b) (h1 : b < 18446744073709551616) (w : World) : Calls Tryz.prog 24 #[.int .u8 k, .float .f64 b.toNat] w fun e w' => e = .returned (.tuple #[.agg #[.int .u8 (relV k b).1, .int .u64 (relV k b).2.1, .string (relV k b).2.2.1], .int .i64 (relV k b).2.2.2]) ∧ Below w.heap.size w w' := by
  have N0 := fun W => v_isNaN b h0 h1 W
  have hq := (may_real hm).1
  by_cases c1 : k = 1
  · subst c1
    cases hn : nanB b with
    | true =>
      have E := Lib.hid (show relV 1 b = (0, 0, ⟨#[]⟩, 7) by unfold relV; rw [if_pos rfl, if_pos hn])
      rw [hn] at N0
      clear hn hm h0 h1 hq hk
      generalize b.toNat = n at *
      go_enter Tryz.func24, Tryz.ntmps24
      go_wp2_with (first | (go_at_call 48; refine (N0 _).mono ?_; rintro e w' ⟨rfl, rfl⟩))
      have E0 := E.out
      clear E N0
      (refine bodyPost_ret (v := .tuple #[.agg #[.int .u8 (relV 1 b).1, .int .u64 (relV 1 b).2.1, .string (relV 1 b).2.2.1], .int .i64 (relV 1 b).2.2.2]) ?hr rfl ⟨rfl, ?hB⟩
       case hB => repeat (first | exact Below.refl _ _ | apply b_al | (refine b_st ?_ ?hg _; case hg => omega) | (refine b_go ?_ (by assumption)))
       case hr =>
        first
         | (have q := fun (y0 y1 y2 : Value) => set3 (w1 := w1) (g := w.heap.size) (by repeat (first | (refine k_new ?_; simp; done) | apply k_al | (refine k_go ?_ (by assumption)))) y0 y1 y2
            have q0 := fun (y0 y1 y2 : Value) => (q y0 y1 y2).1
            have q1 := fun (y0 y1 y2 : Value) => (q y0 y1 y2).2.1
            have q2 := fun (y0 y1 y2 : Value) => (q y0 y1 y2).2.2
            clear q
            (try clear hb hc1 hf1)
            go_light
            simp [results, Tryz.results24, go_sem, wrap_u64, q0, q1, q2]
            (try clear q0 q1 q2)
            all_goals grind [])
         | (go_light
            simp [results, Tryz.results24, go_sem, wrap_u64]
            all_goals grind []))
    | false =>
      have E := Lib.hid (show relV 1 b = (1, if b % 9223372036854775808 = 0 then 0 else 1, ⟨#[]⟩, 0) by unfold relV; rw [if_pos rfl, if_neg (by rw [hn]; simp)])
      have z := zero_order b h0 h1 hn
      rw [hn] at N0
      clear hn hm h0 h1 hq hk
      generalize b.toNat = n at *
      cases hz : decide (b % 9223372036854775808 = 0)
      all_goals
        rw [hz] at z
        have HZ := Lib.hid hz
        clear hz
        go_enter Tryz.func24, Tryz.ntmps24
        go_wp2_with (first | (go_at_call 48; refine (N0 _).mono ?_; rintro e w' ⟨rfl, rfl⟩) | (go_at_call 21; refine (v_Bool _ _).mono ?_; rintro e w1 ⟨rfl, hb2⟩; (first | (have hb1 := b_go hb hb2; clear hb hb2 hc1 hf1; have hb := hb1; clear hb1) | (have hb1 := b_go (b_al hb _) hb2; clear hb hb2 hc1 hf1; have hb := hb1; clear hb1) | (have hb := hb2; clear hb2)); obtain ⟨hc1, hf1⟩ := bcell hb))
        have E0 := E.out
        have hz := HZ.out
        clear E N0 HZ
        (refine bodyPost_ret (v := .tuple #[.agg #[.int .u8 (relV 1 b).1, .int .u64 (relV 1 b).2.1, .string (relV 1 b).2.2.1], .int .i64 (relV 1 b).2.2.2]) ?hr rfl ⟨rfl, ?hB⟩
         case hB => repeat (first | exact Below.refl _ _ | apply b_al | (refine b_st ?_ ?hg _; case hg => omega) | (refine b_go ?_ (by assumption)))
         case hr =>
          first
           | (have q := fun (y0 y1 y2 : Value) => set3 (w1 := w1) (g := w.heap.size) (by repeat (first | (refine k_new ?_; simp; done) | apply k_al | (refine k_go ?_ (by assumption)))) y0 y1 y2
              have q0 := fun (y0 y1 y2 : Value) => (q y0 y1 y2).1
              have q1 := fun (y0 y1 y2 : Value) => (q y0 y1 y2).2.1
              have q2 := fun (y0 y1 y2 : Value) => (q y0 y1 y2).2.2
              clear q
              (try clear hb hc1 hf1)
              go_light
              simp [results, Tryz.results24, go_sem, wrap_u64, q0, q1, q2]
              (try clear q0 q1 q2)
              all_goals grind [boolV])
           | (go_light
              simp [results, Tryz.results24, go_sem, wrap_u64]
              all_goals grind [boolV]))
  have hk2 : 2 ≤ k ∧ k ≤ 13 := by omega
  have d1 : (k == 1) = false := by simpa using c1
  obtain ⟨sg, ex, fr, hP⟩ := parts_of b h0 h1
  have E1 := rel_of hk2 hP
  have q1 := hP.eq; have q2 := hP.s2; have q3 := hP.e2; have q4 := hP.f2
  cases hn : nanB b with
  | true =>
    have hb := hq hn
    have cx : ex = 2047 := by omega
    have E := Lib.hid (show relV k b = (0, 0, ⟨#[]⟩, 7) by rw [E1]; unfold relN; rw [if_pos (.inl cx)])
    have R := ext_round 9221120237041090561 9221120237041090561 round_nan
    rw [hn] at N0
    have hbn : b.toNat = 9221120237041090561 := by omega
    rw [hbn] at N0 ⊢
    generalize 9221120237041090561 = n at N0 R ⊢
    clear hn hm h0 h1 hq hk hk2 hb cx E1 hP hbn q1 q2 q3 q4 c1
    go_enter Tryz.func24, Tryz.ntmps24
    go_wp2_with (first | (go_at_call 48; refine (N0 _).mono ?_; rintro e w' ⟨rfl, rfl⟩))
    have E0 := E.out
    clear E N0 R
    (refine bodyPost_ret (v := .tuple #[.agg #[.int .u8 (relV k b).1, .int .u64 (relV k b).2.1, .string (relV k b).2.2.1], .int .i64 (relV k b).2.2.2]) ?hr rfl ⟨rfl, ?hB⟩
     case hB => repeat (first | exact Below.refl _ _ | apply b_al | (refine b_st ?_ ?hg _; case hg => omega) | (refine b_go ?_ (by assumption)))
     case hr =>
      first
       | (have q := fun (y0 y1 y2 : Value) => set3 (w1 := w1) (g := w.heap.size) (by repeat (first | (refine k_new ?_; simp; done) | apply k_al | (refine k_go ?_ (by assumption)))) y0 y1 y2
          have q0 := fun (y0 y1 y2 : Value) => (q y0 y1 y2).1
          have q1 := fun (y0 y1 y2 : Value) => (q y0 y1 y2).2.1
          have q2 := fun (y0 y1 y2 : Value) => (q y0 y1 y2).2.2
          clear q
          (try clear hb hc1 hf1)
          go_light
          simp [results, Tryz.results24, go_sem, wrap_u64, q0, q1, q2]
          (try clear q0 q1 q2)
          all_goals grind [])
       | (go_light
          simp [results, Tryz.results24, go_sem, wrap_u64]
          all_goals grind []))
  | false =>
    rw [hn] at N0
    by_cases cx : ex = 2047
    · have hf : fr = 0 := by have := of_decide_eq_false hn; omega
      have E := Lib.hid (show relV k b = (0, 0, ⟨#[]⟩, 7) by rw [E1]; unfold relN; rw [if_pos (.inl cx)])
      have hbn : b.toNat = sg * 9223372036854775808 + 2047 * 4503599627370496 := by omega
      have R := ext_round _ _ (round_inf sg q2)
      have A : ∀ W, Calls Tryz.prog 51 #[.float .f64 (sg * 9223372036854775808 + 2047 * 4503599627370496)] W fun e w' => e = .returned (.float .f64 9218868437227405312) ∧ W = w' := fun W => by
        have := v_abs (sg * 9223372036854775808 + 2047 * 4503599627370496) (by omega) W
        rwa [show (sg * 9223372036854775808 + 2047 * 4503599627370496) % 9223372036854775808 = 9218868437227405312 by omega] at this
      have O : (FloatKind.f64.format.order 9218868437227405312 4895412794951729152 == some Ordering.gt) = true := by decide +kernel
      rw [← hbn] at R A
      generalize b.toNat = n at *
      clear hn hm h0 h1 hq hk hk2 cx hf E1 hP hbn q1 q2 q3 q4 c1
      go_enter Tryz.func24, Tryz.ntmps24
      go_wp2_with (first | (go_at_call 48; refine (N0 _).mono ?_; rintro e w' ⟨rfl, rfl⟩) | (go_at_call 51; refine (A _).mono ?_; rintro e w' ⟨rfl, rfl⟩))
      have E0 := E.out
      clear E N0 R A
      (refine bodyPost_ret (v := .tuple #[.agg #[.int .u8 (relV k b).1, .int .u64 (relV k b).2.1, .string (relV k b).2.2.1], .int .i64 (relV k b).2.2.2]) ?hr rfl ⟨rfl, ?hB⟩
       case hB => repeat (first | exact Below.refl _ _ | apply b_al | (refine b_st ?_ ?hg _; case hg => omega) | (refine b_go ?_ (by assumption)))
       case hr =>
        first
         | (have q := fun (y0 y1 y2 : Value) => set3 (w1 := w1) (g := w.heap.size) (by repeat (first | (refine k_new ?_; simp; done) | apply k_al | (refine k_go ?_ (by assumption)))) y0 y1 y2
            have q0 := fun (y0 y1 y2 : Value) => (q y0 y1 y2).1
            have q1 := fun (y0 y1 y2 : Value) => (q y0 y1 y2).2.1
            have q2 := fun (y0 y1 y2 : Value) => (q y0 y1 y2).2.2
            clear q
            (try clear hb hc1 hf1)
            go_light
            simp [results, Tryz.results24, go_sem, wrap_u64, q0, q1, q2]
            (try clear q0 q1 q2)
            all_goals grind [])
         | (go_light
            simp [results, Tryz.results24, go_sem, wrap_u64]
            all_goals grind []))
    · have hx : ex < 2047 := by omega
      have R := ext_round _ _ (round_num hP hx)
      have hA := (near_sign (magE ex fr) 0).2
      have hS := near_sg sg (magE ex fr) q2
      have A : ∀ W, Calls Tryz.prog 51 #[.float .f64 (Ieee.double.nearest (sg == 1) (magE ex fr) 0)] W fun e w' => e = .returned (.float .f64 (Ieee.double.nearest false (magE ex fr) 0)) ∧ W = w' := fun W => by
        have := v_abs (Ieee.double.nearest (sg == 1) (magE ex fr) 0) (by omega) W
        rwa [show Ieee.double.nearest (sg == 1) (magE ex fr) 0 % 9223372036854775808 = Ieee.double.nearest false (magE ex fr) 0 by omega] at this
      have O := abs_order ex fr hx q4
      have G := neg_order sg ex fr q2 hx q4
      have I := abs_int ex fr hx q4
      have I2 : magE ex fr < 18446744073709551616 → floatToIntVal .f64 (Ieee.double.nearest false (magE ex fr) 0) .u64 = some (magE ex fr : Int) := fun h => by
        unfold floatToIntVal
        have : (FloatKind.f64.decode (Ieee.double.nearest false (magE ex fr) 0)).toInt .zero = some (magE ex fr : Int) := I
        rw [this]
        simp only
        rw [if_pos]
        have e1 : IntKind.u64.min = 0 := by decide
        have e2 : IntKind.u64.max = 18446744073709551615 := by decide
        rw [e1, e2]; omega
      have E := Lib.hid (show relV k b = if 18446744073709551616 ≤ magE ex fr then (0, 0, ⟨#[]⟩, 7) else ofV (sg == 1 && decide (0 < magE ex fr)) (magE ex fr : Int) k 7 by
        rw [E1]; unfold relN
        by_cases c : 18446744073709551616 ≤ magE ex fr
        · rw [if_pos (.inr c), if_pos c]
        · rw [if_neg (by intro h; rcases h with h | h; exact cx h; exact c h), if_neg c]
          by_cases z : magE ex fr = 0
          · rw [z]; unfold ofV; simp
          · rw [decide_eq_true (Nat.pos_of_ne_zero z), Bool.and_true])
      have O : (FloatKind.f64.format.order (Ieee.double.nearest false (magE ex fr) 0) 4895412794951729152 == some Ordering.gt || FloatKind.f64.format.order (Ieee.double.nearest false (magE ex fr) 0) 4895412794951729152 == some Ordering.eq) = decide (18446744073709551616 ≤ magE ex fr) := O
      have G : (FloatKind.f64.format.order (Ieee.double.nearest (sg == 1) (magE ex fr) 0) 0 == some Ordering.lt) = (sg == 1 && decide (0 < magE ex fr)) := G
      generalize Ieee.double.nearest (sg == 1) (magE ex fr) 0 = r at *
      generalize Ieee.double.nearest false (magE ex fr) 0 = a at *
      generalize (sg == 1 && decide (0 < magE ex fr)) = m at *
      generalize magE ex fr = M at *
      generalize b.toNat = n at *
      by_cases c : 18446744073709551616 ≤ M
      · rw [if_pos c] at E
        rw [decide_eq_true c] at O
        clear hn hm h0 h1 hq hk hk2 cx E1 hP q1 q2 q3 q4 c1 I I2 hA hS c
        go_enter Tryz.func24, Tryz.ntmps24
        go_wp2_with (first | (go_at_call 48; refine (N0 _).mono ?_; rintro e w' ⟨rfl, rfl⟩) | (go_at_call 51; refine (A _).mono ?_; rintro e w' ⟨rfl, rfl⟩))
        have E0 := E.out
        clear E N0 R A
        (refine bodyPost_ret (v := .tuple #[.agg #[.int .u8 (relV k b).1, .int .u64 (relV k b).2.1, .string (relV k b).2.2.1], .int .i64 (relV k b).2.2.2]) ?hr rfl ⟨rfl, ?hB⟩
         case hB => repeat (first | exact Below.refl _ _ | apply b_al | (refine b_st ?_ ?hg _; case hg => omega) | (refine b_go ?_ (by assumption)))
         case hr =>
          first
           | (have q := fun (y0 y1 y2 : Value) => set3 (w1 := w1) (g := w.heap.size) (by repeat (first | (refine k_new ?_; simp; done) | apply k_al | (refine k_go ?_ (by assumption)))) y0 y1 y2
              have q0 := fun (y0 y1 y2 : Value) => (q y0 y1 y2).1
              have q1 := fun (y0 y1 y2 : Value) => (q y0 y1 y2).2.1
              have q2 := fun (y0 y1 y2 : Value) => (q y0 y1 y2).2.2
              clear q
              (try clear hb hc1 hf1)
              go_light
              simp [results, Tryz.results24, go_sem, wrap_u64, q0, q1, q2]
              (try clear q0 q1 q2)
              all_goals grind [])
           | (go_light
              simp [results, Tryz.results24, go_sem, wrap_u64]
              all_goals grind []))
      · rw [if_neg c] at E
        rw [decide_eq_false c] at O
        have cv := fun W => run_convert_float_int (P := Tryz.prog) (w := W) 42 23 .f64 .u64 a M (by rw [Tryz.underlying42]; rfl) Tryz.underlying23 (I2 (by omega))
        have N3 := fun W => v_of m (M : Int) k 7 (by omega) (by omega) W
        clear hn hm h0 h1 hq hk hk2 cx E1 hP q1 q2 q3 q4 c1 I I2 hA hS c
        go_enter Tryz.func24, Tryz.ntmps24
        go_wp2_with (first | (go_at_call 48; refine (N0 _).mono ?_; rintro e w' ⟨rfl, rfl⟩) | (go_at_call 51; refine (A _).mono ?_; rintro e w' ⟨rfl, rfl⟩) | (go_at_call 20; refine (N3 _).mono ?_; rintro e w1 ⟨rfl, hb2⟩; (first | (have hb1 := b_go hb hb2; clear hb hb2 hc1 hf1; have hb := hb1; clear hb1) | (have hb1 := b_go (b_al hb _) hb2; clear hb hb2 hc1 hf1; have hb := hb1; clear hb1) | (have hb := hb2; clear hb2)); obtain ⟨hc1, hf1⟩ := bcell hb))
        have E0 := E.out
        clear E N0 R A N3 cv
        (refine bodyPost_ret (v := .tuple #[.agg #[.int .u8 (relV k b).1, .int .u64 (relV k b).2.1, .string (relV k b).2.2.1], .int .i64 (relV k b).2.2.2]) ?hr rfl ⟨rfl, ?hB⟩
         case hB => repeat (first | exact Below.refl _ _ | apply b_al | (refine b_st ?_ ?hg _; case hg => omega) | (refine b_go ?_ (by assumption)))
         case hr =>
          first
           | (have q := fun (y0 y1 y2 : Value) => set3 (w1 := w1) (g := w.heap.size) (by repeat (first | (refine k_new ?_; simp; done) | apply k_al | (refine k_go ?_ (by assumption)))) y0 y1 y2
              have q0 := fun (y0 y1 y2 : Value) => (q y0 y1 y2).1
              have q1 := fun (y0 y1 y2 : Value) => (q y0 y1 y2).2.1
              have q2 := fun (y0 y1 y2 : Value) => (q y0 y1 y2).2.2
              clear q
              (try clear hb hc1 hf1)
              go_light
              simp [results, Tryz.results24, go_sem, wrap_u64, q0, q1, q2]
              (try clear q0 q1 q2)
              all_goals grind [])
           | (go_light
              simp [results, Tryz.results24, go_sem, wrap_u64]
              all_goals grind []))
end Go.Proofs.YtlmmkaddlflepaaGreatDoor.H
