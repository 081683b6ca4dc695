/- The program's Convert, of any kinds; the law ValueConverts: both answer the same. Conditions: bits are 64, a string takes no more than can be read, strconv's table and errors are as laid. -/
import Derived.Test.YtlmmkaddlflepaaGreatDoorHConvR
namespace Go.Proofs.YtlmmkaddlflepaaGreatDoor.H
open Go.RowKit Go.Proofs.YtlmmkaddlflepaaGreatDoor.Plain
set_option maxHeartbeats 3200000
set_option maxRecDepth 100000
set_option linter.unusedSimpArgs false
set_option linter.unusedVariables false
attribute [local go_sem] ext_from ext_bits cell_isSome un_neg_float
theorem v_Convert (k kd b : Int) (t : ByteArray) (hs : t.size ≤ 140737488351232) (h0 : 0 ≤ b) (h1 : b < 18446744073709551616) (w : World) (hL : Laid w) : Calls Tryz.prog 6 #[.int .u8 k, .agg #[.int .u8 kd, .int .u64 b, .string t]] w fun e w' => e = .returned (.tuple #[.agg #[.int .u8 (convV k kd b t).1, .int .u64 (convV k kd b t).2.1, .string (convV k kd b t).2.2.1], .int .i64 (convV k kd b t).2.2.2]) ∧ Below w.heap.size w w' := by
  have NM := fun W => v_may kd b t h0 h1 W
  cases hm : mayB kd b t with
  | false =>
    have E := Lib.hid (show convV k kd b t = (0, 0, ⟨#[]⟩, 8) by unfold convV; rw [if_pos (.inl hm)])
    rw [hm] at NM
    clear hm hs h0 h1 hL
    go_enter Tryz.func6, Tryz.ntmps6
    go_wp2_with (first | (go_at_call 17; ((with_reducible refine (NM _).mono ?_); rintro e w1 ⟨rfl, hb2⟩; (first | (have hb1 := b_go hb hb2; clear hb hb2 hc1 hf1; have hb := hb1; clear hb1) | (have hb1 := b_go (b_al hb _) hb2; clear hb hb2 hc1 hf1; have hb := hb1; clear hb1) | (have hb := hb2; clear hb2)); obtain ⟨hc1, hf1⟩ := bcell hb)) | (go_at_call 15; refine (v_whole _ _).mono ?_; rintro e w' ⟨rfl, rfl⟩) | (go_at_call 16; refine (v_row _ _).mono ?_; rintro e w' ⟨rfl, rfl⟩))
    all_goals
      have E0 := E.out
      clear E NM
      (refine bodyPost_ret (v := .tuple #[.agg #[.int .u8 (convV k kd b t).1, .int .u64 (convV k kd b t).2.1, .string (convV k kd b t).2.2.1], .int .i64 (convV k kd b t).2.2.2]) ?hr rfl ⟨rfl, ?hB⟩
       case hB => repeat (first | exact Below.refl _ _ | apply b_al | (refine b_st ?_ ?hg _; case hg => omega) | (refine b_go ?_ (by assumption)))
       case hr =>
        first
         | (have q := fun (y0 y1 y2 : Value) => set3 (w1 := w1) (g := w.heap.size + 1) (by repeat (first | (refine k_new ?_; simp; done) | apply k_al | (refine k_go ?_ (by assumption)))) y0 y1 y2
            have q0 := fun (y0 y1 y2 : Value) => (q y0 y1 y2).1
            have q1 := fun (y0 y1 y2 : Value) => (q y0 y1 y2).2.1
            have q2 := fun (y0 y1 y2 : Value) => (q y0 y1 y2).2.2
            clear q
            (try clear hb hc1 hf1)
            go_light
            simp [results, Tryz.results6, go_sem, wrap_u64, q0, q1, q2]
            (try clear q0 q1 q2)
            all_goals grind [])
         | (go_light
            simp [results, Tryz.results6, go_sem, wrap_u64]
            all_goals grind []))
  | true =>
    rw [hm] at NM
    cases he : elB k with
    | false =>
      have E := Lib.hid (show convV k kd b t = (0, 0, ⟨#[]⟩, 8) by unfold convV; rw [if_pos (.inr he)])
      clear hm hs h0 h1 hL
      go_enter Tryz.func6, Tryz.ntmps6
      go_wp2_with (first | (go_at_call 17; ((with_reducible refine (NM _).mono ?_); rintro e w1 ⟨rfl, hb2⟩; (first | (have hb1 := b_go hb hb2; clear hb hb2 hc1 hf1; have hb := hb1; clear hb1) | (have hb1 := b_go (b_al hb _) hb2; clear hb hb2 hc1 hf1; have hb := hb1; clear hb1) | (have hb := hb2; clear hb2)); obtain ⟨hc1, hf1⟩ := bcell hb)) | (go_at_call 18; refine (v_known _ _).mono ?_; rintro e w' ⟨rfl, rfl⟩) | (go_at_call 15; refine (v_whole _ _).mono ?_; rintro e w' ⟨rfl, rfl⟩) | (go_at_call 16; refine (v_row _ _).mono ?_; rintro e w' ⟨rfl, rfl⟩))
      all_goals
        have E0 := E.out
        clear E NM
        (refine bodyPost_ret (v := .tuple #[.agg #[.int .u8 (convV k kd b t).1, .int .u64 (convV k kd b t).2.1, .string (convV k kd b t).2.2.1], .int .i64 (convV k kd b t).2.2.2]) ?hr rfl ⟨rfl, ?hB⟩
         case hB => repeat (first | exact Below.refl _ _ | apply b_al | (refine b_st ?_ ?hg _; case hg => omega) | (refine b_go ?_ (by assumption)))
         case hr =>
          first
           | (have q := fun (y0 y1 y2 : Value) => set3 (w1 := w1) (g := w.heap.size + 1) (by repeat (first | (refine k_new ?_; simp; done) | apply k_al | (refine k_go ?_ (by assumption)))) y0 y1 y2
              have q0 := fun (y0 y1 y2 : Value) => (q y0 y1 y2).1
              have q1 := fun (y0 y1 y2 : Value) => (q y0 y1 y2).2.1
              have q2 := fun (y0 y1 y2 : Value) => (q y0 y1 y2).2.2
              clear q
              (try clear hb hc1 hf1)
              go_light
              simp [results, Tryz.results6, go_sem, wrap_u64, q0, q1, q2]
              (try clear q0 q1 q2)
              all_goals grind [])
           | (go_light
              simp [results, Tryz.results6, go_sem, wrap_u64]
              all_goals grind []))
    | true =>
      have hnf : ¬ (mayB kd b t = false ∨ elB k = false) := by rw [hm, he]; simp
      by_cases hne : k = kd
      · have E := Lib.hid (show convV k kd b t = (kd, b, t, 0) by unfold convV; rw [if_neg hnf, if_pos hne])
        have d1 : (k == kd) = true := by simpa using hne
        clear hm hs h0 h1 hL hnf hne
        go_enter Tryz.func6, Tryz.ntmps6
        go_wp2_with (first | (go_at_call 17; ((with_reducible refine (NM _).mono ?_); rintro e w1 ⟨rfl, hb2⟩; (first | (have hb1 := b_go hb hb2; clear hb hb2 hc1 hf1; have hb := hb1; clear hb1) | (have hb1 := b_go (b_al hb _) hb2; clear hb hb2 hc1 hf1; have hb := hb1; clear hb1) | (have hb := hb2; clear hb2)); obtain ⟨hc1, hf1⟩ := bcell hb)) | (go_at_call 18; refine (v_known _ _).mono ?_; rintro e w' ⟨rfl, rfl⟩) | (go_at_call 15; refine (v_whole _ _).mono ?_; rintro e w' ⟨rfl, rfl⟩) | (go_at_call 16; refine (v_row _ _).mono ?_; rintro e w' ⟨rfl, rfl⟩))
        all_goals
          have E0 := E.out
          clear E NM
          (refine bodyPost_ret (v := .tuple #[.agg #[.int .u8 (convV k kd b t).1, .int .u64 (convV k kd b t).2.1, .string (convV k kd b t).2.2.1], .int .i64 (convV k kd b t).2.2.2]) ?hr rfl ⟨rfl, ?hB⟩
           case hB => repeat (first | exact Below.refl _ _ | apply b_al | (refine b_st ?_ ?hg _; case hg => omega) | (refine b_go ?_ (by assumption)))
           case hr =>
            first
             | (have q := fun (y0 y1 y2 : Value) => set3 (w1 := w1) (g := w.heap.size + 1) (by repeat (first | (refine k_new ?_; simp; done) | apply k_al | (refine k_go ?_ (by assumption)))) y0 y1 y2
                have q0 := fun (y0 y1 y2 : Value) => (q y0 y1 y2).1
                have q1 := fun (y0 y1 y2 : Value) => (q y0 y1 y2).2.1
                have q2 := fun (y0 y1 y2 : Value) => (q y0 y1 y2).2.2
                clear q
                (try clear hb hc1 hf1)
                go_light
                simp [results, Tryz.results6, go_sem, wrap_u64, q0, q1, q2]
                (try clear q0 q1 q2)
                all_goals grind [])
             | (go_light
                simp [results, Tryz.results6, go_sem, wrap_u64]
                all_goals grind []))
      have hkd : 1 ≤ kd ∧ kd ≤ 19 := by rcases may_facts hm with h | h | h <;> omega
      have hk : 1 ≤ k ∧ k ≤ 19 := by unfold elB at he; simpa using he
      clear NM
      by_cases p1 : kd ≤ 13
      · by_cases k1 : k = 1
        · by_cases a : kd ≤ 9
          · exact cv_bool_Wh k kd b t k1 (by omega) hne hm hs h0 h1 w hL
          · exact cv_bool_Ro k kd b t k1 (by omega) hne hm hs h0 h1 w hL
        by_cases k9 : k ≤ 9
        · by_cases a : kd = 1
          · exact cv_num_Wh_Bo k kd b t (by omega) (by omega) hne hm hs h0 h1 w hL
          by_cases a2 : kd ≤ 9
          · exact cv_num_Wh_Wh k kd b t (by omega) (by omega) hne hm hs h0 h1 w hL
          · exact cv_num_Wh_Ro k kd b t (by omega) (by omega) hne hm hs h0 h1 w hL
        by_cases k13 : k ≤ 13
        · by_cases a : kd = 1
          · exact cv_num_Ro_Bo k kd b t (by omega) (by omega) hne hm hs h0 h1 w hL
          by_cases a2 : kd ≤ 9
          · exact cv_num_Ro_Wh k kd b t (by omega) (by omega) hne hm hs h0 h1 w hL
          · exact cv_num_Ro_Ro k kd b t (by omega) (by omega) hne hm hs h0 h1 w hL
        by_cases k17 : k ≤ 17
        · by_cases a : kd = 5
          · exact cv_time_L k kd b t (by omega) a hne hm hs h0 h1 w hL
          by_cases a1 : kd = 1
          · exact cv_time_Bo k kd b t (by omega) (by omega) hne hm hs h0 h1 w hL
          by_cases a2 : kd ≤ 9
          · exact cv_time_Wh k kd b t (by omega) ⟨by omega, by omega, a⟩ hne hm hs h0 h1 w hL
          · exact cv_time_Ro k kd b t (by omega) (by omega) hne hm hs h0 h1 w hL
        by_cases k18 : k = 18
        · by_cases a1 : kd = 1
          · exact cv_real_Bo k kd b t k18 (by omega) hne hm hs h0 h1 w hL
          by_cases a2 : kd ≤ 5
          · exact cv_real_Sg k kd b t k18 (by omega) hne hm hs h0 h1 w hL
          by_cases a3 : kd ≤ 9
          · exact cv_real_Un k kd b t k18 (by omega) hne hm hs h0 h1 w hL
          · exact cv_real_Ro k kd b t k18 (by omega) hne hm hs h0 h1 w hL
        · have k19 : k = 19 := by omega
          by_cases a1 : kd = 1
          · exact cv_text_Bo k kd b t k19 (by omega) hne hm hs h0 h1 w hL
          by_cases a : kd = 5
          · exact cv_text_L k kd b t k19 (by omega) hne hm hs h0 h1 w hL
          by_cases a3 : kd ≤ 9
          · exact cv_text_Wh k kd b t k19 ⟨by omega, by omega, a⟩ hne hm hs h0 h1 w hL
          · exact cv_text_Ro k kd b t k19 (by omega) hne hm hs h0 h1 w hL
      by_cases p2 : kd ≤ 17
      · by_cases k5 : k = 5
        · exact cv_tm_L k kd b t k5 (by omega) hne hm hs h0 h1 w hL
        by_cases k4 : k ≤ 4
        · exact cv_tm_no_a k kd b t (by omega) (by omega) hne hm hs h0 h1 w hL
        by_cases k13 : k ≤ 13
        · exact cv_tm_no_b k kd b t (by omega) (by omega) hne hm hs h0 h1 w hL
        by_cases k18 : 18 ≤ k
        · exact cv_tm_no_c k kd b t (by omega) (by omega) hne hm hs h0 h1 w hL
        by_cases a : kd = 17
        · by_cases k14 : k = 14
          · exact cv_tm_no_e k kd b t k14 a hne hm hs h0 h1 w hL
          by_cases k15 : k = 15
          · exact cv_tm_D k kd b t k15 a hne hm hs h0 h1 w hL
          · exact cv_tm_T k kd b t (by omega) a hne hm hs h0 h1 w hL
        · exact cv_tm_no_d k kd b t (by omega) (by omega) hne hm hs h0 h1 w hL
      by_cases p3 : kd = 18
      · by_cases k1 : k = 1
        · exact cv_fl_Bo k kd b t (by omega) p3 hne hm hs h0 h1 w hL
        by_cases k9 : k ≤ 9
        · exact cv_fl_Wh k kd b t (by omega) p3 hne hm hs h0 h1 w hL
        by_cases k13 : k ≤ 13
        · exact cv_fl_Ro k kd b t (by omega) p3 hne hm hs h0 h1 w hL
        · exact cv_fl_no k kd b t (by omega) p3 hne hm hs h0 h1 w hL
      · have p4 : kd = 19 := by omega
        by_cases k1 : k = 1
        · exact cv_tx_B k kd b t k1 p4 hne hm hs h0 h1 w hL
        by_cases k9 : k ≤ 9
        · exact cv_tx_W k kd b t (by omega) p4 hne hm hs h0 h1 w hL
        by_cases k13 : k ≤ 13
        · exact cv_tx_no_a k kd b t (by omega) p4 hne hm hs h0 h1 w hL
        · exact cv_tx_no_b k kd b t (by omega) p4 hne hm hs h0 h1 w hL
theorem same_refl (x : Int × Int × ByteArray × Int) (w : World) : Calls Tryz.prog 8 #[.agg #[.int .u8 x.1, .int .u64 x.2.1, .string x.2.2.1], .int .i64 x.2.2.2, .agg #[.int .u8 x.1, .int .u64 x.2.1, .string x.2.2.1], .int .i64 x.2.2.2] w fun e w' => e = .returned (.bool true) ∧ Below w.heap.size w w' := by
  obtain ⟨x1, x2, x3, x4⟩ := x
  go_enter Tryz.func8, Tryz.ntmps8
  go_wp2
  go_ret
  exact ⟨rfl, by (repeat (first | exact Below.refl _ _ | apply b_al | (refine b_st ?_ ?hg _; case hg => omega) | (refine b_go ?_ (by assumption))))⟩
theorem law_Converts (k kd b : Int) (t : ByteArray) (hs : t.size ≤ 140737488351232) (h0 : 0 ≤ b) (h1 : b < 18446744073709551616) (w : World) (hL : Laid w) : Calls Tryz.prog 3 #[.int .u8 k, .agg #[.int .u8 kd, .int .u64 b, .string t]] w fun e w' => e = .returned (.bool true) ∧ Below w.heap.size w w' := by
  have N1 := fun W (hb : Below w.heap.size w W) => v_Convert k kd b t hs h0 h1 W (hL.go hb)
  have N2 := fun W (hb : Below w.heap.size w W) => r_Convert k kd b t hs h0 h1 W (hL.go hb)
  have N3 := fun W => same_refl (convV k kd b t) W
  clear h0 h1 hs hL
  go_enter Tryz.func3, Tryz.ntmps3
  go_wp2_with (first | (go_at_call 6; ((with_reducible refine (N1 _ ?hx).mono ?_); (case hx => (repeat (first | exact Below.refl _ _ | apply b_al | (refine b_st ?_ ?hg _; case hg => omega) | (refine b_go ?_ (by assumption))))); rintro e w1 ⟨rfl, hb⟩; obtain ⟨hc1, hf1⟩ := bcell hb; have hz1 : w.heap.size < w1.heap.size := by have := hb.size; simp at this; omega)) | (go_at_call 7; ((with_reducible refine (N2 _ ?hx).mono ?_); (case hx => (repeat (first | exact Below.refl _ _ | apply b_al | (refine b_st ?_ ?hg _; case hg => omega) | (refine b_go ?_ (by assumption))))); rintro e w2 ⟨rfl, hb2⟩; obtain ⟨hc2, hf2⟩ := bcell hb2; have hz2 : w1.heap.size < w2.heap.size := by have := hb2.size; simp at this; omega)) | (go_at_call 8; ((with_reducible refine (N3 _).mono ?_); rintro e w3 ⟨rfl, hb3⟩)))
  go_ret
  exact ⟨rfl, by (repeat (first | exact Below.refl _ _ | apply b_al | (refine b_st ?_ ?hg _; case hg => omega) | (refine b_go ?_ (by assumption))))⟩
end Go.Proofs.YtlmmkaddlflepaaGreatDoor.H
