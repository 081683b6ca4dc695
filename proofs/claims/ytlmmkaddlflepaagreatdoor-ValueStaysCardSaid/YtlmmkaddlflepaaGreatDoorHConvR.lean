/- The document's Convert. Conditions: bits are 64, a string takes no more than can be read, strconv's table is as laid. -/
import Derived.Test.YtlmmkaddlflepaaGreatDoorHConvV
namespace Go.Proofs.YtlmmkaddlflepaaGreatDoor.H
set_option linter.unusedVariables false
open Go.RowKit Go.Proofs.YtlmmkaddlflepaaGreatDoor.Plain
set_option maxHeartbeats 3200000
set_option maxRecDepth 100000
set_option linter.unusedSimpArgs false
attribute [local go_sem] ext_from ext_bits cell_isSome un_neg_float
theorem r_fromTextN (k : Int) (s : ByteArray) (hk : ¬ k = 1) (hw : whB k = false) (w : World) : Calls Tryz.prog 33 #[.int .u8 k, .string s] w fun e w' => e = .returned (.tuple #[.agg #[.int .u8 0, .int .u64 0, .string ⟨#[]⟩], .int .i64 8]) ∧ Below w.heap.size w w' := by
  have d1 : (k == 1) = false := by simpa using hk
  clear hk
  go_enter Tryz.func33, Tryz.ntmps33
  go_wp2_with (first | (go_at_call 11; refine (r_integer _ _).mono ?_; rintro e w' ⟨rfl, rfl⟩))
  (refine bodyPost_ret (v := .tuple #[.agg #[.int .u8 0, .int .u64 0, .string ⟨#[]⟩], .int .i64 8]) ?hr rfl ⟨rfl, ?hB⟩
   case hB => repeat (first | exact Below.refl _ _ | apply b_al | (refine b_st ?_ ?hg _; case hg => omega) | (refine b_go ?_ (by assumption)))
   case hr =>
    first
     | (have q := fun (y0 y1 y2 : Value) => set3 (w1 := w1) (g := w.heap.size) (by repeat (first | (refine k_new ?_; simp; done) | apply k_al | (refine k_go ?_ (by assumption)))) y0 y1 y2
        have q0 := fun (y0 y1 y2 : Value) => (q y0 y1 y2).1
        have q1 := fun (y0 y1 y2 : Value) => (q y0 y1 y2).2.1
        have q2 := fun (y0 y1 y2 : Value) => (q y0 y1 y2).2.2
        clear q
        (try clear hb hc1 hf1)
        go_light
        simp [results, Tryz.results33, go_sem, wrap_u64, q0, q1, q2]
        (try clear q0 q1 q2)
        all_goals grind [])
     | (go_light
        simp [results, Tryz.results33, go_sem, wrap_u64]
        all_goals grind []))
theorem r_Convert (k kd b : Int) (t : ByteArray) (hs : t.size ≤ 140737488351232) (h0 : 0 ≤ b) (h1 : b < 18446744073709551616) (w : World) (hL : Laid w) : Calls Tryz.prog 7 #[.int .u8 k, .agg #[.int .u8 kd, .int .u64 b, .string t]] w fun e w' => e = .returned (.tuple #[.agg #[.int .u8 (convV k kd b t).1, .int .u64 (convV k kd b t).2.1, .string (convV k kd b t).2.2.1], .int .i64 (convV k kd b t).2.2.2]) ∧ Below w.heap.size w w' := by
  have NM := fun W => r_May kd b t h0 h1 W
  cases hm : mayB kd b t with
  | false =>
    have E := Lib.hid (show convV k kd b t = (0, 0, ⟨#[]⟩, 8) by unfold convV; rw [if_pos (.inl hm)])
    rw [hm] at NM
    clear hm hs h0 h1 hL
    go_enter Tryz.func7, Tryz.ntmps7
    go_wp2_with (first | (go_at_call 12; ((with_reducible refine (NM _).mono ?_); rintro e w1 ⟨rfl, hb2⟩; (first | (have hb1 := b_go hb hb2; clear hb hb2 hc1 hf1; have hb := hb1; clear hb1) | (have hb1 := b_go (b_al hb _) hb2; clear hb hb2 hc1 hf1; have hb := hb1; clear hb1) | (have hb := hb2; clear hb2)); obtain ⟨hc1, hf1⟩ := bcell hb)))
    have E0 := E.out
    clear E NM
    (refine bodyPost_ret (v := .tuple #[.agg #[.int .u8 (convV k kd b t).1, .int .u64 (convV k kd b t).2.1, .string (convV k kd b t).2.2.1], .int .i64 (convV k kd b t).2.2.2]) ?hr rfl ⟨rfl, ?hB⟩
     case hB => repeat (first | exact Below.refl _ _ | apply b_al | (refine b_st ?_ ?hg _; case hg => omega) | (refine b_go ?_ (by assumption)))
     case hr =>
      first
       | (have q := fun (y0 y1 y2 : Value) => set3 (w1 := w1) (g := w.heap.size + 1) (by repeat (first | (refine k_new ?_; simp; done) | apply k_al | (refine k_go ?_ (by assumption)))) y0 y1 y2
          have q0 := fun (y0 y1 y2 : Value) => (q y0 y1 y2).1
          have q1 := fun (y0 y1 y2 : Value) => (q y0 y1 y2).2.1
          have q2 := fun (y0 y1 y2 : Value) => (q y0 y1 y2).2.2
          clear q
          (try clear hb hc1 hf1)
          go_light
          simp [results, Tryz.results7, go_sem, wrap_u64, q0, q1, q2]
          (try clear q0 q1 q2)
          all_goals grind [])
       | (go_light
          simp [results, Tryz.results7, go_sem, wrap_u64]
          all_goals grind []))
  | true =>
    rw [hm] at NM
    cases he : elB k with
    | false =>
      have E := Lib.hid (show convV k kd b t = (0, 0, ⟨#[]⟩, 8) by unfold convV; rw [if_pos (.inr he)])
      clear hm hs h0 h1 hL
      go_enter Tryz.func7, Tryz.ntmps7
      go_wp2_with (first | (go_at_call 12; ((with_reducible refine (NM _).mono ?_); rintro e w1 ⟨rfl, hb2⟩; (first | (have hb1 := b_go hb hb2; clear hb hb2 hc1 hf1; have hb := hb1; clear hb1) | (have hb1 := b_go (b_al hb _) hb2; clear hb hb2 hc1 hf1; have hb := hb1; clear hb1) | (have hb := hb2; clear hb2)); obtain ⟨hc1, hf1⟩ := bcell hb)) | (go_at_call 31; refine (r_elem _ _).mono ?_; rintro e w' ⟨rfl, rfl⟩))
      have E0 := E.out
      clear E NM
      (refine bodyPost_ret (v := .tuple #[.agg #[.int .u8 (convV k kd b t).1, .int .u64 (convV k kd b t).2.1, .string (convV k kd b t).2.2.1], .int .i64 (convV k kd b t).2.2.2]) ?hr rfl ⟨rfl, ?hB⟩
       case hB => repeat (first | exact Below.refl _ _ | apply b_al | (refine b_st ?_ ?hg _; case hg => omega) | (refine b_go ?_ (by assumption)))
       case hr =>
        first
         | (have q := fun (y0 y1 y2 : Value) => set3 (w1 := w1) (g := w.heap.size + 1) (by repeat (first | (refine k_new ?_; simp; done) | apply k_al | (refine k_go ?_ (by assumption)))) y0 y1 y2
            have q0 := fun (y0 y1 y2 : Value) => (q y0 y1 y2).1
            have q1 := fun (y0 y1 y2 : Value) => (q y0 y1 y2).2.1
            have q2 := fun (y0 y1 y2 : Value) => (q y0 y1 y2).2.2
            clear q
            (try clear hb hc1 hf1)
            go_light
            simp [results, Tryz.results7, go_sem, wrap_u64, q0, q1, q2]
            (try clear q0 q1 q2)
            all_goals grind [])
         | (go_light
            simp [results, Tryz.results7, go_sem, wrap_u64]
            all_goals grind []))
    | true =>
      have hnf : ¬ (mayB kd b t = false ∨ elB k = false) := by rw [hm, he]; simp
      by_cases hne : k = kd
      · have E := Lib.hid (show convV k kd b t = (kd, b, t, 0) by unfold convV; rw [if_neg hnf, if_pos hne])
        have d1 : (kd == k) = true := by simpa using hne.symm
        clear hm hs h0 h1 hL hnf hne
        go_enter Tryz.func7, Tryz.ntmps7
        go_wp2_with (first | (go_at_call 12; ((with_reducible refine (NM _).mono ?_); rintro e w1 ⟨rfl, hb2⟩; (first | (have hb1 := b_go hb hb2; clear hb hb2 hc1 hf1; have hb := hb1; clear hb1) | (have hb1 := b_go (b_al hb _) hb2; clear hb hb2 hc1 hf1; have hb := hb1; clear hb1) | (have hb := hb2; clear hb2)); obtain ⟨hc1, hf1⟩ := bcell hb)) | (go_at_call 31; refine (r_elem _ _).mono ?_; rintro e w' ⟨rfl, rfl⟩))
        have E0 := E.out
        clear E NM
        (refine bodyPost_ret (v := .tuple #[.agg #[.int .u8 (convV k kd b t).1, .int .u64 (convV k kd b t).2.1, .string (convV k kd b t).2.2.1], .int .i64 (convV k kd b t).2.2.2]) ?hr rfl ⟨rfl, ?hB⟩
         case hB => repeat (first | exact Below.refl _ _ | apply b_al | (refine b_st ?_ ?hg _; case hg => omega) | (refine b_go ?_ (by assumption)))
         case hr =>
          first
           | (have q := fun (y0 y1 y2 : Value) => set3 (w1 := w1) (g := w.heap.size + 1) (by repeat (first | (refine k_new ?_; simp; done) | apply k_al | (refine k_go ?_ (by assumption)))) y0 y1 y2
              have q0 := fun (y0 y1 y2 : Value) => (q y0 y1 y2).1
              have q1 := fun (y0 y1 y2 : Value) => (q y0 y1 y2).2.1
              have q2 := fun (y0 y1 y2 : Value) => (q y0 y1 y2).2.2
              clear q
              (try clear hb hc1 hf1)
              go_light
              simp [results, Tryz.results7, go_sem, wrap_u64, q0, q1, q2]
              (try clear q0 q1 q2)
              all_goals grind [])
           | (go_light
              simp [results, Tryz.results7, go_sem, wrap_u64]
              all_goals grind []))
      have d1 : (kd == k) = false := by simpa using fun e : kd = k => hne e.symm
      have hkd : 1 ≤ kd ∧ kd ≤ 19 := by rcases may_facts hm with h | h | h <;> omega
      by_cases c18 : kd = 18
      · have E := Lib.hid (show convV k kd b t = relV k b by unfold convV; rw [if_neg hnf, if_neg hne, if_pos c18])
        have N1 := fun W => r_fromReal k b t (by rw [← c18]; exact hm) h0 h1 W
        rw [← c18] at N1
        have d2 : (kd == 18) = true := by simpa using c18
        clear hm hs h0 h1 hL hnf hne hkd c18
        go_enter Tryz.func7, Tryz.ntmps7
        go_wp2_with (first | (go_at_call 12; ((with_reducible refine (NM _).mono ?_); rintro e w1 ⟨rfl, hb2⟩; (first | (have hb1 := b_go hb hb2; clear hb hb2 hc1 hf1; have hb := hb1; clear hb1) | (have hb1 := b_go (b_al hb _) hb2; clear hb hb2 hc1 hf1; have hb := hb1; clear hb1) | (have hb := hb2; clear hb2)); obtain ⟨hc1, hf1⟩ := bcell hb)) | (go_at_call 31; refine (r_elem _ _).mono ?_; rintro e w' ⟨rfl, rfl⟩) | (go_at_call 32; ((with_reducible refine (N1 _).mono ?_); rintro e w1 ⟨rfl, hb2⟩; (first | (have hb1 := b_go hb hb2; clear hb hb2 hc1 hf1; have hb := hb1; clear hb1) | (have hb1 := b_go (b_al hb _) hb2; clear hb hb2 hc1 hf1; have hb := hb1; clear hb1) | (have hb := hb2; clear hb2)); obtain ⟨hc1, hf1⟩ := bcell hb)))
        have E0 := E.out
        clear E NM N1
        (refine bodyPost_ret (v := .tuple #[.agg #[.int .u8 (convV k kd b t).1, .int .u64 (convV k kd b t).2.1, .string (convV k kd b t).2.2.1], .int .i64 (convV k kd b t).2.2.2]) ?hr rfl ⟨rfl, ?hB⟩
         case hB => repeat (first | exact Below.refl _ _ | apply b_al | (refine b_st ?_ ?hg _; case hg => omega) | (refine b_go ?_ (by assumption)))
         case hr =>
          first
           | (have q := fun (y0 y1 y2 : Value) => set3 (w1 := w1) (g := w.heap.size + 1) (by repeat (first | (refine k_new ?_; simp; done) | apply k_al | (refine k_go ?_ (by assumption)))) y0 y1 y2
              have q0 := fun (y0 y1 y2 : Value) => (q y0 y1 y2).1
              have q1 := fun (y0 y1 y2 : Value) => (q y0 y1 y2).2.1
              have q2 := fun (y0 y1 y2 : Value) => (q y0 y1 y2).2.2
              clear q
              (try clear hb hc1 hf1)
              go_light
              simp [results, Tryz.results7, go_sem, wrap_u64, q0, q1, q2]
              (try clear q0 q1 q2)
              all_goals grind [])
           | (go_light
              simp [results, Tryz.results7, go_sem, wrap_u64]
              all_goals grind []))
      have d2 : (kd == 18) = false := by simpa using c18
      by_cases c19 : kd = 19
      · have E := Lib.hid (show convV k kd b t = (if k = 1 then txtB t else if whB k = true then txtV k t else (0, 0, ⟨#[]⟩, 8)) by unfold convV; rw [if_neg hnf, if_neg hne, if_neg c18, if_pos c19])
        have N1 : ∀ W, Calls Tryz.prog 33 #[.int .u8 k, .string t] W fun e w' => e = .returned (.tuple #[.agg #[.int .u8 ((if k = 1 then txtB t else if whB k = true then txtV k t else (0, 0, ⟨#[]⟩, 8))).1, .int .u64 ((if k = 1 then txtB t else if whB k = true then txtV k t else (0, 0, ⟨#[]⟩, 8))).2.1, .string ((if k = 1 then txtB t else if whB k = true then txtV k t else (0, 0, ⟨#[]⟩, 8))).2.2.1], .int .i64 ((if k = 1 then txtB t else if whB k = true then txtV k t else (0, 0, ⟨#[]⟩, 8))).2.2.2]) ∧ Below W.heap.size W w' := fun W => by
          by_cases a1 : k = 1
          · rw [if_pos a1, a1]; exact r_fromTextB t W
          · rw [if_neg a1]
            cases a2 : whB k with
            | true => rw [if_pos rfl]; exact r_fromText k t hs W (by unfold whB at a2; simpa using a2)
            | false => rw [if_neg (by simp)]; exact r_fromTextN k t a1 a2 W
        generalize (if k = 1 then txtB t else if whB k = true then txtV k t else (0, 0, ⟨#[]⟩, 8)) = x at *
        have d3 : (kd == 19) = true := by simpa using c19
        clear hm hs h0 h1 hL hnf hne hkd c18 c19
        go_enter Tryz.func7, Tryz.ntmps7
        go_wp2_with (first | (go_at_call 12; ((with_reducible refine (NM _).mono ?_); rintro e w1 ⟨rfl, hb2⟩; (first | (have hb1 := b_go hb hb2; clear hb hb2 hc1 hf1; have hb := hb1; clear hb1) | (have hb1 := b_go (b_al hb _) hb2; clear hb hb2 hc1 hf1; have hb := hb1; clear hb1) | (have hb := hb2; clear hb2)); obtain ⟨hc1, hf1⟩ := bcell hb)) | (go_at_call 31; refine (r_elem _ _).mono ?_; rintro e w' ⟨rfl, rfl⟩) | (go_at_call 33; ((with_reducible refine (N1 _).mono ?_); rintro e w1 ⟨rfl, hb2⟩; (first | (have hb1 := b_go hb hb2; clear hb hb2 hc1 hf1; have hb := hb1; clear hb1) | (have hb1 := b_go (b_al hb _) hb2; clear hb hb2 hc1 hf1; have hb := hb1; clear hb1) | (have hb := hb2; clear hb2)); obtain ⟨hc1, hf1⟩ := bcell hb)))
        have E0 := E.out
        clear E NM N1
        (refine bodyPost_ret (v := .tuple #[.agg #[.int .u8 (convV k kd b t).1, .int .u64 (convV k kd b t).2.1, .string (convV k kd b t).2.2.1], .int .i64 (convV k kd b t).2.2.2]) ?hr rfl ⟨rfl, ?hB⟩
         case hB => repeat (first | exact Below.refl _ _ | apply b_al | (refine b_st ?_ ?hg _; case hg => omega) | (refine b_go ?_ (by assumption)))
         case hr =>
          first
           | (have q := fun (y0 y1 y2 : Value) => set3 (w1 := w1) (g := w.heap.size + 1) (by repeat (first | (refine k_new ?_; simp; done) | apply k_al | (refine k_go ?_ (by assumption)))) y0 y1 y2
              have q0 := fun (y0 y1 y2 : Value) => (q y0 y1 y2).1
              have q1 := fun (y0 y1 y2 : Value) => (q y0 y1 y2).2.1
              have q2 := fun (y0 y1 y2 : Value) => (q y0 y1 y2).2.2
              clear q
              (try clear hb hc1 hf1)
              go_light
              simp [results, Tryz.results7, go_sem, wrap_u64, q0, q1, q2]
              (try clear q0 q1 q2)
              all_goals grind [])
           | (go_light
              simp [results, Tryz.results7, go_sem, wrap_u64]
              all_goals grind []))
      have d3 : (kd == 19) = false := by simpa using c19
      cases ct : timeB kd with
      | true =>
        have hk : 14 ≤ kd ∧ kd ≤ 17 := by unfold timeB at ct; simpa using ct
        have E := Lib.hid (show convV k kd b t = timV k kd b by unfold convV; rw [if_neg hnf, if_neg hne, if_neg c18, if_neg c19, if_pos ct])
        have N1 := fun W => r_fromTime k kd b t hk hm h0 h1 W
        clear hm hs h0 h1 hL hnf hne hkd c18 c19 hk
        go_enter Tryz.func7, Tryz.ntmps7
        go_wp2_with (first | (go_at_call 12; ((with_reducible refine (NM _).mono ?_); rintro e w1 ⟨rfl, hb2⟩; (first | (have hb1 := b_go hb hb2; clear hb hb2 hc1 hf1; have hb := hb1; clear hb1) | (have hb1 := b_go (b_al hb _) hb2; clear hb hb2 hc1 hf1; have hb := hb1; clear hb1) | (have hb := hb2; clear hb2)); obtain ⟨hc1, hf1⟩ := bcell hb)) | (go_at_call 31; refine (r_elem _ _).mono ?_; rintro e w' ⟨rfl, rfl⟩) | (go_at_call 34; refine (r_time _ _).mono ?_; rintro e w' ⟨rfl, rfl⟩) | (go_at_call 35; ((with_reducible refine (N1 _).mono ?_); rintro e w1 ⟨rfl, hb2⟩; (first | (have hb1 := b_go hb hb2; clear hb hb2 hc1 hf1; have hb := hb1; clear hb1) | (have hb1 := b_go (b_al hb _) hb2; clear hb hb2 hc1 hf1; have hb := hb1; clear hb1) | (have hb := hb2; clear hb2)); obtain ⟨hc1, hf1⟩ := bcell hb)))
        have E0 := E.out
        clear E NM N1
        (refine bodyPost_ret (v := .tuple #[.agg #[.int .u8 (convV k kd b t).1, .int .u64 (convV k kd b t).2.1, .string (convV k kd b t).2.2.1], .int .i64 (convV k kd b t).2.2.2]) ?hr rfl ⟨rfl, ?hB⟩
         case hB => repeat (first | exact Below.refl _ _ | apply b_al | (refine b_st ?_ ?hg _; case hg => omega) | (refine b_go ?_ (by assumption)))
         case hr =>
          first
           | (have q := fun (y0 y1 y2 : Value) => set3 (w1 := w1) (g := w.heap.size + 1) (by repeat (first | (refine k_new ?_; simp; done) | apply k_al | (refine k_go ?_ (by assumption)))) y0 y1 y2
              have q0 := fun (y0 y1 y2 : Value) => (q y0 y1 y2).1
              have q1 := fun (y0 y1 y2 : Value) => (q y0 y1 y2).2.1
              have q2 := fun (y0 y1 y2 : Value) => (q y0 y1 y2).2.2
              clear q
              (try clear hb hc1 hf1)
              go_light
              simp [results, Tryz.results7, go_sem, wrap_u64, q0, q1, q2]
              (try clear q0 q1 q2)
              all_goals grind [])
           | (go_light
              simp [results, Tryz.results7, go_sem, wrap_u64]
              all_goals grind []))
      | false =>
        have hk : 1 ≤ kd ∧ kd ≤ 13 := by unfold timeB at ct; simp at ct; omega
        have E := Lib.hid (show convV k kd b t = whoV k kd b by unfold convV; rw [if_neg hnf, if_neg hne, if_neg c18, if_neg c19, if_neg (by rw [ct]; simp)])
        have N1 := fun W (hb : Below w.heap.size w W) => r_fromWhole k kd b t hk hm h0 h1 W (hL.go hb)
        clear hm hs h0 h1 hL hnf hne hkd c18 c19 hk
        go_enter Tryz.func7, Tryz.ntmps7
        go_wp2_with (first | (go_at_call 12; ((with_reducible refine (NM _).mono ?_); rintro e w1 ⟨rfl, hb2⟩; (first | (have hb1 := b_go hb hb2; clear hb hb2 hc1 hf1; have hb := hb1; clear hb1) | (have hb1 := b_go (b_al hb _) hb2; clear hb hb2 hc1 hf1; have hb := hb1; clear hb1) | (have hb := hb2; clear hb2)); obtain ⟨hc1, hf1⟩ := bcell hb)) | (go_at_call 31; refine (r_elem _ _).mono ?_; rintro e w' ⟨rfl, rfl⟩) | (go_at_call 34; refine (r_time _ _).mono ?_; rintro e w' ⟨rfl, rfl⟩) | (go_at_call 36; ((with_reducible refine (N1 _ ?hx).mono ?_); (case hx => (repeat (first | exact Below.refl _ _ | apply b_al | (refine b_st ?_ ?hg _; case hg => omega) | (refine b_go ?_ (by assumption))))); rintro e w1 ⟨rfl, hb2⟩; (first | (have hb1 := b_go hb hb2; clear hb hb2 hc1 hf1; have hb := hb1; clear hb1) | (have hb1 := b_go (b_al hb _) hb2; clear hb hb2 hc1 hf1; have hb := hb1; clear hb1) | (have hb := hb2; clear hb2)); obtain ⟨hc1, hf1⟩ := bcell hb)))
        have E0 := E.out
        clear E NM N1
        (refine bodyPost_ret (v := .tuple #[.agg #[.int .u8 (convV k kd b t).1, .int .u64 (convV k kd b t).2.1, .string (convV k kd b t).2.2.1], .int .i64 (convV k kd b t).2.2.2]) ?hr rfl ⟨rfl, ?hB⟩
         case hB => repeat (first | exact Below.refl _ _ | apply b_al | (refine b_st ?_ ?hg _; case hg => omega) | (refine b_go ?_ (by assumption)))
         case hr =>
          first
           | (have q := fun (y0 y1 y2 : Value) => set3 (w1 := w1) (g := w.heap.size + 1) (by repeat (first | (refine k_new ?_; simp; done) | apply k_al | (refine k_go ?_ (by assumption)))) y0 y1 y2
              have q0 := fun (y0 y1 y2 : Value) => (q y0 y1 y2).1
              have q1 := fun (y0 y1 y2 : Value) => (q y0 y1 y2).2.1
              have q2 := fun (y0 y1 y2 : Value) => (q y0 y1 y2).2.2
              clear q
              (try clear hb hc1 hf1)
              go_light
              simp [results, Tryz.results7, go_sem, wrap_u64, q0, q1, q2]
              (try clear q0 q1 q2)
              all_goals grind [])
           | (go_light
              simp [results, Tryz.results7, go_sem, wrap_u64]
              all_goals grind []))
end Go.Proofs.YtlmmkaddlflepaaGreatDoor.H
