/- Contract of the document's fromWhole, and what it answers. Conditions: bits are 64, the value may be, strconv's table is as laid. -/
import Derived.Test.YtlmmkaddlflepaaGreatDoorHWhole
namespace Go.Proofs.YtlmmkaddlflepaaGreatDoor.H
set_option linter.unusedVariables false
open Go.RowKit Go.Proofs.YtlmmkaddlflepaaGreatDoor.Plain
set_option maxHeartbeats 3200000
set_option maxRecDepth 100000
set_option linter.unusedSimpArgs false
attribute [local go_sem] ext_from ext_bits cell_isSome un_neg_float
theorem word_lt (s : Bool) (r : Nat) (h : r ≤ Ieee.double.infRung) : Ieee.double.word s r < 18446744073709551616 := by
  have e1 : Ieee.double.infRung = 9218868437227405312 := by decide
  have e2 : Ieee.double.signWeight = 9223372036854775808 := by decide
  unfold Ieee.Format.word
  rw [e2]
  split <;> omega
theorem nearest_lt (s : Bool) (m : Nat) (p : Int) : Ieee.double.nearest s m p < 18446744073709551616 := by
  unfold Ieee.Format.nearest
  split
  · exact word_lt _ _ (Nat.zero_le _)
  · exact word_lt _ _ (Nat.min_le_right _ _)
theorem fo_lt (n : Int) : floatOfInt .f64 n < 18446744073709551616 := nearest_lt _ _ _
/-- A BOOL, integer or bit row as another kind. -/
def whoV (k kd b : Int) : Int × Int × ByteArray × Int :=
  if k = 1 then (1, if b = 0 then 0 else 1, ⟨#[]⟩, 0)
  else if k = 18 then ((lrealV (floatOfInt .f64 (if sgB kd = true then wrap64 b else b) : Nat)).1, (lrealV (floatOfInt .f64 (if sgB kd = true then wrap64 b else b) : Nat)).2.1, ⟨#[]⟩, 0)
  else if 2 ≤ k ∧ k ≤ 13 then ofV (nmV kd b).1 (nmV kd b).2 k 7
  else if k = 19 ∧ rowB kd = false then textV (numT kd b)
  else if (14 ≤ k ∧ k ≤ 17) ∧ kd = 5 then ofV (nmV kd b).1 (nmV kd b).2 k 7
  else (0, 0, ⟨#[]⟩, 8)
theorem nm_neg {kd b : Int} (h1 : sgB kd = true) (h2 : wrap64 b < 0) : nmV kd b = (true, (-b) % 18446744073709551616) := by
  have : unB kd = false := by unfold sgB at h1; unfold unB; simp at h1 ⊢; omega
  unfold nmV szV; rw [if_pos h1, if_neg]; rw [this]; simp; omega
theorem nm_pos {kd b : Int} (h2 : 0 ≤ wrap64 b) : nmV kd b = (false, b) := by
  unfold nmV szV; split
  · rw [if_pos (.inr h2)]
  · rfl
theorem nm_un {kd b : Int} (h1 : sgB kd = false) : nmV kd b = (false, b) := by unfold nmV; rw [if_neg]; rw [h1]; simp
theorem r_fromWhole (k kd b : Int) (t : ByteArray) (hk : 1 ≤ kd ∧ kd ≤ 13) (hm : mayB kd b t = true) (h0 : 0 ≤ b) (h1 : b < 18446744073709551616) (w : World) (hL : Laid w) : Calls Tryz.prog 36 #[.int .u8 k, .agg #[.int .u8 kd, .int .u64 b, .string t]] w fun e w' => e = .returned (.tuple #[.agg #[.int .u8 (whoV k kd b).1, .int .u64 (whoV k kd b).2.1, .string (whoV k kd b).2.2.1], .int .i64 (whoV k kd b).2.2.2]) ∧ Below w.heap.size w w' := by
  have hn : ∃ m n, nmV kd b = (m, n) ∧ 0 ≤ n ∧ n < 18446744073709551616 ∧ ((sgB kd = true ∧ wrap64 b < 0 ∧ m = true ∧ n = IntKind.u64.wrap (-b)) ∨ (sgB kd = true ∧ 0 ≤ wrap64 b ∧ m = false ∧ b = n) ∨ (sgB kd = false ∧ m = false ∧ b = n)) := by
    cases hs : sgB kd with
    | true =>
      rcases Int.lt_or_le (wrap64 b) 0 with c | c
      · exact ⟨_, _, nm_neg hs c, by omega, by omega, .inl ⟨rfl, c, rfl, by rw [wrap_u64]⟩⟩
      · exact ⟨_, _, nm_pos c, h0, h1, .inr (.inl ⟨rfl, c, rfl, rfl⟩)⟩
    | false => exact ⟨_, _, nm_un hs, h0, h1, .inr (.inr ⟨rfl, rfl, rfl⟩)⟩
  obtain ⟨m, n, hnm, n0, n1, hc⟩ := hn
  have hbn : b = 0 ↔ n = 0 := by
    rcases hc with ⟨_, _, _, e⟩ | ⟨_, _, _, e⟩ | ⟨_, _, e⟩
    · rw [e, wrap_u64]; omega
    · rw [← e]
    · rw [← e]
  by_cases c1 : k = 1
  · subst c1
    have E := Lib.hid (show whoV 1 kd b = (1, if n = 0 then 0 else 1, ⟨#[]⟩, 0) by unfold whoV; simp [hbn])
    clear hbn hnm n0 n1 h0 h1 hm hL hk
    rcases hc with ⟨c2, c3, rfl, rfl⟩ | ⟨c2, c3, rfl, rfl⟩ | ⟨c2, rfl, rfl⟩
    all_goals
      (try have c9 : decide (wrap64 b < 0) = false := decide_eq_false (Int.not_lt.2 (by assumption)))
      go_enter Tryz.func36, Tryz.ntmps36
      go_wp2_with (first | (go_at_call 40; refine (r_signed _ _).mono ?_; rintro e w' ⟨rfl, rfl⟩) | (go_at_call 58; refine (r_Bool _ _).mono ?_; rintro e w1 ⟨rfl, hb2⟩; (first | (have hb1 := b_go hb hb2; clear hb hb2 hc1 hf1; have hb := hb1; clear hb1) | (have hb1 := b_go (b_al hb _) hb2; clear hb hb2 hc1 hf1; have hb := hb1; clear hb1) | (have hb := hb2; clear hb2)); obtain ⟨hc1, hf1⟩ := bcell hb))
      have E0 := E.out
      clear E
      (refine bodyPost_ret (v := .tuple #[.agg #[.int .u8 (whoV 1 kd b).1, .int .u64 (whoV 1 kd b).2.1, .string (whoV 1 kd b).2.2.1], .int .i64 (whoV 1 kd b).2.2.2]) ?hr rfl ⟨rfl, ?hB⟩
       case hB => repeat (first | exact Below.refl _ _ | apply b_al | (refine b_st ?_ ?hg _; case hg => omega) | (refine b_go ?_ (by assumption)))
       case hr =>
        first
         | (have q := fun (y0 y1 y2 : Value) => set3 (w1 := w1) (g := w.heap.size + 1) (by repeat (first | (refine k_new ?_; simp; done) | apply k_al | (refine k_go ?_ (by assumption)))) y0 y1 y2
            have q0 := fun (y0 y1 y2 : Value) => (q y0 y1 y2).1
            have q1 := fun (y0 y1 y2 : Value) => (q y0 y1 y2).2.1
            have q2 := fun (y0 y1 y2 : Value) => (q y0 y1 y2).2.2
            clear q
            (try clear hb hc1 hf1)
            go_light
            simp [results, Tryz.results36, go_sem, wrap_u64, q0, q1, q2]
            (try clear q0 q1 q2)
            all_goals grind [boolV, wrap_u64])
         | (go_light
            simp [results, Tryz.results36, go_sem, wrap_u64]
            all_goals grind [boolV, wrap_u64]))
  by_cases c2 : 2 ≤ k ∧ k ≤ 13
  · have E := Lib.hid (show whoV k kd b = ofV m n k 7 by unfold whoV; rw [if_neg c1, if_neg (by omega), if_pos c2, hnm])
    have N1 := fun W => r_sized k n m c2 n0 n1 W
    have W1 : ∀ W, Calls Tryz.prog 39 #[.int .u8 k] W fun e w' => e = .returned (.int .i64 (widthV k)) ∧ W = w' := fun W => by have := r_width k W; rwa [rWidthV, if_pos c2] at this
    have d1 : 0 < widthV k := by unfold widthV; repeat (first | omega | split)
    have d2 : (k == 1) = false := by simpa using c1
    have d3 : (k == 18) = false := by simp; omega
    clear hbn hnm n0 n1 h0 h1 hm hL hk c1 c2
    rcases hc with ⟨c2, c3, rfl, rfl⟩ | ⟨c2, c3, rfl, rfl⟩ | ⟨c2, rfl, rfl⟩
    all_goals
      (try have c9 : decide (wrap64 b < 0) = false := decide_eq_false (Int.not_lt.2 (by assumption)))
      go_enter Tryz.func36, Tryz.ntmps36
      go_wp2_with (first | (go_at_call 40; refine (r_signed _ _).mono ?_; rintro e w' ⟨rfl, rfl⟩) | (go_at_call 39; refine (W1 _).mono ?_; rintro e w' ⟨rfl, rfl⟩) | (go_at_call 60; ((with_reducible refine (N1 _).mono ?_); rintro e w1 ⟨rfl, hb2⟩; (first | (have hb1 := b_go hb hb2; clear hb hb2 hc1 hf1; have hb := hb1; clear hb1) | (have hb1 := b_go (b_al hb _) hb2; clear hb hb2 hc1 hf1; have hb := hb1; clear hb1) | (have hb := hb2; clear hb2)); obtain ⟨hc1, hf1⟩ := bcell hb)))
      have E0 := E.out
      clear E N1 W1
      (refine bodyPost_ret (v := .tuple #[.agg #[.int .u8 (whoV k kd b).1, .int .u64 (whoV k kd b).2.1, .string (whoV k kd b).2.2.1], .int .i64 (whoV k kd b).2.2.2]) ?hr rfl ⟨rfl, ?hB⟩
       case hB => repeat (first | exact Below.refl _ _ | apply b_al | (refine b_st ?_ ?hg _; case hg => omega) | (refine b_go ?_ (by assumption)))
       case hr =>
        first
         | (have q := fun (y0 y1 y2 : Value) => set3 (w1 := w1) (g := w.heap.size + 1) (by repeat (first | (refine k_new ?_; simp; done) | apply k_al | (refine k_go ?_ (by assumption)))) y0 y1 y2
            have q0 := fun (y0 y1 y2 : Value) => (q y0 y1 y2).1
            have q1 := fun (y0 y1 y2 : Value) => (q y0 y1 y2).2.1
            have q2 := fun (y0 y1 y2 : Value) => (q y0 y1 y2).2.2
            clear q
            (try clear hb hc1 hf1)
            go_light
            simp [results, Tryz.results36, go_sem, wrap_u64, q0, q1, q2]
            (try clear q0 q1 q2)
            all_goals grind [wrap_u64])
         | (go_light
            simp [results, Tryz.results36, go_sem, wrap_u64]
            all_goals grind [wrap_u64]))
  have d1 : (k == 1) = false := by simpa using c1
  have W1 : ∀ W, Calls Tryz.prog 39 #[.int .u8 k] W fun e w' => e = .returned (.int .i64 0) ∧ W = w' := fun W => by have := r_width k W; rwa [rWidthV, if_neg c2] at this
  by_cases c3 : k = 18
  · subst c3
    have d2 : sgB kd = true → 0 ≤ wrap64 b → wrap64 b = b := fun _ h => by unfold wrap64 at h ⊢; omega
    have N1 := fun W => r_Lreal (floatOfInt .f64 (wrap64 b)) (by have := fo_lt (wrap64 b); omega) W
    have N2 := fun W => r_Lreal (floatOfInt .f64 b) (by have := fo_lt b; omega) W
    have E := Lib.hid (show whoV 18 kd b = ((lrealV (floatOfInt .f64 (if m = true then wrap64 b else b) : Nat)).1, (lrealV (floatOfInt .f64 (if m = true then wrap64 b else b) : Nat)).2.1, ⟨#[]⟩, 0) by
      unfold whoV
      rw [if_neg (by decide), if_pos rfl]
      rcases hc with ⟨s1, s2, rfl, _⟩ | ⟨s1, s2, rfl, _⟩ | ⟨s1, rfl, _⟩
      · rw [s1]
      · rw [s1, d2 s1 s2]; simp
      · rw [s1])
    clear hbn hnm n0 n1 h0 h1 hm hL hk d2 W1
    rcases hc with ⟨c2, c3, rfl, rfl⟩ | ⟨c2, c3, rfl, rfl⟩ | ⟨c2, rfl, rfl⟩
    all_goals
      (try have c9 : decide (wrap64 b < 0) = false := decide_eq_false (Int.not_lt.2 (by assumption)))
      go_enter Tryz.func36, Tryz.ntmps36
      go_wp2_with (first | (go_at_call 40; refine (r_signed _ _).mono ?_; rintro e w' ⟨rfl, rfl⟩) | (go_at_call 63; first | ((with_reducible refine (N1 _).mono ?_); rintro e w1 ⟨rfl, hb2⟩; (first | (have hb1 := b_go hb hb2; clear hb hb2 hc1 hf1; have hb := hb1; clear hb1) | (have hb1 := b_go (b_al hb _) hb2; clear hb hb2 hc1 hf1; have hb := hb1; clear hb1) | (have hb := hb2; clear hb2)); obtain ⟨hc1, hf1⟩ := bcell hb) | ((with_reducible refine (N2 _).mono ?_); rintro e w1 ⟨rfl, hb2⟩; (first | (have hb1 := b_go hb hb2; clear hb hb2 hc1 hf1; have hb := hb1; clear hb1) | (have hb1 := b_go (b_al hb _) hb2; clear hb hb2 hc1 hf1; have hb := hb1; clear hb1) | (have hb := hb2; clear hb2)); obtain ⟨hc1, hf1⟩ := bcell hb)))
      have E0 := E.out
      clear E N1 N2
      (refine bodyPost_ret (v := .tuple #[.agg #[.int .u8 (whoV 18 kd b).1, .int .u64 (whoV 18 kd b).2.1, .string (whoV 18 kd b).2.2.1], .int .i64 (whoV 18 kd b).2.2.2]) ?hr rfl ⟨rfl, ?hB⟩
       case hB => repeat (first | exact Below.refl _ _ | apply b_al | (refine b_st ?_ ?hg _; case hg => omega) | (refine b_go ?_ (by assumption)))
       case hr =>
        first
         | (have q := fun (y0 y1 y2 : Value) => set3 (w1 := w1) (g := w.heap.size + 1) (by repeat (first | (refine k_new ?_; simp; done) | apply k_al | (refine k_go ?_ (by assumption)))) y0 y1 y2
            have q0 := fun (y0 y1 y2 : Value) => (q y0 y1 y2).1
            have q1 := fun (y0 y1 y2 : Value) => (q y0 y1 y2).2.1
            have q2 := fun (y0 y1 y2 : Value) => (q y0 y1 y2).2.2
            clear q
            (try clear hb hc1 hf1)
            go_light
            simp [results, Tryz.results36, go_sem, wrap_u64, q0, q1, q2]
            (try clear q0 q1 q2)
            all_goals grind [lrealV])
         | (go_light
            simp [results, Tryz.results36, go_sem, wrap_u64]
            all_goals grind [lrealV]))
  have d3 : (k == 18) = false := by simpa using c3
  by_cases c4 : k = 19
  · subst c4
    cases hr : rowB kd with
    | true =>
      have E := Lib.hid (show whoV 19 kd b = (0, 0, ⟨#[]⟩, 8) by unfold whoV; simp [hr])
      clear hbn hnm n0 n1 h0 h1 hm hL hk
      rcases hc with ⟨c2, c3, rfl, rfl⟩ | ⟨c2, c3, rfl, rfl⟩ | ⟨c2, rfl, rfl⟩
      all_goals
        (try have c9 : decide (wrap64 b < 0) = false := decide_eq_false (Int.not_lt.2 (by assumption)))
        go_enter Tryz.func36, Tryz.ntmps36
        go_wp2_with (first | (go_at_call 40; refine (r_signed _ _).mono ?_; rintro e w' ⟨rfl, rfl⟩) | (go_at_call 64; refine (r_row _ _).mono ?_; rintro e w' ⟨rfl, rfl⟩) | (go_at_call 34; refine (r_time _ _).mono ?_; rintro e w' ⟨rfl, rfl⟩) | (go_at_call 39; refine (W1 _).mono ?_; rintro e w' ⟨rfl, rfl⟩))
        all_goals have E0 := E.out
        all_goals clear E W1
        all_goals
          (refine bodyPost_ret (v := .tuple #[.agg #[.int .u8 (whoV 19 kd b).1, .int .u64 (whoV 19 kd b).2.1, .string (whoV 19 kd b).2.2.1], .int .i64 (whoV 19 kd b).2.2.2]) ?hr rfl ⟨rfl, ?hB⟩
           case hB => repeat (first | exact Below.refl _ _ | apply b_al | (refine b_st ?_ ?hg _; case hg => omega) | (refine b_go ?_ (by assumption)))
           case hr =>
            first
             | (have q := fun (y0 y1 y2 : Value) => set3 (w1 := w1) (g := w.heap.size + 1) (by repeat (first | (refine k_new ?_; simp; done) | apply k_al | (refine k_go ?_ (by assumption)))) y0 y1 y2
                have q0 := fun (y0 y1 y2 : Value) => (q y0 y1 y2).1
                have q1 := fun (y0 y1 y2 : Value) => (q y0 y1 y2).2.1
                have q2 := fun (y0 y1 y2 : Value) => (q y0 y1 y2).2.2
                clear q
                (try clear hb hc1 hf1)
                go_light
                simp [results, Tryz.results36, go_sem, wrap_u64, q0, q1, q2]
                (try clear q0 q1 q2)
                all_goals grind [timeB])
             | (go_light
                simp [results, Tryz.results36, go_sem, wrap_u64]
                all_goals grind [timeB]))
    | false =>
      have hk9 : kd ≤ 9 := by unfold rowB at hr; simp at hr; omega
      have N1 := fun W (hb : Below w.heap.size w W) => r_Print kd b t ⟨hk.1, hk9⟩ h0 h1 hm W (hL.go hb)
      have N2 := fun W => r_Text (numT kd b) W
      have E := Lib.hid (show whoV 19 kd b = textV (numT kd b) by unfold whoV; simp [hr])
      clear hbn hnm n0 n1 h0 h1 hm hL hk
      rcases hc with ⟨c2, c3, rfl, rfl⟩ | ⟨c2, c3, rfl, rfl⟩ | ⟨c2, rfl, rfl⟩
      all_goals
        (try have c9 : decide (wrap64 b < 0) = false := decide_eq_false (Int.not_lt.2 (by assumption)))
        go_enter Tryz.func36, Tryz.ntmps36
        go_wp2_with (first | (go_at_call 40; refine (r_signed _ _).mono ?_; rintro e w' ⟨rfl, rfl⟩) | (go_at_call 64; refine (r_row _ _).mono ?_; rintro e w' ⟨rfl, rfl⟩) | (go_at_call 39; refine (W1 _).mono ?_; rintro e w' ⟨rfl, rfl⟩) | (go_at_call 66; refine (N1 _ ?hx).mono ?_; (case hx => (repeat (first | exact Below.refl _ _ | apply b_al | (refine b_st ?_ ?hg _; case hg => omega) | (refine b_go ?_ (by assumption))))); rintro e w1 ⟨rfl, hb2⟩; (first | (have hb1 := b_go hb hb2; clear hb hb2 hc1 hf1; have hb := hb1; clear hb1) | (have hb1 := b_go (b_al hb _) hb2; clear hb hb2 hc1 hf1; have hb := hb1; clear hb1) | (have hb := hb2; clear hb2)); obtain ⟨hc1, hf1⟩ := bcell hb) | (go_at_call 65; refine (N2 _).mono ?_; rintro e w1 ⟨rfl, hb2⟩; (first | (have hb1 := b_go hb hb2; clear hb hb2 hc1 hf1; have hb := hb1; clear hb1) | (have hb1 := b_go (b_al hb _) hb2; clear hb hb2 hc1 hf1; have hb := hb1; clear hb1) | (have hb := hb2; clear hb2)); obtain ⟨hc1, hf1⟩ := bcell hb))
        have E0 := E.out
        clear E W1 N1 N2
        (refine bodyPost_ret (v := .tuple #[.agg #[.int .u8 (whoV 19 kd b).1, .int .u64 (whoV 19 kd b).2.1, .string (whoV 19 kd b).2.2.1], .int .i64 (whoV 19 kd b).2.2.2]) ?hr rfl ⟨rfl, ?hB⟩
         case hB => repeat (first | exact Below.refl _ _ | apply b_al | (refine b_st ?_ ?hg _; case hg => omega) | (refine b_go ?_ (by assumption)))
         case hr =>
          first
           | (have q := fun (y0 y1 y2 : Value) => set3 (w1 := w1) (g := w.heap.size + 1) (by repeat (first | (refine k_new ?_; simp; done) | apply k_al | (refine k_go ?_ (by assumption)))) y0 y1 y2
              have q0 := fun (y0 y1 y2 : Value) => (q y0 y1 y2).1
              have q1 := fun (y0 y1 y2 : Value) => (q y0 y1 y2).2.1
              have q2 := fun (y0 y1 y2 : Value) => (q y0 y1 y2).2.2
              clear q
              (try clear hb hc1 hf1)
              go_light
              simp [results, Tryz.results36, go_sem, wrap_u64, q0, q1, q2]
              (try clear q0 q1 q2)
              all_goals grind [])
           | (go_light
              simp [results, Tryz.results36, go_sem, wrap_u64]
              all_goals grind []))
  have d4 : (k == 19) = false := by simpa using c4
  by_cases c5 : 14 ≤ k ∧ k ≤ 17
  · have t1 : timeB k = true := by unfold timeB; simp; omega
    by_cases c6 : kd = 5
    · subst c6
      have N1 := fun W => r_made k b 7 h0 h1 W
      have E := Lib.hid (show whoV k 5 b = ofV m n k 7 by unfold whoV; rw [if_neg c1, if_neg c3, if_neg c2, if_neg (by intro h; exact c4 h.1), if_pos ⟨c5, rfl⟩, hnm])
      have M := Lib.hid (show (m = true → ¬ k = 14 → ofV m n k 7 = (0, 0, ⟨#[]⟩, 7)) ∧ (m = false ∨ k = 14 → ofV m n k 7 = madeV k b 7) by
        have s3 := sg3 k
        have hsk : sgB k = false := by unfold sgB; simp; omega
        rcases s3 with ⟨q, _⟩ | ⟨_, q1, q2⟩ | ⟨_, q1, q2⟩
        · rw [hsk] at q; cases q
        · subst q1
          refine ⟨fun _ h => absurd rfl h, fun _ => ?_⟩
          have hf : ∀ x, fitsB 14 x = true := fun x => by unfold fitsB; simp
          have hb14 : bitsB 14 b = true := by unfold bitsB; rw [if_neg (by decide)]; exact hf _
          unfold madeV ofV
          rw [if_pos hb14, q2]
          rcases hc with ⟨_, s2, rfl, rfl⟩ | ⟨_, s2, rfl, rfl⟩ | ⟨s1, rfl, rfl⟩
          · rw [wrap_u64]
            have hb2 : 9223372036854775808 ≤ b := by unfold wrap64 at s2; omega
            have e1 : -((-b) % 18446744073709551616) % 18446744073709551616 = b := by omega
            rw [if_pos ⟨rfl, by omega⟩, if_pos ⟨rfl, by omega, hf _⟩, e1]
          · have : b ≤ 9223372036854775807 := by unfold wrap64 at s2; omega
            rw [if_neg (by simp), if_pos ⟨by omega, hf _⟩]
          · exact absurd s1 (by decide)
        · refine ⟨fun hmt _ => ?_, fun hmf => ?_⟩
          · unfold ofV
            rcases hc with ⟨_, s2, rfl, rfl⟩ | ⟨_, s2, rfl, rfl⟩ | ⟨s1, rfl, rfl⟩
            · rw [if_pos ⟨rfl, by rw [wrap_u64]; unfold wrap64 at s2; omega⟩, if_neg (by rw [q2]; simp)]
            · cases hmt
            · cases hmt
          · rcases hmf with hmf | hmf
            · subst hmf
              have hnb : n = b := by
                rcases hc with ⟨_, _, e, _⟩ | ⟨_, _, _, e⟩ | ⟨_, _, e⟩
                · cases e
                · exact e.symm
                · exact e.symm
              unfold ofV madeV bitsB
              rw [if_neg (by simp), hnb, if_neg c3, q2]
              simp
            · exact absurd hmf q1)
      clear hbn hnm n0 n1 h0 h1 hm hL hk
      by_cases c14 : k = 14
      · subst c14
        have E9 := Lib.hid (E.out.trans (M.out.2 (.inr rfl)))
        clear E M
        rcases hc with ⟨c2, c3, rfl, rfl⟩ | ⟨c2, c3, rfl, rfl⟩ | ⟨c2, rfl, rfl⟩
        all_goals
          (try have c9 : decide (wrap64 b < 0) = false := decide_eq_false (Int.not_lt.2 (by assumption)))
          go_enter Tryz.func36, Tryz.ntmps36
          go_wp2_with (first | (go_at_call 40; refine (r_signed _ _).mono ?_; rintro e w' ⟨rfl, rfl⟩) | (go_at_call 34; refine (r_time _ _).mono ?_; rintro e w' ⟨rfl, rfl⟩) | (go_at_call 39; refine (W1 _).mono ?_; rintro e w' ⟨rfl, rfl⟩) | (go_at_call 62; refine (N1 _).mono ?_; rintro e w1 ⟨rfl, hb2⟩; (first | (have hb1 := b_go hb hb2; clear hb hb2 hc1 hf1; have hb := hb1; clear hb1) | (have hb1 := b_go (b_al hb _) hb2; clear hb hb2 hc1 hf1; have hb := hb1; clear hb1) | (have hb := hb2; clear hb2)); obtain ⟨hc1, hf1⟩ := bcell hb))
          have E0 := E9.out
          clear E9 W1 N1
          (refine bodyPost_ret (v := .tuple #[.agg #[.int .u8 (whoV 14 5 b).1, .int .u64 (whoV 14 5 b).2.1, .string (whoV 14 5 b).2.2.1], .int .i64 (whoV 14 5 b).2.2.2]) ?hr rfl ⟨rfl, ?hB⟩
           case hB => repeat (first | exact Below.refl _ _ | apply b_al | (refine b_st ?_ ?hg _; case hg => omega) | (refine b_go ?_ (by assumption)))
           case hr =>
            first
             | (have q := fun (y0 y1 y2 : Value) => set3 (w1 := w1) (g := w.heap.size + 1) (by repeat (first | (refine k_new ?_; simp; done) | apply k_al | (refine k_go ?_ (by assumption)))) y0 y1 y2
                have q0 := fun (y0 y1 y2 : Value) => (q y0 y1 y2).1
                have q1 := fun (y0 y1 y2 : Value) => (q y0 y1 y2).2.1
                have q2 := fun (y0 y1 y2 : Value) => (q y0 y1 y2).2.2
                clear q
                (try clear hb hc1 hf1)
                go_light
                simp [results, Tryz.results36, go_sem, wrap_u64, q0, q1, q2]
                (try clear q0 q1 q2)
                all_goals grind [])
             | (go_light
                simp [results, Tryz.results36, go_sem, wrap_u64]
                all_goals grind []))
      · have d14 : (k == 14) = false := by simpa using c14
        rcases hc with ⟨c2, c3, rfl, rfl⟩ | ⟨c2, c3, rfl, rfl⟩ | ⟨c2, rfl, rfl⟩
        all_goals
          first | (have E9 := Lib.hid (E.out.trans (M.out.1 rfl c14))) | (have E9 := Lib.hid (E.out.trans (M.out.2 (.inl rfl))))
          clear E M
          (try have c9 : decide (wrap64 b < 0) = false := decide_eq_false (Int.not_lt.2 (by assumption)))
          go_enter Tryz.func36, Tryz.ntmps36
          go_wp2_with (first | (go_at_call 40; refine (r_signed _ _).mono ?_; rintro e w' ⟨rfl, rfl⟩) | (go_at_call 34; refine (r_time _ _).mono ?_; rintro e w' ⟨rfl, rfl⟩) | (go_at_call 39; refine (W1 _).mono ?_; rintro e w' ⟨rfl, rfl⟩) | (go_at_call 62; refine (N1 _).mono ?_; rintro e w1 ⟨rfl, hb2⟩; (first | (have hb1 := b_go hb hb2; clear hb hb2 hc1 hf1; have hb := hb1; clear hb1) | (have hb1 := b_go (b_al hb _) hb2; clear hb hb2 hc1 hf1; have hb := hb1; clear hb1) | (have hb := hb2; clear hb2)); obtain ⟨hc1, hf1⟩ := bcell hb))
          have E0 := E9.out
          clear E9 W1 N1
          (refine bodyPost_ret (v := .tuple #[.agg #[.int .u8 (whoV k 5 b).1, .int .u64 (whoV k 5 b).2.1, .string (whoV k 5 b).2.2.1], .int .i64 (whoV k 5 b).2.2.2]) ?hr rfl ⟨rfl, ?hB⟩
           case hB => repeat (first | exact Below.refl _ _ | apply b_al | (refine b_st ?_ ?hg _; case hg => omega) | (refine b_go ?_ (by assumption)))
           case hr =>
            first
             | (have q := fun (y0 y1 y2 : Value) => set3 (w1 := w1) (g := w.heap.size + 1) (by repeat (first | (refine k_new ?_; simp; done) | apply k_al | (refine k_go ?_ (by assumption)))) y0 y1 y2
                have q0 := fun (y0 y1 y2 : Value) => (q y0 y1 y2).1
                have q1 := fun (y0 y1 y2 : Value) => (q y0 y1 y2).2.1
                have q2 := fun (y0 y1 y2 : Value) => (q y0 y1 y2).2.2
                clear q
                (try clear hb hc1 hf1)
                go_light
                simp [results, Tryz.results36, go_sem, wrap_u64, q0, q1, q2]
                (try clear q0 q1 q2)
                all_goals grind [])
             | (go_light
                simp [results, Tryz.results36, go_sem, wrap_u64]
                all_goals grind []))
    · have d6 : (kd == 5) = false := by simpa using c6
      have E := Lib.hid (show whoV k kd b = (0, 0, ⟨#[]⟩, 8) by unfold whoV; rw [if_neg c1, if_neg c3, if_neg c2, if_neg (by intro h; exact c4 h.1), if_neg (by intro h; exact c6 h.2)])
      clear hbn hnm n0 n1 h0 h1 hm hL hk
      rcases hc with ⟨c2, c3, rfl, rfl⟩ | ⟨c2, c3, rfl, rfl⟩ | ⟨c2, rfl, rfl⟩
      all_goals
        (try have c9 : decide (wrap64 b < 0) = false := decide_eq_false (Int.not_lt.2 (by assumption)))
        go_enter Tryz.func36, Tryz.ntmps36
        go_wp2_with (first | (go_at_call 40; refine (r_signed _ _).mono ?_; rintro e w' ⟨rfl, rfl⟩) | (go_at_call 34; refine (r_time _ _).mono ?_; rintro e w' ⟨rfl, rfl⟩) | (go_at_call 39; refine (W1 _).mono ?_; rintro e w' ⟨rfl, rfl⟩))
        have E0 := E.out
        clear E W1
        (refine bodyPost_ret (v := .tuple #[.agg #[.int .u8 (whoV k kd b).1, .int .u64 (whoV k kd b).2.1, .string (whoV k kd b).2.2.1], .int .i64 (whoV k kd b).2.2.2]) ?hr rfl ⟨rfl, ?hB⟩
         case hB => repeat (first | exact Below.refl _ _ | apply b_al | (refine b_st ?_ ?hg _; case hg => omega) | (refine b_go ?_ (by assumption)))
         case hr =>
          first
           | (have q := fun (y0 y1 y2 : Value) => set3 (w1 := w1) (g := w.heap.size + 1) (by repeat (first | (refine k_new ?_; simp; done) | apply k_al | (refine k_go ?_ (by assumption)))) y0 y1 y2
              have q0 := fun (y0 y1 y2 : Value) => (q y0 y1 y2).1
              have q1 := fun (y0 y1 y2 : Value) => (q y0 y1 y2).2.1
              have q2 := fun (y0 y1 y2 : Value) => (q y0 y1 y2).2.2
              clear q
              (try clear hb hc1 hf1)
              go_light
              simp [results, Tryz.results36, go_sem, wrap_u64, q0, q1, q2]
              (try clear q0 q1 q2)
              all_goals grind [])
           | (go_light
              simp [results, Tryz.results36, go_sem, wrap_u64]
              all_goals grind []))
  · have t1 : timeB k = false := by unfold timeB; simp; omega
    have E := Lib.hid (show whoV k kd b = (0, 0, ⟨#[]⟩, 8) by unfold whoV; rw [if_neg c1, if_neg c3, if_neg c2, if_neg (by intro h; exact c4 h.1), if_neg (by intro h; exact c5 h.1)])
    clear hbn hnm n0 n1 h0 h1 hm hL hk
    rcases hc with ⟨c2, c3, rfl, rfl⟩ | ⟨c2, c3, rfl, rfl⟩ | ⟨c2, rfl, rfl⟩
    all_goals
      (try have c9 : decide (wrap64 b < 0) = false := decide_eq_false (Int.not_lt.2 (by assumption)))
      go_enter Tryz.func36, Tryz.ntmps36
      go_wp2_with (first | (go_at_call 40; refine (r_signed _ _).mono ?_; rintro e w' ⟨rfl, rfl⟩) | (go_at_call 34; refine (r_time _ _).mono ?_; rintro e w' ⟨rfl, rfl⟩) | (go_at_call 39; refine (W1 _).mono ?_; rintro e w' ⟨rfl, rfl⟩))
      have E0 := E.out
      clear E W1
      (refine bodyPost_ret (v := .tuple #[.agg #[.int .u8 (whoV k kd b).1, .int .u64 (whoV k kd b).2.1, .string (whoV k kd b).2.2.1], .int .i64 (whoV k kd b).2.2.2]) ?hr rfl ⟨rfl, ?hB⟩
       case hB => repeat (first | exact Below.refl _ _ | apply b_al | (refine b_st ?_ ?hg _; case hg => omega) | (refine b_go ?_ (by assumption)))
       case hr =>
        first
         | (have q := fun (y0 y1 y2 : Value) => set3 (w1 := w1) (g := w.heap.size + 1) (by repeat (first | (refine k_new ?_; simp; done) | apply k_al | (refine k_go ?_ (by assumption)))) y0 y1 y2
            have q0 := fun (y0 y1 y2 : Value) => (q y0 y1 y2).1
            have q1 := fun (y0 y1 y2 : Value) => (q y0 y1 y2).2.1
            have q2 := fun (y0 y1 y2 : Value) => (q y0 y1 y2).2.2
            clear q
            (try clear hb hc1 hf1)
            go_light
            simp [results, Tryz.results36, go_sem, wrap_u64, q0, q1, q2]
            (try clear q0 q1 q2)
            all_goals grind [])
         | (go_light
            simp [results, Tryz.results36, go_sem, wrap_u64]
            all_goals grind []))
end Go.Proofs.YtlmmkaddlflepaaGreatDoor.H
