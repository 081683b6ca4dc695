/- The program's Convert. Conditions: bits are 64, a string takes no more than can be read, strconv's table and errors are as laid. -/
import Derived.Test.YtlmmkaddlflepaaGreatDoorHFloatW
namespace Go.Proofs.YtlmmkaddlflepaaGreatDoor.H
open Go.RowKit Go.Proofs.YtlmmkaddlflepaaGreatDoor.Plain
set_option maxHeartbeats 3200000
set_option maxRecDepth 100000
set_option linter.unusedSimpArgs false
set_option linter.unusedVariables false
attribute [local go_sem] ext_from ext_bits cell_isSome un_neg_float
/-- A value as of another kind. -/
def convV (k kd b : Int) (t : ByteArray) : Int × Int × ByteArray × Int :=
  if mayB kd b t = false ∨ elB k = false then (0, 0, ⟨#[]⟩, 8)
  else if k = kd then (kd, b, t, 0)
  else if kd = 18 then relV k b
  else if kd = 19 then (if k = 1 then txtB t else if whB k = true then txtV k t else (0, 0, ⟨#[]⟩, 8))
  else if timeB kd = true then timV k kd b
  else whoV k kd b
theorem sz_rng (kd b : Int) (h0 : 0 ≤ b) (h1 : b < 18446744073709551616) : 0 ≤ (szV kd b).2 ∧ (szV kd b).2 < 18446744073709551616 := by
  unfold szV; split <;> simp <;> omega
theorem nm_rng (kd b : Int) (h0 : 0 ≤ b) (h1 : b < 18446744073709551616) : 0 ≤ (nmV kd b).2 ∧ (nmV kd b).2 < 18446744073709551616 := by
  unfold nmV; split
  · exact sz_rng kd b h0 h1
  · exact ⟨h0, h1⟩
theorem cv_num_Wh_Bo (k kd b : Int) (t : ByteArray) (hk : 2 ≤ k ∧ k ≤ 9) (hd : 1 ≤ kd ∧ kd ≤ 1) (hne : ¬ k = kd) (hm : mayB kd b t = true) (hs : t.size ≤ 140737488351232) (h0 : 0 ≤ b) (h1 : b < 18446744073709551616) (w : World) (hL : Laid w) : Calls Tryz.prog 6 #[.int .u8 k, .agg #[.int .u8 kd, .int .u64 b, .string t]] w fun e w' => e = .returned (.tuple #[.agg #[.int .u8 (convV k kd b t).1, .int .u64 (convV k kd b t).2.1, .string (convV k kd b t).2.2.1], .int .i64 (convV k kd b t).2.2.2]) ∧ Below w.heap.size w w' := by
  have E := Lib.hid (show convV k kd b t = ofV (nmV kd b).1 (nmV kd b).2 k 7 by
    unfold convV; rw [if_neg (by rw [hm]; simp; unfold elB; simp; omega), if_neg hne, if_neg (by omega), if_neg (by omega), if_neg (by unfold timeB; simp; omega)]; unfold whoV; rw [if_neg (by omega), if_neg (by omega), if_pos (by omega)])
  have NM : ∀ W, Calls Tryz.prog 17 #[.agg #[.int .u8 kd, .int .u64 b, .string t]] W fun e w' => e = .returned (.bool true) ∧ Below W.heap.size W w' := fun W => by have := v_may kd b t h0 h1 W; rwa [hm] at this
  have f_k_el : elB k = true := by unfold elB; simp; omega
  have n_k_kd : (k == kd) = false := by simpa using hne
  have f_k_wh : whB k = true := by unfold whB; simp; omega
  have f_k_row : rowB k = false := by unfold rowB; simp; omega
  have f_kd_wh : whB kd = false := by unfold whB; simp; omega
  have f_kd_row : rowB kd = false := by unfold rowB; simp; omega
  have n_kd_1 : (kd == 1) = true := by simp; omega
  have hr : 0 ≤ (nmV kd b).2 ∧ (nmV kd b).2 < 18446744073709551616 := nm_rng kd b h0 h1
  have N1 := fun W => v_number kd b t W
  have N2 := fun W => v_of (nmV kd b).1 (nmV kd b).2 k 7 hr.1 hr.2 W
  clear hr
  clear hm hs h0 h1 hL hk hd hne
  go_enter Tryz.func6, Tryz.ntmps6
  go_wp2_with (first | (go_at_call 17; ((with_reducible refine (NM _).mono ?_); rintro e w1 ⟨rfl, hb2⟩; (first | (have hb1 := b_go hb hb2; clear hb hb2 hc1 hf1; have hb := hb1; clear hb1) | (have hb1 := b_go (b_al hb _) hb2; clear hb hb2 hc1 hf1; have hb := hb1; clear hb1) | (have hb := hb2; clear hb2)); obtain ⟨hc1, hf1⟩ := bcell hb)) | (go_at_call 15; ((with_reducible refine (v_whole _ _).mono ?_); rintro e w' ⟨rfl, rfl⟩)) | (go_at_call 16; ((with_reducible refine (v_row _ _).mono ?_); rintro e w' ⟨rfl, rfl⟩)) | (go_at_call 18; ((with_reducible refine (v_known _ _).mono ?_); rintro e w' ⟨rfl, rfl⟩)) | (go_at_call 22; ((with_reducible refine (v_signed _ _).mono ?_); rintro e w' ⟨rfl, rfl⟩)) | (go_at_call 26; ((with_reducible refine (v_timed _ _).mono ?_); rintro e w' ⟨rfl, rfl⟩)) | (go_at_call 19; ((with_reducible refine (N1 _).mono ?_); rintro e w1 ⟨rfl, hb2⟩; (first | (have hb1 := b_go hb hb2; clear hb hb2 hc1 hf1; have hb := hb1; clear hb1) | (have hb1 := b_go (b_al hb _) hb2; clear hb hb2 hc1 hf1; have hb := hb1; clear hb1) | (have hb := hb2; clear hb2)); obtain ⟨hc1, hf1⟩ := bcell hb)) | (go_at_call 20; ((with_reducible refine (N2 _).mono ?_); rintro e w1 ⟨rfl, hb2⟩; (first | (have hb1 := b_go hb hb2; clear hb hb2 hc1 hf1; have hb := hb1; clear hb1) | (have hb1 := b_go (b_al hb _) hb2; clear hb hb2 hc1 hf1; have hb := hb1; clear hb1) | (have hb := hb2; clear hb2)); obtain ⟨hc1, hf1⟩ := bcell hb)))
  all_goals
    have E0 := E.out
    clear N1 N2
    clear E NM
    (refine bodyPost_ret (v := .tuple #[.agg #[.int .u8 (convV k kd b t).1, .int .u64 (convV k kd b t).2.1, .string (convV k kd b t).2.2.1], .int .i64 (convV k kd b t).2.2.2]) ?hr rfl ⟨rfl, ?hB⟩
     case hB => repeat (first | exact Below.refl _ _ | apply b_al | (refine b_st ?_ ?hg _; case hg => omega) | (refine b_go ?_ (by assumption)))
     case hr =>
      first
       | (have q := fun (y0 y1 y2 : Value) => set3 (w1 := w1) (g := w.heap.size + 1) (by repeat (first | (refine k_new ?_; simp; done) | apply k_al | (refine k_go ?_ (by assumption)))) y0 y1 y2
          have q0 := fun (y0 y1 y2 : Value) => (q y0 y1 y2).1
          have q1 := fun (y0 y1 y2 : Value) => (q y0 y1 y2).2.1
          have q2 := fun (y0 y1 y2 : Value) => (q y0 y1 y2).2.2
          clear q
          (try clear hb hc1 hf1)
          go_light
          simp [results, Tryz.results6, go_sem, wrap_u64, q0, q1, q2]
          (try clear q0 q1 q2)
          all_goals grind [])
       | (go_light
          simp [results, Tryz.results6, go_sem, wrap_u64]
          all_goals grind []))
theorem cv_num_Wh_Wh (k kd b : Int) (t : ByteArray) (hk : 2 ≤ k ∧ k ≤ 9) (hd : 2 ≤ kd ∧ kd ≤ 9) (hne : ¬ k = kd) (hm : mayB kd b t = true) (hs : t.size ≤ 140737488351232) (h0 : 0 ≤ b) (h1 : b < 18446744073709551616) (w : World) (hL : Laid w) : Calls Tryz.prog 6 #[.int .u8 k, .agg #[.int .u8 kd, .int .u64 b, .string t]] w fun e w' => e = .returned (.tuple #[.agg #[.int .u8 (convV k kd b t).1, .int .u64 (convV k kd b t).2.1, .string (convV k kd b t).2.2.1], .int .i64 (convV k kd b t).2.2.2]) ∧ Below w.heap.size w w' := by
  have E := Lib.hid (show convV k kd b t = ofV (nmV kd b).1 (nmV kd b).2 k 7 by
    unfold convV; rw [if_neg (by rw [hm]; simp; unfold elB; simp; omega), if_neg hne, if_neg (by omega), if_neg (by omega), if_neg (by unfold timeB; simp; omega)]; unfold whoV; rw [if_neg (by omega), if_neg (by omega), if_pos (by omega)])
  have NM : ∀ W, Calls Tryz.prog 17 #[.agg #[.int .u8 kd, .int .u64 b, .string t]] W fun e w' => e = .returned (.bool true) ∧ Below W.heap.size W w' := fun W => by have := v_may kd b t h0 h1 W; rwa [hm] at this
  have f_k_el : elB k = true := by unfold elB; simp; omega
  have n_k_kd : (k == kd) = false := by simpa using hne
  have f_k_wh : whB k = true := by unfold whB; simp; omega
  have f_k_row : rowB k = false := by unfold rowB; simp; omega
  have f_kd_wh : whB kd = true := by unfold whB; simp; omega
  have f_kd_row : rowB kd = false := by unfold rowB; simp; omega
  have n_kd_1 : (kd == 1) = false := by simp; omega
  have hr : 0 ≤ (nmV kd b).2 ∧ (nmV kd b).2 < 18446744073709551616 := nm_rng kd b h0 h1
  have N1 := fun W => v_number kd b t W
  have N2 := fun W => v_of (nmV kd b).1 (nmV kd b).2 k 7 hr.1 hr.2 W
  clear hr
  clear hm hs h0 h1 hL hk hd hne
  go_enter Tryz.func6, Tryz.ntmps6
  go_wp2_with (first | (go_at_call 17; ((with_reducible refine (NM _).mono ?_); rintro e w1 ⟨rfl, hb2⟩; (first | (have hb1 := b_go hb hb2; clear hb hb2 hc1 hf1; have hb := hb1; clear hb1) | (have hb1 := b_go (b_al hb _) hb2; clear hb hb2 hc1 hf1; have hb := hb1; clear hb1) | (have hb := hb2; clear hb2)); obtain ⟨hc1, hf1⟩ := bcell hb)) | (go_at_call 15; ((with_reducible refine (v_whole _ _).mono ?_); rintro e w' ⟨rfl, rfl⟩)) | (go_at_call 16; ((with_reducible refine (v_row _ _).mono ?_); rintro e w' ⟨rfl, rfl⟩)) | (go_at_call 18; ((with_reducible refine (v_known _ _).mono ?_); rintro e w' ⟨rfl, rfl⟩)) | (go_at_call 22; ((with_reducible refine (v_signed _ _).mono ?_); rintro e w' ⟨rfl, rfl⟩)) | (go_at_call 26; ((with_reducible refine (v_timed _ _).mono ?_); rintro e w' ⟨rfl, rfl⟩)) | (go_at_call 19; ((with_reducible refine (N1 _).mono ?_); rintro e w1 ⟨rfl, hb2⟩; (first | (have hb1 := b_go hb hb2; clear hb hb2 hc1 hf1; have hb := hb1; clear hb1) | (have hb1 := b_go (b_al hb _) hb2; clear hb hb2 hc1 hf1; have hb := hb1; clear hb1) | (have hb := hb2; clear hb2)); obtain ⟨hc1, hf1⟩ := bcell hb)) | (go_at_call 20; ((with_reducible refine (N2 _).mono ?_); rintro e w1 ⟨rfl, hb2⟩; (first | (have hb1 := b_go hb hb2; clear hb hb2 hc1 hf1; have hb := hb1; clear hb1) | (have hb1 := b_go (b_al hb _) hb2; clear hb hb2 hc1 hf1; have hb := hb1; clear hb1) | (have hb := hb2; clear hb2)); obtain ⟨hc1, hf1⟩ := bcell hb)))
  all_goals
    have E0 := E.out
    clear N1 N2
    clear E NM
    (refine bodyPost_ret (v := .tuple #[.agg #[.int .u8 (convV k kd b t).1, .int .u64 (convV k kd b t).2.1, .string (convV k kd b t).2.2.1], .int .i64 (convV k kd b t).2.2.2]) ?hr rfl ⟨rfl, ?hB⟩
     case hB => repeat (first | exact Below.refl _ _ | apply b_al | (refine b_st ?_ ?hg _; case hg => omega) | (refine b_go ?_ (by assumption)))
     case hr =>
      first
       | (have q := fun (y0 y1 y2 : Value) => set3 (w1 := w1) (g := w.heap.size + 1) (by repeat (first | (refine k_new ?_; simp; done) | apply k_al | (refine k_go ?_ (by assumption)))) y0 y1 y2
          have q0 := fun (y0 y1 y2 : Value) => (q y0 y1 y2).1
          have q1 := fun (y0 y1 y2 : Value) => (q y0 y1 y2).2.1
          have q2 := fun (y0 y1 y2 : Value) => (q y0 y1 y2).2.2
          clear q
          (try clear hb hc1 hf1)
          go_light
          simp [results, Tryz.results6, go_sem, wrap_u64, q0, q1, q2]
          (try clear q0 q1 q2)
          all_goals grind [])
       | (go_light
          simp [results, Tryz.results6, go_sem, wrap_u64]
          all_goals grind []))
theorem cv_num_Wh_Ro (k kd b : Int) (t : ByteArray) (hk : 2 ≤ k ∧ k ≤ 9) (hd : 10 ≤ kd ∧ kd ≤ 13) (hne : ¬ k = kd) (hm : mayB kd b t = true) (hs : t.size ≤ 140737488351232) (h0 : 0 ≤ b) (h1 : b < 18446744073709551616) (w : World) (hL : Laid w) : Calls Tryz.prog 6 #[.int .u8 k, .agg #[.int .u8 kd, .int .u64 b, .string t]] w fun e w' => e = .returned (.tuple #[.agg #[.int .u8 (convV k kd b t).1, .int .u64 (convV k kd b t).2.1, .string (convV k kd b t).2.2.1], .int .i64 (convV k kd b t).2.2.2]) ∧ Below w.heap.size w w' := by
  have E := Lib.hid (show convV k kd b t = ofV (nmV kd b).1 (nmV kd b).2 k 7 by
    unfold convV; rw [if_neg (by rw [hm]; simp; unfold elB; simp; omega), if_neg hne, if_neg (by omega), if_neg (by omega), if_neg (by unfold timeB; simp; omega)]; unfold whoV; rw [if_neg (by omega), if_neg (by omega), if_pos (by omega)])
  have NM : ∀ W, Calls Tryz.prog 17 #[.agg #[.int .u8 kd, .int .u64 b, .string t]] W fun e w' => e = .returned (.bool true) ∧ Below W.heap.size W w' := fun W => by have := v_may kd b t h0 h1 W; rwa [hm] at this
  have f_k_el : elB k = true := by unfold elB; simp; omega
  have n_k_kd : (k == kd) = false := by simpa using hne
  have f_k_wh : whB k = true := by unfold whB; simp; omega
  have f_k_row : rowB k = false := by unfold rowB; simp; omega
  have f_kd_wh : whB kd = false := by unfold whB; simp; omega
  have f_kd_row : rowB kd = true := by unfold rowB; simp; omega
  have n_kd_1 : (kd == 1) = false := by simp; omega
  have hr : 0 ≤ (nmV kd b).2 ∧ (nmV kd b).2 < 18446744073709551616 := nm_rng kd b h0 h1
  have N1 := fun W => v_number kd b t W
  have N2 := fun W => v_of (nmV kd b).1 (nmV kd b).2 k 7 hr.1 hr.2 W
  clear hr
  clear hm hs h0 h1 hL hk hd hne
  go_enter Tryz.func6, Tryz.ntmps6
  go_wp2_with (first | (go_at_call 17; ((with_reducible refine (NM _).mono ?_); rintro e w1 ⟨rfl, hb2⟩; (first | (have hb1 := b_go hb hb2; clear hb hb2 hc1 hf1; have hb := hb1; clear hb1) | (have hb1 := b_go (b_al hb _) hb2; clear hb hb2 hc1 hf1; have hb := hb1; clear hb1) | (have hb := hb2; clear hb2)); obtain ⟨hc1, hf1⟩ := bcell hb)) | (go_at_call 15; ((with_reducible refine (v_whole _ _).mono ?_); rintro e w' ⟨rfl, rfl⟩)) | (go_at_call 16; ((with_reducible refine (v_row _ _).mono ?_); rintro e w' ⟨rfl, rfl⟩)) | (go_at_call 18; ((with_reducible refine (v_known _ _).mono ?_); rintro e w' ⟨rfl, rfl⟩)) | (go_at_call 22; ((with_reducible refine (v_signed _ _).mono ?_); rintro e w' ⟨rfl, rfl⟩)) | (go_at_call 26; ((with_reducible refine (v_timed _ _).mono ?_); rintro e w' ⟨rfl, rfl⟩)) | (go_at_call 19; ((with_reducible refine (N1 _).mono ?_); rintro e w1 ⟨rfl, hb2⟩; (first | (have hb1 := b_go hb hb2; clear hb hb2 hc1 hf1; have hb := hb1; clear hb1) | (have hb1 := b_go (b_al hb _) hb2; clear hb hb2 hc1 hf1; have hb := hb1; clear hb1) | (have hb := hb2; clear hb2)); obtain ⟨hc1, hf1⟩ := bcell hb)) | (go_at_call 20; ((with_reducible refine (N2 _).mono ?_); rintro e w1 ⟨rfl, hb2⟩; (first | (have hb1 := b_go hb hb2; clear hb hb2 hc1 hf1; have hb := hb1; clear hb1) | (have hb1 := b_go (b_al hb _) hb2; clear hb hb2 hc1 hf1; have hb := hb1; clear hb1) | (have hb := hb2; clear hb2)); obtain ⟨hc1, hf1⟩ := bcell hb)))
  all_goals
    have E0 := E.out
    clear N1 N2
    clear E NM
    (refine bodyPost_ret (v := .tuple #[.agg #[.int .u8 (convV k kd b t).1, .int .u64 (convV k kd b t).2.1, .string (convV k kd b t).2.2.1], .int .i64 (convV k kd b t).2.2.2]) ?hr rfl ⟨rfl, ?hB⟩
     case hB => repeat (first | exact Below.refl _ _ | apply b_al | (refine b_st ?_ ?hg _; case hg => omega) | (refine b_go ?_ (by assumption)))
     case hr =>
      first
       | (have q := fun (y0 y1 y2 : Value) => set3 (w1 := w1) (g := w.heap.size + 1) (by repeat (first | (refine k_new ?_; simp; done) | apply k_al | (refine k_go ?_ (by assumption)))) y0 y1 y2
          have q0 := fun (y0 y1 y2 : Value) => (q y0 y1 y2).1
          have q1 := fun (y0 y1 y2 : Value) => (q y0 y1 y2).2.1
          have q2 := fun (y0 y1 y2 : Value) => (q y0 y1 y2).2.2
          clear q
          (try clear hb hc1 hf1)
          go_light
          simp [results, Tryz.results6, go_sem, wrap_u64, q0, q1, q2]
          (try clear q0 q1 q2)
          all_goals grind [])
       | (go_light
          simp [results, Tryz.results6, go_sem, wrap_u64]
          all_goals grind []))
theorem cv_num_Ro_Bo (k kd b : Int) (t : ByteArray) (hk : 10 ≤ k ∧ k ≤ 13) (hd : 1 ≤ kd ∧ kd ≤ 1) (hne : ¬ k = kd) (hm : mayB kd b t = true) (hs : t.size ≤ 140737488351232) (h0 : 0 ≤ b) (h1 : b < 18446744073709551616) (w : World) (hL : Laid w) : Calls Tryz.prog 6 #[.int .u8 k, .agg #[.int .u8 kd, .int .u64 b, .string t]] w fun e w' => e = .returned (.tuple #[.agg #[.int .u8 (convV k kd b t).1, .int .u64 (convV k kd b t).2.1, .string (convV k kd b t).2.2.1], .int .i64 (convV k kd b t).2.2.2]) ∧ Below w.heap.size w w' := by
  have E := Lib.hid (show convV k kd b t = ofV (nmV kd b).1 (nmV kd b).2 k 7 by
    unfold convV; rw [if_neg (by rw [hm]; simp; unfold elB; simp; omega), if_neg hne, if_neg (by omega), if_neg (by omega), if_neg (by unfold timeB; simp; omega)]; unfold whoV; rw [if_neg (by omega), if_neg (by omega), if_pos (by omega)])
  have NM : ∀ W, Calls Tryz.prog 17 #[.agg #[.int .u8 kd, .int .u64 b, .string t]] W fun e w' => e = .returned (.bool true) ∧ Below W.heap.size W w' := fun W => by have := v_may kd b t h0 h1 W; rwa [hm] at this
  have f_k_el : elB k = true := by unfold elB; simp; omega
  have n_k_kd : (k == kd) = false := by simpa using hne
  have f_k_wh : whB k = false := by unfold whB; simp; omega
  have f_k_row : rowB k = true := by unfold rowB; simp; omega
  have f_kd_wh : whB kd = false := by unfold whB; simp; omega
  have f_kd_row : rowB kd = false := by unfold rowB; simp; omega
  have n_kd_1 : (kd == 1) = true := by simp; omega
  have hr : 0 ≤ (nmV kd b).2 ∧ (nmV kd b).2 < 18446744073709551616 := nm_rng kd b h0 h1
  have N1 := fun W => v_number kd b t W
  have N2 := fun W => v_of (nmV kd b).1 (nmV kd b).2 k 7 hr.1 hr.2 W
  clear hr
  clear hm hs h0 h1 hL hk hd hne
  go_enter Tryz.func6, Tryz.ntmps6
  go_wp2_with (first | (go_at_call 17; ((with_reducible refine (NM _).mono ?_); rintro e w1 ⟨rfl, hb2⟩; (first | (have hb1 := b_go hb hb2; clear hb hb2 hc1 hf1; have hb := hb1; clear hb1) | (have hb1 := b_go (b_al hb _) hb2; clear hb hb2 hc1 hf1; have hb := hb1; clear hb1) | (have hb := hb2; clear hb2)); obtain ⟨hc1, hf1⟩ := bcell hb)) | (go_at_call 15; ((with_reducible refine (v_whole _ _).mono ?_); rintro e w' ⟨rfl, rfl⟩)) | (go_at_call 16; ((with_reducible refine (v_row _ _).mono ?_); rintro e w' ⟨rfl, rfl⟩)) | (go_at_call 18; ((with_reducible refine (v_known _ _).mono ?_); rintro e w' ⟨rfl, rfl⟩)) | (go_at_call 22; ((with_reducible refine (v_signed _ _).mono ?_); rintro e w' ⟨rfl, rfl⟩)) | (go_at_call 26; ((with_reducible refine (v_timed _ _).mono ?_); rintro e w' ⟨rfl, rfl⟩)) | (go_at_call 19; ((with_reducible refine (N1 _).mono ?_); rintro e w1 ⟨rfl, hb2⟩; (first | (have hb1 := b_go hb hb2; clear hb hb2 hc1 hf1; have hb := hb1; clear hb1) | (have hb1 := b_go (b_al hb _) hb2; clear hb hb2 hc1 hf1; have hb := hb1; clear hb1) | (have hb := hb2; clear hb2)); obtain ⟨hc1, hf1⟩ := bcell hb)) | (go_at_call 20; ((with_reducible refine (N2 _).mono ?_); rintro e w1 ⟨rfl, hb2⟩; (first | (have hb1 := b_go hb hb2; clear hb hb2 hc1 hf1; have hb := hb1; clear hb1) | (have hb1 := b_go (b_al hb _) hb2; clear hb hb2 hc1 hf1; have hb := hb1; clear hb1) | (have hb := hb2; clear hb2)); obtain ⟨hc1, hf1⟩ := bcell hb)))
  all_goals
    have E0 := E.out
    clear N1 N2
    clear E NM
    (refine bodyPost_ret (v := .tuple #[.agg #[.int .u8 (convV k kd b t).1, .int .u64 (convV k kd b t).2.1, .string (convV k kd b t).2.2.1], .int .i64 (convV k kd b t).2.2.2]) ?hr rfl ⟨rfl, ?hB⟩
     case hB => repeat (first | exact Below.refl _ _ | apply b_al | (refine b_st ?_ ?hg _; case hg => omega) | (refine b_go ?_ (by assumption)))
     case hr =>
      first
       | (have q := fun (y0 y1 y2 : Value) => set3 (w1 := w1) (g := w.heap.size + 1) (by repeat (first | (refine k_new ?_; simp; done) | apply k_al | (refine k_go ?_ (by assumption)))) y0 y1 y2
          have q0 := fun (y0 y1 y2 : Value) => (q y0 y1 y2).1
          have q1 := fun (y0 y1 y2 : Value) => (q y0 y1 y2).2.1
          have q2 := fun (y0 y1 y2 : Value) => (q y0 y1 y2).2.2
          clear q
          (try clear hb hc1 hf1)
          go_light
          simp [results, Tryz.results6, go_sem, wrap_u64, q0, q1, q2]
          (try clear q0 q1 q2)
          all_goals grind [])
       | (go_light
          simp [results, Tryz.results6, go_sem, wrap_u64]
          all_goals grind []))
theorem cv_num_Ro_Wh (k kd b : Int) (t : ByteArray) (hk : 10 ≤ k ∧ k ≤ 13) (hd : 2 ≤ kd ∧ kd ≤ 9) (hne : ¬ k = kd) (hm : mayB kd b t = true) (hs : t.size ≤ 140737488351232) (h0 : 0 ≤ b) (h1 : b < 18446744073709551616) (w : World) (hL : Laid w) : Calls Tryz.prog 6 #[.int .u8 k, .agg #[.int .u8 kd, .int .u64 b, .string t]] w fun e w' => e = .returned (.tuple #[.agg #[.int .u8 (convV k kd b t).1, .int .u64 (convV k kd b t).2.1, .string (convV k kd b t).2.2.1], .int .i64 (convV k kd b t).2.2.2]) ∧ Below w.heap.size w w' := by
  have E := Lib.hid (show convV k kd b t = ofV (nmV kd b).1 (nmV kd b).2 k 7 by
    unfold convV; rw [if_neg (by rw [hm]; simp; unfold elB; simp; omega), if_neg hne, if_neg (by omega), if_neg (by omega), if_neg (by unfold timeB; simp; omega)]; unfold whoV; rw [if_neg (by omega), if_neg (by omega), if_pos (by omega)])
  have NM : ∀ W, Calls Tryz.prog 17 #[.agg #[.int .u8 kd, .int .u64 b, .string t]] W fun e w' => e = .returned (.bool true) ∧ Below W.heap.size W w' := fun W => by have := v_may kd b t h0 h1 W; rwa [hm] at this
  have f_k_el : elB k = true := by unfold elB; simp; omega
  have n_k_kd : (k == kd) = false := by simpa using hne
  have f_k_wh : whB k = false := by unfold whB; simp; omega
  have f_k_row : rowB k = true := by unfold rowB; simp; omega
  have f_kd_wh : whB kd = true := by unfold whB; simp; omega
  have f_kd_row : rowB kd = false := by unfold rowB; simp; omega
  have n_kd_1 : (kd == 1) = false := by simp; omega
  have hr : 0 ≤ (nmV kd b).2 ∧ (nmV kd b).2 < 18446744073709551616 := nm_rng kd b h0 h1
  have N1 := fun W => v_number kd b t W
  have N2 := fun W => v_of (nmV kd b).1 (nmV kd b).2 k 7 hr.1 hr.2 W
  clear hr
  clear hm hs h0 h1 hL hk hd hne
  go_enter Tryz.func6, Tryz.ntmps6
  go_wp2_with (first | (go_at_call 17; ((with_reducible refine (NM _).mono ?_); rintro e w1 ⟨rfl, hb2⟩; (first | (have hb1 := b_go hb hb2; clear hb hb2 hc1 hf1; have hb := hb1; clear hb1) | (have hb1 := b_go (b_al hb _) hb2; clear hb hb2 hc1 hf1; have hb := hb1; clear hb1) | (have hb := hb2; clear hb2)); obtain ⟨hc1, hf1⟩ := bcell hb)) | (go_at_call 15; ((with_reducible refine (v_whole _ _).mono ?_); rintro e w' ⟨rfl, rfl⟩)) | (go_at_call 16; ((with_reducible refine (v_row _ _).mono ?_); rintro e w' ⟨rfl, rfl⟩)) | (go_at_call 18; ((with_reducible refine (v_known _ _).mono ?_); rintro e w' ⟨rfl, rfl⟩)) | (go_at_call 22; ((with_reducible refine (v_signed _ _).mono ?_); rintro e w' ⟨rfl, rfl⟩)) | (go_at_call 26; ((with_reducible refine (v_timed _ _).mono ?_); rintro e w' ⟨rfl, rfl⟩)) | (go_at_call 19; ((with_reducible refine (N1 _).mono ?_); rintro e w1 ⟨rfl, hb2⟩; (first | (have hb1 := b_go hb hb2; clear hb hb2 hc1 hf1; have hb := hb1; clear hb1) | (have hb1 := b_go (b_al hb _) hb2; clear hb hb2 hc1 hf1; have hb := hb1; clear hb1) | (have hb := hb2; clear hb2)); obtain ⟨hc1, hf1⟩ := bcell hb)) | (go_at_call 20; ((with_reducible refine (N2 _).mono ?_); rintro e w1 ⟨rfl, hb2⟩; (first | (have hb1 := b_go hb hb2; clear hb hb2 hc1 hf1; have hb := hb1; clear hb1) | (have hb1 := b_go (b_al hb _) hb2; clear hb hb2 hc1 hf1; have hb := hb1; clear hb1) | (have hb := hb2; clear hb2)); obtain ⟨hc1, hf1⟩ := bcell hb)))
  all_goals
    have E0 := E.out
    clear N1 N2
    clear E NM
    (refine bodyPost_ret (v := .tuple #[.agg #[.int .u8 (convV k kd b t).1, .int .u64 (convV k kd b t).2.1, .string (convV k kd b t).2.2.1], .int .i64 (convV k kd b t).2.2.2]) ?hr rfl ⟨rfl, ?hB⟩
     case hB => repeat (first | exact Below.refl _ _ | apply b_al | (refine b_st ?_ ?hg _; case hg => omega) | (refine b_go ?_ (by assumption)))
     case hr =>
      first
       | (have q := fun (y0 y1 y2 : Value) => set3 (w1 := w1) (g := w.heap.size + 1) (by repeat (first | (refine k_new ?_; simp; done) | apply k_al | (refine k_go ?_ (by assumption)))) y0 y1 y2
          have q0 := fun (y0 y1 y2 : Value) => (q y0 y1 y2).1
          have q1 := fun (y0 y1 y2 : Value) => (q y0 y1 y2).2.1
          have q2 := fun (y0 y1 y2 : Value) => (q y0 y1 y2).2.2
          clear q
          (try clear hb hc1 hf1)
          go_light
          simp [results, Tryz.results6, go_sem, wrap_u64, q0, q1, q2]
          (try clear q0 q1 q2)
          all_goals grind [])
       | (go_light
          simp [results, Tryz.results6, go_sem, wrap_u64]
          all_goals grind []))
theorem cv_num_Ro_Ro (k kd b : Int) (t : ByteArray) (hk : 10 ≤ k ∧ k ≤ 13) (hd : 10 ≤ kd ∧ kd ≤ 13) (hne : ¬ k = kd) (hm : mayB kd b t = true) (hs : t.size ≤ 140737488351232) (h0 : 0 ≤ b) (h1 : b < 18446744073709551616) (w : World) (hL : Laid w) : Calls Tryz.prog 6 #[.int .u8 k, .agg #[.int .u8 kd, .int .u64 b, .string t]] w fun e w' => e = .returned (.tuple #[.agg #[.int .u8 (convV k kd b t).1, .int .u64 (convV k kd b t).2.1, .string (convV k kd b t).2.2.1], .int .i64 (convV k kd b t).2.2.2]) ∧ Below w.heap.size w w' := by
  have E := Lib.hid (show convV k kd b t = ofV (nmV kd b).1 (nmV kd b).2 k 7 by
    unfold convV; rw [if_neg (by rw [hm]; simp; unfold elB; simp; omega), if_neg hne, if_neg (by omega), if_neg (by omega), if_neg (by unfold timeB; simp; omega)]; unfold whoV; rw [if_neg (by omega), if_neg (by omega), if_pos (by omega)])
  have NM : ∀ W, Calls Tryz.prog 17 #[.agg #[.int .u8 kd, .int .u64 b, .string t]] W fun e w' => e = .returned (.bool true) ∧ Below W.heap.size W w' := fun W => by have := v_may kd b t h0 h1 W; rwa [hm] at this
  have f_k_el : elB k = true := by unfold elB; simp; omega
  have n_k_kd : (k == kd) = false := by simpa using hne
  have f_k_wh : whB k = false := by unfold whB; simp; omega
  have f_k_row : rowB k = true := by unfold rowB; simp; omega
  have f_kd_wh : whB kd = false := by unfold whB; simp; omega
  have f_kd_row : rowB kd = true := by unfold rowB; simp; omega
  have n_kd_1 : (kd == 1) = false := by simp; omega
  have hr : 0 ≤ (nmV kd b).2 ∧ (nmV kd b).2 < 18446744073709551616 := nm_rng kd b h0 h1
  have N1 := fun W => v_number kd b t W
  have N2 := fun W => v_of (nmV kd b).1 (nmV kd b).2 k 7 hr.1 hr.2 W
  clear hr
  clear hm hs h0 h1 hL hk hd hne
  go_enter Tryz.func6, Tryz.ntmps6
  go_wp2_with (first | (go_at_call 17; ((with_reducible refine (NM _).mono ?_); rintro e w1 ⟨rfl, hb2⟩; (first | (have hb1 := b_go hb hb2; clear hb hb2 hc1 hf1; have hb := hb1; clear hb1) | (have hb1 := b_go (b_al hb _) hb2; clear hb hb2 hc1 hf1; have hb := hb1; clear hb1) | (have hb := hb2; clear hb2)); obtain ⟨hc1, hf1⟩ := bcell hb)) | (go_at_call 15; ((with_reducible refine (v_whole _ _).mono ?_); rintro e w' ⟨rfl, rfl⟩)) | (go_at_call 16; ((with_reducible refine (v_row _ _).mono ?_); rintro e w' ⟨rfl, rfl⟩)) | (go_at_call 18; ((with_reducible refine (v_known _ _).mono ?_); rintro e w' ⟨rfl, rfl⟩)) | (go_at_call 22; ((with_reducible refine (v_signed _ _).mono ?_); rintro e w' ⟨rfl, rfl⟩)) | (go_at_call 26; ((with_reducible refine (v_timed _ _).mono ?_); rintro e w' ⟨rfl, rfl⟩)) | (go_at_call 19; ((with_reducible refine (N1 _).mono ?_); rintro e w1 ⟨rfl, hb2⟩; (first | (have hb1 := b_go hb hb2; clear hb hb2 hc1 hf1; have hb := hb1; clear hb1) | (have hb1 := b_go (b_al hb _) hb2; clear hb hb2 hc1 hf1; have hb := hb1; clear hb1) | (have hb := hb2; clear hb2)); obtain ⟨hc1, hf1⟩ := bcell hb)) | (go_at_call 20; ((with_reducible refine (N2 _).mono ?_); rintro e w1 ⟨rfl, hb2⟩; (first | (have hb1 := b_go hb hb2; clear hb hb2 hc1 hf1; have hb := hb1; clear hb1) | (have hb1 := b_go (b_al hb _) hb2; clear hb hb2 hc1 hf1; have hb := hb1; clear hb1) | (have hb := hb2; clear hb2)); obtain ⟨hc1, hf1⟩ := bcell hb)))
  all_goals
    have E0 := E.out
    clear N1 N2
    clear E NM
    (refine bodyPost_ret (v := .tuple #[.agg #[.int .u8 (convV k kd b t).1, .int .u64 (convV k kd b t).2.1, .string (convV k kd b t).2.2.1], .int .i64 (convV k kd b t).2.2.2]) ?hr rfl ⟨rfl, ?hB⟩
     case hB => repeat (first | exact Below.refl _ _ | apply b_al | (refine b_st ?_ ?hg _; case hg => omega) | (refine b_go ?_ (by assumption)))
     case hr =>
      first
       | (have q := fun (y0 y1 y2 : Value) => set3 (w1 := w1) (g := w.heap.size + 1) (by repeat (first | (refine k_new ?_; simp; done) | apply k_al | (refine k_go ?_ (by assumption)))) y0 y1 y2
          have q0 := fun (y0 y1 y2 : Value) => (q y0 y1 y2).1
          have q1 := fun (y0 y1 y2 : Value) => (q y0 y1 y2).2.1
          have q2 := fun (y0 y1 y2 : Value) => (q y0 y1 y2).2.2
          clear q
          (try clear hb hc1 hf1)
          go_light
          simp [results, Tryz.results6, go_sem, wrap_u64, q0, q1, q2]
          (try clear q0 q1 q2)
          all_goals grind [])
       | (go_light
          simp [results, Tryz.results6, go_sem, wrap_u64]
          all_goals grind []))
theorem cv_bool_Wh (k kd b : Int) (t : ByteArray) (hk : k = 1) (hd : 2 ≤ kd ∧ kd ≤ 9) (hne : ¬ k = kd) (hm : mayB kd b t = true) (hs : t.size ≤ 140737488351232) (h0 : 0 ≤ b) (h1 : b < 18446744073709551616) (w : World) (hL : Laid w) : Calls Tryz.prog 6 #[.int .u8 k, .agg #[.int .u8 kd, .int .u64 b, .string t]] w fun e w' => e = .returned (.tuple #[.agg #[.int .u8 (convV k kd b t).1, .int .u64 (convV k kd b t).2.1, .string (convV k kd b t).2.2.1], .int .i64 (convV k kd b t).2.2.2]) ∧ Below w.heap.size w w' := by
  have E := Lib.hid (show convV k kd b t = (1, if b = 0 then 0 else 1, ⟨#[]⟩, 0) by
    unfold convV; rw [if_neg (by rw [hm]; simp; unfold elB; simp; omega), if_neg hne, if_neg (by omega), if_neg (by omega), if_neg (by unfold timeB; simp; omega)]; unfold whoV; rw [if_pos hk])
  have NM : ∀ W, Calls Tryz.prog 17 #[.agg #[.int .u8 kd, .int .u64 b, .string t]] W fun e w' => e = .returned (.bool true) ∧ Below W.heap.size W w' := fun W => by have := v_may kd b t h0 h1 W; rwa [hm] at this
  have f_k_el : elB k = true := by unfold elB; simp; omega
  have n_k_kd : (k == kd) = false := by simpa using hne
  have k1 : (k == 1) = true := by simpa using hk
  have f_k_wh : whB k = false := by unfold whB; simp; omega
  have f_k_row : rowB k = false := by unfold rowB; simp; omega
  have f_kd_wh : whB kd = true := by unfold whB; simp; omega
  have f_kd_row : rowB kd = false := by unfold rowB; simp; omega
  have n_kd_1 : (kd == 1) = false := by simp; omega
  clear hm hs h0 h1 hL hk hd hne
  go_enter Tryz.func6, Tryz.ntmps6
  go_wp2_with (first | (go_at_call 17; ((with_reducible refine (NM _).mono ?_); rintro e w1 ⟨rfl, hb2⟩; (first | (have hb1 := b_go hb hb2; clear hb hb2 hc1 hf1; have hb := hb1; clear hb1) | (have hb1 := b_go (b_al hb _) hb2; clear hb hb2 hc1 hf1; have hb := hb1; clear hb1) | (have hb := hb2; clear hb2)); obtain ⟨hc1, hf1⟩ := bcell hb)) | (go_at_call 15; ((with_reducible refine (v_whole _ _).mono ?_); rintro e w' ⟨rfl, rfl⟩)) | (go_at_call 16; ((with_reducible refine (v_row _ _).mono ?_); rintro e w' ⟨rfl, rfl⟩)) | (go_at_call 18; ((with_reducible refine (v_known _ _).mono ?_); rintro e w' ⟨rfl, rfl⟩)) | (go_at_call 22; ((with_reducible refine (v_signed _ _).mono ?_); rintro e w' ⟨rfl, rfl⟩)) | (go_at_call 26; ((with_reducible refine (v_timed _ _).mono ?_); rintro e w' ⟨rfl, rfl⟩)) | (go_at_call 21; ((with_reducible refine (v_Bool _ _).mono ?_); rintro e w1 ⟨rfl, hb2⟩; (first | (have hb1 := b_go hb hb2; clear hb hb2 hc1 hf1; have hb := hb1; clear hb1) | (have hb1 := b_go (b_al hb _) hb2; clear hb hb2 hc1 hf1; have hb := hb1; clear hb1) | (have hb := hb2; clear hb2)); obtain ⟨hc1, hf1⟩ := bcell hb)))
  all_goals
    have E0 := E.out
    clear E NM
    (refine bodyPost_ret (v := .tuple #[.agg #[.int .u8 (convV k kd b t).1, .int .u64 (convV k kd b t).2.1, .string (convV k kd b t).2.2.1], .int .i64 (convV k kd b t).2.2.2]) ?hr rfl ⟨rfl, ?hB⟩
     case hB => repeat (first | exact Below.refl _ _ | apply b_al | (refine b_st ?_ ?hg _; case hg => omega) | (refine b_go ?_ (by assumption)))
     case hr =>
      first
       | (have q := fun (y0 y1 y2 : Value) => set3 (w1 := w1) (g := w.heap.size + 1) (by repeat (first | (refine k_new ?_; simp; done) | apply k_al | (refine k_go ?_ (by assumption)))) y0 y1 y2
          have q0 := fun (y0 y1 y2 : Value) => (q y0 y1 y2).1
          have q1 := fun (y0 y1 y2 : Value) => (q y0 y1 y2).2.1
          have q2 := fun (y0 y1 y2 : Value) => (q y0 y1 y2).2.2
          clear q
          (try clear hb hc1 hf1)
          go_light
          simp [results, Tryz.results6, go_sem, wrap_u64, q0, q1, q2]
          (try clear q0 q1 q2)
          all_goals grind [boolV])
       | (go_light
          simp [results, Tryz.results6, go_sem, wrap_u64]
          all_goals grind [boolV]))
theorem cv_bool_Ro (k kd b : Int) (t : ByteArray) (hk : k = 1) (hd : 10 ≤ kd ∧ kd ≤ 13) (hne : ¬ k = kd) (hm : mayB kd b t = true) (hs : t.size ≤ 140737488351232) (h0 : 0 ≤ b) (h1 : b < 18446744073709551616) (w : World) (hL : Laid w) : Calls Tryz.prog 6 #[.int .u8 k, .agg #[.int .u8 kd, .int .u64 b, .string t]] w fun e w' => e = .returned (.tuple #[.agg #[.int .u8 (convV k kd b t).1, .int .u64 (convV k kd b t).2.1, .string (convV k kd b t).2.2.1], .int .i64 (convV k kd b t).2.2.2]) ∧ Below w.heap.size w w' := by
  have E := Lib.hid (show convV k kd b t = (1, if b = 0 then 0 else 1, ⟨#[]⟩, 0) by
    unfold convV; rw [if_neg (by rw [hm]; simp; unfold elB; simp; omega), if_neg hne, if_neg (by omega), if_neg (by omega), if_neg (by unfold timeB; simp; omega)]; unfold whoV; rw [if_pos hk])
  have NM : ∀ W, Calls Tryz.prog 17 #[.agg #[.int .u8 kd, .int .u64 b, .string t]] W fun e w' => e = .returned (.bool true) ∧ Below W.heap.size W w' := fun W => by have := v_may kd b t h0 h1 W; rwa [hm] at this
  have f_k_el : elB k = true := by unfold elB; simp; omega
  have n_k_kd : (k == kd) = false := by simpa using hne
  have k1 : (k == 1) = true := by simpa using hk
  have f_k_wh : whB k = false := by unfold whB; simp; omega
  have f_k_row : rowB k = false := by unfold rowB; simp; omega
  have f_kd_wh : whB kd = false := by unfold whB; simp; omega
  have f_kd_row : rowB kd = true := by unfold rowB; simp; omega
  have n_kd_1 : (kd == 1) = false := by simp; omega
  clear hm hs h0 h1 hL hk hd hne
  go_enter Tryz.func6, Tryz.ntmps6
  go_wp2_with (first | (go_at_call 17; ((with_reducible refine (NM _).mono ?_); rintro e w1 ⟨rfl, hb2⟩; (first | (have hb1 := b_go hb hb2; clear hb hb2 hc1 hf1; have hb := hb1; clear hb1) | (have hb1 := b_go (b_al hb _) hb2; clear hb hb2 hc1 hf1; have hb := hb1; clear hb1) | (have hb := hb2; clear hb2)); obtain ⟨hc1, hf1⟩ := bcell hb)) | (go_at_call 15; ((with_reducible refine (v_whole _ _).mono ?_); rintro e w' ⟨rfl, rfl⟩)) | (go_at_call 16; ((with_reducible refine (v_row _ _).mono ?_); rintro e w' ⟨rfl, rfl⟩)) | (go_at_call 18; ((with_reducible refine (v_known _ _).mono ?_); rintro e w' ⟨rfl, rfl⟩)) | (go_at_call 22; ((with_reducible refine (v_signed _ _).mono ?_); rintro e w' ⟨rfl, rfl⟩)) | (go_at_call 26; ((with_reducible refine (v_timed _ _).mono ?_); rintro e w' ⟨rfl, rfl⟩)) | (go_at_call 21; ((with_reducible refine (v_Bool _ _).mono ?_); rintro e w1 ⟨rfl, hb2⟩; (first | (have hb1 := b_go hb hb2; clear hb hb2 hc1 hf1; have hb := hb1; clear hb1) | (have hb1 := b_go (b_al hb _) hb2; clear hb hb2 hc1 hf1; have hb := hb1; clear hb1) | (have hb := hb2; clear hb2)); obtain ⟨hc1, hf1⟩ := bcell hb)))
  all_goals
    have E0 := E.out
    clear E NM
    (refine bodyPost_ret (v := .tuple #[.agg #[.int .u8 (convV k kd b t).1, .int .u64 (convV k kd b t).2.1, .string (convV k kd b t).2.2.1], .int .i64 (convV k kd b t).2.2.2]) ?hr rfl ⟨rfl, ?hB⟩
     case hB => repeat (first | exact Below.refl _ _ | apply b_al | (refine b_st ?_ ?hg _; case hg => omega) | (refine b_go ?_ (by assumption)))
     case hr =>
      first
       | (have q := fun (y0 y1 y2 : Value) => set3 (w1 := w1) (g := w.heap.size + 1) (by repeat (first | (refine k_new ?_; simp; done) | apply k_al | (refine k_go ?_ (by assumption)))) y0 y1 y2
          have q0 := fun (y0 y1 y2 : Value) => (q y0 y1 y2).1
          have q1 := fun (y0 y1 y2 : Value) => (q y0 y1 y2).2.1
          have q2 := fun (y0 y1 y2 : Value) => (q y0 y1 y2).2.2
          clear q
          (try clear hb hc1 hf1)
          go_light
          simp [results, Tryz.results6, go_sem, wrap_u64, q0, q1, q2]
          (try clear q0 q1 q2)
          all_goals grind [boolV])
       | (go_light
          simp [results, Tryz.results6, go_sem, wrap_u64]
          all_goals grind [boolV]))
theorem cv_real_Bo (k kd b : Int) (t : ByteArray) (hk : k = 18) (hd : 1 ≤ kd ∧ kd ≤ 1) (hne : ¬ k = kd) (hm : mayB kd b t = true) (hs : t.size ≤ 140737488351232) (h0 : 0 ≤ b) (h1 : b < 18446744073709551616) (w : World) (hL : Laid w) : Calls Tryz.prog 6 #[.int .u8 k, .agg #[.int .u8 kd, .int .u64 b, .string t]] w fun e w' => e = .returned (.tuple #[.agg #[.int .u8 (convV k kd b t).1, .int .u64 (convV k kd b t).2.1, .string (convV k kd b t).2.2.1], .int .i64 (convV k kd b t).2.2.2]) ∧ Below w.heap.size w w' := by
  have E := Lib.hid (show convV k kd b t = ((lrealV (floatOfInt .f64 (b) : Nat)).1, (lrealV (floatOfInt .f64 (b) : Nat)).2.1, ⟨#[]⟩, 0) by
    unfold convV; rw [if_neg (by rw [hm]; simp; unfold elB; simp; omega), if_neg hne, if_neg (by omega), if_neg (by omega), if_neg (by unfold timeB; simp; omega)]; unfold whoV; rw [if_neg (by omega), if_pos hk, show sgB kd = false by unfold sgB; simp; omega]; rfl)
  have NM : ∀ W, Calls Tryz.prog 17 #[.agg #[.int .u8 kd, .int .u64 b, .string t]] W fun e w' => e = .returned (.bool true) ∧ Below W.heap.size W w' := fun W => by have := v_may kd b t h0 h1 W; rwa [hm] at this
  have f_k_el : elB k = true := by unfold elB; simp; omega
  have n_k_kd : (k == kd) = false := by simpa using hne
  have n_k_1 : (k == 1) = false := by simp; omega
  have k18 : (k == 18) = true := by simpa using hk
  have f_sg : sgB kd = false := by unfold sgB; simp; omega
  have f_k_wh : whB k = false := by unfold whB; simp; omega
  have f_k_row : rowB k = false := by unfold rowB; simp; omega
  have f_kd_wh : whB kd = false := by unfold whB; simp; omega
  have f_kd_row : rowB kd = false := by unfold rowB; simp; omega
  have n_kd_1 : (kd == 1) = true := by simp; omega
  have N1 := fun W => v_Lreal (floatOfInt .f64 (b)) (by have := fo_lt (b); omega) W
  clear hm hs h0 h1 hL hk hd hne
  go_enter Tryz.func6, Tryz.ntmps6
  go_wp2_with (first | (go_at_call 17; ((with_reducible refine (NM _).mono ?_); rintro e w1 ⟨rfl, hb2⟩; (first | (have hb1 := b_go hb hb2; clear hb hb2 hc1 hf1; have hb := hb1; clear hb1) | (have hb1 := b_go (b_al hb _) hb2; clear hb hb2 hc1 hf1; have hb := hb1; clear hb1) | (have hb := hb2; clear hb2)); obtain ⟨hc1, hf1⟩ := bcell hb)) | (go_at_call 15; ((with_reducible refine (v_whole _ _).mono ?_); rintro e w' ⟨rfl, rfl⟩)) | (go_at_call 16; ((with_reducible refine (v_row _ _).mono ?_); rintro e w' ⟨rfl, rfl⟩)) | (go_at_call 18; ((with_reducible refine (v_known _ _).mono ?_); rintro e w' ⟨rfl, rfl⟩)) | (go_at_call 22; ((with_reducible refine (v_signed _ _).mono ?_); rintro e w' ⟨rfl, rfl⟩)) | (go_at_call 26; ((with_reducible refine (v_timed _ _).mono ?_); rintro e w' ⟨rfl, rfl⟩)) | (go_at_call 23; ((with_reducible refine (N1 _).mono ?_); rintro e w1 ⟨rfl, hb2⟩; (first | (have hb1 := b_go hb hb2; clear hb hb2 hc1 hf1; have hb := hb1; clear hb1) | (have hb1 := b_go (b_al hb _) hb2; clear hb hb2 hc1 hf1; have hb := hb1; clear hb1) | (have hb := hb2; clear hb2)); obtain ⟨hc1, hf1⟩ := bcell hb)))
  all_goals
    have E0 := E.out
    clear N1
    clear E NM
    (refine bodyPost_ret (v := .tuple #[.agg #[.int .u8 (convV k kd b t).1, .int .u64 (convV k kd b t).2.1, .string (convV k kd b t).2.2.1], .int .i64 (convV k kd b t).2.2.2]) ?hr rfl ⟨rfl, ?hB⟩
     case hB => repeat (first | exact Below.refl _ _ | apply b_al | (refine b_st ?_ ?hg _; case hg => omega) | (refine b_go ?_ (by assumption)))
     case hr =>
      first
       | (have q := fun (y0 y1 y2 : Value) => set3 (w1 := w1) (g := w.heap.size + 1) (by repeat (first | (refine k_new ?_; simp; done) | apply k_al | (refine k_go ?_ (by assumption)))) y0 y1 y2
          have q0 := fun (y0 y1 y2 : Value) => (q y0 y1 y2).1
          have q1 := fun (y0 y1 y2 : Value) => (q y0 y1 y2).2.1
          have q2 := fun (y0 y1 y2 : Value) => (q y0 y1 y2).2.2
          clear q
          (try clear hb hc1 hf1)
          go_light
          simp [results, Tryz.results6, go_sem, wrap_u64, q0, q1, q2]
          (try clear q0 q1 q2)
          all_goals grind [lrealV])
       | (go_light
          simp [results, Tryz.results6, go_sem, wrap_u64]
          all_goals grind [lrealV]))
theorem cv_real_Sg (k kd b : Int) (t : ByteArray) (hk : k = 18) (hd : 2 ≤ kd ∧ kd ≤ 5) (hne : ¬ k = kd) (hm : mayB kd b t = true) (hs : t.size ≤ 140737488351232) (h0 : 0 ≤ b) (h1 : b < 18446744073709551616) (w : World) (hL : Laid w) : Calls Tryz.prog 6 #[.int .u8 k, .agg #[.int .u8 kd, .int .u64 b, .string t]] w fun e w' => e = .returned (.tuple #[.agg #[.int .u8 (convV k kd b t).1, .int .u64 (convV k kd b t).2.1, .string (convV k kd b t).2.2.1], .int .i64 (convV k kd b t).2.2.2]) ∧ Below w.heap.size w w' := by
  have E := Lib.hid (show convV k kd b t = ((lrealV (floatOfInt .f64 (wrap64 b) : Nat)).1, (lrealV (floatOfInt .f64 (wrap64 b) : Nat)).2.1, ⟨#[]⟩, 0) by
    unfold convV; rw [if_neg (by rw [hm]; simp; unfold elB; simp; omega), if_neg hne, if_neg (by omega), if_neg (by omega), if_neg (by unfold timeB; simp; omega)]; unfold whoV; rw [if_neg (by omega), if_pos hk, show sgB kd = true by unfold sgB; simp; omega]; rfl)
  have NM : ∀ W, Calls Tryz.prog 17 #[.agg #[.int .u8 kd, .int .u64 b, .string t]] W fun e w' => e = .returned (.bool true) ∧ Below W.heap.size W w' := fun W => by have := v_may kd b t h0 h1 W; rwa [hm] at this
  have f_k_el : elB k = true := by unfold elB; simp; omega
  have n_k_kd : (k == kd) = false := by simpa using hne
  have n_k_1 : (k == 1) = false := by simp; omega
  have k18 : (k == 18) = true := by simpa using hk
  have f_sg : sgB kd = true := by unfold sgB; simp; omega
  have f_k_wh : whB k = false := by unfold whB; simp; omega
  have f_k_row : rowB k = false := by unfold rowB; simp; omega
  have f_kd_wh : whB kd = true := by unfold whB; simp; omega
  have f_kd_row : rowB kd = false := by unfold rowB; simp; omega
  have n_kd_1 : (kd == 1) = false := by simp; omega
  have N1 := fun W => v_Lreal (floatOfInt .f64 (wrap64 b)) (by have := fo_lt (wrap64 b); omega) W
  clear hm hs h0 h1 hL hk hd hne
  go_enter Tryz.func6, Tryz.ntmps6
  go_wp2_with (first | (go_at_call 17; ((with_reducible refine (NM _).mono ?_); rintro e w1 ⟨rfl, hb2⟩; (first | (have hb1 := b_go hb hb2; clear hb hb2 hc1 hf1; have hb := hb1; clear hb1) | (have hb1 := b_go (b_al hb _) hb2; clear hb hb2 hc1 hf1; have hb := hb1; clear hb1) | (have hb := hb2; clear hb2)); obtain ⟨hc1, hf1⟩ := bcell hb)) | (go_at_call 15; ((with_reducible refine (v_whole _ _).mono ?_); rintro e w' ⟨rfl, rfl⟩)) | (go_at_call 16; ((with_reducible refine (v_row _ _).mono ?_); rintro e w' ⟨rfl, rfl⟩)) | (go_at_call 18; ((with_reducible refine (v_known _ _).mono ?_); rintro e w' ⟨rfl, rfl⟩)) | (go_at_call 22; ((with_reducible refine (v_signed _ _).mono ?_); rintro e w' ⟨rfl, rfl⟩)) | (go_at_call 26; ((with_reducible refine (v_timed _ _).mono ?_); rintro e w' ⟨rfl, rfl⟩)) | (go_at_call 23; ((with_reducible refine (N1 _).mono ?_); rintro e w1 ⟨rfl, hb2⟩; (first | (have hb1 := b_go hb hb2; clear hb hb2 hc1 hf1; have hb := hb1; clear hb1) | (have hb1 := b_go (b_al hb _) hb2; clear hb hb2 hc1 hf1; have hb := hb1; clear hb1) | (have hb := hb2; clear hb2)); obtain ⟨hc1, hf1⟩ := bcell hb)))
  all_goals
    have E0 := E.out
    clear N1
    clear E NM
    (refine bodyPost_ret (v := .tuple #[.agg #[.int .u8 (convV k kd b t).1, .int .u64 (convV k kd b t).2.1, .string (convV k kd b t).2.2.1], .int .i64 (convV k kd b t).2.2.2]) ?hr rfl ⟨rfl, ?hB⟩
     case hB => repeat (first | exact Below.refl _ _ | apply b_al | (refine b_st ?_ ?hg _; case hg => omega) | (refine b_go ?_ (by assumption)))
     case hr =>
      first
       | (have q := fun (y0 y1 y2 : Value) => set3 (w1 := w1) (g := w.heap.size + 1) (by repeat (first | (refine k_new ?_; simp; done) | apply k_al | (refine k_go ?_ (by assumption)))) y0 y1 y2
          have q0 := fun (y0 y1 y2 : Value) => (q y0 y1 y2).1
          have q1 := fun (y0 y1 y2 : Value) => (q y0 y1 y2).2.1
          have q2 := fun (y0 y1 y2 : Value) => (q y0 y1 y2).2.2
          clear q
          (try clear hb hc1 hf1)
          go_light
          simp [results, Tryz.results6, go_sem, wrap_u64, q0, q1, q2]
          (try clear q0 q1 q2)
          all_goals grind [lrealV])
       | (go_light
          simp [results, Tryz.results6, go_sem, wrap_u64]
          all_goals grind [lrealV]))
theorem cv_real_Un (k kd b : Int) (t : ByteArray) (hk : k = 18) (hd : 6 ≤ kd ∧ kd ≤ 9) (hne : ¬ k = kd) (hm : mayB kd b t = true) (hs : t.size ≤ 140737488351232) (h0 : 0 ≤ b) (h1 : b < 18446744073709551616) (w : World) (hL : Laid w) : Calls Tryz.prog 6 #[.int .u8 k, .agg #[.int .u8 kd, .int .u64 b, .string t]] w fun e w' => e = .returned (.tuple #[.agg #[.int .u8 (convV k kd b t).1, .int .u64 (convV k kd b t).2.1, .string (convV k kd b t).2.2.1], .int .i64 (convV k kd b t).2.2.2]) ∧ Below w.heap.size w w' := by
  have E := Lib.hid (show convV k kd b t = ((lrealV (floatOfInt .f64 (b) : Nat)).1, (lrealV (floatOfInt .f64 (b) : Nat)).2.1, ⟨#[]⟩, 0) by
    unfold convV; rw [if_neg (by rw [hm]; simp; unfold elB; simp; omega), if_neg hne, if_neg (by omega), if_neg (by omega), if_neg (by unfold timeB; simp; omega)]; unfold whoV; rw [if_neg (by omega), if_pos hk, show sgB kd = false by unfold sgB; simp; omega]; rfl)
  have NM : ∀ W, Calls Tryz.prog 17 #[.agg #[.int .u8 kd, .int .u64 b, .string t]] W fun e w' => e = .returned (.bool true) ∧ Below W.heap.size W w' := fun W => by have := v_may kd b t h0 h1 W; rwa [hm] at this
  have f_k_el : elB k = true := by unfold elB; simp; omega
  have n_k_kd : (k == kd) = false := by simpa using hne
  have n_k_1 : (k == 1) = false := by simp; omega
  have k18 : (k == 18) = true := by simpa using hk
  have f_sg : sgB kd = false := by unfold sgB; simp; omega
  have f_k_wh : whB k = false := by unfold whB; simp; omega
  have f_k_row : rowB k = false := by unfold rowB; simp; omega
  have f_kd_wh : whB kd = true := by unfold whB; simp; omega
  have f_kd_row : rowB kd = false := by unfold rowB; simp; omega
  have n_kd_1 : (kd == 1) = false := by simp; omega
  have N1 := fun W => v_Lreal (floatOfInt .f64 (b)) (by have := fo_lt (b); omega) W
  clear hm hs h0 h1 hL hk hd hne
  go_enter Tryz.func6, Tryz.ntmps6
  go_wp2_with (first | (go_at_call 17; ((with_reducible refine (NM _).mono ?_); rintro e w1 ⟨rfl, hb2⟩; (first | (have hb1 := b_go hb hb2; clear hb hb2 hc1 hf1; have hb := hb1; clear hb1) | (have hb1 := b_go (b_al hb _) hb2; clear hb hb2 hc1 hf1; have hb := hb1; clear hb1) | (have hb := hb2; clear hb2)); obtain ⟨hc1, hf1⟩ := bcell hb)) | (go_at_call 15; ((with_reducible refine (v_whole _ _).mono ?_); rintro e w' ⟨rfl, rfl⟩)) | (go_at_call 16; ((with_reducible refine (v_row _ _).mono ?_); rintro e w' ⟨rfl, rfl⟩)) | (go_at_call 18; ((with_reducible refine (v_known _ _).mono ?_); rintro e w' ⟨rfl, rfl⟩)) | (go_at_call 22; ((with_reducible refine (v_signed _ _).mono ?_); rintro e w' ⟨rfl, rfl⟩)) | (go_at_call 26; ((with_reducible refine (v_timed _ _).mono ?_); rintro e w' ⟨rfl, rfl⟩)) | (go_at_call 23; ((with_reducible refine (N1 _).mono ?_); rintro e w1 ⟨rfl, hb2⟩; (first | (have hb1 := b_go hb hb2; clear hb hb2 hc1 hf1; have hb := hb1; clear hb1) | (have hb1 := b_go (b_al hb _) hb2; clear hb hb2 hc1 hf1; have hb := hb1; clear hb1) | (have hb := hb2; clear hb2)); obtain ⟨hc1, hf1⟩ := bcell hb)))
  all_goals
    have E0 := E.out
    clear N1
    clear E NM
    (refine bodyPost_ret (v := .tuple #[.agg #[.int .u8 (convV k kd b t).1, .int .u64 (convV k kd b t).2.1, .string (convV k kd b t).2.2.1], .int .i64 (convV k kd b t).2.2.2]) ?hr rfl ⟨rfl, ?hB⟩
     case hB => repeat (first | exact Below.refl _ _ | apply b_al | (refine b_st ?_ ?hg _; case hg => omega) | (refine b_go ?_ (by assumption)))
     case hr =>
      first
       | (have q := fun (y0 y1 y2 : Value) => set3 (w1 := w1) (g := w.heap.size + 1) (by repeat (first | (refine k_new ?_; simp; done) | apply k_al | (refine k_go ?_ (by assumption)))) y0 y1 y2
          have q0 := fun (y0 y1 y2 : Value) => (q y0 y1 y2).1
          have q1 := fun (y0 y1 y2 : Value) => (q y0 y1 y2).2.1
          have q2 := fun (y0 y1 y2 : Value) => (q y0 y1 y2).2.2
          clear q
          (try clear hb hc1 hf1)
          go_light
          simp [results, Tryz.results6, go_sem, wrap_u64, q0, q1, q2]
          (try clear q0 q1 q2)
          all_goals grind [lrealV])
       | (go_light
          simp [results, Tryz.results6, go_sem, wrap_u64]
          all_goals grind [lrealV]))
theorem cv_real_Ro (k kd b : Int) (t : ByteArray) (hk : k = 18) (hd : 10 ≤ kd ∧ kd ≤ 13) (hne : ¬ k = kd) (hm : mayB kd b t = true) (hs : t.size ≤ 140737488351232) (h0 : 0 ≤ b) (h1 : b < 18446744073709551616) (w : World) (hL : Laid w) : Calls Tryz.prog 6 #[.int .u8 k, .agg #[.int .u8 kd, .int .u64 b, .string t]] w fun e w' => e = .returned (.tuple #[.agg #[.int .u8 (convV k kd b t).1, .int .u64 (convV k kd b t).2.1, .string (convV k kd b t).2.2.1], .int .i64 (convV k kd b t).2.2.2]) ∧ Below w.heap.size w w' := by
  have E := Lib.hid (show convV k kd b t = ((lrealV (floatOfInt .f64 (b) : Nat)).1, (lrealV (floatOfInt .f64 (b) : Nat)).2.1, ⟨#[]⟩, 0) by
    unfold convV; rw [if_neg (by rw [hm]; simp; unfold elB; simp; omega), if_neg hne, if_neg (by omega), if_neg (by omega), if_neg (by unfold timeB; simp; omega)]; unfold whoV; rw [if_neg (by omega), if_pos hk, show sgB kd = false by unfold sgB; simp; omega]; rfl)
  have NM : ∀ W, Calls Tryz.prog 17 #[.agg #[.int .u8 kd, .int .u64 b, .string t]] W fun e w' => e = .returned (.bool true) ∧ Below W.heap.size W w' := fun W => by have := v_may kd b t h0 h1 W; rwa [hm] at this
  have f_k_el : elB k = true := by unfold elB; simp; omega
  have n_k_kd : (k == kd) = false := by simpa using hne
  have n_k_1 : (k == 1) = false := by simp; omega
  have k18 : (k == 18) = true := by simpa using hk
  have f_sg : sgB kd = false := by unfold sgB; simp; omega
  have f_k_wh : whB k = false := by unfold whB; simp; omega
  have f_k_row : rowB k = false := by unfold rowB; simp; omega
  have f_kd_wh : whB kd = false := by unfold whB; simp; omega
  have f_kd_row : rowB kd = true := by unfold rowB; simp; omega
  have n_kd_1 : (kd == 1) = false := by simp; omega
  have N1 := fun W => v_Lreal (floatOfInt .f64 (b)) (by have := fo_lt (b); omega) W
  clear hm hs h0 h1 hL hk hd hne
  go_enter Tryz.func6, Tryz.ntmps6
  go_wp2_with (first | (go_at_call 17; ((with_reducible refine (NM _).mono ?_); rintro e w1 ⟨rfl, hb2⟩; (first | (have hb1 := b_go hb hb2; clear hb hb2 hc1 hf1; have hb := hb1; clear hb1) | (have hb1 := b_go (b_al hb _) hb2; clear hb hb2 hc1 hf1; have hb := hb1; clear hb1) | (have hb := hb2; clear hb2)); obtain ⟨hc1, hf1⟩ := bcell hb)) | (go_at_call 15; ((with_reducible refine (v_whole _ _).mono ?_); rintro e w' ⟨rfl, rfl⟩)) | (go_at_call 16; ((with_reducible refine (v_row _ _).mono ?_); rintro e w' ⟨rfl, rfl⟩)) | (go_at_call 18; ((with_reducible refine (v_known _ _).mono ?_); rintro e w' ⟨rfl, rfl⟩)) | (go_at_call 22; ((with_reducible refine (v_signed _ _).mono ?_); rintro e w' ⟨rfl, rfl⟩)) | (go_at_call 26; ((with_reducible refine (v_timed _ _).mono ?_); rintro e w' ⟨rfl, rfl⟩)) | (go_at_call 23; ((with_reducible refine (N1 _).mono ?_); rintro e w1 ⟨rfl, hb2⟩; (first | (have hb1 := b_go hb hb2; clear hb hb2 hc1 hf1; have hb := hb1; clear hb1) | (have hb1 := b_go (b_al hb _) hb2; clear hb hb2 hc1 hf1; have hb := hb1; clear hb1) | (have hb := hb2; clear hb2)); obtain ⟨hc1, hf1⟩ := bcell hb)))
  all_goals
    have E0 := E.out
    clear N1
    clear E NM
    (refine bodyPost_ret (v := .tuple #[.agg #[.int .u8 (convV k kd b t).1, .int .u64 (convV k kd b t).2.1, .string (convV k kd b t).2.2.1], .int .i64 (convV k kd b t).2.2.2]) ?hr rfl ⟨rfl, ?hB⟩
     case hB => repeat (first | exact Below.refl _ _ | apply b_al | (refine b_st ?_ ?hg _; case hg => omega) | (refine b_go ?_ (by assumption)))
     case hr =>
      first
       | (have q := fun (y0 y1 y2 : Value) => set3 (w1 := w1) (g := w.heap.size + 1) (by repeat (first | (refine k_new ?_; simp; done) | apply k_al | (refine k_go ?_ (by assumption)))) y0 y1 y2
          have q0 := fun (y0 y1 y2 : Value) => (q y0 y1 y2).1
          have q1 := fun (y0 y1 y2 : Value) => (q y0 y1 y2).2.1
          have q2 := fun (y0 y1 y2 : Value) => (q y0 y1 y2).2.2
          clear q
          (try clear hb hc1 hf1)
          go_light
          simp [results, Tryz.results6, go_sem, wrap_u64, q0, q1, q2]
          (try clear q0 q1 q2)
          all_goals grind [lrealV])
       | (go_light
          simp [results, Tryz.results6, go_sem, wrap_u64]
          all_goals grind [lrealV]))
theorem cv_text_Bo (k kd b : Int) (t : ByteArray) (hk : k = 19) (hd : 1 ≤ kd ∧ kd ≤ 1) (hne : ¬ k = kd) (hm : mayB kd b t = true) (hs : t.size ≤ 140737488351232) (h0 : 0 ≤ b) (h1 : b < 18446744073709551616) (w : World) (hL : Laid w) : Calls Tryz.prog 6 #[.int .u8 k, .agg #[.int .u8 kd, .int .u64 b, .string t]] w fun e w' => e = .returned (.tuple #[.agg #[.int .u8 (convV k kd b t).1, .int .u64 (convV k kd b t).2.1, .string (convV k kd b t).2.2.1], .int .i64 (convV k kd b t).2.2.2]) ∧ Below w.heap.size w w' := by
  have E := Lib.hid (show convV k kd b t = textV (numT kd b) by
    unfold convV; rw [if_neg (by rw [hm]; simp; unfold elB; simp; omega), if_neg hne, if_neg (by omega), if_neg (by omega), if_neg (by unfold timeB; simp; omega)]; unfold whoV; rw [if_neg (by omega), if_neg (by omega), if_neg (by omega), if_pos ⟨hk, by unfold rowB; simp; omega⟩])
  have NM : ∀ W, Calls Tryz.prog 17 #[.agg #[.int .u8 kd, .int .u64 b, .string t]] W fun e w' => e = .returned (.bool true) ∧ Below W.heap.size W w' := fun W => by have := v_may kd b t h0 h1 W; rwa [hm] at this
  have f_k_el : elB k = true := by unfold elB; simp; omega
  have n_k_kd : (k == kd) = false := by simpa using hne
  have n_k_1 : (k == 1) = false := by simp; omega
  have n_k_5 : (k == 5) = false := by simp; omega
  have n_k_18 : (k == 18) = false := by simp; omega
  have n_k_15 : (k == 15) = false := by simp; omega
  have n_k_16 : (k == 16) = false := by simp; omega
  have k19 : (k == 19) = true := by simpa using hk
  have n_kd_18 : (kd == 18) = false := by simp; omega
  have n_kd_17 : (kd == 17) = false := by simp; omega
  have n_kd_5 : (kd == 5) = false := by simp; omega
  have f_k_wh : whB k = false := by unfold whB; simp; omega
  have f_k_row : rowB k = false := by unfold rowB; simp; omega
  have f_k_time : timeB k = false := by unfold timeB; simp; omega
  have f_kd_wh : whB kd = false := by unfold whB; simp; omega
  have f_kd_row : rowB kd = false := by unfold rowB; simp; omega
  have f_kd_time : timeB kd = false := by unfold timeB; simp; omega
  have n_kd_1 : (kd == 1) = true := by simp; omega
  have N1 := fun W (hb : Below w.heap.size w W) => v_Print kd b t (by omega) h0 h1 hm W (hL.go hb)
  have N2 := fun W => v_Text (numT kd b) W
  clear hm hs h0 h1 hL hk hd hne
  go_enter Tryz.func6, Tryz.ntmps6
  go_wp2_with (first | (go_at_call 17; ((with_reducible refine (NM _).mono ?_); rintro e w1 ⟨rfl, hb2⟩; (first | (have hb1 := b_go hb hb2; clear hb hb2 hc1 hf1; have hb := hb1; clear hb1) | (have hb1 := b_go (b_al hb _) hb2; clear hb hb2 hc1 hf1; have hb := hb1; clear hb1) | (have hb := hb2; clear hb2)); obtain ⟨hc1, hf1⟩ := bcell hb)) | (go_at_call 15; ((with_reducible refine (v_whole _ _).mono ?_); rintro e w' ⟨rfl, rfl⟩)) | (go_at_call 16; ((with_reducible refine (v_row _ _).mono ?_); rintro e w' ⟨rfl, rfl⟩)) | (go_at_call 18; ((with_reducible refine (v_known _ _).mono ?_); rintro e w' ⟨rfl, rfl⟩)) | (go_at_call 22; ((with_reducible refine (v_signed _ _).mono ?_); rintro e w' ⟨rfl, rfl⟩)) | (go_at_call 26; ((with_reducible refine (v_timed _ _).mono ?_); rintro e w' ⟨rfl, rfl⟩)) | (go_at_call 29; ((with_reducible refine (N1 _ ?hx).mono ?_); (case hx => (repeat (first | exact Below.refl _ _ | apply b_al | (refine b_st ?_ ?hg _; case hg => omega) | (refine b_go ?_ (by assumption))))); rintro e w1 ⟨rfl, hb2⟩; (first | (have hb1 := b_go hb hb2; clear hb hb2 hc1 hf1; have hb := hb1; clear hb1) | (have hb1 := b_go (b_al hb _) hb2; clear hb hb2 hc1 hf1; have hb := hb1; clear hb1) | (have hb := hb2; clear hb2)); obtain ⟨hc1, hf1⟩ := bcell hb)) | (go_at_call 28; ((with_reducible refine (N2 _).mono ?_); rintro e w1 ⟨rfl, hb2⟩; (first | (have hb1 := b_go hb hb2; clear hb hb2 hc1 hf1; have hb := hb1; clear hb1) | (have hb1 := b_go (b_al hb _) hb2; clear hb hb2 hc1 hf1; have hb := hb1; clear hb1) | (have hb := hb2; clear hb2)); obtain ⟨hc1, hf1⟩ := bcell hb)))
  all_goals
    have E0 := E.out
    clear N1 N2
    clear E NM
    (refine bodyPost_ret (v := .tuple #[.agg #[.int .u8 (convV k kd b t).1, .int .u64 (convV k kd b t).2.1, .string (convV k kd b t).2.2.1], .int .i64 (convV k kd b t).2.2.2]) ?hr rfl ⟨rfl, ?hB⟩
     case hB => repeat (first | exact Below.refl _ _ | apply b_al | (refine b_st ?_ ?hg _; case hg => omega) | (refine b_go ?_ (by assumption)))
     case hr =>
      first
       | (have q := fun (y0 y1 y2 : Value) => set3 (w1 := w1) (g := w.heap.size + 1) (by repeat (first | (refine k_new ?_; simp; done) | apply k_al | (refine k_go ?_ (by assumption)))) y0 y1 y2
          have q0 := fun (y0 y1 y2 : Value) => (q y0 y1 y2).1
          have q1 := fun (y0 y1 y2 : Value) => (q y0 y1 y2).2.1
          have q2 := fun (y0 y1 y2 : Value) => (q y0 y1 y2).2.2
          clear q
          (try clear hb hc1 hf1)
          go_light
          simp [results, Tryz.results6, go_sem, wrap_u64, q0, q1, q2]
          (try clear q0 q1 q2)
          all_goals grind [])
       | (go_light
          simp [results, Tryz.results6, go_sem, wrap_u64]
          all_goals grind []))
theorem cv_text_Wh (k kd b : Int) (t : ByteArray) (hk : k = 19) (hd : 2 ≤ kd ∧ kd ≤ 9 ∧ ¬ kd = 5) (hne : ¬ k = kd) (hm : mayB kd b t = true) (hs : t.size ≤ 140737488351232) (h0 : 0 ≤ b) (h1 : b < 18446744073709551616) (w : World) (hL : Laid w) : Calls Tryz.prog 6 #[.int .u8 k, .agg #[.int .u8 kd, .int .u64 b, .string t]] w fun e w' => e = .returned (.tuple #[.agg #[.int .u8 (convV k kd b t).1, .int .u64 (convV k kd b t).2.1, .string (convV k kd b t).2.2.1], .int .i64 (convV k kd b t).2.2.2]) ∧ Below w.heap.size w w' := by
  have E := Lib.hid (show convV k kd b t = textV (numT kd b) by
    unfold convV; rw [if_neg (by rw [hm]; simp; unfold elB; simp; omega), if_neg hne, if_neg (by omega), if_neg (by omega), if_neg (by unfold timeB; simp; omega)]; unfold whoV; rw [if_neg (by omega), if_neg (by omega), if_neg (by omega), if_pos ⟨hk, by unfold rowB; simp; omega⟩])
  have NM : ∀ W, Calls Tryz.prog 17 #[.agg #[.int .u8 kd, .int .u64 b, .string t]] W fun e w' => e = .returned (.bool true) ∧ Below W.heap.size W w' := fun W => by have := v_may kd b t h0 h1 W; rwa [hm] at this
  have f_k_el : elB k = true := by unfold elB; simp; omega
  have n_k_kd : (k == kd) = false := by simpa using hne
  have n_k_1 : (k == 1) = false := by simp; omega
  have n_k_5 : (k == 5) = false := by simp; omega
  have n_k_18 : (k == 18) = false := by simp; omega
  have n_k_15 : (k == 15) = false := by simp; omega
  have n_k_16 : (k == 16) = false := by simp; omega
  have k19 : (k == 19) = true := by simpa using hk
  have n_kd_18 : (kd == 18) = false := by simp; omega
  have n_kd_17 : (kd == 17) = false := by simp; omega
  have n_kd_5 : (kd == 5) = false := by simp; omega
  have f_k_wh : whB k = false := by unfold whB; simp; omega
  have f_k_row : rowB k = false := by unfold rowB; simp; omega
  have f_k_time : timeB k = false := by unfold timeB; simp; omega
  have f_kd_wh : whB kd = true := by unfold whB; simp; omega
  have f_kd_row : rowB kd = false := by unfold rowB; simp; omega
  have f_kd_time : timeB kd = false := by unfold timeB; simp; omega
  have n_kd_1 : (kd == 1) = false := by simp; omega
  have N1 := fun W (hb : Below w.heap.size w W) => v_Print kd b t (by omega) h0 h1 hm W (hL.go hb)
  have N2 := fun W => v_Text (numT kd b) W
  clear hm hs h0 h1 hL hk hd hne
  go_enter Tryz.func6, Tryz.ntmps6
  go_wp2_with (first | (go_at_call 17; ((with_reducible refine (NM _).mono ?_); rintro e w1 ⟨rfl, hb2⟩; (first | (have hb1 := b_go hb hb2; clear hb hb2 hc1 hf1; have hb := hb1; clear hb1) | (have hb1 := b_go (b_al hb _) hb2; clear hb hb2 hc1 hf1; have hb := hb1; clear hb1) | (have hb := hb2; clear hb2)); obtain ⟨hc1, hf1⟩ := bcell hb)) | (go_at_call 15; ((with_reducible refine (v_whole _ _).mono ?_); rintro e w' ⟨rfl, rfl⟩)) | (go_at_call 16; ((with_reducible refine (v_row _ _).mono ?_); rintro e w' ⟨rfl, rfl⟩)) | (go_at_call 18; ((with_reducible refine (v_known _ _).mono ?_); rintro e w' ⟨rfl, rfl⟩)) | (go_at_call 22; ((with_reducible refine (v_signed _ _).mono ?_); rintro e w' ⟨rfl, rfl⟩)) | (go_at_call 26; ((with_reducible refine (v_timed _ _).mono ?_); rintro e w' ⟨rfl, rfl⟩)) | (go_at_call 29; ((with_reducible refine (N1 _ ?hx).mono ?_); (case hx => (repeat (first | exact Below.refl _ _ | apply b_al | (refine b_st ?_ ?hg _; case hg => omega) | (refine b_go ?_ (by assumption))))); rintro e w1 ⟨rfl, hb2⟩; (first | (have hb1 := b_go hb hb2; clear hb hb2 hc1 hf1; have hb := hb1; clear hb1) | (have hb1 := b_go (b_al hb _) hb2; clear hb hb2 hc1 hf1; have hb := hb1; clear hb1) | (have hb := hb2; clear hb2)); obtain ⟨hc1, hf1⟩ := bcell hb)) | (go_at_call 28; ((with_reducible refine (N2 _).mono ?_); rintro e w1 ⟨rfl, hb2⟩; (first | (have hb1 := b_go hb hb2; clear hb hb2 hc1 hf1; have hb := hb1; clear hb1) | (have hb1 := b_go (b_al hb _) hb2; clear hb hb2 hc1 hf1; have hb := hb1; clear hb1) | (have hb := hb2; clear hb2)); obtain ⟨hc1, hf1⟩ := bcell hb)))
  all_goals
    have E0 := E.out
    clear N1 N2
    clear E NM
    (refine bodyPost_ret (v := .tuple #[.agg #[.int .u8 (convV k kd b t).1, .int .u64 (convV k kd b t).2.1, .string (convV k kd b t).2.2.1], .int .i64 (convV k kd b t).2.2.2]) ?hr rfl ⟨rfl, ?hB⟩
     case hB => repeat (first | exact Below.refl _ _ | apply b_al | (refine b_st ?_ ?hg _; case hg => omega) | (refine b_go ?_ (by assumption)))
     case hr =>
      first
       | (have q := fun (y0 y1 y2 : Value) => set3 (w1 := w1) (g := w.heap.size + 1) (by repeat (first | (refine k_new ?_; simp; done) | apply k_al | (refine k_go ?_ (by assumption)))) y0 y1 y2
          have q0 := fun (y0 y1 y2 : Value) => (q y0 y1 y2).1
          have q1 := fun (y0 y1 y2 : Value) => (q y0 y1 y2).2.1
          have q2 := fun (y0 y1 y2 : Value) => (q y0 y1 y2).2.2
          clear q
          (try clear hb hc1 hf1)
          go_light
          simp [results, Tryz.results6, go_sem, wrap_u64, q0, q1, q2]
          (try clear q0 q1 q2)
          all_goals grind [])
       | (go_light
          simp [results, Tryz.results6, go_sem, wrap_u64]
          all_goals grind []))
theorem cv_text_L (k kd b : Int) (t : ByteArray) (hk : k = 19) (hd : 5 ≤ kd ∧ kd ≤ 5) (hne : ¬ k = kd) (hm : mayB kd b t = true) (hs : t.size ≤ 140737488351232) (h0 : 0 ≤ b) (h1 : b < 18446744073709551616) (w : World) (hL : Laid w) : Calls Tryz.prog 6 #[.int .u8 k, .agg #[.int .u8 kd, .int .u64 b, .string t]] w fun e w' => e = .returned (.tuple #[.agg #[.int .u8 (convV k kd b t).1, .int .u64 (convV k kd b t).2.1, .string (convV k kd b t).2.2.1], .int .i64 (convV k kd b t).2.2.2]) ∧ Below w.heap.size w w' := by
  have E := Lib.hid (show convV k kd b t = textV (numT kd b) by
    unfold convV; rw [if_neg (by rw [hm]; simp; unfold elB; simp; omega), if_neg hne, if_neg (by omega), if_neg (by omega), if_neg (by unfold timeB; simp; omega)]; unfold whoV; rw [if_neg (by omega), if_neg (by omega), if_neg (by omega), if_pos ⟨hk, by unfold rowB; simp; omega⟩])
  have NM : ∀ W, Calls Tryz.prog 17 #[.agg #[.int .u8 kd, .int .u64 b, .string t]] W fun e w' => e = .returned (.bool true) ∧ Below W.heap.size W w' := fun W => by have := v_may kd b t h0 h1 W; rwa [hm] at this
  have f_k_el : elB k = true := by unfold elB; simp; omega
  have n_k_kd : (k == kd) = false := by simpa using hne
  have n_k_1 : (k == 1) = false := by simp; omega
  have n_k_5 : (k == 5) = false := by simp; omega
  have n_k_18 : (k == 18) = false := by simp; omega
  have n_k_15 : (k == 15) = false := by simp; omega
  have n_k_16 : (k == 16) = false := by simp; omega
  have k19 : (k == 19) = true := by simpa using hk
  have n_kd_18 : (kd == 18) = false := by simp; omega
  have n_kd_17 : (kd == 17) = false := by simp; omega
  have n_kd_5 : (kd == 5) = true := by simp; omega
  have f_k_wh : whB k = false := by unfold whB; simp; omega
  have f_k_row : rowB k = false := by unfold rowB; simp; omega
  have f_k_time : timeB k = false := by unfold timeB; simp; omega
  have f_kd_wh : whB kd = true := by unfold whB; simp; omega
  have f_kd_row : rowB kd = false := by unfold rowB; simp; omega
  have f_kd_time : timeB kd = false := by unfold timeB; simp; omega
  have n_kd_1 : (kd == 1) = false := by simp; omega
  have N1 := fun W (hb : Below w.heap.size w W) => v_Print kd b t (by omega) h0 h1 hm W (hL.go hb)
  have N2 := fun W => v_Text (numT kd b) W
  clear hm hs h0 h1 hL hk hd hne
  go_enter Tryz.func6, Tryz.ntmps6
  go_wp2_with (first | (go_at_call 17; ((with_reducible refine (NM _).mono ?_); rintro e w1 ⟨rfl, hb2⟩; (first | (have hb1 := b_go hb hb2; clear hb hb2 hc1 hf1; have hb := hb1; clear hb1) | (have hb1 := b_go (b_al hb _) hb2; clear hb hb2 hc1 hf1; have hb := hb1; clear hb1) | (have hb := hb2; clear hb2)); obtain ⟨hc1, hf1⟩ := bcell hb)) | (go_at_call 15; ((with_reducible refine (v_whole _ _).mono ?_); rintro e w' ⟨rfl, rfl⟩)) | (go_at_call 16; ((with_reducible refine (v_row _ _).mono ?_); rintro e w' ⟨rfl, rfl⟩)) | (go_at_call 18; ((with_reducible refine (v_known _ _).mono ?_); rintro e w' ⟨rfl, rfl⟩)) | (go_at_call 22; ((with_reducible refine (v_signed _ _).mono ?_); rintro e w' ⟨rfl, rfl⟩)) | (go_at_call 26; ((with_reducible refine (v_timed _ _).mono ?_); rintro e w' ⟨rfl, rfl⟩)) | (go_at_call 29; ((with_reducible refine (N1 _ ?hx).mono ?_); (case hx => (repeat (first | exact Below.refl _ _ | apply b_al | (refine b_st ?_ ?hg _; case hg => omega) | (refine b_go ?_ (by assumption))))); rintro e w1 ⟨rfl, hb2⟩; (first | (have hb1 := b_go hb hb2; clear hb hb2 hc1 hf1; have hb := hb1; clear hb1) | (have hb1 := b_go (b_al hb _) hb2; clear hb hb2 hc1 hf1; have hb := hb1; clear hb1) | (have hb := hb2; clear hb2)); obtain ⟨hc1, hf1⟩ := bcell hb)) | (go_at_call 28; ((with_reducible refine (N2 _).mono ?_); rintro e w1 ⟨rfl, hb2⟩; (first | (have hb1 := b_go hb hb2; clear hb hb2 hc1 hf1; have hb := hb1; clear hb1) | (have hb1 := b_go (b_al hb _) hb2; clear hb hb2 hc1 hf1; have hb := hb1; clear hb1) | (have hb := hb2; clear hb2)); obtain ⟨hc1, hf1⟩ := bcell hb)))
  all_goals
    have E0 := E.out
    clear N1 N2
    clear E NM
    (refine bodyPost_ret (v := .tuple #[.agg #[.int .u8 (convV k kd b t).1, .int .u64 (convV k kd b t).2.1, .string (convV k kd b t).2.2.1], .int .i64 (convV k kd b t).2.2.2]) ?hr rfl ⟨rfl, ?hB⟩
     case hB => repeat (first | exact Below.refl _ _ | apply b_al | (refine b_st ?_ ?hg _; case hg => omega) | (refine b_go ?_ (by assumption)))
     case hr =>
      first
       | (have q := fun (y0 y1 y2 : Value) => set3 (w1 := w1) (g := w.heap.size + 1) (by repeat (first | (refine k_new ?_; simp; done) | apply k_al | (refine k_go ?_ (by assumption)))) y0 y1 y2
          have q0 := fun (y0 y1 y2 : Value) => (q y0 y1 y2).1
          have q1 := fun (y0 y1 y2 : Value) => (q y0 y1 y2).2.1
          have q2 := fun (y0 y1 y2 : Value) => (q y0 y1 y2).2.2
          clear q
          (try clear hb hc1 hf1)
          go_light
          simp [results, Tryz.results6, go_sem, wrap_u64, q0, q1, q2]
          (try clear q0 q1 q2)
          all_goals grind [])
       | (go_light
          simp [results, Tryz.results6, go_sem, wrap_u64]
          all_goals grind []))
theorem cv_text_Ro (k kd b : Int) (t : ByteArray) (hk : k = 19) (hd : 10 ≤ kd ∧ kd ≤ 13) (hne : ¬ k = kd) (hm : mayB kd b t = true) (hs : t.size ≤ 140737488351232) (h0 : 0 ≤ b) (h1 : b < 18446744073709551616) (w : World) (hL : Laid w) : Calls Tryz.prog 6 #[.int .u8 k, .agg #[.int .u8 kd, .int .u64 b, .string t]] w fun e w' => e = .returned (.tuple #[.agg #[.int .u8 (convV k kd b t).1, .int .u64 (convV k kd b t).2.1, .string (convV k kd b t).2.2.1], .int .i64 (convV k kd b t).2.2.2]) ∧ Below w.heap.size w w' := by
  have E := Lib.hid (show convV k kd b t = (0, 0, ⟨#[]⟩, 8) by
    unfold convV; rw [if_neg (by rw [hm]; simp; unfold elB; simp; omega), if_neg hne, if_neg (by omega), if_neg (by omega), if_neg (by unfold timeB; simp; omega)]; unfold whoV; rw [if_neg (by omega), if_neg (by omega), if_neg (by omega), if_neg (by unfold rowB; simp; omega), if_neg (by omega)])
  have NM : ∀ W, Calls Tryz.prog 17 #[.agg #[.int .u8 kd, .int .u64 b, .string t]] W fun e w' => e = .returned (.bool true) ∧ Below W.heap.size W w' := fun W => by have := v_may kd b t h0 h1 W; rwa [hm] at this
  have f_k_el : elB k = true := by unfold elB; simp; omega
  have n_k_kd : (k == kd) = false := by simpa using hne
  have n_k_1 : (k == 1) = false := by simp; omega
  have n_k_5 : (k == 5) = false := by simp; omega
  have n_k_18 : (k == 18) = false := by simp; omega
  have n_k_15 : (k == 15) = false := by simp; omega
  have n_k_16 : (k == 16) = false := by simp; omega
  have k19 : (k == 19) = true := by simpa using hk
  have n_kd_18 : (kd == 18) = false := by simp; omega
  have n_kd_17 : (kd == 17) = false := by simp; omega
  have n_kd_19 : (kd == 19) = false := by simp; omega
  have n_kd_1 : (kd == 1) = false := by simp; omega
  have n_kd_5 : (kd == 5) = false := by simp; omega
  have f_k_wh : whB k = false := by unfold whB; simp; omega
  have f_k_row : rowB k = false := by unfold rowB; simp; omega
  have f_k_time : timeB k = false := by unfold timeB; simp; omega
  have f_kd_wh : whB kd = false := by unfold whB; simp; omega
  have f_kd_row : rowB kd = true := by unfold rowB; simp; omega
  have f_kd_time : timeB kd = false := by unfold timeB; simp; omega
  clear hm hs h0 h1 hL hk hd hne
  go_enter Tryz.func6, Tryz.ntmps6
  go_wp2_with (first | (go_at_call 17; ((with_reducible refine (NM _).mono ?_); rintro e w1 ⟨rfl, hb2⟩; (first | (have hb1 := b_go hb hb2; clear hb hb2 hc1 hf1; have hb := hb1; clear hb1) | (have hb1 := b_go (b_al hb _) hb2; clear hb hb2 hc1 hf1; have hb := hb1; clear hb1) | (have hb := hb2; clear hb2)); obtain ⟨hc1, hf1⟩ := bcell hb)) | (go_at_call 15; ((with_reducible refine (v_whole _ _).mono ?_); rintro e w' ⟨rfl, rfl⟩)) | (go_at_call 16; ((with_reducible refine (v_row _ _).mono ?_); rintro e w' ⟨rfl, rfl⟩)) | (go_at_call 18; ((with_reducible refine (v_known _ _).mono ?_); rintro e w' ⟨rfl, rfl⟩)) | (go_at_call 22; ((with_reducible refine (v_signed _ _).mono ?_); rintro e w' ⟨rfl, rfl⟩)) | (go_at_call 26; ((with_reducible refine (v_timed _ _).mono ?_); rintro e w' ⟨rfl, rfl⟩)))
  all_goals
    have E0 := E.out
    clear E NM
    (refine bodyPost_ret (v := .tuple #[.agg #[.int .u8 (convV k kd b t).1, .int .u64 (convV k kd b t).2.1, .string (convV k kd b t).2.2.1], .int .i64 (convV k kd b t).2.2.2]) ?hr rfl ⟨rfl, ?hB⟩
     case hB => repeat (first | exact Below.refl _ _ | apply b_al | (refine b_st ?_ ?hg _; case hg => omega) | (refine b_go ?_ (by assumption)))
     case hr =>
      first
       | (have q := fun (y0 y1 y2 : Value) => set3 (w1 := w1) (g := w.heap.size + 1) (by repeat (first | (refine k_new ?_; simp; done) | apply k_al | (refine k_go ?_ (by assumption)))) y0 y1 y2
          have q0 := fun (y0 y1 y2 : Value) => (q y0 y1 y2).1
          have q1 := fun (y0 y1 y2 : Value) => (q y0 y1 y2).2.1
          have q2 := fun (y0 y1 y2 : Value) => (q y0 y1 y2).2.2
          clear q
          (try clear hb hc1 hf1)
          go_light
          simp [results, Tryz.results6, go_sem, wrap_u64, q0, q1, q2]
          (try clear q0 q1 q2)
          all_goals grind [])
       | (go_light
          simp [results, Tryz.results6, go_sem, wrap_u64]
          all_goals grind []))
theorem cv_time_L (k kd b : Int) (t : ByteArray) (hk : 14 ≤ k ∧ k ≤ 17) (hd : kd = 5) (hne : ¬ k = kd) (hm : mayB kd b t = true) (hs : t.size ≤ 140737488351232) (h0 : 0 ≤ b) (h1 : b < 18446744073709551616) (w : World) (hL : Laid w) : Calls Tryz.prog 6 #[.int .u8 k, .agg #[.int .u8 kd, .int .u64 b, .string t]] w fun e w' => e = .returned (.tuple #[.agg #[.int .u8 (convV k kd b t).1, .int .u64 (convV k kd b t).2.1, .string (convV k kd b t).2.2.1], .int .i64 (convV k kd b t).2.2.2]) ∧ Below w.heap.size w w' := by
  have E := Lib.hid (show convV k kd b t = ofV (szV kd b).1 (szV kd b).2 k 7 by
    unfold convV; rw [if_neg (by rw [hm]; simp; unfold elB; simp; omega), if_neg hne, if_neg (by omega), if_neg (by omega), if_neg (by unfold timeB; simp; omega)]; unfold whoV; rw [if_neg (by omega), if_neg (by omega), if_neg (by omega), if_neg (by omega), if_pos (by omega)]; unfold nmV; rw [if_pos (by unfold sgB; simp; omega)])
  have NM : ∀ W, Calls Tryz.prog 17 #[.agg #[.int .u8 kd, .int .u64 b, .string t]] W fun e w' => e = .returned (.bool true) ∧ Below W.heap.size W w' := fun W => by have := v_may kd b t h0 h1 W; rwa [hm] at this
  have f_k_el : elB k = true := by unfold elB; simp; omega
  have n_k_kd : (k == kd) = false := by simpa using hne
  have n_k_1 : (k == 1) = false := by simp; omega
  have n_k_5 : (k == 5) = false := by simp; omega
  have n_k_18 : (k == 18) = false := by simp; omega
  have k5 : (kd == 5) = true := by simpa using hd
  have n_kd_18 : (kd == 18) = false := by simp; omega
  have n_kd_17 : (kd == 17) = false := by simp; omega
  have n_kd_1 : (kd == 1) = false := by simp; omega
  have f_k_wh : whB k = false := by unfold whB; simp; omega
  have f_k_row : rowB k = false := by unfold rowB; simp; omega
  have f_k_time : timeB k = true := by unfold timeB; simp; omega
  have f_kd_wh : whB kd = true := by unfold whB; simp; omega
  have f_kd_row : rowB kd = false := by unfold rowB; simp; omega
  have f_kd_time : timeB kd = false := by unfold timeB; simp; omega
  have hr : 0 ≤ (szV kd b).2 ∧ (szV kd b).2 < 18446744073709551616 := sz_rng kd b h0 h1
  have N1 := fun W => v_sized kd b t W
  have N2 := fun W => v_of (szV kd b).1 (szV kd b).2 k 7 hr.1 hr.2 W
  clear hr
  clear hm hs h0 h1 hL hk hd hne
  go_enter Tryz.func6, Tryz.ntmps6
  go_wp2_with (first | (go_at_call 17; ((with_reducible refine (NM _).mono ?_); rintro e w1 ⟨rfl, hb2⟩; (first | (have hb1 := b_go hb hb2; clear hb hb2 hc1 hf1; have hb := hb1; clear hb1) | (have hb1 := b_go (b_al hb _) hb2; clear hb hb2 hc1 hf1; have hb := hb1; clear hb1) | (have hb := hb2; clear hb2)); obtain ⟨hc1, hf1⟩ := bcell hb)) | (go_at_call 15; ((with_reducible refine (v_whole _ _).mono ?_); rintro e w' ⟨rfl, rfl⟩)) | (go_at_call 16; ((with_reducible refine (v_row _ _).mono ?_); rintro e w' ⟨rfl, rfl⟩)) | (go_at_call 18; ((with_reducible refine (v_known _ _).mono ?_); rintro e w' ⟨rfl, rfl⟩)) | (go_at_call 22; ((with_reducible refine (v_signed _ _).mono ?_); rintro e w' ⟨rfl, rfl⟩)) | (go_at_call 26; ((with_reducible refine (v_timed _ _).mono ?_); rintro e w' ⟨rfl, rfl⟩)) | (go_at_call 27; ((with_reducible refine (N1 _).mono ?_); rintro e w1 ⟨rfl, hb2⟩; (first | (have hb1 := b_go hb hb2; clear hb hb2 hc1 hf1; have hb := hb1; clear hb1) | (have hb1 := b_go (b_al hb _) hb2; clear hb hb2 hc1 hf1; have hb := hb1; clear hb1) | (have hb := hb2; clear hb2)); obtain ⟨hc1, hf1⟩ := bcell hb)) | (go_at_call 20; ((with_reducible refine (N2 _).mono ?_); rintro e w1 ⟨rfl, hb2⟩; (first | (have hb1 := b_go hb hb2; clear hb hb2 hc1 hf1; have hb := hb1; clear hb1) | (have hb1 := b_go (b_al hb _) hb2; clear hb hb2 hc1 hf1; have hb := hb1; clear hb1) | (have hb := hb2; clear hb2)); obtain ⟨hc1, hf1⟩ := bcell hb)))
  all_goals
    have E0 := E.out
    clear N1 N2
    clear E NM
    (refine bodyPost_ret (v := .tuple #[.agg #[.int .u8 (convV k kd b t).1, .int .u64 (convV k kd b t).2.1, .string (convV k kd b t).2.2.1], .int .i64 (convV k kd b t).2.2.2]) ?hr rfl ⟨rfl, ?hB⟩
     case hB => repeat (first | exact Below.refl _ _ | apply b_al | (refine b_st ?_ ?hg _; case hg => omega) | (refine b_go ?_ (by assumption)))
     case hr =>
      first
       | (have q := fun (y0 y1 y2 : Value) => set3 (w1 := w1) (g := w.heap.size + 1) (by repeat (first | (refine k_new ?_; simp; done) | apply k_al | (refine k_go ?_ (by assumption)))) y0 y1 y2
          have q0 := fun (y0 y1 y2 : Value) => (q y0 y1 y2).1
          have q1 := fun (y0 y1 y2 : Value) => (q y0 y1 y2).2.1
          have q2 := fun (y0 y1 y2 : Value) => (q y0 y1 y2).2.2
          clear q
          (try clear hb hc1 hf1)
          go_light
          simp [results, Tryz.results6, go_sem, wrap_u64, q0, q1, q2]
          (try clear q0 q1 q2)
          all_goals grind [])
       | (go_light
          simp [results, Tryz.results6, go_sem, wrap_u64]
          all_goals grind []))
theorem cv_time_Bo (k kd b : Int) (t : ByteArray) (hk : 14 ≤ k ∧ k ≤ 17) (hd : 1 ≤ kd ∧ kd ≤ 1) (hne : ¬ k = kd) (hm : mayB kd b t = true) (hs : t.size ≤ 140737488351232) (h0 : 0 ≤ b) (h1 : b < 18446744073709551616) (w : World) (hL : Laid w) : Calls Tryz.prog 6 #[.int .u8 k, .agg #[.int .u8 kd, .int .u64 b, .string t]] w fun e w' => e = .returned (.tuple #[.agg #[.int .u8 (convV k kd b t).1, .int .u64 (convV k kd b t).2.1, .string (convV k kd b t).2.2.1], .int .i64 (convV k kd b t).2.2.2]) ∧ Below w.heap.size w w' := by
  have E := Lib.hid (show convV k kd b t = (0, 0, ⟨#[]⟩, 8) by
    unfold convV; rw [if_neg (by rw [hm]; simp; unfold elB; simp; omega), if_neg hne, if_neg (by omega), if_neg (by omega), if_neg (by unfold timeB; simp; omega)]; unfold whoV; rw [if_neg (by omega), if_neg (by omega), if_neg (by omega), if_neg (by omega), if_neg (by omega)])
  have NM : ∀ W, Calls Tryz.prog 17 #[.agg #[.int .u8 kd, .int .u64 b, .string t]] W fun e w' => e = .returned (.bool true) ∧ Below W.heap.size W w' := fun W => by have := v_may kd b t h0 h1 W; rwa [hm] at this
  have f_k_el : elB k = true := by unfold elB; simp; omega
  have n_k_kd : (k == kd) = false := by simpa using hne
  have n_k_1 : (k == 1) = false := by simp; omega
  have n_k_5 : (k == 5) = false := by simp; omega
  have n_k_18 : (k == 18) = false := by simp; omega
  have n_k_19 : (k == 19) = false := by simp; omega
  have n_kd_18 : (kd == 18) = false := by simp; omega
  have n_kd_17 : (kd == 17) = false := by simp; omega
  have n_kd_19 : (kd == 19) = false := by simp; omega
  have n_kd_5 : (kd == 5) = false := by simp; omega
  have f_k_wh : whB k = false := by unfold whB; simp; omega
  have f_k_row : rowB k = false := by unfold rowB; simp; omega
  have f_k_time : timeB k = true := by unfold timeB; simp; omega
  have f_kd_wh : whB kd = false := by unfold whB; simp; omega
  have f_kd_row : rowB kd = false := by unfold rowB; simp; omega
  have f_kd_time : timeB kd = false := by unfold timeB; simp; omega
  have n_kd_1 : (kd == 1) = true := by simp; omega
  clear hm hs h0 h1 hL hk hd hne
  go_enter Tryz.func6, Tryz.ntmps6
  go_wp2_with (first | (go_at_call 17; ((with_reducible refine (NM _).mono ?_); rintro e w1 ⟨rfl, hb2⟩; (first | (have hb1 := b_go hb hb2; clear hb hb2 hc1 hf1; have hb := hb1; clear hb1) | (have hb1 := b_go (b_al hb _) hb2; clear hb hb2 hc1 hf1; have hb := hb1; clear hb1) | (have hb := hb2; clear hb2)); obtain ⟨hc1, hf1⟩ := bcell hb)) | (go_at_call 15; ((with_reducible refine (v_whole _ _).mono ?_); rintro e w' ⟨rfl, rfl⟩)) | (go_at_call 16; ((with_reducible refine (v_row _ _).mono ?_); rintro e w' ⟨rfl, rfl⟩)) | (go_at_call 18; ((with_reducible refine (v_known _ _).mono ?_); rintro e w' ⟨rfl, rfl⟩)) | (go_at_call 22; ((with_reducible refine (v_signed _ _).mono ?_); rintro e w' ⟨rfl, rfl⟩)) | (go_at_call 26; ((with_reducible refine (v_timed _ _).mono ?_); rintro e w' ⟨rfl, rfl⟩)))
  all_goals
    have E0 := E.out
    clear E NM
    (refine bodyPost_ret (v := .tuple #[.agg #[.int .u8 (convV k kd b t).1, .int .u64 (convV k kd b t).2.1, .string (convV k kd b t).2.2.1], .int .i64 (convV k kd b t).2.2.2]) ?hr rfl ⟨rfl, ?hB⟩
     case hB => repeat (first | exact Below.refl _ _ | apply b_al | (refine b_st ?_ ?hg _; case hg => omega) | (refine b_go ?_ (by assumption)))
     case hr =>
      first
       | (have q := fun (y0 y1 y2 : Value) => set3 (w1 := w1) (g := w.heap.size + 1) (by repeat (first | (refine k_new ?_; simp; done) | apply k_al | (refine k_go ?_ (by assumption)))) y0 y1 y2
          have q0 := fun (y0 y1 y2 : Value) => (q y0 y1 y2).1
          have q1 := fun (y0 y1 y2 : Value) => (q y0 y1 y2).2.1
          have q2 := fun (y0 y1 y2 : Value) => (q y0 y1 y2).2.2
          clear q
          (try clear hb hc1 hf1)
          go_light
          simp [results, Tryz.results6, go_sem, wrap_u64, q0, q1, q2]
          (try clear q0 q1 q2)
          all_goals grind [])
       | (go_light
          simp [results, Tryz.results6, go_sem, wrap_u64]
          all_goals grind []))
theorem cv_time_Wh (k kd b : Int) (t : ByteArray) (hk : 14 ≤ k ∧ k ≤ 17) (hd : 2 ≤ kd ∧ kd ≤ 9 ∧ ¬ kd = 5) (hne : ¬ k = kd) (hm : mayB kd b t = true) (hs : t.size ≤ 140737488351232) (h0 : 0 ≤ b) (h1 : b < 18446744073709551616) (w : World) (hL : Laid w) : Calls Tryz.prog 6 #[.int .u8 k, .agg #[.int .u8 kd, .int .u64 b, .string t]] w fun e w' => e = .returned (.tuple #[.agg #[.int .u8 (convV k kd b t).1, .int .u64 (convV k kd b t).2.1, .string (convV k kd b t).2.2.1], .int .i64 (convV k kd b t).2.2.2]) ∧ Below w.heap.size w w' := by
  have E := Lib.hid (show convV k kd b t = (0, 0, ⟨#[]⟩, 8) by
    unfold convV; rw [if_neg (by rw [hm]; simp; unfold elB; simp; omega), if_neg hne, if_neg (by omega), if_neg (by omega), if_neg (by unfold timeB; simp; omega)]; unfold whoV; rw [if_neg (by omega), if_neg (by omega), if_neg (by omega), if_neg (by omega), if_neg (by omega)])
  have NM : ∀ W, Calls Tryz.prog 17 #[.agg #[.int .u8 kd, .int .u64 b, .string t]] W fun e w' => e = .returned (.bool true) ∧ Below W.heap.size W w' := fun W => by have := v_may kd b t h0 h1 W; rwa [hm] at this
  have f_k_el : elB k = true := by unfold elB; simp; omega
  have n_k_kd : (k == kd) = false := by simpa using hne
  have n_k_1 : (k == 1) = false := by simp; omega
  have n_k_5 : (k == 5) = false := by simp; omega
  have n_k_18 : (k == 18) = false := by simp; omega
  have n_k_19 : (k == 19) = false := by simp; omega
  have n_kd_18 : (kd == 18) = false := by simp; omega
  have n_kd_17 : (kd == 17) = false := by simp; omega
  have n_kd_19 : (kd == 19) = false := by simp; omega
  have n_kd_5 : (kd == 5) = false := by simp; omega
  have f_k_wh : whB k = false := by unfold whB; simp; omega
  have f_k_row : rowB k = false := by unfold rowB; simp; omega
  have f_k_time : timeB k = true := by unfold timeB; simp; omega
  have f_kd_wh : whB kd = true := by unfold whB; simp; omega
  have f_kd_row : rowB kd = false := by unfold rowB; simp; omega
  have f_kd_time : timeB kd = false := by unfold timeB; simp; omega
  have n_kd_1 : (kd == 1) = false := by simp; omega
  clear hm hs h0 h1 hL hk hd hne
  go_enter Tryz.func6, Tryz.ntmps6
  go_wp2_with (first | (go_at_call 17; ((with_reducible refine (NM _).mono ?_); rintro e w1 ⟨rfl, hb2⟩; (first | (have hb1 := b_go hb hb2; clear hb hb2 hc1 hf1; have hb := hb1; clear hb1) | (have hb1 := b_go (b_al hb _) hb2; clear hb hb2 hc1 hf1; have hb := hb1; clear hb1) | (have hb := hb2; clear hb2)); obtain ⟨hc1, hf1⟩ := bcell hb)) | (go_at_call 15; ((with_reducible refine (v_whole _ _).mono ?_); rintro e w' ⟨rfl, rfl⟩)) | (go_at_call 16; ((with_reducible refine (v_row _ _).mono ?_); rintro e w' ⟨rfl, rfl⟩)) | (go_at_call 18; ((with_reducible refine (v_known _ _).mono ?_); rintro e w' ⟨rfl, rfl⟩)) | (go_at_call 22; ((with_reducible refine (v_signed _ _).mono ?_); rintro e w' ⟨rfl, rfl⟩)) | (go_at_call 26; ((with_reducible refine (v_timed _ _).mono ?_); rintro e w' ⟨rfl, rfl⟩)))
  all_goals
    have E0 := E.out
    clear E NM
    (refine bodyPost_ret (v := .tuple #[.agg #[.int .u8 (convV k kd b t).1, .int .u64 (convV k kd b t).2.1, .string (convV k kd b t).2.2.1], .int .i64 (convV k kd b t).2.2.2]) ?hr rfl ⟨rfl, ?hB⟩
     case hB => repeat (first | exact Below.refl _ _ | apply b_al | (refine b_st ?_ ?hg _; case hg => omega) | (refine b_go ?_ (by assumption)))
     case hr =>
      first
       | (have q := fun (y0 y1 y2 : Value) => set3 (w1 := w1) (g := w.heap.size + 1) (by repeat (first | (refine k_new ?_; simp; done) | apply k_al | (refine k_go ?_ (by assumption)))) y0 y1 y2
          have q0 := fun (y0 y1 y2 : Value) => (q y0 y1 y2).1
          have q1 := fun (y0 y1 y2 : Value) => (q y0 y1 y2).2.1
          have q2 := fun (y0 y1 y2 : Value) => (q y0 y1 y2).2.2
          clear q
          (try clear hb hc1 hf1)
          go_light
          simp [results, Tryz.results6, go_sem, wrap_u64, q0, q1, q2]
          (try clear q0 q1 q2)
          all_goals grind [])
       | (go_light
          simp [results, Tryz.results6, go_sem, wrap_u64]
          all_goals grind []))
theorem cv_time_Ro (k kd b : Int) (t : ByteArray) (hk : 14 ≤ k ∧ k ≤ 17) (hd : 10 ≤ kd ∧ kd ≤ 13) (hne : ¬ k = kd) (hm : mayB kd b t = true) (hs : t.size ≤ 140737488351232) (h0 : 0 ≤ b) (h1 : b < 18446744073709551616) (w : World) (hL : Laid w) : Calls Tryz.prog 6 #[.int .u8 k, .agg #[.int .u8 kd, .int .u64 b, .string t]] w fun e w' => e = .returned (.tuple #[.agg #[.int .u8 (convV k kd b t).1, .int .u64 (convV k kd b t).2.1, .string (convV k kd b t).2.2.1], .int .i64 (convV k kd b t).2.2.2]) ∧ Below w.heap.size w w' := by
  have E := Lib.hid (show convV k kd b t = (0, 0, ⟨#[]⟩, 8) by
    unfold convV; rw [if_neg (by rw [hm]; simp; unfold elB; simp; omega), if_neg hne, if_neg (by omega), if_neg (by omega), if_neg (by unfold timeB; simp; omega)]; unfold whoV; rw [if_neg (by omega), if_neg (by omega), if_neg (by omega), if_neg (by omega), if_neg (by omega)])
  have NM : ∀ W, Calls Tryz.prog 17 #[.agg #[.int .u8 kd, .int .u64 b, .string t]] W fun e w' => e = .returned (.bool true) ∧ Below W.heap.size W w' := fun W => by have := v_may kd b t h0 h1 W; rwa [hm] at this
  have f_k_el : elB k = true := by unfold elB; simp; omega
  have n_k_kd : (k == kd) = false := by simpa using hne
  have n_k_1 : (k == 1) = false := by simp; omega
  have n_k_5 : (k == 5) = false := by simp; omega
  have n_k_18 : (k == 18) = false := by simp; omega
  have n_k_19 : (k == 19) = false := by simp; omega
  have n_kd_18 : (kd == 18) = false := by simp; omega
  have n_kd_17 : (kd == 17) = false := by simp; omega
  have n_kd_19 : (kd == 19) = false := by simp; omega
  have n_kd_5 : (kd == 5) = false := by simp; omega
  have f_k_wh : whB k = false := by unfold whB; simp; omega
  have f_k_row : rowB k = false := by unfold rowB; simp; omega
  have f_k_time : timeB k = true := by unfold timeB; simp; omega
  have f_kd_wh : whB kd = false := by unfold whB; simp; omega
  have f_kd_row : rowB kd = true := by unfold rowB; simp; omega
  have f_kd_time : timeB kd = false := by unfold timeB; simp; omega
  have n_kd_1 : (kd == 1) = false := by simp; omega
  clear hm hs h0 h1 hL hk hd hne
  go_enter Tryz.func6, Tryz.ntmps6
  go_wp2_with (first | (go_at_call 17; ((with_reducible refine (NM _).mono ?_); rintro e w1 ⟨rfl, hb2⟩; (first | (have hb1 := b_go hb hb2; clear hb hb2 hc1 hf1; have hb := hb1; clear hb1) | (have hb1 := b_go (b_al hb _) hb2; clear hb hb2 hc1 hf1; have hb := hb1; clear hb1) | (have hb := hb2; clear hb2)); obtain ⟨hc1, hf1⟩ := bcell hb)) | (go_at_call 15; ((with_reducible refine (v_whole _ _).mono ?_); rintro e w' ⟨rfl, rfl⟩)) | (go_at_call 16; ((with_reducible refine (v_row _ _).mono ?_); rintro e w' ⟨rfl, rfl⟩)) | (go_at_call 18; ((with_reducible refine (v_known _ _).mono ?_); rintro e w' ⟨rfl, rfl⟩)) | (go_at_call 22; ((with_reducible refine (v_signed _ _).mono ?_); rintro e w' ⟨rfl, rfl⟩)) | (go_at_call 26; ((with_reducible refine (v_timed _ _).mono ?_); rintro e w' ⟨rfl, rfl⟩)))
  all_goals
    have E0 := E.out
    clear E NM
    (refine bodyPost_ret (v := .tuple #[.agg #[.int .u8 (convV k kd b t).1, .int .u64 (convV k kd b t).2.1, .string (convV k kd b t).2.2.1], .int .i64 (convV k kd b t).2.2.2]) ?hr rfl ⟨rfl, ?hB⟩
     case hB => repeat (first | exact Below.refl _ _ | apply b_al | (refine b_st ?_ ?hg _; case hg => omega) | (refine b_go ?_ (by assumption)))
     case hr =>
      first
       | (have q := fun (y0 y1 y2 : Value) => set3 (w1 := w1) (g := w.heap.size + 1) (by repeat (first | (refine k_new ?_; simp; done) | apply k_al | (refine k_go ?_ (by assumption)))) y0 y1 y2
          have q0 := fun (y0 y1 y2 : Value) => (q y0 y1 y2).1
          have q1 := fun (y0 y1 y2 : Value) => (q y0 y1 y2).2.1
          have q2 := fun (y0 y1 y2 : Value) => (q y0 y1 y2).2.2
          clear q
          (try clear hb hc1 hf1)
          go_light
          simp [results, Tryz.results6, go_sem, wrap_u64, q0, q1, q2]
          (try clear q0 q1 q2)
          all_goals grind [])
       | (go_light
          simp [results, Tryz.results6, go_sem, wrap_u64]
          all_goals grind []))
theorem cv_fl_Bo (k kd b : Int) (t : ByteArray) (hk : 1 ≤ k ∧ k ≤ 1) (hd : kd = 18) (hne : ¬ k = kd) (hm : mayB kd b t = true) (hs : t.size ≤ 140737488351232) (h0 : 0 ≤ b) (h1 : b < 18446744073709551616) (w : World) (hL : Laid w) : Calls Tryz.prog 6 #[.int .u8 k, .agg #[.int .u8 kd, .int .u64 b, .string t]] w fun e w' => e = .returned (.tuple #[.agg #[.int .u8 (convV k kd b t).1, .int .u64 (convV k kd b t).2.1, .string (convV k kd b t).2.2.1], .int .i64 (convV k kd b t).2.2.2]) ∧ Below w.heap.size w w' := by
  have E := Lib.hid (show convV k kd b t = relV k b by
    unfold convV; rw [if_neg (by rw [hm]; simp; unfold elB; simp; omega), if_neg hne, if_pos hd])
  have NM : ∀ W, Calls Tryz.prog 17 #[.agg #[.int .u8 kd, .int .u64 b, .string t]] W fun e w' => e = .returned (.bool true) ∧ Below W.heap.size W w' := fun W => by have := v_may kd b t h0 h1 W; rwa [hm] at this
  have f_k_el : elB k = true := by unfold elB; simp; omega
  have n_k_kd : (k == kd) = false := by simpa using hne
  have k18 : (kd == 18) = true := by simpa using hd
  have n_kd_1 : (kd == 1) = false := by simp; omega
  have f_k_wh : whB k = false := by unfold whB; simp; omega
  have f_k_row : rowB k = false := by unfold rowB; simp; omega
  have f_kd_wh : whB kd = false := by unfold whB; simp; omega
  have f_kd_row : rowB kd = false := by unfold rowB; simp; omega
  have k1 : (k == 1) = true := by simp; omega
  have hm2 : mayB 18 b t = true := by rw [← hd]; exact hm
  have N1 := fun W => v_fromFloat k b t (by omega) hm2 h0 h1 W
  clear hm2
  clear hm hs h0 h1 hL hk hd hne
  go_enter Tryz.func6, Tryz.ntmps6
  go_wp2_with (first | (go_at_call 17; ((with_reducible refine (NM _).mono ?_); rintro e w1 ⟨rfl, hb2⟩; (first | (have hb1 := b_go hb hb2; clear hb hb2 hc1 hf1; have hb := hb1; clear hb1) | (have hb1 := b_go (b_al hb _) hb2; clear hb hb2 hc1 hf1; have hb := hb1; clear hb1) | (have hb := hb2; clear hb2)); obtain ⟨hc1, hf1⟩ := bcell hb)) | (go_at_call 15; ((with_reducible refine (v_whole _ _).mono ?_); rintro e w' ⟨rfl, rfl⟩)) | (go_at_call 16; ((with_reducible refine (v_row _ _).mono ?_); rintro e w' ⟨rfl, rfl⟩)) | (go_at_call 18; ((with_reducible refine (v_known _ _).mono ?_); rintro e w' ⟨rfl, rfl⟩)) | (go_at_call 22; ((with_reducible refine (v_signed _ _).mono ?_); rintro e w' ⟨rfl, rfl⟩)) | (go_at_call 26; ((with_reducible refine (v_timed _ _).mono ?_); rintro e w' ⟨rfl, rfl⟩)) | (go_at_call 24; ((with_reducible refine (N1 _).mono ?_); rintro e w1 ⟨rfl, hb2⟩; (first | (have hb1 := b_go hb hb2; clear hb hb2 hc1 hf1; have hb := hb1; clear hb1) | (have hb1 := b_go (b_al hb _) hb2; clear hb hb2 hc1 hf1; have hb := hb1; clear hb1) | (have hb := hb2; clear hb2)); obtain ⟨hc1, hf1⟩ := bcell hb)))
  all_goals
    have E0 := E.out
    clear N1
    clear E NM
    (refine bodyPost_ret (v := .tuple #[.agg #[.int .u8 (convV k kd b t).1, .int .u64 (convV k kd b t).2.1, .string (convV k kd b t).2.2.1], .int .i64 (convV k kd b t).2.2.2]) ?hr rfl ⟨rfl, ?hB⟩
     case hB => repeat (first | exact Below.refl _ _ | apply b_al | (refine b_st ?_ ?hg _; case hg => omega) | (refine b_go ?_ (by assumption)))
     case hr =>
      first
       | (have q := fun (y0 y1 y2 : Value) => set3 (w1 := w1) (g := w.heap.size + 1) (by repeat (first | (refine k_new ?_; simp; done) | apply k_al | (refine k_go ?_ (by assumption)))) y0 y1 y2
          have q0 := fun (y0 y1 y2 : Value) => (q y0 y1 y2).1
          have q1 := fun (y0 y1 y2 : Value) => (q y0 y1 y2).2.1
          have q2 := fun (y0 y1 y2 : Value) => (q y0 y1 y2).2.2
          clear q
          (try clear hb hc1 hf1)
          go_light
          simp [results, Tryz.results6, go_sem, wrap_u64, q0, q1, q2]
          (try clear q0 q1 q2)
          all_goals grind [])
       | (go_light
          simp [results, Tryz.results6, go_sem, wrap_u64]
          all_goals grind []))
theorem cv_fl_Wh (k kd b : Int) (t : ByteArray) (hk : 2 ≤ k ∧ k ≤ 9) (hd : kd = 18) (hne : ¬ k = kd) (hm : mayB kd b t = true) (hs : t.size ≤ 140737488351232) (h0 : 0 ≤ b) (h1 : b < 18446744073709551616) (w : World) (hL : Laid w) : Calls Tryz.prog 6 #[.int .u8 k, .agg #[.int .u8 kd, .int .u64 b, .string t]] w fun e w' => e = .returned (.tuple #[.agg #[.int .u8 (convV k kd b t).1, .int .u64 (convV k kd b t).2.1, .string (convV k kd b t).2.2.1], .int .i64 (convV k kd b t).2.2.2]) ∧ Below w.heap.size w w' := by
  have E := Lib.hid (show convV k kd b t = relV k b by
    unfold convV; rw [if_neg (by rw [hm]; simp; unfold elB; simp; omega), if_neg hne, if_pos hd])
  have NM : ∀ W, Calls Tryz.prog 17 #[.agg #[.int .u8 kd, .int .u64 b, .string t]] W fun e w' => e = .returned (.bool true) ∧ Below W.heap.size W w' := fun W => by have := v_may kd b t h0 h1 W; rwa [hm] at this
  have f_k_el : elB k = true := by unfold elB; simp; omega
  have n_k_kd : (k == kd) = false := by simpa using hne
  have k18 : (kd == 18) = true := by simpa using hd
  have n_kd_1 : (kd == 1) = false := by simp; omega
  have f_k_wh : whB k = true := by unfold whB; simp; omega
  have f_k_row : rowB k = false := by unfold rowB; simp; omega
  have f_kd_wh : whB kd = false := by unfold whB; simp; omega
  have f_kd_row : rowB kd = false := by unfold rowB; simp; omega
  have n_k_1 : (k == 1) = false := by simp; omega
  have hm2 : mayB 18 b t = true := by rw [← hd]; exact hm
  have N1 := fun W => v_fromFloat k b t (by omega) hm2 h0 h1 W
  clear hm2
  clear hm hs h0 h1 hL hk hd hne
  go_enter Tryz.func6, Tryz.ntmps6
  go_wp2_with (first | (go_at_call 17; ((with_reducible refine (NM _).mono ?_); rintro e w1 ⟨rfl, hb2⟩; (first | (have hb1 := b_go hb hb2; clear hb hb2 hc1 hf1; have hb := hb1; clear hb1) | (have hb1 := b_go (b_al hb _) hb2; clear hb hb2 hc1 hf1; have hb := hb1; clear hb1) | (have hb := hb2; clear hb2)); obtain ⟨hc1, hf1⟩ := bcell hb)) | (go_at_call 15; ((with_reducible refine (v_whole _ _).mono ?_); rintro e w' ⟨rfl, rfl⟩)) | (go_at_call 16; ((with_reducible refine (v_row _ _).mono ?_); rintro e w' ⟨rfl, rfl⟩)) | (go_at_call 18; ((with_reducible refine (v_known _ _).mono ?_); rintro e w' ⟨rfl, rfl⟩)) | (go_at_call 22; ((with_reducible refine (v_signed _ _).mono ?_); rintro e w' ⟨rfl, rfl⟩)) | (go_at_call 26; ((with_reducible refine (v_timed _ _).mono ?_); rintro e w' ⟨rfl, rfl⟩)) | (go_at_call 24; ((with_reducible refine (N1 _).mono ?_); rintro e w1 ⟨rfl, hb2⟩; (first | (have hb1 := b_go hb hb2; clear hb hb2 hc1 hf1; have hb := hb1; clear hb1) | (have hb1 := b_go (b_al hb _) hb2; clear hb hb2 hc1 hf1; have hb := hb1; clear hb1) | (have hb := hb2; clear hb2)); obtain ⟨hc1, hf1⟩ := bcell hb)))
  all_goals
    have E0 := E.out
    clear N1
    clear E NM
    (refine bodyPost_ret (v := .tuple #[.agg #[.int .u8 (convV k kd b t).1, .int .u64 (convV k kd b t).2.1, .string (convV k kd b t).2.2.1], .int .i64 (convV k kd b t).2.2.2]) ?hr rfl ⟨rfl, ?hB⟩
     case hB => repeat (first | exact Below.refl _ _ | apply b_al | (refine b_st ?_ ?hg _; case hg => omega) | (refine b_go ?_ (by assumption)))
     case hr =>
      first
       | (have q := fun (y0 y1 y2 : Value) => set3 (w1 := w1) (g := w.heap.size + 1) (by repeat (first | (refine k_new ?_; simp; done) | apply k_al | (refine k_go ?_ (by assumption)))) y0 y1 y2
          have q0 := fun (y0 y1 y2 : Value) => (q y0 y1 y2).1
          have q1 := fun (y0 y1 y2 : Value) => (q y0 y1 y2).2.1
          have q2 := fun (y0 y1 y2 : Value) => (q y0 y1 y2).2.2
          clear q
          (try clear hb hc1 hf1)
          go_light
          simp [results, Tryz.results6, go_sem, wrap_u64, q0, q1, q2]
          (try clear q0 q1 q2)
          all_goals grind [])
       | (go_light
          simp [results, Tryz.results6, go_sem, wrap_u64]
          all_goals grind []))
theorem cv_fl_Ro (k kd b : Int) (t : ByteArray) (hk : 10 ≤ k ∧ k ≤ 13) (hd : kd = 18) (hne : ¬ k = kd) (hm : mayB kd b t = true) (hs : t.size ≤ 140737488351232) (h0 : 0 ≤ b) (h1 : b < 18446744073709551616) (w : World) (hL : Laid w) : Calls Tryz.prog 6 #[.int .u8 k, .agg #[.int .u8 kd, .int .u64 b, .string t]] w fun e w' => e = .returned (.tuple #[.agg #[.int .u8 (convV k kd b t).1, .int .u64 (convV k kd b t).2.1, .string (convV k kd b t).2.2.1], .int .i64 (convV k kd b t).2.2.2]) ∧ Below w.heap.size w w' := by
  have E := Lib.hid (show convV k kd b t = relV k b by
    unfold convV; rw [if_neg (by rw [hm]; simp; unfold elB; simp; omega), if_neg hne, if_pos hd])
  have NM : ∀ W, Calls Tryz.prog 17 #[.agg #[.int .u8 kd, .int .u64 b, .string t]] W fun e w' => e = .returned (.bool true) ∧ Below W.heap.size W w' := fun W => by have := v_may kd b t h0 h1 W; rwa [hm] at this
  have f_k_el : elB k = true := by unfold elB; simp; omega
  have n_k_kd : (k == kd) = false := by simpa using hne
  have k18 : (kd == 18) = true := by simpa using hd
  have n_kd_1 : (kd == 1) = false := by simp; omega
  have f_k_wh : whB k = false := by unfold whB; simp; omega
  have f_k_row : rowB k = true := by unfold rowB; simp; omega
  have f_kd_wh : whB kd = false := by unfold whB; simp; omega
  have f_kd_row : rowB kd = false := by unfold rowB; simp; omega
  have n_k_1 : (k == 1) = false := by simp; omega
  have hm2 : mayB 18 b t = true := by rw [← hd]; exact hm
  have N1 := fun W => v_fromFloat k b t (by omega) hm2 h0 h1 W
  clear hm2
  clear hm hs h0 h1 hL hk hd hne
  go_enter Tryz.func6, Tryz.ntmps6
  go_wp2_with (first | (go_at_call 17; ((with_reducible refine (NM _).mono ?_); rintro e w1 ⟨rfl, hb2⟩; (first | (have hb1 := b_go hb hb2; clear hb hb2 hc1 hf1; have hb := hb1; clear hb1) | (have hb1 := b_go (b_al hb _) hb2; clear hb hb2 hc1 hf1; have hb := hb1; clear hb1) | (have hb := hb2; clear hb2)); obtain ⟨hc1, hf1⟩ := bcell hb)) | (go_at_call 15; ((with_reducible refine (v_whole _ _).mono ?_); rintro e w' ⟨rfl, rfl⟩)) | (go_at_call 16; ((with_reducible refine (v_row _ _).mono ?_); rintro e w' ⟨rfl, rfl⟩)) | (go_at_call 18; ((with_reducible refine (v_known _ _).mono ?_); rintro e w' ⟨rfl, rfl⟩)) | (go_at_call 22; ((with_reducible refine (v_signed _ _).mono ?_); rintro e w' ⟨rfl, rfl⟩)) | (go_at_call 26; ((with_reducible refine (v_timed _ _).mono ?_); rintro e w' ⟨rfl, rfl⟩)) | (go_at_call 24; ((with_reducible refine (N1 _).mono ?_); rintro e w1 ⟨rfl, hb2⟩; (first | (have hb1 := b_go hb hb2; clear hb hb2 hc1 hf1; have hb := hb1; clear hb1) | (have hb1 := b_go (b_al hb _) hb2; clear hb hb2 hc1 hf1; have hb := hb1; clear hb1) | (have hb := hb2; clear hb2)); obtain ⟨hc1, hf1⟩ := bcell hb)))
  all_goals
    have E0 := E.out
    clear N1
    clear E NM
    (refine bodyPost_ret (v := .tuple #[.agg #[.int .u8 (convV k kd b t).1, .int .u64 (convV k kd b t).2.1, .string (convV k kd b t).2.2.1], .int .i64 (convV k kd b t).2.2.2]) ?hr rfl ⟨rfl, ?hB⟩
     case hB => repeat (first | exact Below.refl _ _ | apply b_al | (refine b_st ?_ ?hg _; case hg => omega) | (refine b_go ?_ (by assumption)))
     case hr =>
      first
       | (have q := fun (y0 y1 y2 : Value) => set3 (w1 := w1) (g := w.heap.size + 1) (by repeat (first | (refine k_new ?_; simp; done) | apply k_al | (refine k_go ?_ (by assumption)))) y0 y1 y2
          have q0 := fun (y0 y1 y2 : Value) => (q y0 y1 y2).1
          have q1 := fun (y0 y1 y2 : Value) => (q y0 y1 y2).2.1
          have q2 := fun (y0 y1 y2 : Value) => (q y0 y1 y2).2.2
          clear q
          (try clear hb hc1 hf1)
          go_light
          simp [results, Tryz.results6, go_sem, wrap_u64, q0, q1, q2]
          (try clear q0 q1 q2)
          all_goals grind [])
       | (go_light
          simp [results, Tryz.results6, go_sem, wrap_u64]
          all_goals grind []))
theorem cv_fl_no (k kd b : Int) (t : ByteArray) (hk : 14 ≤ k ∧ k ≤ 19) (hd : kd = 18) (hne : ¬ k = kd) (hm : mayB kd b t = true) (hs : t.size ≤ 140737488351232) (h0 : 0 ≤ b) (h1 : b < 18446744073709551616) (w : World) (hL : Laid w) : Calls Tryz.prog 6 #[.int .u8 k, .agg #[.int .u8 kd, .int .u64 b, .string t]] w fun e w' => e = .returned (.tuple #[.agg #[.int .u8 (convV k kd b t).1, .int .u64 (convV k kd b t).2.1, .string (convV k kd b t).2.2.1], .int .i64 (convV k kd b t).2.2.2]) ∧ Below w.heap.size w w' := by
  have E := Lib.hid (show convV k kd b t = (0, 0, ⟨#[]⟩, 8) by
    unfold convV; rw [if_neg (by rw [hm]; simp; unfold elB; simp; omega), if_neg hne, if_pos hd]; unfold relV; rw [if_neg (by omega), if_neg (by omega)])
  have NM : ∀ W, Calls Tryz.prog 17 #[.agg #[.int .u8 kd, .int .u64 b, .string t]] W fun e w' => e = .returned (.bool true) ∧ Below W.heap.size W w' := fun W => by have := v_may kd b t h0 h1 W; rwa [hm] at this
  have f_k_el : elB k = true := by unfold elB; simp; omega
  have n_k_kd : (k == kd) = false := by simpa using hne
  have k18 : (kd == 18) = true := by simpa using hd
  have n_k_1 : (k == 1) = false := by simp; omega
  have n_k_5 : (k == 5) = false := by simp; omega
  have n_kd_1 : (kd == 1) = false := by simp; omega
  have n_kd_5 : (kd == 5) = false := by simp; omega
  have n_kd_17 : (kd == 17) = false := by simp; omega
  have n_kd_19 : (kd == 19) = false := by simp; omega
  have f_k_wh : whB k = false := by unfold whB; simp; omega
  have f_k_row : rowB k = false := by unfold rowB; simp; omega
  have f_kd_wh : whB kd = false := by unfold whB; simp; omega
  have f_kd_row : rowB kd = false := by unfold rowB; simp; omega
  have f_kd_time : timeB kd = false := by unfold timeB; simp; omega
  clear hm hs h0 h1 hL hk hd hne
  go_enter Tryz.func6, Tryz.ntmps6
  go_wp2_with (first | (go_at_call 17; ((with_reducible refine (NM _).mono ?_); rintro e w1 ⟨rfl, hb2⟩; (first | (have hb1 := b_go hb hb2; clear hb hb2 hc1 hf1; have hb := hb1; clear hb1) | (have hb1 := b_go (b_al hb _) hb2; clear hb hb2 hc1 hf1; have hb := hb1; clear hb1) | (have hb := hb2; clear hb2)); obtain ⟨hc1, hf1⟩ := bcell hb)) | (go_at_call 15; ((with_reducible refine (v_whole _ _).mono ?_); rintro e w' ⟨rfl, rfl⟩)) | (go_at_call 16; ((with_reducible refine (v_row _ _).mono ?_); rintro e w' ⟨rfl, rfl⟩)) | (go_at_call 18; ((with_reducible refine (v_known _ _).mono ?_); rintro e w' ⟨rfl, rfl⟩)) | (go_at_call 22; ((with_reducible refine (v_signed _ _).mono ?_); rintro e w' ⟨rfl, rfl⟩)) | (go_at_call 26; ((with_reducible refine (v_timed _ _).mono ?_); rintro e w' ⟨rfl, rfl⟩)))
  all_goals
    have E0 := E.out
    clear E NM
    (refine bodyPost_ret (v := .tuple #[.agg #[.int .u8 (convV k kd b t).1, .int .u64 (convV k kd b t).2.1, .string (convV k kd b t).2.2.1], .int .i64 (convV k kd b t).2.2.2]) ?hr rfl ⟨rfl, ?hB⟩
     case hB => repeat (first | exact Below.refl _ _ | apply b_al | (refine b_st ?_ ?hg _; case hg => omega) | (refine b_go ?_ (by assumption)))
     case hr =>
      first
       | (have q := fun (y0 y1 y2 : Value) => set3 (w1 := w1) (g := w.heap.size + 1) (by repeat (first | (refine k_new ?_; simp; done) | apply k_al | (refine k_go ?_ (by assumption)))) y0 y1 y2
          have q0 := fun (y0 y1 y2 : Value) => (q y0 y1 y2).1
          have q1 := fun (y0 y1 y2 : Value) => (q y0 y1 y2).2.1
          have q2 := fun (y0 y1 y2 : Value) => (q y0 y1 y2).2.2
          clear q
          (try clear hb hc1 hf1)
          go_light
          simp [results, Tryz.results6, go_sem, wrap_u64, q0, q1, q2]
          (try clear q0 q1 q2)
          all_goals grind [])
       | (go_light
          simp [results, Tryz.results6, go_sem, wrap_u64]
          all_goals grind []))
theorem cv_tm_L (k kd b : Int) (t : ByteArray) (hk : k = 5) (hd : 14 ≤ kd ∧ kd ≤ 17) (hne : ¬ k = kd) (hm : mayB kd b t = true) (hs : t.size ≤ 140737488351232) (h0 : 0 ≤ b) (h1 : b < 18446744073709551616) (w : World) (hL : Laid w) : Calls Tryz.prog 6 #[.int .u8 k, .agg #[.int .u8 kd, .int .u64 b, .string t]] w fun e w' => e = .returned (.tuple #[.agg #[.int .u8 (convV k kd b t).1, .int .u64 (convV k kd b t).2.1, .string (convV k kd b t).2.2.1], .int .i64 (convV k kd b t).2.2.2]) ∧ Below w.heap.size w w' := by
  have E := Lib.hid (show convV k kd b t = (5, b, ⟨#[]⟩, 0) by
    unfold convV; rw [if_neg (by rw [hm]; simp; unfold elB; simp; omega), if_neg hne, if_neg (by omega), if_neg (by omega), if_pos (by unfold timeB; simp; omega)]; unfold timV; rw [if_pos hk])
  have NM : ∀ W, Calls Tryz.prog 17 #[.agg #[.int .u8 kd, .int .u64 b, .string t]] W fun e w' => e = .returned (.bool true) ∧ Below W.heap.size W w' := fun W => by have := v_may kd b t h0 h1 W; rwa [hm] at this
  have f_k_el : elB k = true := by unfold elB; simp; omega
  have n_k_kd : (k == kd) = false := by simpa using hne
  have k5 : (k == 5) = true := by simpa using hk
  have f_k_wh : whB k = true := by unfold whB; simp; omega
  have f_k_row : rowB k = false := by unfold rowB; simp; omega
  have f_k_time : timeB k = false := by unfold timeB; simp; omega
  have f_kd_wh : whB kd = false := by unfold whB; simp; omega
  have f_kd_row : rowB kd = false := by unfold rowB; simp; omega
  have f_kd_time : timeB kd = true := by unfold timeB; simp; omega
  have n_kd_1 : (kd == 1) = false := by simp; omega
  have n_kd_18 : (kd == 18) = false := by simp; omega
  have n_kd_5 : (kd == 5) = false := by simp; omega
  have n_kd_19 : (kd == 19) = false := by simp; omega
  have hk := Lib.hid hk; clear hm hs h0 h1 hL hd hne
  go_enter Tryz.func6, Tryz.ntmps6
  go_wp2_with (first | (go_at_call 17; ((with_reducible refine (NM _).mono ?_); rintro e w1 ⟨rfl, hb2⟩; (first | (have hb1 := b_go hb hb2; clear hb hb2 hc1 hf1; have hb := hb1; clear hb1) | (have hb1 := b_go (b_al hb _) hb2; clear hb hb2 hc1 hf1; have hb := hb1; clear hb1) | (have hb := hb2; clear hb2)); obtain ⟨hc1, hf1⟩ := bcell hb)) | (go_at_call 15; ((with_reducible refine (v_whole _ _).mono ?_); rintro e w' ⟨rfl, rfl⟩)) | (go_at_call 16; ((with_reducible refine (v_row _ _).mono ?_); rintro e w' ⟨rfl, rfl⟩)) | (go_at_call 18; ((with_reducible refine (v_known _ _).mono ?_); rintro e w' ⟨rfl, rfl⟩)) | (go_at_call 22; ((with_reducible refine (v_signed _ _).mono ?_); rintro e w' ⟨rfl, rfl⟩)) | (go_at_call 26; ((with_reducible refine (v_timed _ _).mono ?_); rintro e w' ⟨rfl, rfl⟩)))
  all_goals
    have E0 := E.out
    have hk := hk.out
    clear E NM
    (refine bodyPost_ret (v := .tuple #[.agg #[.int .u8 (convV k kd b t).1, .int .u64 (convV k kd b t).2.1, .string (convV k kd b t).2.2.1], .int .i64 (convV k kd b t).2.2.2]) ?hr rfl ⟨rfl, ?hB⟩
     case hB => repeat (first | exact Below.refl _ _ | apply b_al | (refine b_st ?_ ?hg _; case hg => omega) | (refine b_go ?_ (by assumption)))
     case hr =>
      first
       | (have q := fun (y0 y1 y2 : Value) => set3 (w1 := w1) (g := w.heap.size + 1) (by repeat (first | (refine k_new ?_; simp; done) | apply k_al | (refine k_go ?_ (by assumption)))) y0 y1 y2
          have q0 := fun (y0 y1 y2 : Value) => (q y0 y1 y2).1
          have q1 := fun (y0 y1 y2 : Value) => (q y0 y1 y2).2.1
          have q2 := fun (y0 y1 y2 : Value) => (q y0 y1 y2).2.2
          clear q
          (try clear hb hc1 hf1)
          go_light
          simp [results, Tryz.results6, go_sem, wrap_u64, q0, q1, q2]
          (try clear q0 q1 q2)
          all_goals grind [])
       | (go_light
          simp [results, Tryz.results6, go_sem, wrap_u64]
          all_goals grind []))
theorem cv_tm_D (k kd b : Int) (t : ByteArray) (hk : k = 15) (hd : kd = 17) (hne : ¬ k = kd) (hm : mayB kd b t = true) (hs : t.size ≤ 140737488351232) (h0 : 0 ≤ b) (h1 : b < 18446744073709551616) (w : World) (hL : Laid w) : Calls Tryz.prog 6 #[.int .u8 k, .agg #[.int .u8 kd, .int .u64 b, .string t]] w fun e w' => e = .returned (.tuple #[.agg #[.int .u8 (convV k kd b t).1, .int .u64 (convV k kd b t).2.1, .string (convV k kd b t).2.2.1], .int .i64 (convV k kd b t).2.2.2]) ∧ Below w.heap.size w w' := by
  have E := Lib.hid (show convV k kd b t = (15, b - b % 86400000000000, ⟨#[]⟩, 0) by
    unfold convV; rw [if_neg (by rw [hm]; simp; unfold elB; simp; omega), if_neg hne, if_neg (by omega), if_neg (by omega), if_pos (by unfold timeB; simp; omega)]; unfold timV; rw [if_neg (by omega), if_pos (by omega)])
  have NM : ∀ W, Calls Tryz.prog 17 #[.agg #[.int .u8 kd, .int .u64 b, .string t]] W fun e w' => e = .returned (.bool true) ∧ Below W.heap.size W w' := fun W => by have := v_may kd b t h0 h1 W; rwa [hm] at this
  have f_k_el : elB k = true := by unfold elB; simp; omega
  have n_k_kd : (k == kd) = false := by simpa using hne
  have n_k_5 : (k == 5) = false := by simp; omega
  have k15 : (k == 15) = true := by simpa using hk
  have k17 : (kd == 17) = true := by simpa using hd
  have f_k_wh : whB k = false := by unfold whB; simp; omega
  have f_k_row : rowB k = false := by unfold rowB; simp; omega
  have f_k_time : timeB k = true := by unfold timeB; simp; omega
  have f_kd_wh : whB kd = false := by unfold whB; simp; omega
  have f_kd_row : rowB kd = false := by unfold rowB; simp; omega
  have f_kd_time : timeB kd = true := by unfold timeB; simp; omega
  have n_kd_1 : (kd == 1) = false := by simp; omega
  have n_kd_18 : (kd == 18) = false := by simp; omega
  have n_kd_5 : (kd == 5) = false := by simp; omega
  have n_kd_19 : (kd == 19) = false := by simp; omega
  have e9 : IntKind.u64.wrap (b - b.tmod 86400000000000) = b - b % 86400000000000 := by rw [wrap_u64, Int.tmod_eq_emod_of_nonneg h0]; omega
  have E9 := Lib.hid e9
  clear e9
  have hk := Lib.hid hk; clear hm hs h0 h1 hL hd hne
  go_enter Tryz.func6, Tryz.ntmps6
  go_wp2_with (first | (go_at_call 17; ((with_reducible refine (NM _).mono ?_); rintro e w1 ⟨rfl, hb2⟩; (first | (have hb1 := b_go hb hb2; clear hb hb2 hc1 hf1; have hb := hb1; clear hb1) | (have hb1 := b_go (b_al hb _) hb2; clear hb hb2 hc1 hf1; have hb := hb1; clear hb1) | (have hb := hb2; clear hb2)); obtain ⟨hc1, hf1⟩ := bcell hb)) | (go_at_call 15; ((with_reducible refine (v_whole _ _).mono ?_); rintro e w' ⟨rfl, rfl⟩)) | (go_at_call 16; ((with_reducible refine (v_row _ _).mono ?_); rintro e w' ⟨rfl, rfl⟩)) | (go_at_call 18; ((with_reducible refine (v_known _ _).mono ?_); rintro e w' ⟨rfl, rfl⟩)) | (go_at_call 22; ((with_reducible refine (v_signed _ _).mono ?_); rintro e w' ⟨rfl, rfl⟩)) | (go_at_call 26; ((with_reducible refine (v_timed _ _).mono ?_); rintro e w' ⟨rfl, rfl⟩)))
  all_goals
    have E0 := E.out
    have hk := hk.out; have e9 := E9.out; clear E9
    clear E NM
    (refine bodyPost_ret (v := .tuple #[.agg #[.int .u8 (convV k kd b t).1, .int .u64 (convV k kd b t).2.1, .string (convV k kd b t).2.2.1], .int .i64 (convV k kd b t).2.2.2]) ?hr rfl ⟨rfl, ?hB⟩
     case hB => repeat (first | exact Below.refl _ _ | apply b_al | (refine b_st ?_ ?hg _; case hg => omega) | (refine b_go ?_ (by assumption)))
     case hr =>
      first
       | (have q := fun (y0 y1 y2 : Value) => set3 (w1 := w1) (g := w.heap.size + 1) (by repeat (first | (refine k_new ?_; simp; done) | apply k_al | (refine k_go ?_ (by assumption)))) y0 y1 y2
          have q0 := fun (y0 y1 y2 : Value) => (q y0 y1 y2).1
          have q1 := fun (y0 y1 y2 : Value) => (q y0 y1 y2).2.1
          have q2 := fun (y0 y1 y2 : Value) => (q y0 y1 y2).2.2
          clear q
          (try clear hb hc1 hf1)
          go_light
          simp [results, Tryz.results6, go_sem, wrap_u64, q0, q1, q2]
          (try clear q0 q1 q2)
          all_goals grind [wrap_u64])
       | (go_light
          simp [results, Tryz.results6, go_sem, wrap_u64]
          all_goals grind [wrap_u64]))
theorem cv_tm_T (k kd b : Int) (t : ByteArray) (hk : k = 16) (hd : kd = 17) (hne : ¬ k = kd) (hm : mayB kd b t = true) (hs : t.size ≤ 140737488351232) (h0 : 0 ≤ b) (h1 : b < 18446744073709551616) (w : World) (hL : Laid w) : Calls Tryz.prog 6 #[.int .u8 k, .agg #[.int .u8 kd, .int .u64 b, .string t]] w fun e w' => e = .returned (.tuple #[.agg #[.int .u8 (convV k kd b t).1, .int .u64 (convV k kd b t).2.1, .string (convV k kd b t).2.2.1], .int .i64 (convV k kd b t).2.2.2]) ∧ Below w.heap.size w w' := by
  have E := Lib.hid (show convV k kd b t = (16, b % 86400000000000, ⟨#[]⟩, 0) by
    unfold convV; rw [if_neg (by rw [hm]; simp; unfold elB; simp; omega), if_neg hne, if_neg (by omega), if_neg (by omega), if_pos (by unfold timeB; simp; omega)]; unfold timV; rw [if_neg (by omega), if_neg (by omega), if_pos (by omega)])
  have NM : ∀ W, Calls Tryz.prog 17 #[.agg #[.int .u8 kd, .int .u64 b, .string t]] W fun e w' => e = .returned (.bool true) ∧ Below W.heap.size W w' := fun W => by have := v_may kd b t h0 h1 W; rwa [hm] at this
  have f_k_el : elB k = true := by unfold elB; simp; omega
  have n_k_kd : (k == kd) = false := by simpa using hne
  have n_k_5 : (k == 5) = false := by simp; omega
  have n_k_15 : (k == 15) = false := by simp; omega
  have k16 : (k == 16) = true := by simpa using hk
  have k17 : (kd == 17) = true := by simpa using hd
  have f_k_wh : whB k = false := by unfold whB; simp; omega
  have f_k_row : rowB k = false := by unfold rowB; simp; omega
  have f_k_time : timeB k = true := by unfold timeB; simp; omega
  have f_kd_wh : whB kd = false := by unfold whB; simp; omega
  have f_kd_row : rowB kd = false := by unfold rowB; simp; omega
  have f_kd_time : timeB kd = true := by unfold timeB; simp; omega
  have n_kd_1 : (kd == 1) = false := by simp; omega
  have n_kd_18 : (kd == 18) = false := by simp; omega
  have n_kd_5 : (kd == 5) = false := by simp; omega
  have n_kd_19 : (kd == 19) = false := by simp; omega
  have e9 : b.tmod 86400000000000 = b % 86400000000000 := Int.tmod_eq_emod_of_nonneg h0
  have E9 := Lib.hid e9
  clear e9
  have hk := Lib.hid hk; clear hm hs h0 h1 hL hd hne
  go_enter Tryz.func6, Tryz.ntmps6
  go_wp2_with (first | (go_at_call 17; ((with_reducible refine (NM _).mono ?_); rintro e w1 ⟨rfl, hb2⟩; (first | (have hb1 := b_go hb hb2; clear hb hb2 hc1 hf1; have hb := hb1; clear hb1) | (have hb1 := b_go (b_al hb _) hb2; clear hb hb2 hc1 hf1; have hb := hb1; clear hb1) | (have hb := hb2; clear hb2)); obtain ⟨hc1, hf1⟩ := bcell hb)) | (go_at_call 15; ((with_reducible refine (v_whole _ _).mono ?_); rintro e w' ⟨rfl, rfl⟩)) | (go_at_call 16; ((with_reducible refine (v_row _ _).mono ?_); rintro e w' ⟨rfl, rfl⟩)) | (go_at_call 18; ((with_reducible refine (v_known _ _).mono ?_); rintro e w' ⟨rfl, rfl⟩)) | (go_at_call 22; ((with_reducible refine (v_signed _ _).mono ?_); rintro e w' ⟨rfl, rfl⟩)) | (go_at_call 26; ((with_reducible refine (v_timed _ _).mono ?_); rintro e w' ⟨rfl, rfl⟩)))
  all_goals
    have E0 := E.out
    have hk := hk.out; have e9 := E9.out; clear E9
    clear E NM
    (refine bodyPost_ret (v := .tuple #[.agg #[.int .u8 (convV k kd b t).1, .int .u64 (convV k kd b t).2.1, .string (convV k kd b t).2.2.1], .int .i64 (convV k kd b t).2.2.2]) ?hr rfl ⟨rfl, ?hB⟩
     case hB => repeat (first | exact Below.refl _ _ | apply b_al | (refine b_st ?_ ?hg _; case hg => omega) | (refine b_go ?_ (by assumption)))
     case hr =>
      first
       | (have q := fun (y0 y1 y2 : Value) => set3 (w1 := w1) (g := w.heap.size + 1) (by repeat (first | (refine k_new ?_; simp; done) | apply k_al | (refine k_go ?_ (by assumption)))) y0 y1 y2
          have q0 := fun (y0 y1 y2 : Value) => (q y0 y1 y2).1
          have q1 := fun (y0 y1 y2 : Value) => (q y0 y1 y2).2.1
          have q2 := fun (y0 y1 y2 : Value) => (q y0 y1 y2).2.2
          clear q
          (try clear hb hc1 hf1)
          go_light
          simp [results, Tryz.results6, go_sem, wrap_u64, q0, q1, q2]
          (try clear q0 q1 q2)
          all_goals grind [])
       | (go_light
          simp [results, Tryz.results6, go_sem, wrap_u64]
          all_goals grind []))
theorem cv_tm_no_a (k kd b : Int) (t : ByteArray) (hk : 1 ≤ k ∧ k ≤ 4) (hd : 14 ≤ kd ∧ kd ≤ 17) (hne : ¬ k = kd) (hm : mayB kd b t = true) (hs : t.size ≤ 140737488351232) (h0 : 0 ≤ b) (h1 : b < 18446744073709551616) (w : World) (hL : Laid w) : Calls Tryz.prog 6 #[.int .u8 k, .agg #[.int .u8 kd, .int .u64 b, .string t]] w fun e w' => e = .returned (.tuple #[.agg #[.int .u8 (convV k kd b t).1, .int .u64 (convV k kd b t).2.1, .string (convV k kd b t).2.2.1], .int .i64 (convV k kd b t).2.2.2]) ∧ Below w.heap.size w w' := by
  have E := Lib.hid (show convV k kd b t = (0, 0, ⟨#[]⟩, 8) by
    unfold convV; rw [if_neg (by rw [hm]; simp; unfold elB; simp; omega), if_neg hne, if_neg (by omega), if_neg (by omega), if_pos (by unfold timeB; simp; omega)]; unfold timV; rw [if_neg (by omega), if_neg (by omega), if_neg (by omega)])
  have NM : ∀ W, Calls Tryz.prog 17 #[.agg #[.int .u8 kd, .int .u64 b, .string t]] W fun e w' => e = .returned (.bool true) ∧ Below W.heap.size W w' := fun W => by have := v_may kd b t h0 h1 W; rwa [hm] at this
  have f_k_el : elB k = true := by unfold elB; simp; omega
  have n_k_kd : (k == kd) = false := by simpa using hne
  have n_k_5 : (k == 5) = false := by simp; omega
  have n_k_15 : (k == 15) = false := by simp; omega
  have n_k_16 : (k == 16) = false := by simp; omega
  have f_k_row : rowB k = false := by unfold rowB; simp; omega
  have f_k_time : timeB k = false := by unfold timeB; simp; omega
  have f_kd_wh : whB kd = false := by unfold whB; simp; omega
  have f_kd_row : rowB kd = false := by unfold rowB; simp; omega
  have f_kd_time : timeB kd = true := by unfold timeB; simp; omega
  have n_kd_1 : (kd == 1) = false := by simp; omega
  have n_kd_18 : (kd == 18) = false := by simp; omega
  have n_kd_5 : (kd == 5) = false := by simp; omega
  have n_kd_19 : (kd == 19) = false := by simp; omega
  clear hm hs h0 h1 hL hk hd hne
  go_enter Tryz.func6, Tryz.ntmps6
  go_wp2_with (first | (go_at_call 17; ((with_reducible refine (NM _).mono ?_); rintro e w1 ⟨rfl, hb2⟩; (first | (have hb1 := b_go hb hb2; clear hb hb2 hc1 hf1; have hb := hb1; clear hb1) | (have hb1 := b_go (b_al hb _) hb2; clear hb hb2 hc1 hf1; have hb := hb1; clear hb1) | (have hb := hb2; clear hb2)); obtain ⟨hc1, hf1⟩ := bcell hb)) | (go_at_call 15; ((with_reducible refine (v_whole _ _).mono ?_); rintro e w' ⟨rfl, rfl⟩)) | (go_at_call 16; ((with_reducible refine (v_row _ _).mono ?_); rintro e w' ⟨rfl, rfl⟩)) | (go_at_call 18; ((with_reducible refine (v_known _ _).mono ?_); rintro e w' ⟨rfl, rfl⟩)) | (go_at_call 22; ((with_reducible refine (v_signed _ _).mono ?_); rintro e w' ⟨rfl, rfl⟩)) | (go_at_call 26; ((with_reducible refine (v_timed _ _).mono ?_); rintro e w' ⟨rfl, rfl⟩)))
  all_goals
    have E0 := E.out
    clear E NM
    (refine bodyPost_ret (v := .tuple #[.agg #[.int .u8 (convV k kd b t).1, .int .u64 (convV k kd b t).2.1, .string (convV k kd b t).2.2.1], .int .i64 (convV k kd b t).2.2.2]) ?hr rfl ⟨rfl, ?hB⟩
     case hB => repeat (first | exact Below.refl _ _ | apply b_al | (refine b_st ?_ ?hg _; case hg => omega) | (refine b_go ?_ (by assumption)))
     case hr =>
      first
       | (have q := fun (y0 y1 y2 : Value) => set3 (w1 := w1) (g := w.heap.size + 1) (by repeat (first | (refine k_new ?_; simp; done) | apply k_al | (refine k_go ?_ (by assumption)))) y0 y1 y2
          have q0 := fun (y0 y1 y2 : Value) => (q y0 y1 y2).1
          have q1 := fun (y0 y1 y2 : Value) => (q y0 y1 y2).2.1
          have q2 := fun (y0 y1 y2 : Value) => (q y0 y1 y2).2.2
          clear q
          (try clear hb hc1 hf1)
          go_light
          simp [results, Tryz.results6, go_sem, wrap_u64, q0, q1, q2]
          (try clear q0 q1 q2)
          all_goals grind [])
       | (go_light
          simp [results, Tryz.results6, go_sem, wrap_u64]
          all_goals grind []))
theorem cv_tm_no_b (k kd b : Int) (t : ByteArray) (hk : 6 ≤ k ∧ k ≤ 13) (hd : 14 ≤ kd ∧ kd ≤ 17) (hne : ¬ k = kd) (hm : mayB kd b t = true) (hs : t.size ≤ 140737488351232) (h0 : 0 ≤ b) (h1 : b < 18446744073709551616) (w : World) (hL : Laid w) : Calls Tryz.prog 6 #[.int .u8 k, .agg #[.int .u8 kd, .int .u64 b, .string t]] w fun e w' => e = .returned (.tuple #[.agg #[.int .u8 (convV k kd b t).1, .int .u64 (convV k kd b t).2.1, .string (convV k kd b t).2.2.1], .int .i64 (convV k kd b t).2.2.2]) ∧ Below w.heap.size w w' := by
  have E := Lib.hid (show convV k kd b t = (0, 0, ⟨#[]⟩, 8) by
    unfold convV; rw [if_neg (by rw [hm]; simp; unfold elB; simp; omega), if_neg hne, if_neg (by omega), if_neg (by omega), if_pos (by unfold timeB; simp; omega)]; unfold timV; rw [if_neg (by omega), if_neg (by omega), if_neg (by omega)])
  have NM : ∀ W, Calls Tryz.prog 17 #[.agg #[.int .u8 kd, .int .u64 b, .string t]] W fun e w' => e = .returned (.bool true) ∧ Below W.heap.size W w' := fun W => by have := v_may kd b t h0 h1 W; rwa [hm] at this
  have f_k_el : elB k = true := by unfold elB; simp; omega
  have n_k_kd : (k == kd) = false := by simpa using hne
  have n_k_5 : (k == 5) = false := by simp; omega
  have n_k_15 : (k == 15) = false := by simp; omega
  have n_k_16 : (k == 16) = false := by simp; omega
  have f_k_time : timeB k = false := by unfold timeB; simp; omega
  have f_kd_wh : whB kd = false := by unfold whB; simp; omega
  have f_kd_row : rowB kd = false := by unfold rowB; simp; omega
  have f_kd_time : timeB kd = true := by unfold timeB; simp; omega
  have n_kd_1 : (kd == 1) = false := by simp; omega
  have n_kd_18 : (kd == 18) = false := by simp; omega
  have n_kd_5 : (kd == 5) = false := by simp; omega
  have n_kd_19 : (kd == 19) = false := by simp; omega
  clear hm hs h0 h1 hL hk hd hne
  go_enter Tryz.func6, Tryz.ntmps6
  go_wp2_with (first | (go_at_call 17; ((with_reducible refine (NM _).mono ?_); rintro e w1 ⟨rfl, hb2⟩; (first | (have hb1 := b_go hb hb2; clear hb hb2 hc1 hf1; have hb := hb1; clear hb1) | (have hb1 := b_go (b_al hb _) hb2; clear hb hb2 hc1 hf1; have hb := hb1; clear hb1) | (have hb := hb2; clear hb2)); obtain ⟨hc1, hf1⟩ := bcell hb)) | (go_at_call 15; ((with_reducible refine (v_whole _ _).mono ?_); rintro e w' ⟨rfl, rfl⟩)) | (go_at_call 16; ((with_reducible refine (v_row _ _).mono ?_); rintro e w' ⟨rfl, rfl⟩)) | (go_at_call 18; ((with_reducible refine (v_known _ _).mono ?_); rintro e w' ⟨rfl, rfl⟩)) | (go_at_call 22; ((with_reducible refine (v_signed _ _).mono ?_); rintro e w' ⟨rfl, rfl⟩)) | (go_at_call 26; ((with_reducible refine (v_timed _ _).mono ?_); rintro e w' ⟨rfl, rfl⟩)))
  all_goals
    have E0 := E.out
    clear E NM
    (refine bodyPost_ret (v := .tuple #[.agg #[.int .u8 (convV k kd b t).1, .int .u64 (convV k kd b t).2.1, .string (convV k kd b t).2.2.1], .int .i64 (convV k kd b t).2.2.2]) ?hr rfl ⟨rfl, ?hB⟩
     case hB => repeat (first | exact Below.refl _ _ | apply b_al | (refine b_st ?_ ?hg _; case hg => omega) | (refine b_go ?_ (by assumption)))
     case hr =>
      first
       | (have q := fun (y0 y1 y2 : Value) => set3 (w1 := w1) (g := w.heap.size + 1) (by repeat (first | (refine k_new ?_; simp; done) | apply k_al | (refine k_go ?_ (by assumption)))) y0 y1 y2
          have q0 := fun (y0 y1 y2 : Value) => (q y0 y1 y2).1
          have q1 := fun (y0 y1 y2 : Value) => (q y0 y1 y2).2.1
          have q2 := fun (y0 y1 y2 : Value) => (q y0 y1 y2).2.2
          clear q
          (try clear hb hc1 hf1)
          go_light
          simp [results, Tryz.results6, go_sem, wrap_u64, q0, q1, q2]
          (try clear q0 q1 q2)
          all_goals grind [])
       | (go_light
          simp [results, Tryz.results6, go_sem, wrap_u64]
          all_goals grind []))
theorem cv_tm_no_c (k kd b : Int) (t : ByteArray) (hk : 18 ≤ k ∧ k ≤ 19) (hd : 14 ≤ kd ∧ kd ≤ 17) (hne : ¬ k = kd) (hm : mayB kd b t = true) (hs : t.size ≤ 140737488351232) (h0 : 0 ≤ b) (h1 : b < 18446744073709551616) (w : World) (hL : Laid w) : Calls Tryz.prog 6 #[.int .u8 k, .agg #[.int .u8 kd, .int .u64 b, .string t]] w fun e w' => e = .returned (.tuple #[.agg #[.int .u8 (convV k kd b t).1, .int .u64 (convV k kd b t).2.1, .string (convV k kd b t).2.2.1], .int .i64 (convV k kd b t).2.2.2]) ∧ Below w.heap.size w w' := by
  have E := Lib.hid (show convV k kd b t = (0, 0, ⟨#[]⟩, 8) by
    unfold convV; rw [if_neg (by rw [hm]; simp; unfold elB; simp; omega), if_neg hne, if_neg (by omega), if_neg (by omega), if_pos (by unfold timeB; simp; omega)]; unfold timV; rw [if_neg (by omega), if_neg (by omega), if_neg (by omega)])
  have NM : ∀ W, Calls Tryz.prog 17 #[.agg #[.int .u8 kd, .int .u64 b, .string t]] W fun e w' => e = .returned (.bool true) ∧ Below W.heap.size W w' := fun W => by have := v_may kd b t h0 h1 W; rwa [hm] at this
  have f_k_el : elB k = true := by unfold elB; simp; omega
  have n_k_kd : (k == kd) = false := by simpa using hne
  have n_k_5 : (k == 5) = false := by simp; omega
  have n_k_15 : (k == 15) = false := by simp; omega
  have n_k_16 : (k == 16) = false := by simp; omega
  have f_k_wh : whB k = false := by unfold whB; simp; omega
  have f_k_row : rowB k = false := by unfold rowB; simp; omega
  have f_k_time : timeB k = false := by unfold timeB; simp; omega
  have f_kd_wh : whB kd = false := by unfold whB; simp; omega
  have f_kd_row : rowB kd = false := by unfold rowB; simp; omega
  have f_kd_time : timeB kd = true := by unfold timeB; simp; omega
  have n_kd_1 : (kd == 1) = false := by simp; omega
  have n_kd_18 : (kd == 18) = false := by simp; omega
  have n_kd_5 : (kd == 5) = false := by simp; omega
  have n_kd_19 : (kd == 19) = false := by simp; omega
  clear hm hs h0 h1 hL hk hd hne
  go_enter Tryz.func6, Tryz.ntmps6
  go_wp2_with (first | (go_at_call 17; ((with_reducible refine (NM _).mono ?_); rintro e w1 ⟨rfl, hb2⟩; (first | (have hb1 := b_go hb hb2; clear hb hb2 hc1 hf1; have hb := hb1; clear hb1) | (have hb1 := b_go (b_al hb _) hb2; clear hb hb2 hc1 hf1; have hb := hb1; clear hb1) | (have hb := hb2; clear hb2)); obtain ⟨hc1, hf1⟩ := bcell hb)) | (go_at_call 15; ((with_reducible refine (v_whole _ _).mono ?_); rintro e w' ⟨rfl, rfl⟩)) | (go_at_call 16; ((with_reducible refine (v_row _ _).mono ?_); rintro e w' ⟨rfl, rfl⟩)) | (go_at_call 18; ((with_reducible refine (v_known _ _).mono ?_); rintro e w' ⟨rfl, rfl⟩)) | (go_at_call 22; ((with_reducible refine (v_signed _ _).mono ?_); rintro e w' ⟨rfl, rfl⟩)) | (go_at_call 26; ((with_reducible refine (v_timed _ _).mono ?_); rintro e w' ⟨rfl, rfl⟩)))
  all_goals
    have E0 := E.out
    clear E NM
    (refine bodyPost_ret (v := .tuple #[.agg #[.int .u8 (convV k kd b t).1, .int .u64 (convV k kd b t).2.1, .string (convV k kd b t).2.2.1], .int .i64 (convV k kd b t).2.2.2]) ?hr rfl ⟨rfl, ?hB⟩
     case hB => repeat (first | exact Below.refl _ _ | apply b_al | (refine b_st ?_ ?hg _; case hg => omega) | (refine b_go ?_ (by assumption)))
     case hr =>
      first
       | (have q := fun (y0 y1 y2 : Value) => set3 (w1 := w1) (g := w.heap.size + 1) (by repeat (first | (refine k_new ?_; simp; done) | apply k_al | (refine k_go ?_ (by assumption)))) y0 y1 y2
          have q0 := fun (y0 y1 y2 : Value) => (q y0 y1 y2).1
          have q1 := fun (y0 y1 y2 : Value) => (q y0 y1 y2).2.1
          have q2 := fun (y0 y1 y2 : Value) => (q y0 y1 y2).2.2
          clear q
          (try clear hb hc1 hf1)
          go_light
          simp [results, Tryz.results6, go_sem, wrap_u64, q0, q1, q2]
          (try clear q0 q1 q2)
          all_goals grind [])
       | (go_light
          simp [results, Tryz.results6, go_sem, wrap_u64]
          all_goals grind []))
theorem cv_tm_no_d (k kd b : Int) (t : ByteArray) (hk : 14 ≤ k ∧ k ≤ 17) (hd : 14 ≤ kd ∧ kd ≤ 16) (hne : ¬ k = kd) (hm : mayB kd b t = true) (hs : t.size ≤ 140737488351232) (h0 : 0 ≤ b) (h1 : b < 18446744073709551616) (w : World) (hL : Laid w) : Calls Tryz.prog 6 #[.int .u8 k, .agg #[.int .u8 kd, .int .u64 b, .string t]] w fun e w' => e = .returned (.tuple #[.agg #[.int .u8 (convV k kd b t).1, .int .u64 (convV k kd b t).2.1, .string (convV k kd b t).2.2.1], .int .i64 (convV k kd b t).2.2.2]) ∧ Below w.heap.size w w' := by
  have E := Lib.hid (show convV k kd b t = (0, 0, ⟨#[]⟩, 8) by
    unfold convV; rw [if_neg (by rw [hm]; simp; unfold elB; simp; omega), if_neg hne, if_neg (by omega), if_neg (by omega), if_pos (by unfold timeB; simp; omega)]; unfold timV; rw [if_neg (by omega), if_neg (by omega), if_neg (by omega)])
  have NM : ∀ W, Calls Tryz.prog 17 #[.agg #[.int .u8 kd, .int .u64 b, .string t]] W fun e w' => e = .returned (.bool true) ∧ Below W.heap.size W w' := fun W => by have := v_may kd b t h0 h1 W; rwa [hm] at this
  have f_k_el : elB k = true := by unfold elB; simp; omega
  have n_k_kd : (k == kd) = false := by simpa using hne
  have n_k_5 : (k == 5) = false := by simp; omega
  have n_k_19 : (k == 19) = false := by simp; omega
  have n_kd_17 : (kd == 17) = false := by simp; omega
  have f_k_wh : whB k = false := by unfold whB; simp; omega
  have f_k_row : rowB k = false := by unfold rowB; simp; omega
  have f_k_time : timeB k = true := by unfold timeB; simp; omega
  have f_kd_wh : whB kd = false := by unfold whB; simp; omega
  have f_kd_row : rowB kd = false := by unfold rowB; simp; omega
  have f_kd_time : timeB kd = true := by unfold timeB; simp; omega
  have n_kd_1 : (kd == 1) = false := by simp; omega
  have n_kd_18 : (kd == 18) = false := by simp; omega
  have n_kd_5 : (kd == 5) = false := by simp; omega
  have n_kd_19 : (kd == 19) = false := by simp; omega
  clear hm hs h0 h1 hL hk hd hne
  go_enter Tryz.func6, Tryz.ntmps6
  go_wp2_with (first | (go_at_call 17; ((with_reducible refine (NM _).mono ?_); rintro e w1 ⟨rfl, hb2⟩; (first | (have hb1 := b_go hb hb2; clear hb hb2 hc1 hf1; have hb := hb1; clear hb1) | (have hb1 := b_go (b_al hb _) hb2; clear hb hb2 hc1 hf1; have hb := hb1; clear hb1) | (have hb := hb2; clear hb2)); obtain ⟨hc1, hf1⟩ := bcell hb)) | (go_at_call 15; ((with_reducible refine (v_whole _ _).mono ?_); rintro e w' ⟨rfl, rfl⟩)) | (go_at_call 16; ((with_reducible refine (v_row _ _).mono ?_); rintro e w' ⟨rfl, rfl⟩)) | (go_at_call 18; ((with_reducible refine (v_known _ _).mono ?_); rintro e w' ⟨rfl, rfl⟩)) | (go_at_call 22; ((with_reducible refine (v_signed _ _).mono ?_); rintro e w' ⟨rfl, rfl⟩)) | (go_at_call 26; ((with_reducible refine (v_timed _ _).mono ?_); rintro e w' ⟨rfl, rfl⟩)))
  all_goals
    have E0 := E.out
    clear E NM
    (refine bodyPost_ret (v := .tuple #[.agg #[.int .u8 (convV k kd b t).1, .int .u64 (convV k kd b t).2.1, .string (convV k kd b t).2.2.1], .int .i64 (convV k kd b t).2.2.2]) ?hr rfl ⟨rfl, ?hB⟩
     case hB => repeat (first | exact Below.refl _ _ | apply b_al | (refine b_st ?_ ?hg _; case hg => omega) | (refine b_go ?_ (by assumption)))
     case hr =>
      first
       | (have q := fun (y0 y1 y2 : Value) => set3 (w1 := w1) (g := w.heap.size + 1) (by repeat (first | (refine k_new ?_; simp; done) | apply k_al | (refine k_go ?_ (by assumption)))) y0 y1 y2
          have q0 := fun (y0 y1 y2 : Value) => (q y0 y1 y2).1
          have q1 := fun (y0 y1 y2 : Value) => (q y0 y1 y2).2.1
          have q2 := fun (y0 y1 y2 : Value) => (q y0 y1 y2).2.2
          clear q
          (try clear hb hc1 hf1)
          go_light
          simp [results, Tryz.results6, go_sem, wrap_u64, q0, q1, q2]
          (try clear q0 q1 q2)
          all_goals grind [])
       | (go_light
          simp [results, Tryz.results6, go_sem, wrap_u64]
          all_goals grind []))
theorem cv_tm_no_e (k kd b : Int) (t : ByteArray) (hk : k = 14) (hd : kd = 17) (hne : ¬ k = kd) (hm : mayB kd b t = true) (hs : t.size ≤ 140737488351232) (h0 : 0 ≤ b) (h1 : b < 18446744073709551616) (w : World) (hL : Laid w) : Calls Tryz.prog 6 #[.int .u8 k, .agg #[.int .u8 kd, .int .u64 b, .string t]] w fun e w' => e = .returned (.tuple #[.agg #[.int .u8 (convV k kd b t).1, .int .u64 (convV k kd b t).2.1, .string (convV k kd b t).2.2.1], .int .i64 (convV k kd b t).2.2.2]) ∧ Below w.heap.size w w' := by
  have E := Lib.hid (show convV k kd b t = (0, 0, ⟨#[]⟩, 8) by
    unfold convV; rw [if_neg (by rw [hm]; simp; unfold elB; simp; omega), if_neg hne, if_neg (by omega), if_neg (by omega), if_pos (by unfold timeB; simp; omega)]; unfold timV; rw [if_neg (by omega), if_neg (by omega), if_neg (by omega)])
  have NM : ∀ W, Calls Tryz.prog 17 #[.agg #[.int .u8 kd, .int .u64 b, .string t]] W fun e w' => e = .returned (.bool true) ∧ Below W.heap.size W w' := fun W => by have := v_may kd b t h0 h1 W; rwa [hm] at this
  have f_k_el : elB k = true := by unfold elB; simp; omega
  have n_k_kd : (k == kd) = false := by simpa using hne
  have n_k_5 : (k == 5) = false := by simp; omega
  have n_k_15 : (k == 15) = false := by simp; omega
  have n_k_16 : (k == 16) = false := by simp; omega
  have n_k_19 : (k == 19) = false := by simp; omega
  have f_k_wh : whB k = false := by unfold whB; simp; omega
  have f_k_row : rowB k = false := by unfold rowB; simp; omega
  have f_k_time : timeB k = true := by unfold timeB; simp; omega
  have f_kd_wh : whB kd = false := by unfold whB; simp; omega
  have f_kd_row : rowB kd = false := by unfold rowB; simp; omega
  have f_kd_time : timeB kd = true := by unfold timeB; simp; omega
  have n_kd_1 : (kd == 1) = false := by simp; omega
  have n_kd_18 : (kd == 18) = false := by simp; omega
  have n_kd_5 : (kd == 5) = false := by simp; omega
  have n_kd_19 : (kd == 19) = false := by simp; omega
  clear hm hs h0 h1 hL hk hd hne
  go_enter Tryz.func6, Tryz.ntmps6
  go_wp2_with (first | (go_at_call 17; ((with_reducible refine (NM _).mono ?_); rintro e w1 ⟨rfl, hb2⟩; (first | (have hb1 := b_go hb hb2; clear hb hb2 hc1 hf1; have hb := hb1; clear hb1) | (have hb1 := b_go (b_al hb _) hb2; clear hb hb2 hc1 hf1; have hb := hb1; clear hb1) | (have hb := hb2; clear hb2)); obtain ⟨hc1, hf1⟩ := bcell hb)) | (go_at_call 15; ((with_reducible refine (v_whole _ _).mono ?_); rintro e w' ⟨rfl, rfl⟩)) | (go_at_call 16; ((with_reducible refine (v_row _ _).mono ?_); rintro e w' ⟨rfl, rfl⟩)) | (go_at_call 18; ((with_reducible refine (v_known _ _).mono ?_); rintro e w' ⟨rfl, rfl⟩)) | (go_at_call 22; ((with_reducible refine (v_signed _ _).mono ?_); rintro e w' ⟨rfl, rfl⟩)) | (go_at_call 26; ((with_reducible refine (v_timed _ _).mono ?_); rintro e w' ⟨rfl, rfl⟩)))
  all_goals
    have E0 := E.out
    clear E NM
    (refine bodyPost_ret (v := .tuple #[.agg #[.int .u8 (convV k kd b t).1, .int .u64 (convV k kd b t).2.1, .string (convV k kd b t).2.2.1], .int .i64 (convV k kd b t).2.2.2]) ?hr rfl ⟨rfl, ?hB⟩
     case hB => repeat (first | exact Below.refl _ _ | apply b_al | (refine b_st ?_ ?hg _; case hg => omega) | (refine b_go ?_ (by assumption)))
     case hr =>
      first
       | (have q := fun (y0 y1 y2 : Value) => set3 (w1 := w1) (g := w.heap.size + 1) (by repeat (first | (refine k_new ?_; simp; done) | apply k_al | (refine k_go ?_ (by assumption)))) y0 y1 y2
          have q0 := fun (y0 y1 y2 : Value) => (q y0 y1 y2).1
          have q1 := fun (y0 y1 y2 : Value) => (q y0 y1 y2).2.1
          have q2 := fun (y0 y1 y2 : Value) => (q y0 y1 y2).2.2
          clear q
          (try clear hb hc1 hf1)
          go_light
          simp [results, Tryz.results6, go_sem, wrap_u64, q0, q1, q2]
          (try clear q0 q1 q2)
          all_goals grind [])
       | (go_light
          simp [results, Tryz.results6, go_sem, wrap_u64]
          all_goals grind []))
theorem cv_tx_B (k kd b : Int) (t : ByteArray) (hk : k = 1) (hd : kd = 19) (hne : ¬ k = kd) (hm : mayB kd b t = true) (hs : t.size ≤ 140737488351232) (h0 : 0 ≤ b) (h1 : b < 18446744073709551616) (w : World) (hL : Laid w) : Calls Tryz.prog 6 #[.int .u8 k, .agg #[.int .u8 kd, .int .u64 b, .string t]] w fun e w' => e = .returned (.tuple #[.agg #[.int .u8 (convV k kd b t).1, .int .u64 (convV k kd b t).2.1, .string (convV k kd b t).2.2.1], .int .i64 (convV k kd b t).2.2.2]) ∧ Below w.heap.size w w' := by
  have E := Lib.hid (show convV k kd b t = txtB t by
    unfold convV; rw [if_neg (by rw [hm]; simp; unfold elB; simp; omega), if_neg hne, if_neg (by omega), if_pos hd]; rw [if_pos hk])
  have NM : ∀ W, Calls Tryz.prog 17 #[.agg #[.int .u8 kd, .int .u64 b, .string t]] W fun e w' => e = .returned (.bool true) ∧ Below W.heap.size W w' := fun W => by have := v_may kd b t h0 h1 W; rwa [hm] at this
  have f_k_el : elB k = true := by unfold elB; simp; omega
  have n_k_kd : (k == kd) = false := by simpa using hne
  have n_k_5 : (k == 5) = false := by simp; omega
  have k1 : (k == 1) = true := by simpa using hk
  have f_k_wh : whB k = false := by unfold whB; simp; omega
  have f_k_row : rowB k = false := by unfold rowB; simp; omega
  have f_k_time : timeB k = false := by unfold timeB; simp; omega
  have f_kd_wh : whB kd = false := by unfold whB; simp; omega
  have f_kd_row : rowB kd = false := by unfold rowB; simp; omega
  have f_kd_time : timeB kd = false := by unfold timeB; simp; omega
  have n_kd_1 : (kd == 1) = false := by simp; omega
  have n_kd_18 : (kd == 18) = false := by simp; omega
  have n_kd_5 : (kd == 5) = false := by simp; omega
  have n_kd_17 : (kd == 17) = false := by simp; omega
  have k19 : (kd == 19) = true := by simpa using hd
  have N1 : ∀ W, Calls Tryz.prog 30 #[.int .u8 k, .string t] W fun e w' => e = .returned (.tuple #[.agg #[.int .u8 (txtB t).1, .int .u64 (txtB t).2.1, .string (txtB t).2.2.1], .int .i64 (txtB t).2.2.2]) ∧ Below W.heap.size W w' := fun W => by rw [hk]; exact v_fromTextB t W
  clear hm hs h0 h1 hL hk hd hne
  go_enter Tryz.func6, Tryz.ntmps6
  go_wp2_with (first | (go_at_call 17; ((with_reducible refine (NM _).mono ?_); rintro e w1 ⟨rfl, hb2⟩; (first | (have hb1 := b_go hb hb2; clear hb hb2 hc1 hf1; have hb := hb1; clear hb1) | (have hb1 := b_go (b_al hb _) hb2; clear hb hb2 hc1 hf1; have hb := hb1; clear hb1) | (have hb := hb2; clear hb2)); obtain ⟨hc1, hf1⟩ := bcell hb)) | (go_at_call 15; ((with_reducible refine (v_whole _ _).mono ?_); rintro e w' ⟨rfl, rfl⟩)) | (go_at_call 16; ((with_reducible refine (v_row _ _).mono ?_); rintro e w' ⟨rfl, rfl⟩)) | (go_at_call 18; ((with_reducible refine (v_known _ _).mono ?_); rintro e w' ⟨rfl, rfl⟩)) | (go_at_call 22; ((with_reducible refine (v_signed _ _).mono ?_); rintro e w' ⟨rfl, rfl⟩)) | (go_at_call 26; ((with_reducible refine (v_timed _ _).mono ?_); rintro e w' ⟨rfl, rfl⟩)) | (go_at_call 30; ((with_reducible refine (N1 _).mono ?_); rintro e w1 ⟨rfl, hb2⟩; (first | (have hb1 := b_go hb hb2; clear hb hb2 hc1 hf1; have hb := hb1; clear hb1) | (have hb1 := b_go (b_al hb _) hb2; clear hb hb2 hc1 hf1; have hb := hb1; clear hb1) | (have hb := hb2; clear hb2)); obtain ⟨hc1, hf1⟩ := bcell hb)))
  all_goals
    have E0 := E.out
    clear N1
    clear E NM
    (refine bodyPost_ret (v := .tuple #[.agg #[.int .u8 (convV k kd b t).1, .int .u64 (convV k kd b t).2.1, .string (convV k kd b t).2.2.1], .int .i64 (convV k kd b t).2.2.2]) ?hr rfl ⟨rfl, ?hB⟩
     case hB => repeat (first | exact Below.refl _ _ | apply b_al | (refine b_st ?_ ?hg _; case hg => omega) | (refine b_go ?_ (by assumption)))
     case hr =>
      first
       | (have q := fun (y0 y1 y2 : Value) => set3 (w1 := w1) (g := w.heap.size + 1) (by repeat (first | (refine k_new ?_; simp; done) | apply k_al | (refine k_go ?_ (by assumption)))) y0 y1 y2
          have q0 := fun (y0 y1 y2 : Value) => (q y0 y1 y2).1
          have q1 := fun (y0 y1 y2 : Value) => (q y0 y1 y2).2.1
          have q2 := fun (y0 y1 y2 : Value) => (q y0 y1 y2).2.2
          clear q
          (try clear hb hc1 hf1)
          go_light
          simp [results, Tryz.results6, go_sem, wrap_u64, q0, q1, q2]
          (try clear q0 q1 q2)
          all_goals grind [])
       | (go_light
          simp [results, Tryz.results6, go_sem, wrap_u64]
          all_goals grind []))
theorem cv_tx_W (k kd b : Int) (t : ByteArray) (hk : 2 ≤ k ∧ k ≤ 9) (hd : kd = 19) (hne : ¬ k = kd) (hm : mayB kd b t = true) (hs : t.size ≤ 140737488351232) (h0 : 0 ≤ b) (h1 : b < 18446744073709551616) (w : World) (hL : Laid w) : Calls Tryz.prog 6 #[.int .u8 k, .agg #[.int .u8 kd, .int .u64 b, .string t]] w fun e w' => e = .returned (.tuple #[.agg #[.int .u8 (convV k kd b t).1, .int .u64 (convV k kd b t).2.1, .string (convV k kd b t).2.2.1], .int .i64 (convV k kd b t).2.2.2]) ∧ Below w.heap.size w w' := by
  have E := Lib.hid (show convV k kd b t = txtV k t by
    unfold convV; rw [if_neg (by rw [hm]; simp; unfold elB; simp; omega), if_neg hne, if_neg (by omega), if_pos hd]; rw [if_neg (by omega), if_pos (by unfold whB; simp; omega)])
  have NM : ∀ W, Calls Tryz.prog 17 #[.agg #[.int .u8 kd, .int .u64 b, .string t]] W fun e w' => e = .returned (.bool true) ∧ Below W.heap.size W w' := fun W => by have := v_may kd b t h0 h1 W; rwa [hm] at this
  have f_k_el : elB k = true := by unfold elB; simp; omega
  have n_k_kd : (k == kd) = false := by simpa using hne
  have n_k_1 : (k == 1) = false := by simp; omega
  have f_k_wh : whB k = true := by unfold whB; simp; omega
  have f_k_row : rowB k = false := by unfold rowB; simp; omega
  have f_k_time : timeB k = false := by unfold timeB; simp; omega
  have f_kd_wh : whB kd = false := by unfold whB; simp; omega
  have f_kd_row : rowB kd = false := by unfold rowB; simp; omega
  have f_kd_time : timeB kd = false := by unfold timeB; simp; omega
  have n_kd_1 : (kd == 1) = false := by simp; omega
  have n_kd_18 : (kd == 18) = false := by simp; omega
  have n_kd_5 : (kd == 5) = false := by simp; omega
  have n_kd_17 : (kd == 17) = false := by simp; omega
  have k19 : (kd == 19) = true := by simpa using hd
  have N1 := fun W (hb : Below w.heap.size w W) => v_fromText k t hs W (hL.go hb) hk
  clear hm hs h0 h1 hL hk hd hne
  go_enter Tryz.func6, Tryz.ntmps6
  go_wp2_with (first | (go_at_call 17; ((with_reducible refine (NM _).mono ?_); rintro e w1 ⟨rfl, hb2⟩; (first | (have hb1 := b_go hb hb2; clear hb hb2 hc1 hf1; have hb := hb1; clear hb1) | (have hb1 := b_go (b_al hb _) hb2; clear hb hb2 hc1 hf1; have hb := hb1; clear hb1) | (have hb := hb2; clear hb2)); obtain ⟨hc1, hf1⟩ := bcell hb)) | (go_at_call 15; ((with_reducible refine (v_whole _ _).mono ?_); rintro e w' ⟨rfl, rfl⟩)) | (go_at_call 16; ((with_reducible refine (v_row _ _).mono ?_); rintro e w' ⟨rfl, rfl⟩)) | (go_at_call 18; ((with_reducible refine (v_known _ _).mono ?_); rintro e w' ⟨rfl, rfl⟩)) | (go_at_call 22; ((with_reducible refine (v_signed _ _).mono ?_); rintro e w' ⟨rfl, rfl⟩)) | (go_at_call 26; ((with_reducible refine (v_timed _ _).mono ?_); rintro e w' ⟨rfl, rfl⟩)) | (go_at_call 30; ((with_reducible refine (N1 _ ?hx).mono ?_); (case hx => (repeat (first | exact Below.refl _ _ | apply b_al | (refine b_st ?_ ?hg _; case hg => omega) | (refine b_go ?_ (by assumption))))); rintro e w1 ⟨rfl, hb2⟩; (first | (have hb1 := b_go hb hb2; clear hb hb2 hc1 hf1; have hb := hb1; clear hb1) | (have hb1 := b_go (b_al hb _) hb2; clear hb hb2 hc1 hf1; have hb := hb1; clear hb1) | (have hb := hb2; clear hb2)); obtain ⟨hc1, hf1⟩ := bcell hb)))
  all_goals
    have E0 := E.out
    clear N1
    clear E NM
    (refine bodyPost_ret (v := .tuple #[.agg #[.int .u8 (convV k kd b t).1, .int .u64 (convV k kd b t).2.1, .string (convV k kd b t).2.2.1], .int .i64 (convV k kd b t).2.2.2]) ?hr rfl ⟨rfl, ?hB⟩
     case hB => repeat (first | exact Below.refl _ _ | apply b_al | (refine b_st ?_ ?hg _; case hg => omega) | (refine b_go ?_ (by assumption)))
     case hr =>
      first
       | (have q := fun (y0 y1 y2 : Value) => set3 (w1 := w1) (g := w.heap.size + 1) (by repeat (first | (refine k_new ?_; simp; done) | apply k_al | (refine k_go ?_ (by assumption)))) y0 y1 y2
          have q0 := fun (y0 y1 y2 : Value) => (q y0 y1 y2).1
          have q1 := fun (y0 y1 y2 : Value) => (q y0 y1 y2).2.1
          have q2 := fun (y0 y1 y2 : Value) => (q y0 y1 y2).2.2
          clear q
          (try clear hb hc1 hf1)
          go_light
          simp [results, Tryz.results6, go_sem, wrap_u64, q0, q1, q2]
          (try clear q0 q1 q2)
          all_goals grind [])
       | (go_light
          simp [results, Tryz.results6, go_sem, wrap_u64]
          all_goals grind []))
theorem cv_tx_no_a (k kd b : Int) (t : ByteArray) (hk : 10 ≤ k ∧ k ≤ 13) (hd : kd = 19) (hne : ¬ k = kd) (hm : mayB kd b t = true) (hs : t.size ≤ 140737488351232) (h0 : 0 ≤ b) (h1 : b < 18446744073709551616) (w : World) (hL : Laid w) : Calls Tryz.prog 6 #[.int .u8 k, .agg #[.int .u8 kd, .int .u64 b, .string t]] w fun e w' => e = .returned (.tuple #[.agg #[.int .u8 (convV k kd b t).1, .int .u64 (convV k kd b t).2.1, .string (convV k kd b t).2.2.1], .int .i64 (convV k kd b t).2.2.2]) ∧ Below w.heap.size w w' := by
  have E := Lib.hid (show convV k kd b t = (0, 0, ⟨#[]⟩, 8) by
    unfold convV; rw [if_neg (by rw [hm]; simp; unfold elB; simp; omega), if_neg hne, if_neg (by omega), if_pos hd]; rw [if_neg (by omega), if_neg (by unfold whB; simp; omega)])
  have NM : ∀ W, Calls Tryz.prog 17 #[.agg #[.int .u8 kd, .int .u64 b, .string t]] W fun e w' => e = .returned (.bool true) ∧ Below W.heap.size W w' := fun W => by have := v_may kd b t h0 h1 W; rwa [hm] at this
  have f_k_el : elB k = true := by unfold elB; simp; omega
  have n_k_kd : (k == kd) = false := by simpa using hne
  have n_k_1 : (k == 1) = false := by simp; omega
  have n_k_5 : (k == 5) = false := by simp; omega
  have n_k_19 : (k == 19) = false := by simp; omega
  have f_k_wh : whB k = false := by unfold whB; simp; omega
  have f_k_row : rowB k = true := by unfold rowB; simp; omega
  have f_kd_wh : whB kd = false := by unfold whB; simp; omega
  have f_kd_row : rowB kd = false := by unfold rowB; simp; omega
  have f_kd_time : timeB kd = false := by unfold timeB; simp; omega
  have n_kd_1 : (kd == 1) = false := by simp; omega
  have n_kd_18 : (kd == 18) = false := by simp; omega
  have n_kd_5 : (kd == 5) = false := by simp; omega
  have n_kd_17 : (kd == 17) = false := by simp; omega
  have k19 : (kd == 19) = true := by simpa using hd
  clear hm hs h0 h1 hL hk hd hne
  go_enter Tryz.func6, Tryz.ntmps6
  go_wp2_with (first | (go_at_call 17; ((with_reducible refine (NM _).mono ?_); rintro e w1 ⟨rfl, hb2⟩; (first | (have hb1 := b_go hb hb2; clear hb hb2 hc1 hf1; have hb := hb1; clear hb1) | (have hb1 := b_go (b_al hb _) hb2; clear hb hb2 hc1 hf1; have hb := hb1; clear hb1) | (have hb := hb2; clear hb2)); obtain ⟨hc1, hf1⟩ := bcell hb)) | (go_at_call 15; ((with_reducible refine (v_whole _ _).mono ?_); rintro e w' ⟨rfl, rfl⟩)) | (go_at_call 16; ((with_reducible refine (v_row _ _).mono ?_); rintro e w' ⟨rfl, rfl⟩)) | (go_at_call 18; ((with_reducible refine (v_known _ _).mono ?_); rintro e w' ⟨rfl, rfl⟩)) | (go_at_call 22; ((with_reducible refine (v_signed _ _).mono ?_); rintro e w' ⟨rfl, rfl⟩)) | (go_at_call 26; ((with_reducible refine (v_timed _ _).mono ?_); rintro e w' ⟨rfl, rfl⟩)))
  all_goals
    have E0 := E.out
    clear E NM
    (refine bodyPost_ret (v := .tuple #[.agg #[.int .u8 (convV k kd b t).1, .int .u64 (convV k kd b t).2.1, .string (convV k kd b t).2.2.1], .int .i64 (convV k kd b t).2.2.2]) ?hr rfl ⟨rfl, ?hB⟩
     case hB => repeat (first | exact Below.refl _ _ | apply b_al | (refine b_st ?_ ?hg _; case hg => omega) | (refine b_go ?_ (by assumption)))
     case hr =>
      first
       | (have q := fun (y0 y1 y2 : Value) => set3 (w1 := w1) (g := w.heap.size + 1) (by repeat (first | (refine k_new ?_; simp; done) | apply k_al | (refine k_go ?_ (by assumption)))) y0 y1 y2
          have q0 := fun (y0 y1 y2 : Value) => (q y0 y1 y2).1
          have q1 := fun (y0 y1 y2 : Value) => (q y0 y1 y2).2.1
          have q2 := fun (y0 y1 y2 : Value) => (q y0 y1 y2).2.2
          clear q
          (try clear hb hc1 hf1)
          go_light
          simp [results, Tryz.results6, go_sem, wrap_u64, q0, q1, q2]
          (try clear q0 q1 q2)
          all_goals grind [])
       | (go_light
          simp [results, Tryz.results6, go_sem, wrap_u64]
          all_goals grind []))
theorem cv_tx_no_b (k kd b : Int) (t : ByteArray) (hk : 14 ≤ k ∧ k ≤ 18) (hd : kd = 19) (hne : ¬ k = kd) (hm : mayB kd b t = true) (hs : t.size ≤ 140737488351232) (h0 : 0 ≤ b) (h1 : b < 18446744073709551616) (w : World) (hL : Laid w) : Calls Tryz.prog 6 #[.int .u8 k, .agg #[.int .u8 kd, .int .u64 b, .string t]] w fun e w' => e = .returned (.tuple #[.agg #[.int .u8 (convV k kd b t).1, .int .u64 (convV k kd b t).2.1, .string (convV k kd b t).2.2.1], .int .i64 (convV k kd b t).2.2.2]) ∧ Below w.heap.size w w' := by
  have E := Lib.hid (show convV k kd b t = (0, 0, ⟨#[]⟩, 8) by
    unfold convV; rw [if_neg (by rw [hm]; simp; unfold elB; simp; omega), if_neg hne, if_neg (by omega), if_pos hd]; rw [if_neg (by omega), if_neg (by unfold whB; simp; omega)])
  have NM : ∀ W, Calls Tryz.prog 17 #[.agg #[.int .u8 kd, .int .u64 b, .string t]] W fun e w' => e = .returned (.bool true) ∧ Below W.heap.size W w' := fun W => by have := v_may kd b t h0 h1 W; rwa [hm] at this
  have f_k_el : elB k = true := by unfold elB; simp; omega
  have n_k_kd : (k == kd) = false := by simpa using hne
  have n_k_1 : (k == 1) = false := by simp; omega
  have n_k_5 : (k == 5) = false := by simp; omega
  have n_k_19 : (k == 19) = false := by simp; omega
  have f_k_wh : whB k = false := by unfold whB; simp; omega
  have f_k_row : rowB k = false := by unfold rowB; simp; omega
  have f_kd_wh : whB kd = false := by unfold whB; simp; omega
  have f_kd_row : rowB kd = false := by unfold rowB; simp; omega
  have f_kd_time : timeB kd = false := by unfold timeB; simp; omega
  have n_kd_1 : (kd == 1) = false := by simp; omega
  have n_kd_18 : (kd == 18) = false := by simp; omega
  have n_kd_5 : (kd == 5) = false := by simp; omega
  have n_kd_17 : (kd == 17) = false := by simp; omega
  have k19 : (kd == 19) = true := by simpa using hd
  clear hm hs h0 h1 hL hk hd hne
  go_enter Tryz.func6, Tryz.ntmps6
  go_wp2_with (first | (go_at_call 17; ((with_reducible refine (NM _).mono ?_); rintro e w1 ⟨rfl, hb2⟩; (first | (have hb1 := b_go hb hb2; clear hb hb2 hc1 hf1; have hb := hb1; clear hb1) | (have hb1 := b_go (b_al hb _) hb2; clear hb hb2 hc1 hf1; have hb := hb1; clear hb1) | (have hb := hb2; clear hb2)); obtain ⟨hc1, hf1⟩ := bcell hb)) | (go_at_call 15; ((with_reducible refine (v_whole _ _).mono ?_); rintro e w' ⟨rfl, rfl⟩)) | (go_at_call 16; ((with_reducible refine (v_row _ _).mono ?_); rintro e w' ⟨rfl, rfl⟩)) | (go_at_call 18; ((with_reducible refine (v_known _ _).mono ?_); rintro e w' ⟨rfl, rfl⟩)) | (go_at_call 22; ((with_reducible refine (v_signed _ _).mono ?_); rintro e w' ⟨rfl, rfl⟩)) | (go_at_call 26; ((with_reducible refine (v_timed _ _).mono ?_); rintro e w' ⟨rfl, rfl⟩)))
  all_goals
    have E0 := E.out
    clear E NM
    (refine bodyPost_ret (v := .tuple #[.agg #[.int .u8 (convV k kd b t).1, .int .u64 (convV k kd b t).2.1, .string (convV k kd b t).2.2.1], .int .i64 (convV k kd b t).2.2.2]) ?hr rfl ⟨rfl, ?hB⟩
     case hB => repeat (first | exact Below.refl _ _ | apply b_al | (refine b_st ?_ ?hg _; case hg => omega) | (refine b_go ?_ (by assumption)))
     case hr =>
      first
       | (have q := fun (y0 y1 y2 : Value) => set3 (w1 := w1) (g := w.heap.size + 1) (by repeat (first | (refine k_new ?_; simp; done) | apply k_al | (refine k_go ?_ (by assumption)))) y0 y1 y2
          have q0 := fun (y0 y1 y2 : Value) => (q y0 y1 y2).1
          have q1 := fun (y0 y1 y2 : Value) => (q y0 y1 y2).2.1
          have q2 := fun (y0 y1 y2 : Value) => (q y0 y1 y2).2.2
          clear q
          (try clear hb hc1 hf1)
          go_light
          simp [results, Tryz.results6, go_sem, wrap_u64, q0, q1, q2]
          (try clear q0 q1 q2)
          all_goals grind [])
       | (go_light
          simp [results, Tryz.results6, go_sem, wrap_u64]
          all_goals grind []))
end Go.Proofs.YtlmmkaddlflepaaGreatDoor.H
