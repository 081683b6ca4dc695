/- Contracts of the functions of layer 1 that turn numbers into kinds, of the program and of the document. No condition but that bits are 64. -/
import Derived.Test.YtlmmkaddlflepaaGreatDoorHMake
namespace Go.Proofs.YtlmmkaddlflepaaGreatDoor.H
set_option linter.unusedVariables false
open Go.RowKit Go.Proofs.YtlmmkaddlflepaaGreatDoor.Plain
set_option maxHeartbeats 3200000
set_option maxRecDepth 100000
set_option linter.unusedSimpArgs false
attribute [local go_sem] ext_from ext_bits cell_isSome un_neg_float
/-- An integer's number: its sign, its size. -/
def szV (k b : Int) : Bool × Int := if unB k = true ∨ 0 ≤ wrap64 b then (false, b) else (true, (-b) % 18446744073709551616)
def nmV (k b : Int) : Bool × Int := if sgB k = true then szV k b else (false, b)
theorem v_sized (k b : Int) (t : ByteArray) (w : World) : Calls Tryz.prog 27 #[.agg #[.int .u8 k, .int .u64 b, .string t]] w fun e w' => e = .returned (.agg #[.bool (szV k b).1, .int .u64 (szV k b).2]) ∧ Below w.heap.size w w' := by
  rcases Bool.eq_false_or_eq_true (unB k) with c1 | c1 <;> rcases Int.lt_or_le (wrap64 b) 0 with c2 | c2
  all_goals
    have E := Lib.hid (show szV k b = _ from by first | (refine if_pos ?_; simp [c1, c2]; done) | (refine if_neg ?_; simp [c1]; omega))
    go_enter Tryz.func27, Tryz.ntmps27
    go_wp2_with (first | (go_at_call 37; refine (v_unsigned _ _).mono ?_; rintro e w' ⟨rfl, rfl⟩))
    exact bodyPost_ret (v := .agg #[.bool (szV k b).1, .int .u64 (szV k b).2]) (by simp [results, Tryz.results27, go_sem, E.out, wrap_u64]) rfl ⟨rfl, by repeat (first | exact Below.refl _ _ | apply b_al)⟩
theorem v_number (k b : Int) (t : ByteArray) (w : World) : Calls Tryz.prog 19 #[.agg #[.int .u8 k, .int .u64 b, .string t]] w fun e w' => e = .returned (.agg #[.bool (nmV k b).1, .int .u64 (nmV k b).2]) ∧ Below w.heap.size w w' := by
  rcases Bool.eq_false_or_eq_true (sgB k) with c1 | c1
  all_goals
    have E := Lib.hid (show nmV k b = _ from by first | exact if_pos c1 | (refine if_neg ?_; simp [c1]; done))
    go_enter Tryz.func19, Tryz.ntmps19
    go_wp2_with (first | (go_at_call 22; refine (v_signed _ _).mono ?_; rintro e w' ⟨rfl, rfl⟩) | (go_at_call 27; refine (v_sized _ _ _ _).mono ?_; rintro e w1 ⟨rfl, hb⟩; obtain ⟨hc1, hf1⟩ := bcell hb))
    have E0 := E.out
    clear E
    (refine bodyPost_ret (v := .agg #[.bool (nmV k b).1, .int .u64 (nmV k b).2]) ?hr rfl ⟨rfl, ?hB⟩
     case hB => repeat (first | exact Below.refl _ _ | apply b_al | (refine b_st ?_ ?hg _; case hg => omega) | (refine b_go ?_ (by assumption)))
     case hr =>
      first
       | (have q := fun (y0 y1 : Value) => set2 (w1 := w1) (g := w.heap.size + 1) (by repeat (first | (refine k_new ?_; simp; done) | apply k_al | (refine k_go ?_ (by assumption)))) y0 y1
          have q0 := fun (y0 y1 : Value) => (q y0 y1).1
          have q1 := fun (y0 y1 : Value) => (q y0 y1).2
          clear q
          (try clear hb hc1 hf1)
          go_light
          simp [results, Tryz.results19, go_sem, wrap_u64, q0, q1]
          (try clear q0 q1)
          all_goals grind [nmV, szV])
       | (go_light
          simp [results, Tryz.results19, go_sem, wrap_u64]
          all_goals grind [nmV, szV]))
/-- A number's value, as the document's 'sized' has it. -/
def rszV (k n : Int) (m : Bool) : Int × Int × ByteArray × Int :=
  if m = true ∧ 0 < n then (if sgB k = false ∨ 9223372036854775808 < n then (0, 0, ⟨#[]⟩, 7) else madeV k ((-n) % 18446744073709551616) 7)
  else (if sgB k = true ∧ 9223372036854775808 ≤ n then (0, 0, ⟨#[]⟩, 7) else madeV k n 7)
theorem sg3 (k : Int) : (sgB k = true ∧ signedB k = true ∧ ¬ k = 14) ∨ (sgB k = false ∧ k = 14 ∧ signedB k = true) ∨ (sgB k = false ∧ ¬ k = 14 ∧ signedB k = false) := by
  unfold sgB signedB
  simp only [decide_eq_true_eq, decide_eq_false_iff_not]
  omega
theorem v_of (m : Bool) (s k f : Int) (h0 : 0 ≤ s) (h1 : s < 18446744073709551616) (w : World) : Calls Tryz.prog 20 #[.agg #[.bool m, .int .u64 s], .int .u8 k, .int .i64 f] w fun e w' => e = .returned (.tuple #[.agg #[.int .u8 (ofV m s k f).1, .int .u64 (ofV m s k f).2.1, .string (ofV m s k f).2.2.1], .int .i64 (ofV m s k f).2.2.2]) ∧ Below w.heap.size w w' := by
  have N1 := fun W => v_fits k s h0 h1 W
  have N2 := fun W => v_fits k (IntKind.u64.wrap (-s)) (by rw [wrap_u64]; omega) (by rw [wrap_u64]; omega) W
  clear h1 h0
  by_cases c3 : k = 14
  · subst c3
    cases m
    all_goals
      go_enter Tryz.func20, Tryz.ntmps20
      go_wp2_with (first | (go_at_call 22; refine (v_signed _ _).mono ?_; rintro e w' ⟨rfl, rfl⟩) | (go_at_call 38; first | ((with_reducible refine (N1 _).mono ?_); rintro e w' ⟨rfl, rfl⟩) | ((with_reducible refine (N2 _).mono ?_); rintro e w' ⟨rfl, rfl⟩)))
    all_goals (clear N1 N2; refine bodyPost_ret (v := .tuple #[.agg #[.int .u8 (ofV _ s 14 f).1, .int .u64 (ofV _ s 14 f).2.1, .string (ofV _ s 14 f).2.2.1], .int .i64 (ofV _ s 14 f).2.2.2]) ?_ rfl ⟨rfl, by repeat (first | exact Below.refl _ _ | apply b_al)⟩; go_light)
    all_goals (simp [results, Tryz.results20, go_sem, wrap_u64] at *)
    all_goals grind [ofV, signedB, sgB]
  · cases m
    all_goals
      go_enter Tryz.func20, Tryz.ntmps20
      go_wp2_with (first | (go_at_call 22; refine (v_signed _ _).mono ?_; rintro e w' ⟨rfl, rfl⟩) | (go_at_call 38; first | ((with_reducible refine (N1 _).mono ?_); rintro e w' ⟨rfl, rfl⟩) | ((with_reducible refine (N2 _).mono ?_); rintro e w' ⟨rfl, rfl⟩)))
    all_goals (clear N1 N2; refine bodyPost_ret (v := .tuple #[.agg #[.int .u8 (ofV _ s k f).1, .int .u64 (ofV _ s k f).2.1, .string (ofV _ s k f).2.2.1], .int .i64 (ofV _ s k f).2.2.2]) ?_ rfl ⟨rfl, by repeat (first | exact Below.refl _ _ | apply b_al)⟩; go_light)
    all_goals (simp [results, Tryz.results20, go_sem, wrap_u64] at *)
    all_goals grind [ofV, signedB, sgB]
/-- A number's value, as the document's 'sized' has it, of an integer kind or a bit row. -/
theorem r_sized (k n : Int) (m : Bool) (hk : 2 ≤ k ∧ k ≤ 13) (h0 : 0 ≤ n) (h1 : n < 18446744073709551616) (w : World) : Calls Tryz.prog 60 #[.int .u8 k, .int .u64 n, .bool m] w fun e w' => e = .returned (.tuple #[.agg #[.int .u8 (ofV m n k 7).1, .int .u64 (ofV m n k 7).2.1, .string (ofV m n k 7).2.2.1], .int .i64 (ofV m n k 7).2.2.2]) ∧ Below w.heap.size w w' := by
  have N1 := fun W => r_made k n 7 h0 h1 W
  have N2 := fun W => r_made k (IntKind.u64.wrap (-n)) 7 (by rw [wrap_u64]; omega) (by rw [wrap_u64]; omega) W
  have HK := Lib.hid hk
  have H1 := Lib.hid h1
  clear h1 hk
  cases m
  all_goals
    go_enter Tryz.func60, Tryz.ntmps60
    go_wp2_with (first | (go_at_call 40; refine (r_signed _ _).mono ?_; rintro e w' ⟨rfl, rfl⟩) | (go_at_call 62; first | ((with_reducible refine (N1 _).mono ?_); rintro e w1 ⟨rfl, hb⟩; obtain ⟨hc1, hf1⟩ := bcell hb) | ((with_reducible refine (N2 _).mono ?_); rintro e w1 ⟨rfl, hb⟩; obtain ⟨hc1, hf1⟩ := bcell hb)))
  all_goals (clear N1 N2)
  all_goals have hk := HK.out
  all_goals have h1 := H1.out
  all_goals
    (refine bodyPost_ret (v := .tuple #[.agg #[.int .u8 (ofV _ n k 7).1, .int .u64 (ofV _ n k 7).2.1, .string (ofV _ n k 7).2.2.1], .int .i64 (ofV _ n k 7).2.2.2]) ?hr rfl ⟨rfl, ?hB⟩
     case hB => repeat (first | exact Below.refl _ _ | apply b_al | (refine b_st ?_ ?hg _; case hg => omega) | (refine b_go ?_ (by assumption)))
     case hr =>
      first
       | (have q := fun (y0 y1 y2 : Value) => set3 (w1 := w1) (g := w.heap.size) (by repeat (first | (refine k_new ?_; simp; done) | apply k_al | (refine k_go ?_ (by assumption)))) y0 y1 y2
          have q0 := fun (y0 y1 y2 : Value) => (q y0 y1 y2).1
          have q1 := fun (y0 y1 y2 : Value) => (q y0 y1 y2).2.1
          have q2 := fun (y0 y1 y2 : Value) => (q y0 y1 y2).2.2
          clear q
          (try clear hb hc1 hf1)
          go_light
          simp [results, Tryz.results60, go_sem, wrap_u64, q0, q1, q2]
          (try clear q0 q1 q2)
          all_goals grind [ofV, signedB, sgB, madeV, bitsB])
       | (go_light
          simp [results, Tryz.results60, go_sem, wrap_u64]
          all_goals grind [ofV, signedB, sgB, madeV, bitsB]))
end Go.Proofs.YtlmmkaddlflepaaGreatDoor.H
