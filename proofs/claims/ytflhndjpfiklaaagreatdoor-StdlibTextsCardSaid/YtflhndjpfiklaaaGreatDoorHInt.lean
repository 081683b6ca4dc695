/- Contracts of Int of both sides. No condition but that the number is of 64 bits. -/
import Derived.Test.YtflhndjpfiklaaaGreatDoorHMay
namespace Go.Proofs.YtflhndjpfiklaaaGreatDoor.H
set_option linter.unusedSimpArgs false
set_option linter.unusedVariables false
open Go.RowKit Go.Proofs.YtflhndjpfiklaaaGreatDoor.Plain
set_option maxHeartbeats 3200000
set_option maxRecDepth 100000
attribute [local go_sem] ext_from ext_bits cell_isSome un_neg_float
theorem int_u (n : Int) : IntKind.u64.wrap n = n % 18446744073709551616 := by simp [IntKind.wrap, IntKind.signed, IntKind.bits]
theorem wrap_mod (n : Int) (h0 : -9223372036854775808 ≤ n) (h1 : n ≤ 9223372036854775807) : wrap64 (n % 18446744073709551616) = n := by unfold wrap64; omega
theorem may_nil (k b : Int) : mayB k b ⟨#[]⟩ = if k = 19 then decide (b = 0) else bitsB k b := by
  unfold mayB bitsB
  have e : (ByteArray.mk #[]).toList = ([] : List UInt8) := by rw [ByteArray.toList_eq]
  have e2 : (((ByteArray.mk #[]).size : Int) ≤ 254) := by decide
  rw [if_pos e]
  split
  · split <;> simp_all
  · rfl
theorem width_zero (k : Int) : rWidthV k = 0 ↔ ¬ (2 ≤ k ∧ k ≤ 13) := by
  unfold rWidthV widthV
  repeat' split
  all_goals simp_all
theorem v_Int (k n : Int) (w : World) : Calls Tryz.prog 105 #[.int .u8 k, .int .i64 n] w fun e w' => e = .returned (.tuple #[.agg #[.int .u8 (intV k n).1, .int .u64 (intV k n).2.1, .string (intV k n).2.2.1], .int .i64 (intV k n).2.2.2]) ∧ Below w.heap.size w w' := by
  have N1 := fun k W => v_known k W
  have N2 := fun k W => v_unsigned k W
  have N3 := fun k W => v_row k W
  have N4 := fun k W => v_fits k (n % 18446744073709551616) (by omega) (by omega) W
  obtain ⟨r, hr⟩ : ∃ r, intV k n = r := ⟨_, rfl⟩
  rw [hr]
  have E := Lib.hid hr
  clear hr
  go_enter Tryz.func105, Tryz.ntmps105
  go_wp2_with (first | (go_at_call 69; with_reducible refine (N1 _ _).mono ?_; rintro e w' ⟨rfl, rfl⟩) | (go_at_call 131; with_reducible refine (N2 _ _).mono ?_; rintro e w' ⟨rfl, rfl⟩) | (go_at_call 73; with_reducible refine (N3 _ _).mono ?_; rintro e w' ⟨rfl, rfl⟩) | (go_at_call 70; (try rw [int_u]); with_reducible refine (N4 _ _).mono ?_; rintro e w' ⟨rfl, rfl⟩))
  all_goals
    clear N1 N2 N3 N4
    have hr := E.out
    clear E
    (refine bodyPost_ret (v := .tuple #[.agg #[.int .u8 (r).1, .int .u64 (r).2.1, .string (r).2.2.1], .int .i64 (r).2.2.2]) ?hr rfl ⟨rfl, ?hB⟩
     case hB => repeat (first | exact Below.refl _ _ | apply b_al | (refine b_st ?_ ?hg _; case hg => omega) | (refine b_go ?_ (by assumption)))
     case hr =>
      first
       | (have q := fun (y0 y1 y2 : Value) => set3 (w1 := w1) (g := w.heap.size) (by repeat (first | (refine k_new ?_; simp; done) | apply k_al | (refine k_go ?_ (by assumption)))) y0 y1 y2
          have q0 := fun (y0 y1 y2 : Value) => (q y0 y1 y2).1
          have q1 := fun (y0 y1 y2 : Value) => (q y0 y1 y2).2.1
          have q2 := fun (y0 y1 y2 : Value) => (q y0 y1 y2).2.2
          clear q
          (try clear hb hc1 hf1)
          go_light
          simp [results, Tryz.results105, go_sem, wrap_u64, q0, q1, q2]
          (try clear q0 q1 q2)
          all_goals grind [intV, elB, unB, rowB])
       | (go_light
          simp [results, Tryz.results105, go_sem, wrap_u64]
          all_goals grind [intV, elB, unB, rowB]))
theorem r_Int (k n : Int) (h0 : -9223372036854775808 ≤ n) (h1 : n ≤ 9223372036854775807) (w : World) : Calls Tryz.prog 7 #[.int .u8 k, .int .i64 n] w fun e w' => e = .returned (.tuple #[.agg #[.int .u8 (intV k n).1, .int .u64 (intV k n).2.1, .string (intV k n).2.2.1], .int .i64 (intV k n).2.2.2]) ∧ Below w.heap.size w w' := by
  have N1 := fun k W => r_width k W
  have N2 := fun k W => r_time k W
  have N3 := fun k W => r_signed k W
  have N4 := fun k W => r_May k (n % 18446744073709551616) ⟨#[]⟩ (by omega) (by omega) W
  have N5 := fun k (h : 0 ≤ n) W => r_May k n ⟨#[]⟩ h (by omega) W
  obtain ⟨r, hr⟩ : ∃ r, intV k n = r := ⟨_, rfl⟩
  rw [hr]
  have E := Lib.hid hr
  clear hr
  go_enter Tryz.func7, Tryz.ntmps7
  go_wp2_with (first | (go_at_call 15; with_reducible refine (N1 _ _).mono ?_; rintro e w' ⟨rfl, rfl⟩) | (go_at_call 16; with_reducible refine (N2 _ _).mono ?_; rintro e w' ⟨rfl, rfl⟩) | (go_at_call 17; with_reducible refine (N3 _ _).mono ?_; rintro e w' ⟨rfl, rfl⟩) | (go_at_call 9; (first | (rw [int_u]; with_reducible refine (N4 _ _).mono ?_) | with_reducible refine (N4 _ _).mono ?_ | with_reducible refine (N5 _ (by assumption) _).mono ?_); rintro e w1 ⟨rfl, hb2⟩; (first | (have hb1 := b_go hb hb2; clear hb hb2 hc1 hf1; have hb := hb1; clear hb1) | (have hb1 := b_go (b_al hb _) hb2; clear hb hb2 hc1 hf1; have hb := hb1; clear hb1) | (have hb := hb2; clear hb2)); obtain ⟨hc1, hf1⟩ := bcell hb))
  all_goals
    clear N1 N2 N3 N4 N5
    have hr := E.out
    clear E
    (try (have hk : k = 14 := by assumption; subst hk))
    have hn : 0 ≤ n → n % 18446744073709551616 = n := fun h => by omega
    have hz := width_zero k
    have hq : k ≠ 18 → k ≠ 19 → ∀ x, mayB k x ⟨#[]⟩ = fitsB k x := fun a b x => by rw [may_nil, if_neg b]; unfold bitsB; rw [if_neg a]
    (refine bodyPost_ret (v := .tuple #[.agg #[.int .u8 (r).1, .int .u64 (r).2.1, .string (r).2.2.1], .int .i64 (r).2.2.2]) ?hr rfl ⟨rfl, ?hB⟩
     case hB => repeat (first | exact Below.refl _ _ | apply b_al | (refine b_st ?_ ?hg _; case hg => omega) | (refine b_go ?_ (by assumption)))
     case hr =>
      first
       | (have q := fun (y0 y1 y2 : Value) => set3 (w1 := w1) (g := w.heap.size) (by repeat (first | (refine k_new ?_; simp; done) | apply k_al | (refine k_go ?_ (by assumption)))) y0 y1 y2
          have q0 := fun (y0 y1 y2 : Value) => (q y0 y1 y2).1
          have q1 := fun (y0 y1 y2 : Value) => (q y0 y1 y2).2.1
          have q2 := fun (y0 y1 y2 : Value) => (q y0 y1 y2).2.2
          clear q
          (try clear hb hc1 hf1)
          go_light
          simp [results, Tryz.results7, go_sem, wrap_u64, q0, q1, q2]
          (try clear q0 q1 q2)
          all_goals grind [intV, sgB, timeB])
       | (go_light
          simp [results, Tryz.results7, go_sem, wrap_u64]
          all_goals grind [intV, sgB, timeB]))
end Go.Proofs.YtflhndjpfiklaaaGreatDoor.H
