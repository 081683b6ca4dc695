/- Contracts of fromText at integers and BOOL, of the program and of the document. Conditions: a string takes no more than can be read; strconv's errors are as laid. -/
import Derived.Test.YtlmmkaddlflepaaGreatDoorHDig
namespace Go.Proofs.YtlmmkaddlflepaaGreatDoor.H
set_option linter.unusedVariables false
open Go.RowKit Go.Proofs.YtlmmkaddlflepaaGreatDoor.Plain
set_option maxHeartbeats 3200000
set_option maxRecDepth 100000
set_option linter.unusedSimpArgs false
attribute [local go_sem] ext_from ext_bits cell_isSome un_neg_float
theorem dig_rng (l : List UInt8) : 0 ≤ (digV l).1 ∧ (digV l).1 < 18446744073709551616 := by unfold digV; split <;> simp <;> omega
/-- Does a text begin with a sign? -/
def mnB (s : ByteArray) : Bool := decide (1 < s.data.toList.length ∧ s.data.toList.head? = some 45)
/-- A text as an integer of a kind. -/
def txtV (k : Int) (s : ByteArray) : Int × Int × ByteArray × Int :=
  if (digV (if mnB s = true then s.data.toList.drop 1 else s.data.toList)).2 = false ∨ (mnB s = true ∧ (digV (if mnB s = true then s.data.toList.drop 1 else s.data.toList)).1 = 0) then (0, 0, ⟨#[]⟩, 7)
  else ofV (mnB s) (digV (if mnB s = true then s.data.toList.drop 1 else s.data.toList)).1 k 7
theorem txt_of {k : Int} {s : ByteArray} {m : Bool} {n : Int} {ok : Bool} (hm : mnB s = m) (hd : digV (if m = true then s.data.toList.drop 1 else s.data.toList) = (n, ok)) :
    txtV k s = if ok = false ∨ (m = true ∧ n = 0) then (0, 0, ⟨#[]⟩, 7) else ofV m n k 7 := by unfold txtV; rw [hm, hd]
theorem ext1 (s : ByteArray) : (s.extract 1 s.size).data.toList = s.data.toList.drop 1 := by
  rw [Lib.extract_data, List.take_of_length_le]
  rw [List.length_drop, s_len]
  exact Nat.le_refl _
theorem mn_facts {s : ByteArray} (h : mnB s = true) : 1 < (s.size : Int) ∧ ∃ h0 : 0 < s.size, ((s[0].toNat : Int) == 45) = true := by
  have h := of_decide_eq_true h
  rw [s_len] at h
  have h0 : 0 < s.size := by omega
  refine ⟨by omega, h0, ?_⟩
  have h2 := h.2
  rw [List.head?_eq_getElem?, List.getElem?_eq_getElem (by rw [s_len]; exact h0)] at h2
  have h3 : s[0] = 45 := Option.some.inj h2
  rw [h3]; rfl
theorem mn_not {s : ByteArray} (h : mnB s = false) : (s.size : Int) ≤ 1 ∨ (1 < (s.size : Int) ∧ ∃ h0 : 0 < s.size, ((s[0].toNat : Int) == 45) = false) := by
  have h := of_decide_eq_false h
  rw [s_len] at h
  by_cases c : 1 < (s.size : Int)
  · right
    have h0 : 0 < s.size := by omega
    refine ⟨c, h0, ?_⟩
    cases h1 : ((s[0].toNat : Int) == 45) with
    | false => rfl
    | true =>
      exfalso; apply h
      refine ⟨by omega, ?_⟩
      rw [List.head?_eq_getElem?, List.getElem?_eq_getElem (by rw [s_len]; exact h0)]
      have e : s[0] = 45 := UInt8.toNat_inj.1 (by have := beq_iff_eq.1 h1; have e : (45 : UInt8).toNat = 45 := rfl; omega)
      exact congrArg some e
  · left; omega
theorem r_fromText (k : Int) (s : ByteArray) (hs : s.size ≤ 140737488351232) (w : World) (hk : 2 ≤ k ∧ k ≤ 9) : Calls Tryz.prog 33 #[.int .u8 k, .string s] w fun e w' => e = .returned (.tuple #[.agg #[.int .u8 (txtV k s).1, .int .u64 (txtV k s).2.1, .string (txtV k s).2.2.1], .int .i64 (txtV k s).2.2.2]) ∧ Below w.heap.size w w' := by
  have d1 : (k == 1) = false := by simp; omega
  have d2 : whB k = true := by unfold whB; simp; omega
  cases hm : mnB s with
  | true =>
    obtain ⟨g1, g0, g2⟩ := mn_facts hm
    have hr := dig_rng (s.data.toList.drop 1)
    cases hd : digV (s.data.toList.drop 1) with
    | mk n ok =>
      have N1 : ∀ W, Calls Tryz.prog 61 #[.string (s.extract 1 s.size)] W fun e w' => e = .returned (.tuple #[.int .u64 n, .bool ok]) ∧ W = w' := fun W => by
        have h := r_digits (s.extract 1 s.size) (by rw [← s_len, ext1, List.length_drop, s_len]; omega) W
        rw [ext1, hd] at h
        exact h
      rw [hd] at hr
      have N2 := fun W => r_sized k n true (by omega) hr.1 hr.2 W
      have E := Lib.hid (txt_of (k := k) hm hd)
      clear hr hd hm hk
      cases ok
      all_goals
        go_enter Tryz.func33, Tryz.ntmps33
        go_wp2_with (first | (go_at_call 11; refine (r_integer _ _).mono ?_; rintro e w' ⟨rfl, rfl⟩) | (go_at_call 61; ((with_reducible refine (N1 _).mono ?_); rintro e w' ⟨rfl, rfl⟩)) | (go_at_call 60; ((with_reducible refine (N2 _).mono ?_); rintro e w1 ⟨rfl, hb⟩; obtain ⟨hc1, hf1⟩ := bcell hb)))
      all_goals (clear N1 N2; have E0 := E.out; clear E)
      all_goals
        (refine bodyPost_ret (v := .tuple #[.agg #[.int .u8 (txtV k s).1, .int .u64 (txtV k s).2.1, .string (txtV k s).2.2.1], .int .i64 (txtV k s).2.2.2]) ?hr rfl ⟨rfl, ?hB⟩
         case hB => repeat (first | exact Below.refl _ _ | apply b_al | (refine b_st ?_ ?hg _; case hg => omega) | (refine b_go ?_ (by assumption)))
         case hr =>
          first
           | (have q := fun (y0 y1 y2 : Value) => set3 (w1 := w1) (g := w.heap.size) (by repeat (first | (refine k_new ?_; simp; done) | apply k_al | (refine k_go ?_ (by assumption)))) y0 y1 y2
              have q0 := fun (y0 y1 y2 : Value) => (q y0 y1 y2).1
              have q1 := fun (y0 y1 y2 : Value) => (q y0 y1 y2).2.1
              have q2 := fun (y0 y1 y2 : Value) => (q y0 y1 y2).2.2
              clear q
              (try clear hb hc1 hf1)
              go_light
              simp [results, Tryz.results33, go_sem, wrap_u64, q0, q1, q2]
              (try clear q0 q1 q2)
              all_goals grind [ofV])
           | (go_light
              simp [results, Tryz.results33, go_sem, wrap_u64]
              all_goals grind [ofV]))
  | false =>
    have gg := mn_not hm
    have hr := dig_rng s.data.toList
    cases hd : digV s.data.toList with
    | mk n ok =>
      have N1 : ∀ W, Calls Tryz.prog 61 #[.string s] W fun e w' => e = .returned (.tuple #[.int .u64 n, .bool ok]) ∧ W = w' := fun W => by
        have h := r_digits s hs W
        rw [hd] at h
        exact h
      rw [hd] at hr
      have N2 := fun W => r_sized k n false (by omega) hr.1 hr.2 W
      have E := Lib.hid (txt_of (k := k) hm hd)
      clear hr hd hm hk
      rcases gg with g1 | ⟨g1, g0, g2⟩ <;> cases ok
      all_goals
        go_enter Tryz.func33, Tryz.ntmps33
        go_wp2_with (first | (go_at_call 11; refine (r_integer _ _).mono ?_; rintro e w' ⟨rfl, rfl⟩) | (go_at_call 61; ((with_reducible refine (N1 _).mono ?_); rintro e w' ⟨rfl, rfl⟩)) | (go_at_call 60; ((with_reducible refine (N2 _).mono ?_); rintro e w1 ⟨rfl, hb⟩; obtain ⟨hc1, hf1⟩ := bcell hb)))
      all_goals (clear N1 N2; have E0 := E.out; clear E)
      all_goals
        (refine bodyPost_ret (v := .tuple #[.agg #[.int .u8 (txtV k s).1, .int .u64 (txtV k s).2.1, .string (txtV k s).2.2.1], .int .i64 (txtV k s).2.2.2]) ?hr rfl ⟨rfl, ?hB⟩
         case hB => repeat (first | exact Below.refl _ _ | apply b_al | (refine b_st ?_ ?hg _; case hg => omega) | (refine b_go ?_ (by assumption)))
         case hr =>
          first
           | (have q := fun (y0 y1 y2 : Value) => set3 (w1 := w1) (g := w.heap.size) (by repeat (first | (refine k_new ?_; simp; done) | apply k_al | (refine k_go ?_ (by assumption)))) y0 y1 y2
              have q0 := fun (y0 y1 y2 : Value) => (q y0 y1 y2).1
              have q1 := fun (y0 y1 y2 : Value) => (q y0 y1 y2).2.1
              have q2 := fun (y0 y1 y2 : Value) => (q y0 y1 y2).2.2
              clear q
              (try clear hb hc1 hf1)
              go_light
              simp [results, Tryz.results33, go_sem, wrap_u64, q0, q1, q2]
              (try clear q0 q1 q2)
              all_goals grind [ofV])
           | (go_light
              simp [results, Tryz.results33, go_sem, wrap_u64]
              all_goals grind [ofV]))
end Go.Proofs.YtlmmkaddlflepaaGreatDoor.H
