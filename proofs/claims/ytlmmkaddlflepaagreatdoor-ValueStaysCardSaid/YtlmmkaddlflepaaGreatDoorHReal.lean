/- The document's fromReal, and what it answers. Conditions: bits are 64, and the value may be. -/
import Derived.Test.YtlmmkaddlflepaaGreatDoorHFl
namespace Go.Proofs.YtlmmkaddlflepaaGreatDoor.H
set_option linter.unusedVariables false
open Go.RowKit Go.Proofs.YtlmmkaddlflepaaGreatDoor.Plain
set_option maxHeartbeats 3200000
set_option maxRecDepth 100000
set_option linter.unusedSimpArgs false
attribute [local go_sem] ext_from ext_bits cell_isSome un_neg_float
/-- An LREAL as an integer or a bit row. -/
def relN (k : Int) (sg ex fr : Nat) : Int × Int × ByteArray × Int :=
  if ex = 2047 ∨ 18446744073709551616 ≤ magE ex fr then (0, 0, ⟨#[]⟩, 7) else ofV (sg == 1) (magE ex fr : Int) k 7
/-- An LREAL as another kind. -/
def relV (k b : Int) : Int × Int × ByteArray × Int :=
  if k = 1 then (if nanB b = true then (0, 0, ⟨#[]⟩, 7) else (1, if b % 9223372036854775808 = 0 then 0 else 1, ⟨#[]⟩, 0))
  else if 2 ≤ k ∧ k ≤ 13 then relN k (b / 9223372036854775808).toNat (b / 4503599627370496 % 2048).toNat (b % 4503599627370496).toNat
  else (0, 0, ⟨#[]⟩, 8)
theorem rel_of {k b : Int} {sg ex fr : Nat} (hk : 2 ≤ k ∧ k ≤ 13) (h : Parts b sg ex fr) : relV k b = relN k sg ex fr := by
  have h1 := h.eq; have h2 := h.s2; have h3 := h.e2; have h4 := h.f2
  unfold relV
  rw [if_neg (by omega), if_pos hk, show (b / 9223372036854775808).toNat = sg by omega, show (b / 4503599627370496 % 2048).toNat = ex by omega, show (b % 4503599627370496).toNat = fr by omega]
theorem and_exp2 {b : Int} {sg ex fr : Nat} (h : Parts b sg ex fr) : Go.bits .and .u64 b 9218868437227405312 = (ex : Int) * 4503599627370496 := by
  have h1 := h.eq; have h2 := h.s2; have h3 := h.e2; have h4 := h.f2
  rw [and_exp b (by omega) (by omega)]; omega
theorem r_fromReal (k b : Int) (t : ByteArray) (hm : mayB 18 b t = true) (h0 : 0 ≤ b) (h1 : b < 18446744073709551616) (w : World) : Calls Tryz.prog 32 #[.int .u8 k, .agg #[.int .u8 18, .int .u64 b, .string t]] w fun e w' => e = .returned (.tuple #[.agg #[.int .u8 (relV k b).1, .int .u64 (relV k b).2.1, .string (relV k b).2.2.1], .int .i64 (relV k b).2.2.2]) ∧ Below w.heap.size w w' := by
  by_cases c1 : k = 1
  · subst c1
    have hn : nanB b = true ↔ b = 9221120237041090561 := ⟨(may_real hm).1, fun e => by subst e; decide⟩
    have E := Lib.hid (show relV 1 b = if b = 9221120237041090561 then (0, 0, ⟨#[]⟩, 7) else (1, if b % 9223372036854775808 = 0 then 0 else 1, ⟨#[]⟩, 0) by unfold relV; rw [if_pos rfl]; simp only [hn])
    have D := Lib.hid (show (b % 9223372036854775808 = 0) ↔ (IntKind.u64.wrap (b * 2) = 0) by rw [wrap_u64]; omega)
    clear hn hm h0 h1
    go_enter Tryz.func32, Tryz.ntmps32
    go_wp2_with (first | (go_at_call 58; refine (r_Bool _ _).mono ?_; rintro e w1 ⟨rfl, hb2⟩; (first | (have hb1 := b_go hb hb2; clear hb hb2 hc1 hf1; have hb := hb1; clear hb1) | (have hb1 := b_go (b_al hb _) hb2; clear hb hb2 hc1 hf1; have hb := hb1; clear hb1) | (have hb := hb2; clear hb2)); obtain ⟨hc1, hf1⟩ := bcell hb))
    all_goals (have E0 := E.out; have D0 := D.out; clear E D)
    all_goals
      (refine bodyPost_ret (v := .tuple #[.agg #[.int .u8 (relV 1 b).1, .int .u64 (relV 1 b).2.1, .string (relV 1 b).2.2.1], .int .i64 (relV 1 b).2.2.2]) ?hr rfl ⟨rfl, ?hB⟩
       case hB => repeat (first | exact Below.refl _ _ | apply b_al | (refine b_st ?_ ?hg _; case hg => omega) | (refine b_go ?_ (by assumption)))
       case hr =>
        first
         | (have q := fun (y0 y1 y2 : Value) => set3 (w1 := w1) (g := w.heap.size + 1) (by repeat (first | (refine k_new ?_; simp; done) | apply k_al | (refine k_go ?_ (by assumption)))) y0 y1 y2
            have q0 := fun (y0 y1 y2 : Value) => (q y0 y1 y2).1
            have q1 := fun (y0 y1 y2 : Value) => (q y0 y1 y2).2.1
            have q2 := fun (y0 y1 y2 : Value) => (q y0 y1 y2).2.2
            clear q
            (try clear hb hc1 hf1)
            go_light
            simp [results, Tryz.results32, go_sem, wrap_u64, q0, q1, q2]
            (try clear q0 q1 q2)
            all_goals grind [boolV, wrap_u64])
         | (go_light
            simp [results, Tryz.results32, go_sem, wrap_u64]
            all_goals grind [boolV, wrap_u64]))
  by_cases c2 : 2 ≤ k ∧ k ≤ 13
  · have W1 : ∀ W, Calls Tryz.prog 39 #[.int .u8 k] W fun e w' => e = .returned (.int .i64 (widthV k)) ∧ W = w' := fun W => by have := r_width k W; rwa [rWidthV, if_pos c2] at this
    have d1 : (widthV k == 0) = false := by unfold widthV; repeat (first | rfl | split)
    have d2 : (k == 1) = false := by simpa using c1
    obtain ⟨sg, ex, fr, hP⟩ := parts_of b h0 h1
    have e1 := and_exp2 hP
    have E1 := rel_of c2 hP
    by_cases cx : ex = 2047
    · have E := Lib.hid (show relV k b = (0, 0, ⟨#[]⟩, 7) by rw [E1]; unfold relN; rw [if_pos (.inl cx)])
      rw [cx] at e1
      rw [show ((2047 : Nat) : Int) * 4503599627370496 = 9218868437227405312 by decide] at e1
      clear E1 hP hm h0 h1 c1 c2 cx
      go_enter Tryz.func32, Tryz.ntmps32
      go_wp2_with (first | (go_at_call 39; refine (W1 _).mono ?_; rintro e w' ⟨rfl, rfl⟩))
      have E0 := E.out
      clear E W1
      (refine bodyPost_ret (v := .tuple #[.agg #[.int .u8 (relV k b).1, .int .u64 (relV k b).2.1, .string (relV k b).2.2.1], .int .i64 (relV k b).2.2.2]) ?hr rfl ⟨rfl, ?hB⟩
       case hB => repeat (first | exact Below.refl _ _ | apply b_al | (refine b_st ?_ ?hg _; case hg => omega) | (refine b_go ?_ (by assumption)))
       case hr =>
        first
         | (have q := fun (y0 y1 y2 : Value) => set3 (w1 := w1) (g := w.heap.size + 1) (by repeat (first | (refine k_new ?_; simp; done) | apply k_al | (refine k_go ?_ (by assumption)))) y0 y1 y2
            have q0 := fun (y0 y1 y2 : Value) => (q y0 y1 y2).1
            have q1 := fun (y0 y1 y2 : Value) => (q y0 y1 y2).2.1
            have q2 := fun (y0 y1 y2 : Value) => (q y0 y1 y2).2.2
            clear q
            (try clear hb hc1 hf1)
            go_light
            simp [results, Tryz.results32, go_sem, wrap_u64, q0, q1, q2]
            (try clear q0 q1 q2)
            all_goals grind [])
         | (go_light
            simp [results, Tryz.results32, go_sem, wrap_u64]
            all_goals grind []))
    · have hx : ex < 2047 := by have := hP.e2; omega
      have e2 : (Go.bits .and .u64 b 9218868437227405312 == 9218868437227405312) = false := by rw [e1]; simp; omega
      have N1 := fun W => r_whole b sg ex fr hP hx W
      have N2 := fun (n : Int) (hn : 0 ≤ n ∧ n < 18446744073709551616) W => r_sized k n (sg == 1) c2 hn.1 hn.2 W
      have E := Lib.hid (show relV k b = if ex ≤ 1086 then ofV (sg == 1) (magE ex fr : Int) k 7 else (0, 0, ⟨#[]⟩, 7) by
        rw [E1]; unfold relN
        by_cases c : ex ≤ 1086
        · rw [if_pos c, if_neg]; have := mag_small (fr := fr) c hP.f2; omega
        · rw [if_neg c, if_pos]; right; exact mag_great (by omega))
      clear E1 e1 hP hm h0 h1 c1 c2 cx hx
      by_cases c : ex ≤ 1086
      · rw [decide_eq_true c] at N1
        go_enter Tryz.func32, Tryz.ntmps32
        go_wp2_with (first | (go_at_call 39; refine (W1 _).mono ?_; rintro e w' ⟨rfl, rfl⟩) | (go_at_call 59; refine (N1 _).mono ?_; rintro e w1 ⟨n, rfl, hn, hv, hb⟩; obtain ⟨hc1, hf1⟩ := bcell hb; have HV := Lib.hid hv; clear hv) | (go_at_call 60; ((with_reducible refine (N2 _ hn _).mono ?_); rintro e w1 ⟨rfl, hb2⟩; (first | (have hb1 := b_go hb hb2; clear hb hb2 hc1 hf1; have hb := hb1; clear hb1) | (have hb1 := b_go (b_al hb _) hb2; clear hb hb2 hc1 hf1; have hb := hb1; clear hb1) | (have hb := hb2; clear hb2)); obtain ⟨hc1, hf1⟩ := bcell hb)))
        have E0 := E.out
        have hv := HV.out c
        clear E W1 N1 N2 HV
        (refine bodyPost_ret (v := .tuple #[.agg #[.int .u8 (relV k b).1, .int .u64 (relV k b).2.1, .string (relV k b).2.2.1], .int .i64 (relV k b).2.2.2]) ?hr rfl ⟨rfl, ?hB⟩
         case hB => repeat (first | exact Below.refl _ _ | apply b_al | (refine b_st ?_ ?hg _; case hg => omega) | (refine b_go ?_ (by assumption)))
         case hr =>
          first
           | (have q := fun (y0 y1 y2 : Value) => set3 (w1 := w1) (g := w.heap.size + 1) (by repeat (first | (refine k_new ?_; simp; done) | apply k_al | (refine k_go ?_ (by assumption)))) y0 y1 y2
              have q0 := fun (y0 y1 y2 : Value) => (q y0 y1 y2).1
              have q1 := fun (y0 y1 y2 : Value) => (q y0 y1 y2).2.1
              have q2 := fun (y0 y1 y2 : Value) => (q y0 y1 y2).2.2
              clear q
              (try clear hb hc1 hf1)
              go_light
              simp [results, Tryz.results32, go_sem, wrap_u64, q0, q1, q2]
              (try clear q0 q1 q2)
              all_goals grind [])
           | (go_light
              simp [results, Tryz.results32, go_sem, wrap_u64]
              all_goals grind []))
      · rw [decide_eq_false c] at N1
        go_enter Tryz.func32, Tryz.ntmps32
        go_wp2_with (first | (go_at_call 39; refine (W1 _).mono ?_; rintro e w' ⟨rfl, rfl⟩) | (go_at_call 59; refine (N1 _).mono ?_; rintro e w1 ⟨n, rfl, hn, hv, hb⟩; obtain ⟨hc1, hf1⟩ := bcell hb; clear hv hn))
        have E0 := E.out
        clear E W1 N1 N2
        (refine bodyPost_ret (v := .tuple #[.agg #[.int .u8 (relV k b).1, .int .u64 (relV k b).2.1, .string (relV k b).2.2.1], .int .i64 (relV k b).2.2.2]) ?hr rfl ⟨rfl, ?hB⟩
         case hB => repeat (first | exact Below.refl _ _ | apply b_al | (refine b_st ?_ ?hg _; case hg => omega) | (refine b_go ?_ (by assumption)))
         case hr =>
          first
           | (have q := fun (y0 y1 y2 : Value) => set3 (w1 := w1) (g := w.heap.size + 1) (by repeat (first | (refine k_new ?_; simp; done) | apply k_al | (refine k_go ?_ (by assumption)))) y0 y1 y2
              have q0 := fun (y0 y1 y2 : Value) => (q y0 y1 y2).1
              have q1 := fun (y0 y1 y2 : Value) => (q y0 y1 y2).2.1
              have q2 := fun (y0 y1 y2 : Value) => (q y0 y1 y2).2.2
              clear q
              (try clear hb hc1 hf1)
              go_light
              simp [results, Tryz.results32, go_sem, wrap_u64, q0, q1, q2]
              (try clear q0 q1 q2)
              all_goals grind [])
           | (go_light
              simp [results, Tryz.results32, go_sem, wrap_u64]
              all_goals grind []))
  · have W1 : ∀ W, Calls Tryz.prog 39 #[.int .u8 k] W fun e w' => e = .returned (.int .i64 0) ∧ W = w' := fun W => by have := r_width k W; rwa [rWidthV, if_neg c2] at this
    have d2 : (k == 1) = false := by simpa using c1
    have E := Lib.hid (show relV k b = (0, 0, ⟨#[]⟩, 8) by unfold relV; rw [if_neg c1, if_neg c2])
    clear hm h0 h1 c1 c2
    go_enter Tryz.func32, Tryz.ntmps32
    go_wp2_with (first | (go_at_call 39; refine (W1 _).mono ?_; rintro e w' ⟨rfl, rfl⟩))
    have E0 := E.out
    clear E W1
    (refine bodyPost_ret (v := .tuple #[.agg #[.int .u8 (relV k b).1, .int .u64 (relV k b).2.1, .string (relV k b).2.2.1], .int .i64 (relV k b).2.2.2]) ?hr rfl ⟨rfl, ?hB⟩
     case hB => repeat (first | exact Below.refl _ _ | apply b_al | (refine b_st ?_ ?hg _; case hg => omega) | (refine b_go ?_ (by assumption)))
     case hr =>
      first
       | (have q := fun (y0 y1 y2 : Value) => set3 (w1 := w1) (g := w.heap.size + 1) (by repeat (first | (refine k_new ?_; simp; done) | apply k_al | (refine k_go ?_ (by assumption)))) y0 y1 y2
          have q0 := fun (y0 y1 y2 : Value) => (q y0 y1 y2).1
          have q1 := fun (y0 y1 y2 : Value) => (q y0 y1 y2).2.1
          have q2 := fun (y0 y1 y2 : Value) => (q y0 y1 y2).2.2
          clear q
          (try clear hb hc1 hf1)
          go_light
          simp [results, Tryz.results32, go_sem, wrap_u64, q0, q1, q2]
          (try clear q0 q1 q2)
          all_goals grind [])
       | (go_light
          simp [results, Tryz.results32, go_sem, wrap_u64]
          all_goals grind []))
end Go.Proofs.YtlmmkaddlflepaaGreatDoor.H
