/- The pure statement of ValueOrder: of two values of one kind just one is below, equal or above; with the NaN none. No condition. -/
import Derived.Test.YtlmmkaddlflepaaPOrdVR
import Derived.Test.YtlmmkaddlflepaaPOrdPlain3
namespace Go.Proofs.Ytlmmkaddlflepaa.Pure
open Go.RowKit Go.Proofs.YtlmmkaddlflepaaW.PrintWords Go.Proofs.YtlmmkaddlflepaaW.PrintLast Go.Proofs.YtlmmkaddlflepaaW.PrintMore Go.Proofs.Ytlmmkaddlflepaa.Plain Go.Proofs.Ytlmmkaddlflepaa.POrd
set_option linter.unusedVariables false
set_option linter.unusedSimpArgs false

theorem truth_is (op a b : Int) (t : ByteArray) (c d : Int) (u : ByteArray) (h0 : 0 ≤ b) (h1 : b < 18446744073709551616) (g0 : 0 ≤ d) (g1 : d < 18446744073709551616) (ho : 9 ≤ op ∧ op ≤ 14) (k : Nat) :
    relaylaw01_truth.f (k + 40) op a b t c d u = some (if mayB a b t = true ∧ mayB c d u = true ∧ a = c then (cmpB op (ordV a b t d u), true) else (false, false)) := by
  unfold relaylaw01_truth.f
  rw [v_reckon op a b t c d u h0 h1 g0 g1]
  simp only [Option.bind_some]
  unfold reckV
  by_cases m : mayB a b t = true ∧ mayB c d u = true
  rotate_left
  · rw [if_neg m]
    have e : ¬ (mayB a b t = true ∧ mayB c d u = true ∧ a = c) := fun h => m ⟨h.1, h.2.1⟩
    simp [e]
  rw [if_pos m]
  by_cases e : a = c
  · rw [if_pos (c := 9 ≤ op ∧ _ ∧ _) ⟨ho.1, ho.2, e⟩, if_pos (c := _ ∧ _ ∧ _) ⟨m.1, m.2, e⟩]
    cases cmpB op (ordV a b t d u) <;> rfl
  · have n4 : spanK op a c = 0 := by unfold spanK; rw [if_neg (by omega), if_neg (by omega), if_neg (by omega)]
    rw [if_neg (c := 9 ≤ op ∧ _ ∧ _) (fun h => e h.2.2), if_neg (c := 6 ≤ op ∧ _ ∧ _ ∧ _) (by omega), if_neg (c := 1 ≤ op ∧ _ ∧ _ ∧ _) (by omega), if_neg (c := 1 ≤ op ∧ _ ∧ _ ∧ _) (by omega), if_pos n4, if_neg (c := _ ∧ _ ∧ _) (fun h => e h.2.2)]
    rfl
theorem nan_is (b : Int) (t : ByteArray) (h : mayB 18 b t = true) : nanB b = true ↔ b = 9221120237041090561 := by
  constructor
  · exact (may_real h).1
  · rintro rfl; decide
theorem step (k : Nat) (x7 : Bool) (n : Int) (l : List Bool) (i a b : Int) (t : ByteArray) (c d : Int) (u : ByteArray) (h0 : 0 ≤ i) (h1 : i < 3) (hl : (l.length : Int) = 3) :
    relaylaw01_ValueOrder.l0 (k + 1) x7 n l 3 i a b t c d u = relaylaw01_ValueOrder.l0 k x7 (if rdOf false l i = true then wrap64 (n + 1) else n) l 3 (wrap64 (i + 1)) a b t c d u := by
  rw [relaylaw01_ValueOrder.l0, if_pos h1, if_pos h0, if_pos (by omega)]
  split <;> rfl
theorem stop (k : Nat) (x7 : Bool) (n : Int) (l : List Bool) (a b : Int) (t : ByteArray) (c d : Int) (u : ByteArray) :
    relaylaw01_ValueOrder.l0 (k + 1) x7 n l 3 3 a b t c d u = (relaylaw01_truth.f k 10 a b t c d u).bind fun r => if a = 18 then (if b = 9221120237041090561 then (if r.2 = true then (if (r.1 == (!x7)) = true then (if n = 0 then some true else some false) else some false) else some false) else (if r.2 = true then (if (r.1 == (!x7)) = true then (if d = 9221120237041090561 then (if n = 0 then some true else some false) else some (n == 1)) else some false) else some false)) else (if r.2 = true then (if (r.1 == (!x7)) = true then some (n == 1) else some false) else some false) := by
  rw [relaylaw01_ValueOrder.l0, if_neg (by decide)]
  by_cases c18 : a = 18
  · simp only [if_pos c18]
    by_cases cb : b = 9221120237041090561
    · simp only [if_pos cb]
    · simp only [if_neg cb]
  · simp only [if_neg c18]
theorem ValueOrder : relaylaw01_ValueOrder.Pure := by
  intro a b t c d u wa wb wt wc wd wu
  obtain ⟨h0, h1'⟩ := bounds_u64 wb
  obtain ⟨g0, g1'⟩ := bounds_u64 wd
  have h1 : b < 18446744073709551616 := by omega
  have g1 : d < 18446744073709551616 := by omega
  refine ⟨50, ?_⟩
  unfold relaylaw01_ValueOrder.f
  have T : ∀ op j, 9 ≤ op ∧ op ≤ 14 → relaylaw01_truth.f (j + 40) op a b t c d u = some (if mayB a b t = true ∧ mayB c d u = true ∧ a = c then (cmpB op (ordV a b t d u), true) else (false, false)) := fun op j ho => truth_is op a b t c d u h0 h1 g0 g1 ho j
  simp only [T 11 10 (by decide), T 9 10 (by decide), T 13 10 (by decide), Option.bind_some, r_May a b t h0 h1, r_May c d u g0 g1, relaylaw01_ValueOrder.j0]
  by_cases m1 : mayB a b t = true
  rotate_left
  · rw [if_neg m1]; simp [m1]
  by_cases m2 : mayB c d u = true
  rotate_left
  · rw [if_pos m1, if_neg m2]; simp [m2]
  by_cases e : a = c
  rotate_left
  · simp [m1, m2, e]
  subst e
  simp only [m1, m2, and_self, if_true, bne_self_eq_false, Bool.false_eq_true, if_false, Bool.not_true, relaylaw01_ValueOrder.j1, Option.bind_some]
  have ord : (a = 18 ∧ (b = 9221120237041090561 ∨ d = 9221120237041090561) ∧ ordV a b t d u = (false, false, false)) ∨
      (¬ (a = 18 ∧ (b = 9221120237041090561 ∨ d = 9221120237041090561)) ∧ (ordV a b t d u = (true, false, false) ∨ ordV a b t d u = (false, true, false) ∨ ordV a b t d u = (false, false, true))) := by
    by_cases c18 : a = 18
    · subst c18
      have n1 := nan_is b t m1
      have n2 := nan_is d u m2
      rcases ord_one 18 b t d u h0 h1 g0 g1 rfl with ⟨hn, ho⟩ | ⟨hn, ho⟩
      · left; rw [n1, n2] at hn; exact ⟨rfl, hn, ho⟩
      · right
        refine ⟨?_, ho⟩
        rintro ⟨_, h⟩
        rcases h with h | h
        · exact absurd (n1.2 h) (by rw [hn.1]; decide)
        · exact absurd (n2.2 h) (by rw [hn.2]; decide)
    · right
      refine ⟨fun h => c18 h.1, ?_⟩
      obtain ⟨n, _, h⟩ := v_order a b t a d u h0 h1 g0 g1 c18 0
      rcases h with ⟨h, _⟩ | ⟨h, _⟩ | ⟨h, _⟩
      · exact .inl h
      · exact .inr (.inl h)
      · exact .inr (.inr h)
  have w1 : wrap64 ((0 : Int) + 1) = 1 := by unfold wrap64; decide
  have w2 : wrap64 ((1 : Int) + 1) = 2 := by unfold wrap64; decide
  have w3 : wrap64 ((2 : Int) + 1) = 3 := by unfold wrap64; decide
  have run : ∀ x7 p q r, relaylaw01_ValueOrder.l0 48 x7 0 [p, q, r] (([p, q, r] : List Bool).length : Int) 0 a b t a d u =
      relaylaw01_ValueOrder.l0 45 x7 ((if p = true then 1 else 0) + (if q = true then 1 else 0) + (if r = true then 1 else 0)) [p, q, r] 3 3 a b t a d u := by
    intro x7 p q r
    show relaylaw01_ValueOrder.l0 (47 + 1) x7 0 [p, q, r] 3 0 a b t a d u = _
    rw [step _ _ _ _ _ _ _ _ _ _ _ (by decide) (by decide) rfl, w1]
    show relaylaw01_ValueOrder.l0 (46 + 1) _ _ _ _ _ _ _ _ _ _ _ = _
    rw [step _ _ _ _ _ _ _ _ _ _ _ (by decide) (by decide) rfl, w2]
    show relaylaw01_ValueOrder.l0 (45 + 1) _ _ _ _ _ _ _ _ _ _ _ = _
    rw [step _ _ _ _ _ _ _ _ _ _ _ (by decide) (by decide) rfl, w3]
    congr 1
    have v1 : wrap64 (1 : Int) = 1 := w1
    have v2 : wrap64 (2 : Int) = 2 := w2
    have v3 : wrap64 (3 : Int) = 3 := w3
    cases p <;> cases q <;> cases r <;> simp [rdOf, v1, v2, v3]
  have last : ∀ x7 n l, relaylaw01_ValueOrder.l0 45 x7 n l 3 3 a b t a d u = _ := fun x7 n l => stop 44 x7 n l a b t a d u
  rw [run, last]
  have ten : relaylaw01_truth.f 44 10 a b t a d u = some (cmpB 10 (ordV a b t d u), true) := by
    rw [show (44 : Nat) = 4 + 40 from rfl, T 10 4 (by decide), if_pos ⟨m1, m2, rfl⟩]
  rw [ten]
  simp only [Option.bind_some, if_true]
  rcases ord with ⟨c18, hn, ho⟩ | ⟨hn, ho⟩
  · rw [ho]
    rcases hn with hn | hn
    · simp [cmpB, c18, hn]
    · by_cases hb : b = 9221120237041090561 <;> simp [cmpB, c18, hn, hb]
  · by_cases c18 : a = 18
    · have b1 : ¬ b = 9221120237041090561 := fun h => hn ⟨c18, .inl h⟩
      have b2 : ¬ d = 9221120237041090561 := fun h => hn ⟨c18, .inr h⟩
      rcases ho with ho | ho | ho
      all_goals
        rw [ho]
        simp [cmpB, c18, b1, b2]
    · rcases ho with ho | ho | ho
      all_goals
        rw [ho]
        simp [cmpB, c18]
end Go.Proofs.Ytlmmkaddlflepaa.Pure
