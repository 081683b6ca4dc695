/- The plain law of ValueBack: an integer that goes to a text or to another kind of integers, and back, is the same. No program in sight but its definitions. -/
import Derived.Test.YtlmmkaddlflepaaGreatDoorHConvV
import Derived.Test.YtlmmkaddlflepaaGreatDoorHInt
import Derived.Lib.ItoaLen
namespace Go.Proofs.YtlmmkaddlflepaaGreatDoor.H
set_option linter.unusedSimpArgs false
set_option linter.unusedVariables false
open Go.RowKit Go.Proofs.YtlmmkaddlflepaaGreatDoor.Plain
theorem sgn_iff (k : Int) (hk : 2 ≤ k ∧ k ≤ 9) : signedB k = sgB k ∧ unB k = !sgB k := by
  unfold signedB sgB unB
  constructor
  · rw [decide_eq_decide]; omega
  · by_cases c : k ≤ 5
    · have a : ¬ (6 ≤ k ∧ k ≤ 9) := by omega
      have b : 2 ≤ k ∧ k ≤ 5 := by omega
      simp [a, b]
    · have a : 6 ≤ k ∧ k ≤ 9 := by omega
      have b : ¬ (2 ≤ k ∧ k ≤ 5) := by omega
      simp [a, b]
theorem nm_form (k b : Int) (hk : 2 ≤ k ∧ k ≤ 9) : nmV k b = if sgB k = true ∧ wrap64 b < 0 then (true, (-b) % 18446744073709551616) else (false, b) := by
  unfold nmV szV
  rw [(sgn_iff k hk).2]
  cases h : sgB k
  · simp
  · by_cases c : wrap64 b < 0
    · have d : ¬ (0 ≤ wrap64 b) := by omega
      simp [c, d]
    · have d : 0 ≤ wrap64 b := by omega
      simp [c, d]
theorem of_nm (k b f : Int) (hk : 2 ≤ k ∧ k ≤ 9) (h0 : 0 ≤ b) (h1 : b < 18446744073709551616) (hf : fitsB k b = true) : ofV (nmV k b).1 (nmV k b).2 k f = (k, b, ⟨#[]⟩, 0) := by
  rw [nm_form k b hk]
  unfold ofV
  rw [(sgn_iff k hk).1]
  by_cases c : sgB k = true ∧ wrap64 b < 0
  · rw [if_pos c]
    have hw : 9223372036854775808 ≤ b := by have := c.2; unfold wrap64 at this; omega
    have e : (-((-b) % 18446744073709551616)) % 18446744073709551616 = b := by omega
    have p : (-b) % 18446744073709551616 > 0 := by omega
    have q : (-b) % 18446744073709551616 ≤ 9223372036854775808 := by omega
    simp [p, q, c.1, e, hf]
  · rw [if_neg c]
    have d : ¬ (sgB k = true ∧ b > 9223372036854775807) := by
      rintro ⟨x, y⟩
      exact c ⟨x, by unfold wrap64; omega⟩
    simp only [Bool.false_eq_true, false_and, if_false]
    rw [if_pos ⟨d, hf⟩]
theorem nm_of (m : Bool) (s l f : Int) (hl : 2 ≤ l ∧ l ≤ 9) (h0 : 0 ≤ s) (h1 : s < 18446744073709551616) (hm : m = true → 0 < s) (hf : f ≠ 0) (h : (ofV m s l f).2.2.2 = 0) :
    ∃ c, ofV m s l f = (l, c, ⟨#[]⟩, 0) ∧ 0 ≤ c ∧ c < 18446744073709551616 ∧ fitsB l c = true ∧ nmV l c = (m, s) := by
  unfold ofV at h ⊢
  rw [(sgn_iff l hl).1] at h ⊢
  split at h
  · next c =>
    rw [if_pos c]
    split at h
    · next d =>
      rw [if_pos d]
      refine ⟨_, rfl, by omega, by omega, d.2.2, ?_⟩
      have hs := d.2.1
      have hp := c.2
      rw [nm_form l _ hl, if_pos ⟨d.1, by unfold wrap64; omega⟩, c.1]
      have e : (-((-s) % 18446744073709551616)) % 18446744073709551616 = s := by omega
      rw [e]
    · exact absurd h hf
  · next c =>
    rw [if_neg c]
    have hm2 : m = false := by
      cases m with
      | false => rfl
      | true => exact absurd ⟨rfl, hm rfl⟩ c
    split at h
    · next d =>
      rw [if_pos d]
      refine ⟨s, rfl, h0, h1, d.2, ?_⟩
      rw [nm_form l _ hl, if_neg, hm2]
      rintro ⟨x, y⟩
      exact d.1 ⟨x, by unfold wrap64 at y; omega⟩
    · exact absurd h hf
theorem nm_facts (k b : Int) (hk : 2 ≤ k ∧ k ≤ 9) (h0 : 0 ≤ b) (h1 : b < 18446744073709551616) : 0 ≤ (nmV k b).2 ∧ (nmV k b).2 < 18446744073709551616 ∧ ((nmV k b).1 = true → 0 < (nmV k b).2) := by
  rw [nm_form k b hk]
  split
  · next c =>
    have hw : 9223372036854775808 ≤ b := by have := c.2; unfold wrap64 at this; omega
    exact ⟨by simp only; omega, by simp only; omega, fun _ => by simp only; omega⟩
  · exact ⟨h0, h1, fun h => by simp at h⟩
theorem el_whole {k : Int} (hk : 2 ≤ k ∧ k ≤ 9) : elB k = true := by unfold elB; simp; omega
theorem may_int {k b : Int} (hk : 2 ≤ k ∧ k ≤ 9) (hf : fitsB k b = true) : mayB k b ⟨#[]⟩ = true := by
  rw [may_nil, if_neg (by omega)]; unfold bitsB; rw [if_neg (by omega)]; exact hf
theorem conv_int (l k b : Int) (hl : 2 ≤ l ∧ l ≤ 9) (hk : 2 ≤ k ∧ k ≤ 9) (hf : fitsB k b = true) (hne : l ≠ k) : convV l k b ⟨#[]⟩ = ofV (nmV k b).1 (nmV k b).2 l 7 := by
  unfold convV
  rw [if_neg (by rw [may_int hk hf, el_whole hl]; simp), if_neg hne, if_neg (by omega), if_neg (by omega), if_neg (by unfold timeB; simp; omega)]
  unfold whoV
  rw [if_neg (by omega), if_neg (by omega), if_pos (by omega)]
theorem conv_same (k b : Int) (hk : 2 ≤ k ∧ k ≤ 9) (hf : fitsB k b = true) : convV k k b ⟨#[]⟩ = (k, b, ⟨#[]⟩, 0) := by
  unfold convV
  rw [if_neg (by rw [may_int hk hf, el_whole hk]; simp), if_pos rfl]
/-- To another kind of integers and back. -/
theorem back_int (k l b : Int) (hk : 2 ≤ k ∧ k ≤ 9) (hl : 2 ≤ l ∧ l ≤ 9) (h0 : 0 ≤ b) (h1 : b < 18446744073709551616) (hf : fitsB k b = true) (h : (convV l k b ⟨#[]⟩).2.2.2 = 0) :
    ∃ c, convV l k b ⟨#[]⟩ = (l, c, ⟨#[]⟩, 0) ∧ 0 ≤ c ∧ c < 18446744073709551616 ∧ convV k l c ⟨#[]⟩ = (k, b, ⟨#[]⟩, 0) := by
  by_cases e : l = k
  · subst e
    exact ⟨b, conv_same l b hk hf, h0, h1, conv_same l b hk hf⟩
  · rw [conv_int l k b hl hk hf e] at h ⊢
    obtain ⟨g0, g1, g2⟩ := nm_facts k b hk h0 h1
    obtain ⟨c, e1, e2, e3, e4, e5⟩ := nm_of _ _ l 7 hl g0 g1 g2 (by decide) h
    refine ⟨c, e1, e2, e3, ?_⟩
    rw [conv_int k l c hk hl e4 (fun x => e x.symm), e5]
    exact of_nm k b 7 hk h0 h1 hf
theorem dig_dec (u : Nat) (hu : u < 18446744073709551616) : digV (Lib.decDigits u) = ((u : Int), true) := by
  unfold digV
  rw [if_pos ⟨canon_dec u, by rw [dval_dec]; exact hu⟩, dval_dec]
theorem dec_len (u : Nat) (hu : u < 18446744073709551616) : (Lib.decDigits u).length ≤ 20 := by
  by_cases c : 20 < (Lib.decDigits u).length
  · have := digV_long c
    rw [dig_dec u hu] at this
    simp at this
  · omega
theorem dec_head45 (u : Nat) : ¬ (Lib.decDigits u).head? = some 45 := by
  intro h
  have := dec_digits u
  cases hl : Lib.decDigits u with
  | nil => rw [hl] at h; simp at h
  | cons a r =>
    rw [hl] at h this
    have h2 : a = 45 := by simpa using h
    have := (this a (by simp)).1
    rw [h2] at this
    exact absurd this (by decide)
/-- What an integer's text is: its numeral, with a minus ahead of a number below nought. -/
theorem num_text (k b : Int) (hk : 2 ≤ k ∧ k ≤ 9) (h0 : 0 ≤ b) (h1 : b < 18446744073709551616) :
    ∃ u : Nat, (u : Int) = (nmV k b).2 ∧ u < 18446744073709551616 ∧ (numT k b).data.toList = if (nmV k b).1 = true then 45 :: Lib.decDigits u else Lib.decDigits u := by
  have e1 : ¬ k = 1 := by omega
  have hN := nm_form k b hk
  have hT : numT k b = if sgB k = true then ⟨(Lib.itoa (wrap64 b)).toArray⟩ else ⟨(Lib.decDigits b.toNat).toArray⟩ := by
    unfold numT
    rw [if_neg e1, (sgn_iff k hk).2]
    cases sgB k <;> simp
  by_cases c : sgB k = true ∧ wrap64 b < 0
  · rw [if_pos c] at hN
    rw [if_pos c.1] at hT
    have hw : 9223372036854775808 ≤ b := by have := c.2; unfold wrap64 at this; omega
    have e : wrap64 b = -(((-b) % 18446744073709551616).toNat : Int) := by unfold wrap64; omega
    rw [e, Lib.itoa_neg _ (by omega)] at hT
    rw [hN, hT]
    exact ⟨((-b) % 18446744073709551616).toNat, by simp only; omega, by omega, by simp⟩
  · rw [if_neg c] at hN
    have hT2 : numT k b = ⟨(Lib.decDigits b.toNat).toArray⟩ := by
      rw [hT]
      split
      · next d =>
        have d2 : ¬ wrap64 b < 0 := fun x => c ⟨d, x⟩
        have hw : wrap64 b = (b.toNat : Int) := by unfold wrap64 at d2 ⊢; omega
        rw [hw, Lib.itoa_nonneg]
      · rfl
    rw [hN, hT2]
    exact ⟨b.toNat, by simp only; omega, by omega, by simp⟩
theorem num_size (k b : Int) (hk : 2 ≤ k ∧ k ≤ 9) (h0 : 0 ≤ b) (h1 : b < 18446744073709551616) : (numT k b).size ≤ 254 := by
  obtain ⟨u, _, hu, e⟩ := num_text k b hk h0 h1
  have hl := dec_len u hu
  have : (numT k b).size = (numT k b).data.toList.length := by rw [Array.length_toList]; rfl
  rw [this, e]
  split
  · rw [List.length_cons]; omega
  · omega
/-- To a text. -/
theorem to_text (k b : Int) (hk : 2 ≤ k ∧ k ≤ 9) (h0 : 0 ≤ b) (h1 : b < 18446744073709551616) (hf : fitsB k b = true) : convV 19 k b ⟨#[]⟩ = (19, 0, numT k b, 0) := by
  unfold convV
  rw [if_neg (by rw [may_int hk hf]; simp; decide), if_neg (by omega), if_neg (by omega), if_neg (by omega), if_neg (by unfold timeB; simp; omega)]
  unfold whoV
  rw [if_neg (by omega), if_neg (by omega), if_neg (by omega), if_pos ⟨rfl, by unfold rowB; simp; omega⟩]
  unfold textV
  rw [if_pos (by have := num_size k b hk h0 h1; omega)]
/-- And back. -/
theorem of_text (k b : Int) (hk : 2 ≤ k ∧ k ≤ 9) (h0 : 0 ≤ b) (h1 : b < 18446744073709551616) (hf : fitsB k b = true) : convV k 19 0 (numT k b) = (k, b, ⟨#[]⟩, 0) := by
  have hz := num_size k b hk h0 h1
  have hm : mayB 19 0 (numT k b) = true := by
    unfold mayB
    rw [if_pos rfl, if_pos rfl]
    simp; omega
  unfold convV
  rw [if_neg (by rw [hm, el_whole hk]; simp), if_neg (by omega), if_neg (by decide), if_pos rfl, if_neg (by omega), if_pos (by unfold whB; simp; omega)]
  obtain ⟨u, e1, hu, e2⟩ := num_text k b hk h0 h1
  have ht : Lib.trimPrefix (numT k b).data.toList [45] = Lib.decDigits u := by
    rw [trim_eq, e2]
    cases hn : (nmV k b).1 with
    | true => simp
    | false => simp only [Bool.false_eq_true, if_false]; rw [if_neg (dec_head45 u)]
  rw [txt_good (u := u) (by rw [ht]; exact dig_dec u hu) ht.symm, ht, ByteArray.toList_eq, e2]
  have hp := (nm_facts k b hk h0 h1).2.2
  have hof := of_nm k b 7 hk h0 h1 hf
  cases hn : (nmV k b).1 with
  | true =>
    rw [hn] at hp hof
    have hu0 : 0 < u := by have := hp rfl; omega
    rw [← e1] at hof
    rw [if_neg]
    · simp only [if_true]
      have x : (Lib.decDigits u == 45 :: Lib.decDigits u) = false := by
        cases h2 : (Lib.decDigits u == 45 :: Lib.decDigits u) with
        | false => rfl
        | true => have := congrArg List.length (beq_iff_eq.1 h2); simp at this
      rw [x]
      exact hof
    · simp only [if_true]
      intro h
      have h3 : Lib.decDigits u = [48] := by simpa using h
      have := dval_dec u
      rw [h3] at this
      have : (0 : Nat) = u := this
      omega
  | false =>
    rw [hn] at hof
    rw [← e1] at hof
    rw [if_neg]
    · simp only [Bool.false_eq_true, if_false, beq_self_eq_true, Bool.not_true]
      exact hof
    · simp only [Bool.false_eq_true, if_false]
      intro h
      have h3 : Lib.decDigits u = [45, 48] := by simpa using h
      exact dec_head45 u (by rw [h3]; rfl)
end Go.Proofs.YtlmmkaddlflepaaGreatDoor.H
