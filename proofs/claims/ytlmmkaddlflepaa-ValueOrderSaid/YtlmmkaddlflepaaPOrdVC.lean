/- What a comparison of two values computes, in plain words. No condition. -/
import Derived.Test.YtlmmkaddlflepaaPOrdV1
import Derived.Test.YtlmmkaddlflepaaPOrdPlain2
namespace Go.Proofs.Ytlmmkaddlflepaa.POrd
open Go.RowKit Go.Proofs.YtlmmkaddlflepaaW.PrintWords Go.Proofs.YtlmmkaddlflepaaW.PrintLast Go.Proofs.YtlmmkaddlflepaaW.PrintMore Go.Proofs.Ytlmmkaddlflepaa.Plain
set_option linter.unusedVariables false
set_option linter.unusedSimpArgs false

theorem chain {α : Type} (op l r : Int) (A B : α) : (if op ≥ l then (if op ≤ r then A else B) else B) = if l ≤ op ∧ op ≤ r then A else B := by
  by_cases h : op ≥ l
  · by_cases g : op ≤ r
    · rw [if_pos h, if_pos g, if_pos ⟨h, g⟩]
    · rw [if_pos h, if_neg g, if_neg (fun q => g q.2)]
  · rw [if_neg h, if_neg (fun q => h q.1)]
theorem v_order (a b : Int) (t : ByteArray) (c d : Int) (u : ByteArray) (h0 : 0 ≤ b) (h1 : b < 18446744073709551616) (g0 : 0 ≤ d) (g1 : d < 18446744073709551616) (h18 : a ≠ 18) (k : Nat) :
    ∃ n, value_order.f (k + 2) a b t c d u = some n ∧ ((ordV a b t d u = (true, false, false) ∧ n = -1) ∨ (ordV a b t d u = (false, true, false) ∧ n = 0) ∨ (ordV a b t d u = (false, false, true) ∧ n = 1)) := by
  unfold value_order.f ordV
  simp only [value_order.j0, value_signed.f]
  by_cases c1 : a = 19
  · rw [if_pos c1, if_pos c1]
    by_cases e : t.toList = u.toList
    · rw [if_pos e]
      refine ⟨0, rfl, .inr (.inl ⟨?_, rfl⟩)⟩
      have q := bl_tot u.toList u.toList
      have q2 : Op.bytesLess u.toList u.toList = false := by revert q; cases Op.bytesLess u.toList u.toList <;> simp
      rw [e, q2]; simp
    · rw [if_neg e]
      have q := bl_tot t.toList u.toList
      have e2 : (t.toList == u.toList) = false := by simp [e]
      rw [e2] at q ⊢
      cases hl : Op.bytesLess t.toList u.toList
      · rw [hl] at q
        exact ⟨1, rfl, .inr (.inr ⟨by rw [q]; rfl, rfl⟩)⟩
      · rw [hl] at q
        exact ⟨-1, rfl, .inl ⟨by rw [q]; rfl, rfl⟩⟩
  rw [if_neg c1, if_neg c1, if_neg h18]
  by_cases e : b = d
  · rw [if_pos e]
    subst e
    refine ⟨0, rfl, .inr (.inl ⟨?_, rfl⟩)⟩
    split <;> simp
  · rw [if_neg e]
    have tri : ∀ x y : Int, x ≠ y → ∃ n, (if decide (x < y) = true then some (-1 : Int) else some 1) = some n ∧ (((decide (x < y), x == y, decide (x > y)) = (true, false, false) ∧ n = -1) ∨ ((decide (x < y), x == y, decide (x > y)) = (false, true, false) ∧ n = 0) ∨ ((decide (x < y), x == y, decide (x > y)) = (false, false, true) ∧ n = 1)) := by
      intro x y h
      have hb : (x == y) = false := by simp [h]
      by_cases l : x < y
      · have g : ¬ x > y := by omega
        exact ⟨-1, by simp [l], .inl ⟨by simp [l, g, hb], rfl⟩⟩
      · have g : x > y := by omega
        exact ⟨1, by simp [l], .inr (.inr ⟨by simp [l, g, hb], rfl⟩)⟩
    have ne64 : wrap64 b ≠ wrap64 d := by unfold wrap64; omega
    by_cases s : 2 ≤ a ∧ a ≤ 5
    · have s1 : a ≥ 2 := s.1
      have s2 : signedB a = true := decide_eq_true (.inl s)
      simp only [s1, s.2, s2, if_true, decide_true, Option.bind_some]
      exact tri _ _ ne64
    · have s1 : (if a ≥ 2 then some (decide (a ≤ 5)) else some false) = some false := by split <;> simp <;> omega
      by_cases s3 : a = 14
      · have s2 : signedB a = true := decide_eq_true (.inr s3)
        simp only [s1, s2, if_true, if_pos s3, Option.bind_some, Bool.false_eq_true, if_false]
        exact tri _ _ ne64
      · have s2 : signedB a = false := decide_eq_false (by omega)
        simp only [s1, s2, if_neg s3, Option.bind_some, Bool.false_eq_true, if_false]
        exact tri _ _ e
theorem v_floatsCompared (op : Int) (x y : Nat) : value_floatsCompared.f op x y = some (1, if cmpB op (FloatKind.f64.format.order x y == some Ordering.lt, FloatKind.f64.format.order x y == some Ordering.eq, FloatKind.f64.format.order x y == some Ordering.gt) = true then 1 else 0, ⟨#[]⟩) := by
  unfold value_floatsCompared.f cmpB bne
  generalize (FloatKind.f64.format.order x y == some Ordering.lt) = l
  generalize (FloatKind.f64.format.order x y == some Ordering.eq) = s
  generalize (FloatKind.f64.format.order x y == some Ordering.gt) = m
  by_cases o9 : op = 9
  · simp only [o9, if_true]; cases s <;> rfl
  by_cases o10 : op = 10
  · simp only [o10, if_true, Int.reduceEq, if_false]; cases s <;> rfl
  by_cases o11 : op = 11
  · simp only [o11, if_true, Int.reduceEq, if_false]; cases l <;> rfl
  by_cases o12 : op = 12
  · simp only [o12, if_true, Int.reduceEq, if_false]; cases l <;> cases s <;> rfl
  by_cases o13 : op = 13
  · simp only [o13, if_true, Int.reduceEq, if_false]; cases m <;> rfl
  simp only [o9, o10, o11, o12, o13, if_false]; cases m <;> cases s <;> rfl
theorem v_compared (op a b : Int) (t : ByteArray) (c d : Int) (u : ByteArray) (h0 : 0 ≤ b) (h1 : b < 18446744073709551616) (g0 : 0 ≤ d) (g1 : d < 18446744073709551616) (k : Nat) :
    value_compared.f (k + 2) op a b t c d u = some (1, if cmpB op (ordV a b t d u) = true then 1 else 0, ⟨#[]⟩) := by
  unfold value_compared.f
  by_cases c18 : a = 18
  · have e : ordV a b t d u = (FloatKind.f64.format.order b.toNat d.toNat == some Ordering.lt, FloatKind.f64.format.order b.toNat d.toNat == some Ordering.eq, FloatKind.f64.format.order b.toNat d.toNat == some Ordering.gt) := by
      unfold ordV; rw [if_neg (by omega), if_pos c18]
    rw [if_pos c18, v_floatsCompared, e]
    rfl
  rw [if_neg c18]
  obtain ⟨n, e, h⟩ := v_order a b t c d u h0 h1 g0 g1 c18 k
  rw [e]
  simp only [Option.bind_some]
  unfold cmpB
  by_cases o9 : op = 9
  · simp only [o9, if_true]; rcases h with ⟨q, rfl⟩ | ⟨q, rfl⟩ | ⟨q, rfl⟩ <;> rw [q] <;> rfl
  by_cases o10 : op = 10
  · simp only [o10, if_true, Int.reduceEq, if_false]; rcases h with ⟨q, rfl⟩ | ⟨q, rfl⟩ | ⟨q, rfl⟩ <;> rw [q] <;> rfl
  by_cases o11 : op = 11
  · simp only [o11, if_true, Int.reduceEq, if_false]; rcases h with ⟨q, rfl⟩ | ⟨q, rfl⟩ | ⟨q, rfl⟩ <;> rw [q] <;> rfl
  by_cases o12 : op = 12
  · simp only [o12, if_true, Int.reduceEq, if_false]; rcases h with ⟨q, rfl⟩ | ⟨q, rfl⟩ | ⟨q, rfl⟩ <;> rw [q] <;> rfl
  by_cases o13 : op = 13
  · simp only [o13, if_true, Int.reduceEq, if_false]; rcases h with ⟨q, rfl⟩ | ⟨q, rfl⟩ | ⟨q, rfl⟩ <;> rw [q] <;> rfl
  simp only [o9, o10, o11, o12, o13, if_false]; rcases h with ⟨q, rfl⟩ | ⟨q, rfl⟩ | ⟨q, rfl⟩ <;> rw [q] <;> rfl
end Go.Proofs.Ytlmmkaddlflepaa.POrd
