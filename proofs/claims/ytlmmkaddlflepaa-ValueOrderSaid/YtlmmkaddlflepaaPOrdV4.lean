/- What arithmetic on numbers computes, in plain words. No condition but that numbers are 64 bits. -/
import Derived.Test.YtlmmkaddlflepaaPOrdVW
import Derived.Test.YtlmmkaddlflepaaPOrdPlain2
namespace Go.Proofs.Ytlmmkaddlflepaa.POrd
open Go.RowKit Go.Proofs.YtlmmkaddlflepaaW.PrintWords Go.Proofs.YtlmmkaddlflepaaW.PrintLast Go.Proofs.YtlmmkaddlflepaaW.PrintMore Go.Proofs.Ytlmmkaddlflepaa.Plain
set_option linter.unusedVariables false
set_option linter.unusedSimpArgs false

theorem v_plus (m : Bool) (s : Int) (n : Bool) (t : Int) (h0 : 0 ≤ s) (h1 : s < 18446744073709551616) (g0 : 0 ≤ t) (g1 : t < 18446744073709551616) :
    ∃ m' s' ok, value_plus.f m s n t = some (m', s', ok) ∧ 0 ≤ s' ∧ s' < 18446744073709551616 ∧ ((ok = true ∧ numW m' s' = numW m s + numW n t) ∨ (ok = false ∧ (numW m s + numW n t ≤ -18446744073709551616 ∨ 18446744073709551616 ≤ numW m s + numW n t))) := by
  unfold value_plus.f
  simp only [wrap_u64]
  by_cases e : (m == n) = true
  · rw [if_pos e]
    have e2 : m = n := by simpa using e
    subst e2
    refine ⟨_, _, _, rfl, by omega, by omega, ?_⟩
    by_cases c : (s + t) % 18446744073709551616 ≥ s
    · refine .inl ⟨decide_eq_true c, ?_⟩
      have : (s + t) % 18446744073709551616 = s + t := by omega
      rw [this]
      unfold numW
      cases m <;> simp <;> omega
    · refine .inr ⟨decide_eq_false c, ?_⟩
      unfold numW
      cases m
      · right; simp; omega
      · left; simp; omega
  · rw [if_neg e]
    by_cases c : s ≥ t
    · rw [if_pos c]
      refine ⟨_, _, _, rfl, by omega, by omega, .inl ⟨rfl, ?_⟩⟩
      have : (s - t) % 18446744073709551616 = s - t := by omega
      rw [this]
      unfold numW
      cases m <;> cases n <;> simp at e ⊢ <;> omega
    · rw [if_neg c]
      refine ⟨_, _, _, rfl, by omega, by omega, .inl ⟨rfl, ?_⟩⟩
      have : (t - s) % 18446744073709551616 = t - s := by omega
      rw [this]
      unfold numW
      cases m <;> cases n <;> simp at e ⊢ <;> omega
theorem v_times (m : Bool) (s : Int) (n : Bool) (t : Int) (h0 : 0 ≤ s) (h1 : s < 18446744073709551616) (g0 : 0 ≤ t) (g1 : t < 18446744073709551616) :
    ∃ m' s' ok, value_times.f m s n t = some (m', s', ok) ∧ 0 ≤ s' ∧ s' < 18446744073709551616 ∧ ((ok = true ∧ numW m' s' = numW m s * numW n t) ∨ (ok = false ∧ (numW m s * numW n t ≤ -18446744073709551616 ∨ 18446744073709551616 ≤ numW m s * numW n t))) := by
  unfold value_times.f
  simp only [wrap_u64]
  by_cases z : s = 0
  · rw [if_pos z]
    subst z
    refine ⟨_, _, _, rfl, by omega, by omega, .inl ⟨rfl, ?_⟩⟩
    unfold numW
    cases m <;> cases n <;> simp
  · rw [if_neg z]
    have q0 : 0 ≤ Int.tdiv 18446744073709551615 s := Int.tdiv_nonneg (by decide) h0
    have q1 : Int.tdiv 18446744073709551615 s ≤ 18446744073709551615 := by
      rw [Int.tdiv_eq_ediv_of_nonneg (by decide)]; exact Int.ediv_le_self _ (by decide)
    have q : Int.tdiv 18446744073709551615 s % 18446744073709551616 = Int.tdiv 18446744073709551615 s := by omega
    rw [q]
    have hp := tdiv_gt s t (by omega)
    have hn : 0 ≤ s * t := Int.mul_nonneg h0 g0
    by_cases c : t > Int.tdiv 18446744073709551615 s
    · rw [if_pos c]
      have c2 := hp.1 c
      refine ⟨_, _, _, rfl, by decide, by decide, .inr ⟨rfl, ?_⟩⟩
      rw [← num_times]
      unfold numW
      split
      · left; omega
      · right; omega
    · rw [if_neg c]
      have c2 : s * t < 18446744073709551616 := by omega
      refine ⟨_, _, _, rfl, by omega, by omega, .inl ⟨rfl, ?_⟩⟩
      have : (s * t) % 18446744073709551616 = s * t := by omega
      rw [this, num_times]
theorem v_sized (a b : Int) (t : ByteArray) (h0 : 0 ≤ b) (h1 : b < 18446744073709551616) :
    ∃ m s, value_sized.f a b t = some (m, s) ∧ 0 ≤ s ∧ s < 18446744073709551616 ∧ numW m s = numK a b := by
  unfold value_sized.f value_unsigned.f
  by_cases u : 6 ≤ a ∧ a ≤ 9
  · have u1 : a ≥ 6 := u.1
    refine ⟨false, b, by simp [u1, u.2], h0, h1, by simp [numW, numK, u]⟩
  · have u1 : (if a ≥ 6 then some (decide (a ≤ 9)) else some false) = some false := by split <;> simp <;> omega
    simp only [u1, Option.bind_some, Bool.false_eq_true, if_false]
    by_cases c : wrap64 b ≥ 0
    · refine ⟨false, b, by rw [if_pos c], h0, h1, ?_⟩
      have : wrap64 b = b := by unfold wrap64 at *; omega
      unfold numK numW
      rw [if_neg u, this]; rfl
    · refine ⟨true, IntKind.u64.wrap (-b), by rw [if_neg c], by rw [wrap_u64]; omega, by rw [wrap_u64]; omega, ?_⟩
      unfold numK numW
      rw [if_neg u, wrap_u64]
      simp only [if_true]
      unfold wrap64 at *
      omega
/-- What a result of plus or times becomes. -/
theorem v_close (m : Bool) (s : Int) (ok : Bool) (kt z : Int) (h0 : 0 ≤ s) (h1 : s < 18446744073709551616)
    (h : (ok = true ∧ numW m s = z) ∨ (ok = false ∧ (z ≤ -18446744073709551616 ∨ 18446744073709551616 ≤ z))) (k : Nat) :
    (if ok = true then ((value_wide_of.f (k + 12) m s kt 1).bind fun q => some (q.1, q.2.1, q.2.2.1, q.2.2.2)) else some (0, 0, (⟨#[]⟩ : ByteArray), 1)) = some (arV kt z) := by
  rcases h with ⟨rfl, e⟩ | ⟨rfl, e⟩
  · rw [if_pos rfl, v_wide m s kt 1 h0 h1, of_ar m s kt h0 h1, e]; rfl
  · rw [if_neg (by decide), ar_out kt z e]
theorem v_close2 (m : Bool) (s : Int) (kt : Int) (h0 : 0 ≤ s) (h1 : s < 18446744073709551616) (k : Nat) :
    ((value_wide_of.f (k + 12) m s kt 1).bind fun q => some (q.1, q.2.1, q.2.2.1, q.2.2.2)) = some (arV kt (numW m s)) := by
  rw [v_wide m s kt 1 h0 h1, of_ar m s kt h0 h1]; rfl
theorem v_integers (op a b : Int) (t : ByteArray) (c d : Int) (u : ByteArray) (h0 : 0 ≤ b) (h1 : b < 18446744073709551616) (g0 : 0 ≤ d) (g1 : d < 18446744073709551616) (ho : 1 ≤ op ∧ op ≤ 5) (k : Nat) :
    value_integers.f (k + 16) op a b t c d u = some (zV op a (numK a b) (numK c d)) := by
  obtain ⟨m, s, e1, s0, s1, e2⟩ := v_sized a b t h0 h1
  obtain ⟨n, r, e3, r0, r1, e4⟩ := v_sized c d u g0 g1
  rw [← e2, ← e4]
  simp only [value_integers.f, e1, e3, Option.bind_some]
  have ko : op = 1 ∨ op = 2 ∨ op = 3 ∨ op = 4 ∨ op = 5 := by omega
  rcases ko with rfl | rfl | rfl | rfl | rfl
  · simp only [Int.reduceEq, if_false, if_true, value_integers.j0, value_integers.j1]
    obtain ⟨m', s', ok, e, b0, b1, h⟩ := v_plus m s n r s0 s1 r0 r1
    simp only [e, Option.bind_some]
    rw [v_close m' s' ok a _ b0 b1 h]
    simp [zV, opZ]
  · simp only [Int.reduceEq, if_false, if_true, value_integers.j0, value_integers.j1]
    obtain ⟨m', s', ok, e, b0, b1, h⟩ := v_plus m s (!n) r s0 s1 r0 r1
    rw [num_neg] at h
    simp only [e, Option.bind_some]
    rw [v_close m' s' ok a _ b0 b1 h]
    simp [zV, opZ, Int.sub_eq_add_neg]
  · simp only [Int.reduceEq, if_false, if_true, value_integers.j1]
    obtain ⟨m', s', ok, e, b0, b1, h⟩ := v_times m s n r s0 s1 r0 r1
    simp only [e, Option.bind_some]
    rw [v_close m' s' ok a _ b0 b1 h]
    simp [zV, opZ]
  · simp only [Int.reduceEq, if_false, if_true, value_integers.j1]
    by_cases z : r = 0
    · rw [if_pos z]; subst z
      simp [zV, (num_zero n 0).2 rfl]
    · rw [if_neg z]
      have z2 : ¬ numW n r = 0 := fun h => z ((num_zero n r).1 h)
      have q0 : 0 ≤ Int.tdiv s r := Int.tdiv_nonneg s0 r0
      have q1 : Int.tdiv s r ≤ s := by rw [Int.tdiv_eq_ediv_of_nonneg s0]; exact Int.ediv_le_self _ s0
      have q : IntKind.u64.wrap (Int.tdiv s r) = Int.tdiv s r := by rw [wrap_u64]; omega
      rw [q, v_close2 (m != n) (Int.tdiv s r) a q0 (by omega), num_div]
      simp [zV, opZ, z2]
  · simp only [Int.reduceEq, if_false, if_true, value_integers.j1]
    by_cases z : r = 0
    · rw [if_pos z]; subst z
      simp [zV, (num_zero n 0).2 rfl]
    · rw [if_neg z]
      have z2 : ¬ numW n r = 0 := fun h => z ((num_zero n r).1 h)
      have q0 : 0 ≤ Int.tmod s r := Int.tmod_nonneg _ s0
      have q1 : Int.tmod s r < 18446744073709551616 := by
        have := Int.tmod_lt_of_pos s (show 0 < r by omega)
        omega
      rw [v_close2 m (Int.tmod s r) a q0 q1, num_mod m n]
      simp [zV, opZ, z2]
end Go.Proofs.Ytlmmkaddlflepaa.POrd
