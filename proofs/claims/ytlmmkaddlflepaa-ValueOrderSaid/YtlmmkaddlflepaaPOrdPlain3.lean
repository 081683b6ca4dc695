/- How two floats stand to each other: not at all just if one of them is no number. No program in sight; no condition but that bits are 64. -/
import Derived.Test.YtlmmkaddlflepaaPOrdPlain2
namespace Go.Proofs.Ytlmmkaddlflepaa.Plain
open Go.RowKit Go.Proofs.YtlmmkaddlflepaaW.PrintWords Go.Proofs.YtlmmkaddlflepaaW.PrintLast Go.Proofs.YtlmmkaddlflepaaW.PrintMore

theorem read_nan (b : Int) (h0 : 0 ≤ b) (h1 : b < 18446744073709551616) (hn : nanB b = true) : ∃ s p, Ieee.double.read b.toNat = .nan s p := by
  obtain ⟨n, rfl⟩ := Int.eq_ofNat_of_zero_le h0
  simp only [Int.toNat_natCast]
  have hn := of_decide_eq_true hn
  have rd : Ieee.double.read n = (if n % 9223372036854775808 < 4503599627370496 then .number (n / 9223372036854775808 % 2 == 1) (n % 9223372036854775808) Ieee.double.leastPlace
      else if n % 9223372036854775808 < 9218868437227405312 then .number (n / 9223372036854775808 % 2 == 1) (4503599627370496 + n % 9223372036854775808 % 4503599627370496) (Ieee.double.leastPlace + (n % 9223372036854775808 / 4503599627370496 - 1 : Nat))
      else if n % 9223372036854775808 = 9218868437227405312 then .infinity (n / 9223372036854775808 % 2 == 1) else .nan (n / 9223372036854775808 % 2 == 1) (n % 9223372036854775808 - 9218868437227405312)) := rfl
  rw [rd, if_neg (by omega), if_neg (by omega), if_neg (by omega)]
  exact ⟨_, _, rfl⟩
theorem read_num (b : Int) (h0 : 0 ≤ b) (h1 : b < 18446744073709551616) (hn : nanB b = false) : (∃ s m i, Ieee.double.read b.toNat = .number s m i) ∨ (∃ s, Ieee.double.read b.toNat = .infinity s) := by
  obtain ⟨n, rfl⟩ := Int.eq_ofNat_of_zero_le h0
  simp only [Int.toNat_natCast]
  have hn := of_decide_eq_false hn
  have rd : Ieee.double.read n = (if n % 9223372036854775808 < 4503599627370496 then .number (n / 9223372036854775808 % 2 == 1) (n % 9223372036854775808) Ieee.double.leastPlace
      else if n % 9223372036854775808 < 9218868437227405312 then .number (n / 9223372036854775808 % 2 == 1) (4503599627370496 + n % 9223372036854775808 % 4503599627370496) (Ieee.double.leastPlace + (n % 9223372036854775808 / 4503599627370496 - 1 : Nat))
      else if n % 9223372036854775808 = 9218868437227405312 then .infinity (n / 9223372036854775808 % 2 == 1) else .nan (n / 9223372036854775808 % 2 == 1) (n % 9223372036854775808 - 9218868437227405312)) := rfl
  rw [rd]
  by_cases c1 : n % 9223372036854775808 < 4503599627370496
  · rw [if_pos c1]; exact .inl ⟨_, _, _, rfl⟩
  rw [if_neg c1]
  by_cases c2 : n % 9223372036854775808 < 9218868437227405312
  · rw [if_pos c2]; exact .inl ⟨_, _, _, rfl⟩
  rw [if_neg c2, if_pos (by omega)]
  exact .inr ⟨_, rfl⟩
theorem order_nan (b d : Int) (h0 : 0 ≤ b) (h1 : b < 18446744073709551616) (g0 : 0 ≤ d) (g1 : d < 18446744073709551616) (hn : nanB b = true ∨ nanB d = true) : FloatKind.f64.format.order b.toNat d.toNat = none := by
  show (Ieee.double.read b.toNat).order (Ieee.double.read d.toNat) = none
  rcases hn with hn | hn
  · obtain ⟨s, p, e⟩ := read_nan b h0 h1 hn
    rw [e]; simp [Ieee.Datum.order]
  · obtain ⟨s, p, e⟩ := read_nan d g0 g1 hn
    rw [e]; cases Ieee.double.read b.toNat <;> simp [Ieee.Datum.order]
theorem order_num (b d : Int) (h0 : 0 ≤ b) (h1 : b < 18446744073709551616) (g0 : 0 ≤ d) (g1 : d < 18446744073709551616) (hb : nanB b = false) (hd : nanB d = false) : ∃ o, FloatKind.f64.format.order b.toNat d.toNat = some o := by
  show ∃ o, (Ieee.double.read b.toNat).order (Ieee.double.read d.toNat) = some o
  rcases read_num b h0 h1 hb with ⟨s, m, i, e⟩ | ⟨s, e⟩
  · rcases read_num d g0 g1 hd with ⟨t, n, j, e2⟩ | ⟨t, e2⟩
    · rw [e, e2]; exact ⟨_, rfl⟩
    · rw [e, e2]; exact ⟨_, rfl⟩
  · rcases read_num d g0 g1 hd with ⟨t, n, j, e2⟩ | ⟨t, e2⟩
    · rw [e, e2]; exact ⟨_, rfl⟩
    · rw [e, e2]; exact ⟨_, rfl⟩
/-- Just one of below, equal and above; with no number none. -/
theorem ord_one (a b : Int) (t : ByteArray) (d : Int) (u : ByteArray) (h0 : 0 ≤ b) (h1 : b < 18446744073709551616) (g0 : 0 ≤ d) (g1 : d < 18446744073709551616) (h18 : a = 18) :
    ((nanB b = true ∨ nanB d = true) ∧ ordV a b t d u = (false, false, false)) ∨ ((nanB b = false ∧ nanB d = false) ∧ (ordV a b t d u = (true, false, false) ∨ ordV a b t d u = (false, true, false) ∨ ordV a b t d u = (false, false, true))) := by
  have e : ordV a b t d u = (FloatKind.f64.format.order b.toNat d.toNat == some Ordering.lt, FloatKind.f64.format.order b.toNat d.toNat == some Ordering.eq, FloatKind.f64.format.order b.toNat d.toNat == some Ordering.gt) := by
    unfold ordV; rw [if_neg (by omega), if_pos h18]
  rw [e]
  by_cases c : nanB b = true ∨ nanB d = true
  · left
    rw [order_nan b d h0 h1 g0 g1 c]
    exact ⟨c, by decide⟩
  · right
    have c1 : nanB b = false := by cases h : nanB b; rfl; exact absurd (.inl h) c
    have c2 : nanB d = false := by cases h : nanB d; rfl; exact absurd (.inr h) c
    obtain ⟨o, ho⟩ := order_num b d h0 h1 g0 g1 c1 c2
    rw [ho]
    refine ⟨⟨c1, c2⟩, ?_⟩
    cases o <;> decide
end Go.Proofs.Ytlmmkaddlflepaa.Plain
