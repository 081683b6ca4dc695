/- Plain facts for the statements of layer 1: a word that is no number, what bits a kind may have, shifts by a known count. No program in sight; no condition. -/
import Derived.Laws.Cover2
import Derived.Laws.FloatArith
import Derived.RowKit
import Derived.Test.YtlmmkaddlflepaaPOrdW
namespace Go.Proofs.Ytlmmkaddlflepaa.Plain
open Go.RowKit Go.Proofs.YtlmmkaddlflepaaW.PrintWords Go.Proofs.YtlmmkaddlflepaaW.PrintLast Go.Proofs.YtlmmkaddlflepaaW.PrintMore

/-- How many bits an integer or a bit row has. -/
def widthV (k : Int) : Int := if k = 2 ∨ k = 6 ∨ k = 10 then 8 else if k = 3 ∨ k = 7 ∨ k = 11 then 16 else if k = 4 ∨ k = 8 ∨ k = 12 then 32 else 64
/-- Bits that a kind with a number may have. -/
def fitsB (k b : Int) : Bool :=
  decide ((k = 1 ∧ b ≤ 1) ∨ (k = 2 ∧ -128 ≤ wrap64 b ∧ wrap64 b ≤ 127) ∨ (k = 3 ∧ -32768 ≤ wrap64 b ∧ wrap64 b ≤ 32767) ∨ (k = 4 ∧ -2147483648 ≤ wrap64 b ∧ wrap64 b ≤ 2147483647) ∨ k = 5 ∨
    ((k = 6 ∨ k = 10) ∧ b ≤ 255) ∨ ((k = 7 ∨ k = 11) ∧ b ≤ 65535) ∨ ((k = 8 ∨ k = 12) ∧ b ≤ 4294967295) ∨ k = 9 ∨ k = 13 ∨ k = 14 ∨
    (k = 15 ∧ b < 7258118400000000000 ∧ b % 86400000000000 = 0) ∨ (k = 16 ∧ b < 86400000000000) ∨ (k = 17 ∧ b < 7258118400000000000))
/-- A word of 64 bits that is no number. -/
def nanB (b : Int) : Bool := decide (b / 4503599627370496 % 2048 = 2047 ∧ b % 4503599627370496 ≠ 0)

/-- A value that may be. -/
def mayB (k b : Int) (t : ByteArray) : Bool :=
  if k = 19 then (if b = 0 then decide ((t.size : Int) ≤ 254) else false)
  else if t.toList = ([] : List UInt8) then (if k = 18 then (!nanB b || b == 9221120237041090561) else fitsB k b) else false

theorem may_facts {k b : Int} {t : ByteArray} (h : mayB k b t = true) : k = 19 ∨ k = 18 ∨ (1 ≤ k ∧ k ≤ 17 ∧ (k = 6 ∨ k = 7 ∨ k = 8 ∨ k = 10 ∨ k = 11 ∨ k = 12 → b ≤ 4294967295)) := by
  unfold mayB at h
  by_cases c : k = 19
  · exact .inl c
  by_cases d : k = 18
  · exact .inr (.inl d)
  rw [if_neg c, if_neg d] at h
  split at h
  · unfold fitsB at h
    have := of_decide_eq_true h
    refine .inr (.inr ?_)
    omega
  · cases h
/-- Is it an integer with a sign, or a span of time? -/
def signedB (k : Int) : Bool := decide ((2 ≤ k ∧ k ≤ 5) ∨ k = 14)
/-- The value of a kind that has a number, told by its size and sign. -/
def ofV (minus : Bool) (size k fault : Int) : Int × Int × ByteArray × Int :=
  if minus = true ∧ size > 0 then
    (if signedB k = true ∧ size ≤ 9223372036854775808 ∧ fitsB k ((-size) % 18446744073709551616) = true then (k, (-size) % 18446744073709551616, ⟨#[]⟩, 0) else (0, 0, ⟨#[]⟩, fault))
  else (if ¬ (signedB k = true ∧ size > 9223372036854775807) ∧ fitsB k size = true then (k, size, ⟨#[]⟩, 0) else (0, 0, ⟨#[]⟩, fault))
theorem wrap_u64 (x : Int) : IntKind.u64.wrap x = x % 18446744073709551616 := by simp [IntKind.wrap, IntKind.signed, IntKind.bits]
theorem wrap_i64 (x : Int) : IntKind.i64.wrap x = wrap64 x := i64_w x
theorem w8 : wrap64 (-wrap64 128) = -128 := by unfold wrap64; omega
theorem w8' : wrap64 (wrap64 128 - 1) = 127 := by unfold wrap64; omega
theorem w16 : wrap64 (-wrap64 32768) = -32768 := by unfold wrap64; omega
theorem w16' : wrap64 (wrap64 32768 - 1) = 32767 := by unfold wrap64; omega
theorem w32 : wrap64 (-wrap64 2147483648) = -2147483648 := by unfold wrap64; omega
theorem w32' : wrap64 (wrap64 2147483648 - 1) = 2147483647 := by unfold wrap64; omega
theorem w1_ : wrap64 7 = 7 := by unfold wrap64; omega
theorem w2_ : wrap64 15 = 15 := by unfold wrap64; omega
theorem w3_ : wrap64 31 = 31 := by unfold wrap64; omega
theorem w8n : wrap64 (-128) = -128 := by unfold wrap64; omega
theorem w16n : wrap64 (-32768) = -32768 := by unfold wrap64; omega
theorem w32n : wrap64 (-2147483648) = -2147483648 := by unfold wrap64; omega
theorem land_shift (x : Nat) : x &&& 9218868437227405312 = (x / 4503599627370496 % 2048) * 4503599627370496 := by
  have e : (9218868437227405312 : Nat) = 2047 * 2 ^ 52 := by decide
  apply Nat.eq_of_testBit_eq
  intro i
  rw [Nat.testBit_and, e, show (4503599627370496 : Nat) = 2 ^ 52 by decide, Nat.testBit_mul_two_pow, Nat.testBit_mul_two_pow, show (2048 : Nat) = 2 ^ 11 by decide, Nat.testBit_mod_two_pow, Nat.testBit_div_two_pow, show (2047 : Nat) = 2 ^ 11 - 1 by decide, Nat.testBit_two_pow_sub_one]
  by_cases h : 52 ≤ i
  · simp [h, Bool.and_comm]
  · simp [h]
theorem land_low (x : Nat) : x &&& 4503599627370495 = x % 4503599627370496 := by
  rw [show (4503599627370495 : Nat) = 2 ^ 52 - 1 by decide, Nat.and_two_pow_sub_one_eq_mod]

theorem bits_and_nat (x y : Nat) (hx : x < 2 ^ 64) (hy : y < 2 ^ 64) : Go.bits .and .u64 (x : Int) (y : Int) = ((x &&& y : Nat) : Int) := by
  show IntKind.u64.wrap (((BitVec.ofInt 64 (x : Int) &&& BitVec.ofInt 64 (y : Int)).toNat : Nat) : Int) = _
  have hlt : x &&& y < 2 ^ 64 := Nat.and_lt_two_pow _ hy
  have : (BitVec.ofInt 64 (x : Int) &&& BitVec.ofInt 64 (y : Int)).toNat = x &&& y := by
    simp [BitVec.toNat_and, Nat.mod_eq_of_lt hx, Nat.mod_eq_of_lt hy]
  rw [this]
  simp only [IntKind.wrap, IntKind.signed, IntKind.bits]
  simp
  omega

theorem and_exp (b : Int) (h0 : 0 ≤ b) (h1 : b < 18446744073709551616) : Go.bits .and .u64 b 9218868437227405312 = b / 4503599627370496 % 2048 * 4503599627370496 := by
  obtain ⟨n, rfl⟩ := Int.eq_ofNat_of_zero_le h0
  have := bits_and_nat n 9218868437227405312 (by omega) (by decide)
  rw [land_shift] at this
  rw [show ((9218868437227405312 : Nat) : Int) = 9218868437227405312 from rfl] at this
  rw [this]; omega
theorem and_low (b : Int) (h0 : 0 ≤ b) (h1 : b < 18446744073709551616) : Go.bits .and .u64 b 4503599627370495 = b % 4503599627370496 := by
  obtain ⟨n, rfl⟩ := Int.eq_ofNat_of_zero_le h0
  have := bits_and_nat n 4503599627370495 (by omega) (by decide)
  rw [land_low] at this
  rw [show ((4503599627370495 : Nat) : Int) = 4503599627370495 from rfl] at this
  rw [this]; omega

theorem order_self (b : Int) (h0 : 0 ≤ b) (h1 : b < 18446744073709551616) : (FloatKind.f64.format.order b.toNat b.toNat != some Ordering.eq) = nanB b := by
  obtain ⟨n, rfl⟩ := Int.eq_ofNat_of_zero_le h0
  simp only [Int.toNat_natCast]
  have hn : n < 18446744073709551616 := by omega
  unfold nanB FloatKind.format Ieee.Format.order
  have rd : Ieee.double.read n = (if n % 9223372036854775808 < 4503599627370496 then .number (n / 9223372036854775808 % 2 == 1) (n % 9223372036854775808) Ieee.double.leastPlace
      else if n % 9223372036854775808 < 9218868437227405312 then .number (n / 9223372036854775808 % 2 == 1) (4503599627370496 + n % 9223372036854775808 % 4503599627370496) (Ieee.double.leastPlace + (n % 9223372036854775808 / 4503599627370496 - 1 : Nat))
      else if n % 9223372036854775808 = 9218868437227405312 then .infinity (n / 9223372036854775808 % 2 == 1) else .nan (n / 9223372036854775808 % 2 == 1) (n % 9223372036854775808 - 9218868437227405312)) := rfl
  rw [rd]
  by_cases c1 : n % 9223372036854775808 < 4503599627370496
  · rw [if_pos c1]
    have : ¬ ((n : Int) / 4503599627370496 % 2048 = 2047 ∧ (n : Int) % 4503599627370496 ≠ 0) := by omega
    simp [Ieee.Datum.order, this]
  rw [if_neg c1]
  by_cases c2 : n % 9223372036854775808 < 9218868437227405312
  · rw [if_pos c2]
    have : ¬ ((n : Int) / 4503599627370496 % 2048 = 2047 ∧ (n : Int) % 4503599627370496 ≠ 0) := by omega
    simp [Ieee.Datum.order, this]
  rw [if_neg c2]
  by_cases c3 : n % 9223372036854775808 = 9218868437227405312
  · rw [if_pos c3]
    have : ¬ ((n : Int) / 4503599627370496 % 2048 = 2047 ∧ (n : Int) % 4503599627370496 ≠ 0) := by omega
    simp [Ieee.Datum.order, this]
  · rw [if_neg c3]
    have : ((n : Int) / 4503599627370496 % 2048 = 2047 ∧ (n : Int) % 4503599627370496 ≠ 0) := by omega
    simp [Ieee.Datum.order, this]
theorem empty_toList : (⟨#[]⟩ : ByteArray).toList = ([] : List UInt8) := by decide +kernel
theorem mayB_empty (k b : Int) (hk : k ≠ 18) (hk2 : k ≠ 19) : mayB k b ⟨#[]⟩ = fitsB k b := by
  unfold mayB
  rw [if_neg hk2, if_neg hk, if_pos empty_toList]
theorem may_fits {k b : Int} {t : ByteArray} (h : mayB k b t = true) (hk : k ≠ 18) (hk2 : k ≠ 19) : fitsB k b = true ∧ t.toList = ([] : List UInt8) := by
  unfold mayB at h
  rw [if_neg hk2, if_neg hk] at h
  by_cases c : t.toList = ([] : List UInt8)
  · rw [if_pos c] at h; exact ⟨h, c⟩
  · rw [if_neg c] at h; cases h
theorem may_real {b : Int} {t : ByteArray} (h : mayB 18 b t = true) : (nanB b = true → b = 9221120237041090561) ∧ t.toList = ([] : List UInt8) := by
  unfold mayB at h
  simp only [Int.reduceEq, if_false, if_true] at h
  by_cases c : t.toList = ([] : List UInt8)
  · rw [if_pos c] at h
    exact ⟨fun hn => by simpa [hn] using h, c⟩
  · rw [if_neg c] at h; cases h
end Go.Proofs.Ytlmmkaddlflepaa.Plain
