/- Plain facts for the statements of layer 1: a word that is no number, what bits a kind may have, shifts by a known count. No program in sight; no condition. -/
import Derived.Laws.Cover2
import Derived.Laws.FloatArith
import Derived.RowKit
import Derived.WalkKit
namespace Go.Proofs.Ytmnaeoljpajomaa.Plain
set_option linter.unusedSimpArgs false
set_option linter.unusedVariables false
open Go.RowKit

/-- How many bits an integer or a bit row has. -/
def widthV (k : Int) : Int := if k = 2 ∨ k = 6 ∨ k = 10 then 8 else if k = 3 ∨ k = 7 ∨ k = 11 then 16 else if k = 4 ∨ k = 8 ∨ k = 12 then 32 else 64
/-- Bits that a kind with a number may have. -/
def fitsB (k b : Int) : Bool :=
  decide ((k = 1 ∧ b ≤ 1) ∨ (k = 2 ∧ -128 ≤ wrap64 b ∧ wrap64 b ≤ 127) ∨ (k = 3 ∧ -32768 ≤ wrap64 b ∧ wrap64 b ≤ 32767) ∨ (k = 4 ∧ -2147483648 ≤ wrap64 b ∧ wrap64 b ≤ 2147483647) ∨ k = 5 ∨
    ((k = 6 ∨ k = 10) ∧ b ≤ 255) ∨ ((k = 7 ∨ k = 11) ∧ b ≤ 65535) ∨ ((k = 8 ∨ k = 12) ∧ b ≤ 4294967295) ∨ k = 9 ∨ k = 13 ∨ k = 14 ∨
    (k = 15 ∧ b < 7258118400000000000 ∧ b % 86400000000000 = 0) ∨ (k = 16 ∧ b < 86400000000000) ∨ (k = 17 ∧ b < 7258118400000000000))
/-- A word of 64 bits that is no number. -/
def nanB (b : Int) : Bool := decide (b / 4503599627370496 % 2048 = 2047 ∧ b % 4503599627370496 ≠ 0)

/-- A value that may be. -/
def mayB (k b : Int) (t : ByteArray) : Bool :=
  if k = 19 then (if b = 0 then decide ((t.size : Int) ≤ 254) else false)
  else if t.toList = ([] : List UInt8) then (if k = 18 then (!nanB b || b == 9221120237041090561) else fitsB k b) else false

/-- A value's number. -/
def numV (k b : Int) (t : ByteArray) : Int × Bool :=
  if mayB k b t = true ∧ k ≠ 18 ∧ k ≠ 19 ∧ ¬ ((k = 9 ∨ k = 13) ∧ b > 9223372036854775807) then (wrap64 b, true) else (0, false)
theorem may_facts {k b : Int} {t : ByteArray} (h : mayB k b t = true) : k = 19 ∨ k = 18 ∨ (1 ≤ k ∧ k ≤ 17 ∧ (k = 6 ∨ k = 7 ∨ k = 8 ∨ k = 10 ∨ k = 11 ∨ k = 12 → b ≤ 4294967295)) := by
  unfold mayB at h
  by_cases c : k = 19
  · exact .inl c
  by_cases d : k = 18
  · exact .inr (.inl d)
  rw [if_neg c, if_neg d] at h
  split at h
  · unfold fitsB at h
    have := of_decide_eq_true h
    refine .inr (.inr ?_)
    omega
  · cases h
/-- The value of a number: its kind, bits, text, fault. -/
def intV (k n : Int) : Int × Int × ByteArray × Int :=
  if 1 ≤ k ∧ k ≤ 17 then
    (if (¬ (2 ≤ k ∧ k ≤ 5) ∧ k ≠ 14 ∧ n < 0) ∨ fitsB k (n % 18446744073709551616) = false then (0, 0, ⟨#[]⟩, 1) else (k, n % 18446744073709551616, ⟨#[]⟩, 0))
  else (0, 0, ⟨#[]⟩, 8)
/-- Is it an integer with a sign, or a span of time? -/
def signedB (k : Int) : Bool := decide ((2 ≤ k ∧ k ≤ 5) ∨ k = 14)
/-- The value of a kind that has a number, told by its size and sign. -/
def ofV (minus : Bool) (size k fault : Int) : Int × Int × ByteArray × Int :=
  if minus = true ∧ size > 0 then
    (if signedB k = true ∧ size ≤ 9223372036854775808 ∧ fitsB k ((-size) % 18446744073709551616) = true then (k, (-size) % 18446744073709551616, ⟨#[]⟩, 0) else (0, 0, ⟨#[]⟩, fault))
  else (if ¬ (signedB k = true ∧ size > 9223372036854775807) ∧ fitsB k size = true then (k, size, ⟨#[]⟩, 0) else (0, 0, ⟨#[]⟩, fault))
theorem wrap_u64 (x : Int) : IntKind.u64.wrap x = x % 18446744073709551616 := by simp [IntKind.wrap, IntKind.signed, IntKind.bits]
theorem wrap_i64 (x : Int) : IntKind.i64.wrap x = wrap64 x := by unfold wrap64; exact IntKind.wrap_i64 x
theorem w8 : wrap64 (-wrap64 128) = -128 := by unfold wrap64; omega
theorem w8' : wrap64 (wrap64 128 - 1) = 127 := by unfold wrap64; omega
theorem w16 : wrap64 (-wrap64 32768) = -32768 := by unfold wrap64; omega
theorem w16' : wrap64 (wrap64 32768 - 1) = 32767 := by unfold wrap64; omega
theorem w32 : wrap64 (-wrap64 2147483648) = -2147483648 := by unfold wrap64; omega
theorem w32' : wrap64 (wrap64 2147483648 - 1) = 2147483647 := by unfold wrap64; omega
theorem w1_ : wrap64 7 = 7 := by unfold wrap64; omega
theorem w2_ : wrap64 15 = 15 := by unfold wrap64; omega
theorem w3_ : wrap64 31 = 31 := by unfold wrap64; omega
theorem w8n : wrap64 (-128) = -128 := by unfold wrap64; omega
theorem w16n : wrap64 (-32768) = -32768 := by unfold wrap64; omega
theorem w32n : wrap64 (-2147483648) = -2147483648 := by unfold wrap64; omega
theorem land_shift (x : Nat) : x &&& 9218868437227405312 = (x / 4503599627370496 % 2048) * 4503599627370496 := by
  have e : (9218868437227405312 : Nat) = 2047 * 2 ^ 52 := by decide
  apply Nat.eq_of_testBit_eq
  intro i
  rw [Nat.testBit_and, e, show (4503599627370496 : Nat) = 2 ^ 52 by decide, Nat.testBit_mul_two_pow, Nat.testBit_mul_two_pow, show (2048 : Nat) = 2 ^ 11 by decide, Nat.testBit_mod_two_pow, Nat.testBit_div_two_pow, show (2047 : Nat) = 2 ^ 11 - 1 by decide, Nat.testBit_two_pow_sub_one]
  by_cases h : 52 ≤ i
  · simp [h, Bool.and_comm]
  · simp [h]
theorem land_low (x : Nat) : x &&& 4503599627370495 = x % 4503599627370496 := by
  rw [show (4503599627370495 : Nat) = 2 ^ 52 - 1 by decide, Nat.and_two_pow_sub_one_eq_mod]

theorem bits_and_nat (x y : Nat) (hx : x < 2 ^ 64) (hy : y < 2 ^ 64) : Go.bits .and .u64 (x : Int) (y : Int) = ((x &&& y : Nat) : Int) := by
  show IntKind.u64.wrap (((BitVec.ofInt 64 (x : Int) &&& BitVec.ofInt 64 (y : Int)).toNat : Nat) : Int) = _
  have hlt : x &&& y < 2 ^ 64 := Nat.and_lt_two_pow _ hy
  have : (BitVec.ofInt 64 (x : Int) &&& BitVec.ofInt 64 (y : Int)).toNat = x &&& y := by
    simp [BitVec.toNat_and, Nat.mod_eq_of_lt hx, Nat.mod_eq_of_lt hy]
  rw [this]
  simp only [IntKind.wrap, IntKind.signed, IntKind.bits]
  simp
  omega

theorem and_exp (b : Int) (h0 : 0 ≤ b) (h1 : b < 18446744073709551616) : Go.bits .and .u64 b 9218868437227405312 = b / 4503599627370496 % 2048 * 4503599627370496 := by
  obtain ⟨n, rfl⟩ := Int.eq_ofNat_of_zero_le h0
  have := bits_and_nat n 9218868437227405312 (by omega) (by decide)
  rw [land_shift] at this
  rw [show ((9218868437227405312 : Nat) : Int) = 9218868437227405312 from rfl] at this
  rw [this]; omega
theorem and_low (b : Int) (h0 : 0 ≤ b) (h1 : b < 18446744073709551616) : Go.bits .and .u64 b 4503599627370495 = b % 4503599627370496 := by
  obtain ⟨n, rfl⟩ := Int.eq_ofNat_of_zero_le h0
  have := bits_and_nat n 4503599627370495 (by omega) (by decide)
  rw [land_low] at this
  rw [show ((4503599627370495 : Nat) : Int) = 4503599627370495 from rfl] at this
  rw [this]; omega

theorem order_self (b : Int) (h0 : 0 ≤ b) (h1 : b < 18446744073709551616) : (FloatKind.f64.format.order b.toNat b.toNat != some Ordering.eq) = nanB b := by
  obtain ⟨n, rfl⟩ := Int.eq_ofNat_of_zero_le h0
  simp only [Int.toNat_natCast]
  have hn : n < 18446744073709551616 := by omega
  unfold nanB FloatKind.format Ieee.Format.order
  have rd : Ieee.double.read n = (if n % 9223372036854775808 < 4503599627370496 then .number (n / 9223372036854775808 % 2 == 1) (n % 9223372036854775808) Ieee.double.leastPlace
      else if n % 9223372036854775808 < 9218868437227405312 then .number (n / 9223372036854775808 % 2 == 1) (4503599627370496 + n % 9223372036854775808 % 4503599627370496) (Ieee.double.leastPlace + (n % 9223372036854775808 / 4503599627370496 - 1 : Nat))
      else if n % 9223372036854775808 = 9218868437227405312 then .infinity (n / 9223372036854775808 % 2 == 1) else .nan (n / 9223372036854775808 % 2 == 1) (n % 9223372036854775808 - 9218868437227405312)) := rfl
  rw [rd]
  by_cases c1 : n % 9223372036854775808 < 4503599627370496
  · rw [if_pos c1]
    have : ¬ ((n : Int) / 4503599627370496 % 2048 = 2047 ∧ (n : Int) % 4503599627370496 ≠ 0) := by omega
    simp [Ieee.Datum.order, this]
  rw [if_neg c1]
  by_cases c2 : n % 9223372036854775808 < 9218868437227405312
  · rw [if_pos c2]
    have : ¬ ((n : Int) / 4503599627370496 % 2048 = 2047 ∧ (n : Int) % 4503599627370496 ≠ 0) := by omega
    simp [Ieee.Datum.order, this]
  rw [if_neg c2]
  by_cases c3 : n % 9223372036854775808 = 9218868437227405312
  · rw [if_pos c3]
    have : ¬ ((n : Int) / 4503599627370496 % 2048 = 2047 ∧ (n : Int) % 4503599627370496 ≠ 0) := by omega
    simp [Ieee.Datum.order, this]
  · rw [if_neg c3]
    have : ((n : Int) / 4503599627370496 % 2048 = 2047 ∧ (n : Int) % 4503599627370496 ≠ 0) := by omega
    simp [Ieee.Datum.order, this]
theorem empty_toList : (⟨#[]⟩ : ByteArray).toList = ([] : List UInt8) := by decide +kernel
theorem mayB_empty (k b : Int) (hk : k ≠ 18) (hk2 : k ≠ 19) : mayB k b ⟨#[]⟩ = fitsB k b := by
  unfold mayB
  rw [if_neg hk2, if_neg hk, if_pos empty_toList]
theorem may_fits {k b : Int} {t : ByteArray} (h : mayB k b t = true) (hk : k ≠ 18) (hk2 : k ≠ 19) : fitsB k b = true ∧ t.toList = ([] : List UInt8) := by
  unfold mayB at h
  rw [if_neg hk2, if_neg hk] at h
  by_cases c : t.toList = ([] : List UInt8)
  · rw [if_pos c] at h; exact ⟨h, c⟩
  · rw [if_neg c] at h; cases h
theorem may_real {b : Int} {t : ByteArray} (h : mayB 18 b t = true) : (nanB b = true → b = 9221120237041090561) ∧ t.toList = ([] : List UInt8) := by
  unfold mayB at h
  simp only [Int.reduceEq, if_false, if_true] at h
  by_cases c : t.toList = ([] : List UInt8)
  · rw [if_pos c] at h
    exact ⟨fun hn => by simpa [hn] using h, c⟩
  · rw [if_neg c] at h; cases h
theorem xor_top (x : Nat) (hx : x < 18446744073709551616) : x ^^^ 9223372036854775808 = if x < 9223372036854775808 then x + 9223372036854775808 else x - 9223372036854775808 := by
  have e1 : (x ^^^ 9223372036854775808) % 2 ^ 63 = x % 2 ^ 63 := by
    rw [Nat.xor_mod_two_pow]; simp
  have e2 : (x ^^^ 9223372036854775808) / 2 ^ 63 = (x / 2 ^ 63) ^^^ 1 := by
    rw [Nat.xor_div_two_pow]
  have e3 : x / 2 ^ 63 = 0 ∨ x / 2 ^ 63 = 1 := by omega
  have e4 := Nat.div_add_mod (x ^^^ 9223372036854775808) (2 ^ 63)
  rcases e3 with e3 | e3
  · rw [e1, e2, e3] at e4
    rw [if_pos (by omega)]
    simp at e4
    omega
  · rw [e1, e2, e3] at e4
    rw [if_neg (by omega)]
    simp at e4
    omega
theorem xor_all (x : Nat) (hx : x < 18446744073709551616) : 18446744073709551615 ^^^ x = 18446744073709551615 - x := by
  have h : (BitVec.allOnes 64 ^^^ BitVec.ofNat 64 x) = ~~~ (BitVec.ofNat 64 x) := BitVec.allOnes_xor
  have h2 := congrArg BitVec.toNat h
  rw [BitVec.toNat_xor, BitVec.toNat_not, BitVec.toNat_allOnes, BitVec.toNat_ofNat, Nat.mod_eq_of_lt (show x < 2 ^ 64 from hx)] at h2
  exact h2
theorem bits_xor_nat (x y : Nat) (hx : x < 2 ^ 64) (hy : y < 2 ^ 64) : Go.bits .xor .u64 (x : Int) (y : Int) = ((x ^^^ y : Nat) : Int) := by
  show IntKind.u64.wrap (((BitVec.ofInt 64 (x : Int) ^^^ BitVec.ofInt 64 (y : Int)).toNat : Nat) : Int) = _
  have hlt : x ^^^ y < 2 ^ 64 := Nat.xor_lt_two_pow hx hy
  have : (BitVec.ofInt 64 (x : Int) ^^^ BitVec.ofInt 64 (y : Int)).toNat = x ^^^ y := by
    simp [BitVec.toNat_xor, Nat.mod_eq_of_lt hx, Nat.mod_eq_of_lt hy]
  rw [this, wrap_u64]
  omega
theorem xor_sign (b : Int) (h0 : 0 ≤ b) (h1 : b < 18446744073709551616) : Go.bits .xor .u64 b 9223372036854775808 = if b < 9223372036854775808 then b + 9223372036854775808 else b - 9223372036854775808 := by
  obtain ⟨n, rfl⟩ := Int.eq_ofNat_of_zero_le h0
  have := bits_xor_nat n 9223372036854775808 (by omega) (by decide)
  rw [show ((9223372036854775808 : Nat) : Int) = 9223372036854775808 from rfl, xor_top n (by omega)] at this
  rw [this]
  split <;> split <;> omega
theorem neg_float (b : Int) (h0 : 0 ≤ b) (h1 : b < 18446744073709551616) : ((Op.negFloat .f64 b.toNat : Nat) : Int) = if b < 9223372036854775808 then b + 9223372036854775808 else b - 9223372036854775808 := by
  obtain ⟨n, rfl⟩ := Int.eq_ofNat_of_zero_le h0
  have e : Op.negFloat .f64 (n : Int).toNat = n ^^^ 9223372036854775808 := rfl
  rw [e, xor_top n (by omega)]
  split <;> split <;> omega
theorem xor_max (b : Int) (h0 : 0 ≤ b) (h1 : b < 18446744073709551616) : Go.bits .xor .u64 (IntKind.max .u64) b = 18446744073709551615 - b := by
  obtain ⟨n, rfl⟩ := Int.eq_ofNat_of_zero_le h0
  have := bits_xor_nat 18446744073709551615 n (by decide) (by omega)
  rw [xor_all n (by omega)] at this
  have e : IntKind.max .u64 = ((18446744073709551615 : Nat) : Int) := by decide
  rw [e, this]
  omega
theorem and_mask (b : Int) (w : Nat) (h0 : 0 ≤ b) (h1 : b < 18446744073709551616) (hw : w ≤ 64) : Go.bits .and .u64 b (2 ^ w - 1 : Int) = b % 2 ^ w := by
  obtain ⟨n, rfl⟩ := Int.eq_ofNat_of_zero_le h0
  have hp : (2 : Nat) ^ w ≤ 2 ^ 64 := Nat.pow_le_pow_right (by decide) hw
  have hp0 : 0 < (2 : Nat) ^ w := Nat.two_pow_pos w
  have e : (2 ^ w - 1 : Int) = ((2 ^ w - 1 : Nat) : Int) := by
    rw [Int.ofNat_sub hp0]; simp
  rw [e, bits_and_nat n (2 ^ w - 1) (by omega) (by omega), Nat.and_two_pow_sub_one_eq_mod]
  simp
/-- The value with the other sign (op 15), or turned (op 16): kind, bits, text, fault. -/
def turnV (op k b : Int) (t : ByteArray) : Int × Int × ByteArray × Int :=
  if mayB k b t = false then (0, 0, ⟨#[]⟩, 8)
  else if op = 15 ∧ signedB k = true then
    (if (-9223372036854775808 ≤ 0 - wrap64 b ∧ 0 - wrap64 b ≤ 9223372036854775807) ∧ fitsB k ((0 - wrap64 b) % 18446744073709551616) = true then (k, (0 - wrap64 b) % 18446744073709551616, ⟨#[]⟩, 0) else (0, 0, ⟨#[]⟩, 1))
  else if op = 15 ∧ k = 18 then (18, if nanB b = true then 9221120237041090561 else if b < 9223372036854775808 then b + 9223372036854775808 else b - 9223372036854775808, ⟨#[]⟩, 0)
  else if op = 16 ∧ k = 1 then (1, 1 - b, ⟨#[]⟩, 0)
  else if op = 16 ∧ 10 ≤ k ∧ k ≤ 13 then (k, if k = 10 then 255 - b else if k = 11 then 65535 - b else if k = 12 then 4294967295 - b else 18446744073709551615 - b, ⟨#[]⟩, 0)
  else (0, 0, ⟨#[]⟩, 8)
theorem may_mk {k b : Int} (hk : k ≠ 18) (hk2 : k ≠ 19) (h : fitsB k b = true) : mayB k b ⟨#[]⟩ = true := by rw [mayB_empty k b hk hk2]; exact h
theorem turn_twice (op a b : Int) (t : ByteArray) (h0 : 0 ≤ b) (h1 : b < 18446744073709551616) (hf : (turnV op a b t).2.2.2 = 0) :
    turnV op (turnV op a b t).1 (turnV op a b t).2.1 (turnV op a b t).2.2.1 = (a, b, ⟨#[]⟩, 0) ∧ t.toList = ([] : List UInt8) ∧ 0 ≤ (turnV op a b t).2.1 ∧ (turnV op a b t).2.1 < 18446744073709551616 := by
  unfold turnV at hf
  by_cases hm : mayB a b t = false
  · rw [if_pos hm] at hf; exact absurd hf (by decide)
  rw [if_neg hm] at hf
  have hm' : mayB a b t = true := by simpa using hm
  by_cases c1 : op = 15 ∧ signedB a = true
  · rw [if_pos c1] at hf
    have k18 : a ≠ 18 := by intro e; subst e; exact absurd c1.2 (by decide)
    have k19 : a ≠ 19 := by intro e; subst e; exact absurd c1.2 (by decide)
    obtain ⟨hfit, ht⟩ := may_fits hm' k18 k19
    by_cases c2 : (-9223372036854775808 ≤ 0 - wrap64 b ∧ 0 - wrap64 b ≤ 9223372036854775807) ∧ fitsB a ((0 - wrap64 b) % 18446744073709551616) = true
    · have e : turnV op a b t = (a, (0 - wrap64 b) % 18446744073709551616, ⟨#[]⟩, 0) := by unfold turnV; rw [if_neg hm, if_pos c1, if_pos c2]
      rw [e]
      refine ⟨?_, ht, by show 0 ≤ (0 - wrap64 b) % 18446744073709551616; omega, by show (0 - wrap64 b) % 18446744073709551616 < 18446744073709551616; omega⟩
      show turnV op a ((0 - wrap64 b) % 18446744073709551616) ⟨#[]⟩ = _
      have w : wrap64 ((0 - wrap64 b) % 18446744073709551616) = 0 - wrap64 b := by
        have := c2.1
        unfold wrap64 at *
        omega
      have w2 : (0 - (0 - wrap64 b)) % 18446744073709551616 = b := by unfold wrap64; omega
      unfold turnV
      rw [if_neg (by rw [may_mk k18 k19 c2.2]; decide), if_pos c1, w, w2, if_pos ⟨by unfold wrap64; omega, hfit⟩]
    · rw [if_neg c2] at hf; exact absurd hf (by decide)
  rw [if_neg c1] at hf
  by_cases c2 : op = 15 ∧ a = 18
  · obtain ⟨rfl, rfl⟩ := c2
    obtain ⟨hq, ht⟩ := may_real hm'
    have s18 : ¬ ((15 : Int) = 15 ∧ signedB 18 = true) := by decide
    cases hn : nanB b
    · have e : turnV 15 18 b t = (18, if b < 9223372036854775808 then b + 9223372036854775808 else b - 9223372036854775808, ⟨#[]⟩, 0) := by
        unfold turnV; rw [if_neg hm, if_neg s18, if_pos ⟨rfl, rfl⟩, hn]; rfl
      rw [e]
      generalize hq2 : (if b < 9223372036854775808 then b + 9223372036854775808 else b - 9223372036854775808) = q
      have hq0 : 0 ≤ q ∧ q < 18446744073709551616 := by rw [← hq2]; split <;> omega
      have hnq : nanB q = false := by
        rw [← hn, ← hq2]; unfold nanB; congr 1; split <;> (simp; omega)
      refine ⟨?_, ht, hq0.1, hq0.2⟩
      show turnV 15 18 q ⟨#[]⟩ = _
      have hmq : mayB 18 q ⟨#[]⟩ = true := by
        unfold mayB
        rw [if_neg (by decide), if_pos empty_toList, if_pos rfl, hnq]; rfl
      unfold turnV
      rw [if_neg (by rw [hmq]; decide), if_neg s18, if_pos ⟨rfl, rfl⟩, hnq]
      have : (if q < 9223372036854775808 then q + 9223372036854775808 else q - 9223372036854775808) = b := by rw [← hq2]; split <;> split <;> omega
      simp [this]
    · have eb := hq hn
      subst eb
      have e : turnV 15 18 9221120237041090561 t = (18, 9221120237041090561, ⟨#[]⟩, 0) := by
        unfold turnV; rw [if_neg hm, if_neg s18, if_pos ⟨rfl, rfl⟩, hn]; rfl
      rw [e]
      refine ⟨?_, ht, by decide, by decide⟩
      show turnV 15 18 9221120237041090561 ⟨#[]⟩ = _
      have hmq : mayB 18 9221120237041090561 ⟨#[]⟩ = true := by
        unfold mayB
        rw [if_neg (by decide), if_pos empty_toList, if_pos rfl]; decide
      unfold turnV
      rw [if_neg (by rw [hmq]; decide), if_neg s18, if_pos ⟨rfl, rfl⟩, hn]; rfl
  rw [if_neg c2] at hf
  by_cases c3 : op = 16 ∧ a = 1
  · obtain ⟨rfl, rfl⟩ := c3
    obtain ⟨hfit, ht⟩ := may_fits hm' (by decide) (by decide)
    have hb : b = 0 ∨ b = 1 := by
      have := of_decide_eq_true hfit
      omega
    have e : turnV 16 1 b t = (1, 1 - b, ⟨#[]⟩, 0) := by unfold turnV; rw [if_neg hm, if_neg (by decide), if_neg (by decide), if_pos ⟨rfl, rfl⟩]
    rw [e]
    refine ⟨?_, ht, by show 0 ≤ 1 - b; omega, by show 1 - b < _; omega⟩
    show turnV 16 1 (1 - b) ⟨#[]⟩ = _
    have hfit2 : fitsB 1 (1 - b) = true := by rcases hb with rfl | rfl <;> decide
    unfold turnV
    rw [if_neg (by rw [may_mk (by decide) (by decide) hfit2]; decide), if_neg (by decide), if_neg (by decide), if_pos ⟨rfl, rfl⟩]
    have : 1 - (1 - b) = b := by omega
    rw [this]
  rw [if_neg c3] at hf
  by_cases c4 : op = 16 ∧ 10 ≤ a ∧ a ≤ 13
  · obtain ⟨rfl, r1, r2⟩ := c4
    obtain ⟨hfit, ht⟩ := may_fits hm' (by omega) (by omega)
    have hb := of_decide_eq_true hfit
    generalize hM : (if a = 10 then (255 : Int) - b else if a = 11 then 65535 - b else if a = 12 then 4294967295 - b else 18446744073709551615 - b) = q
    have e : turnV 16 a b t = (a, q, ⟨#[]⟩, 0) := by unfold turnV; rw [if_neg hm, if_neg c1, if_neg c2, if_neg c3, if_pos ⟨rfl, r1, r2⟩, hM]
    have hq : 0 ≤ q ∧ q < 18446744073709551616 ∧ fitsB a q = true ∧ (if a = 10 then (255 : Int) - q else if a = 11 then 65535 - q else if a = 12 then 4294967295 - q else 18446744073709551615 - q) = b := by
      have ka : a = 10 ∨ a = 11 ∨ a = 12 ∨ a = 13 := by omega
      rcases ka with rfl | rfl | rfl | rfl
      all_goals
        simp at hM
        refine ⟨by omega, by omega, decide_eq_true (by omega), by simp; omega⟩
    rw [e]
    refine ⟨?_, ht, hq.1, hq.2.1⟩
    show turnV 16 a q ⟨#[]⟩ = _
    unfold turnV
    rw [if_neg (by rw [may_mk (by omega) (by omega) hq.2.2.1]; decide), if_neg c1, if_neg c2, if_neg c3, if_pos ⟨rfl, r1, r2⟩, hq.2.2.2]
  rw [if_neg c4] at hf
  exact absurd hf (by decide)
end Go.Proofs.Ytmnaeoljpajomaa.Plain
