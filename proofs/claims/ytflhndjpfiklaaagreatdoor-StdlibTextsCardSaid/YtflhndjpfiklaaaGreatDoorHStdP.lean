/- Plain facts for bit rows turned round: turned round and back is the row. No program in sight; no condition. -/
import Derived.Test.YtflhndjpfiklaaaGreatDoorHPlain
namespace Go.Proofs.YtflhndjpfiklaaaGreatDoor.Plain
set_option linter.unusedSimpArgs false
set_option linter.unusedVariables false
open Go.RowKit
/-- A row of w bits turned round by k bits to the higher ones. -/
def rotN (w x k : Nat) : Nat := (x % 2 ^ (w - k)) * 2 ^ k + x / 2 ^ (w - k)
theorem rotN_zero (w x : Nat) (hx : x < 2 ^ w) : rotN w x 0 = x := by
  simp [rotN, Nat.mod_eq_of_lt hx, Nat.div_eq_of_lt hx]
theorem rot_high {w x k : Nat} (hk : k ≤ w) (hx : x < 2 ^ w) : x / 2 ^ (w - k) < 2 ^ k := by
  rw [Nat.div_lt_iff_lt_mul (Nat.two_pow_pos _), ← Nat.pow_add]
  rwa [show k + (w - k) = w by omega]
theorem rotN_lt {w x k : Nat} (hk : k ≤ w) (hx : x < 2 ^ w) : rotN w x k < 2 ^ w := by
  unfold rotN
  have h1 := rot_high hk hx
  have h2 : x % 2 ^ (w - k) < 2 ^ (w - k) := Nat.mod_lt _ (Nat.two_pow_pos _)
  have h3 : 2 ^ (w - k) * 2 ^ k = 2 ^ w := by rw [← Nat.pow_add]; congr 1; omega
  have h4 : (x % 2 ^ (w - k) + 1) * 2 ^ k ≤ 2 ^ (w - k) * 2 ^ k := Nat.mul_le_mul_right _ h2
  rw [Nat.add_mul] at h4
  omega
theorem rotN_back {w x k : Nat} (h0 : 0 < k) (hk : k < w) (hx : x < 2 ^ w) : rotN w (rotN w x k) (w - k) = x := by
  have h1 := rot_high (Nat.le_of_lt hk) hx
  have e1 : w - (w - k) = k := by omega
  have e2 : rotN w x k % 2 ^ k = x / 2 ^ (w - k) := by
    unfold rotN
    rw [Nat.add_comm, Nat.add_mul_mod_self_right, Nat.mod_eq_of_lt h1]
  have e3 : rotN w x k / 2 ^ k = x % 2 ^ (w - k) := by
    unfold rotN
    rw [Nat.add_comm, Nat.add_mul_div_right _ _ (Nat.two_pow_pos _), Nat.div_eq_of_lt h1, Nat.zero_add]
  show (rotN w x k % 2 ^ (w - (w - k))) * 2 ^ (w - k) + rotN w x k / 2 ^ (w - (w - k)) = x
  rw [e1, e2, e3, Nat.mul_comm]
  exact Nat.div_add_mod x (2 ^ (w - k))
/-- Shifts, or and mask: what the program reckons. -/
theorem rot_bits {w x k : Nat} (hk : k ≤ w) (hx : x < 2 ^ w) : ((x <<< k) ||| (x >>> (w - k))) &&& (2 ^ w - 1) = rotN w x k := by
  have h1 := rot_high hk hx
  rw [Nat.shiftRight_eq_div_pow, ← Nat.shiftLeft_add_eq_or_of_lt h1, Nat.and_two_pow_sub_one_eq_mod, Nat.shiftLeft_eq]
  unfold rotN
  have h3 : 2 ^ (w - k) * 2 ^ k = 2 ^ w := by rw [← Nat.pow_add]; congr 1; omega
  have e : x * 2 ^ k + x / 2 ^ (w - k) = ((x % 2 ^ (w - k)) * 2 ^ k + x / 2 ^ (w - k)) + 2 ^ w * (x / 2 ^ (w - k)) := by
    have := Nat.div_add_mod x (2 ^ (w - k))
    have e2 : x * 2 ^ k = (2 ^ (w - k) * (x / 2 ^ (w - k)) + x % 2 ^ (w - k)) * 2 ^ k := by rw [this]
    rw [e2, Nat.add_mul, ← h3]
    rw [Nat.mul_assoc, Nat.mul_comm (x / 2 ^ (w - k)) (2 ^ k), ← Nat.mul_assoc]
    omega
  rw [e, Nat.add_mul_mod_self_left]
  have hlt := rotN_lt hk hx
  unfold rotN at hlt
  exact Nat.mod_eq_of_lt hlt
/-- Turned to the higher bits, then to the lower ones, by one count. -/
theorem rot_there {w x n : Nat} (hw : 0 < w) (hx : x < 2 ^ w) : rotN w (rotN w x (n % w)) ((w - n % w) % w) = x := by
  have hk : n % w < w := Nat.mod_lt _ hw
  by_cases h0 : n % w = 0
  · rw [h0, Nat.sub_zero, Nat.mod_self, rotN_zero w x hx, rotN_zero w x hx]
  · rw [Nat.mod_eq_of_lt (by omega : w - n % w < w)]
    exact rotN_back (by omega) hk hx
theorem bits_or_nat (x y : Nat) (hx : x < 2 ^ 64) (hy : y < 2 ^ 64) : Go.bits .or .u64 (x : Int) (y : Int) = ((x ||| y : Nat) : Int) := by
  show IntKind.u64.wrap (((BitVec.ofInt 64 (x : Int) ||| BitVec.ofInt 64 (y : Int)).toNat : Nat) : Int) = _
  have hlt : x ||| y < 2 ^ 64 := Nat.or_lt_two_pow hx hy
  have : (BitVec.ofInt 64 (x : Int) ||| BitVec.ofInt 64 (y : Int)).toNat = x ||| y := by
    simp [BitVec.toNat_or, Nat.mod_eq_of_lt hx, Nat.mod_eq_of_lt hy]
  rw [this]
  simp only [IntKind.wrap, IntKind.signed, IntKind.bits]
  simp
  omega
theorem and63 (k : Int) (h0 : 0 ≤ k) (h1 : k < 64) : Go.bits .and .u64 k 63 = k := by
  obtain ⟨n, rfl⟩ := Int.eq_ofNat_of_zero_le h0
  have := bits_and_nat n 63 (by omega) (by decide)
  rw [show (63 : Nat) = 2 ^ 6 - 1 by decide, Nat.and_two_pow_sub_one_eq_mod] at this
  rw [show ((2 ^ 6 - 1 : Nat) : Int) = 63 by decide] at this
  rw [this]; omega
theorem shl_nat (x n : Nat) : IntKind.u64.wrap ((x : Int) * 2 ^ n) = ((x * 2 ^ n % 2 ^ 64 : Nat) : Int) := by
  have e : ((x : Int) * 2 ^ n) = ((x * 2 ^ n : Nat) : Int) := by push_cast; rfl
  rw [e]
  simp only [IntKind.wrap, IntKind.signed, IntKind.bits]
  simp
theorem shr_nat (x n : Nat) : ((x : Int) / 2 ^ n) = ((x / 2 ^ n : Nat) : Int) := by push_cast; rfl
/-- Sixty-four bits turned round. -/
theorem rot64 (x k : Int) (hx0 : 0 ≤ x) (hx : x < 18446744073709551616) (hk0 : 0 ≤ k) (hk : k ≤ 64) : Go.bits .or .u64 (IntKind.u64.wrap (x * 2 ^ k.toNat)) (x / 2 ^ (64 - k).toNat) = rotN 64 x.toNat k.toNat := by
  obtain ⟨x, rfl⟩ := Int.eq_ofNat_of_zero_le hx0
  obtain ⟨k, rfl⟩ := Int.eq_ofNat_of_zero_le hk0
  have hx' : x < 2 ^ 64 := by omega
  have hk' : k ≤ 64 := by omega
  rw [show ((64 : Int) - k).toNat = 64 - k by omega, Int.toNat_natCast, Int.toNat_natCast, shl_nat, shr_nat, bits_or_nat _ _ (Nat.mod_lt _ (by decide)) (by exact Nat.lt_of_le_of_lt (Nat.div_le_self _ _) hx')]
  have h := rot_bits (w := 64) hk' hx'
  rw [← h, Nat.and_two_pow_sub_one_eq_mod, Nat.or_mod_two_pow, Nat.shiftLeft_eq, Nat.shiftRight_eq_div_pow, Nat.mod_eq_of_lt (a := x / 2 ^ (64 - k)) (Nat.lt_of_le_of_lt (Nat.div_le_self _ _) hx')]
/-- A row of fewer bits turned round. -/
theorem rot_row (w : Nat) (hw : w ≤ 32) (m : Int) (hm : m = ((2 ^ w - 1 : Nat) : Int)) (x k : Int) (hx0 : 0 ≤ x) (hx : x < ((2 ^ w : Nat) : Int)) (hk0 : 0 ≤ k) (hk : k ≤ w) : Go.bits .and .u64 (Go.bits .or .u64 (IntKind.u64.wrap (x * 2 ^ k.toNat)) (x / 2 ^ ((w : Int) - k).toNat)) m = rotN w x.toNat k.toNat := by
  obtain ⟨x, rfl⟩ := Int.eq_ofNat_of_zero_le hx0
  obtain ⟨k, rfl⟩ := Int.eq_ofNat_of_zero_le hk0
  have hx' : x < 2 ^ w := by omega
  have hk' : k ≤ w := by omega
  have hp : (2 : Nat) ^ w ≤ 2 ^ 32 := Nat.pow_le_pow_right (by decide) hw
  have hkp : (2 : Nat) ^ k ≤ 2 ^ 32 := Nat.pow_le_pow_right (by decide) (by omega)
  have hs : x * 2 ^ k < 2 ^ 64 := by
    have h1 : x * 2 ^ k ≤ x * 2 ^ 32 := Nat.mul_le_mul_left _ hkp
    have h2 : x < 2 ^ 32 := by omega
    omega
  have hd : x / 2 ^ (w - k) < 2 ^ 64 := by have := Nat.div_le_self x (2 ^ (w - k)); omega
  subst hm
  rw [show ((w : Int) - k).toNat = w - k by omega, Int.toNat_natCast, Int.toNat_natCast, shl_nat, shr_nat, Nat.mod_eq_of_lt hs, bits_or_nat _ _ hs hd, bits_and_nat _ _ (Nat.or_lt_two_pow hs hd) (by omega)]
  have h := rot_bits (w := w) hk' hx'
  rw [← h, Nat.shiftLeft_eq, Nat.shiftRight_eq_div_pow]
end Go.Proofs.YtflhndjpfiklaaaGreatDoor.Plain
