/- Plain facts on floats made whole: the nearest whole number of a word's number, and the word of that. No program in sight; no condition but that words are 64 bits. -/
import Derived.Test.YtlmmkaddlflepaaGreatDoorHPlain
namespace Go.Proofs.YtlmmkaddlflepaaGreatDoor.Plain
set_option linter.unusedSimpArgs false
set_option linter.unusedVariables false
open Go Go.RowKit
open Ieee

/-- A number's nearest whole number behind the point is moved by some places; the even one between two. -/
def cutE (m s : Nat) : Nat := m / 2 ^ s + (if 2 ^ s < 2 * (m % 2 ^ s) ∨ (2 ^ s = 2 * (m % 2 ^ s) ∧ m / 2 ^ s % 2 = 1) then 1 else 0)
/-- The size of a word's number made whole, by its exponent field and its fraction field. -/
def magE (ex fr : Nat) : Nat := if ex = 0 then 0 else if 1075 ≤ ex then (4503599627370496 + fr) * 2 ^ (ex - 1075) else if 1021 ≤ ex then cutE (4503599627370496 + fr) (1075 - ex) else 0

theorem read_at (sg ex fr : Nat) (h1 : sg < 2) (h2 : ex < 2047) (h3 : fr < 4503599627370496) :
    Ieee.double.read (sg * 9223372036854775808 + ex * 4503599627370496 + fr) = if ex = 0 then .number (sg == 1) fr (-1074) else .number (sg == 1) (4503599627370496 + fr) ((ex : Int) - 1075) := by
  have rd : ∀ n, Ieee.double.read n = (if n % 9223372036854775808 < 4503599627370496 then .number (n / 9223372036854775808 % 2 == 1) (n % 9223372036854775808) Ieee.double.leastPlace
      else if n % 9223372036854775808 < 9218868437227405312 then .number (n / 9223372036854775808 % 2 == 1) (4503599627370496 + n % 9223372036854775808 % 4503599627370496) (Ieee.double.leastPlace + (n % 9223372036854775808 / 4503599627370496 - 1 : Nat))
      else if n % 9223372036854775808 = 9218868437227405312 then .infinity (n / 9223372036854775808 % 2 == 1) else .nan (n / 9223372036854775808 % 2 == 1) (n % 9223372036854775808 - 9218868437227405312)) := fun n => rfl
  have lp : Ieee.double.leastPlace = -1074 := by decide
  rw [rd, lp]
  generalize hn : sg * 9223372036854775808 + ex * 4503599627370496 + fr = n
  have e1 : n % 9223372036854775808 = ex * 4503599627370496 + fr := by omega
  have e2 : n / 9223372036854775808 % 2 = sg := by omega
  rw [e1, e2]
  by_cases c : ex = 0
  · subst c
    rw [if_pos (by omega), if_pos rfl]
    congr 1
    omega
  · rw [if_neg (by omega), if_pos (by omega), if_neg c]
    have e3 : (ex * 4503599627370496 + fr) % 4503599627370496 = fr := by omega
    have e4 : (ex * 4503599627370496 + fr) / 4503599627370496 = ex := by omega
    rw [e3, e4]
    congr 1
    omega
theorem log2_52 {m : Nat} (h1 : 4503599627370496 ≤ m) (h2 : m < 9007199254740992) : m.log2 = 52 := by
  have h0 : m ≠ 0 := by omega
  have a : 52 ≤ m.log2 := (Nat.le_log2 h0).2 (by have e : (2 : Nat) ^ 52 = 4503599627370496 := (by decide); omega)
  have b : m.log2 < 53 := (Nat.log2_lt h0).2 (by have e : (2 : Nat) ^ 53 = 9007199254740992 := (by decide); omega)
  omega
theorem cut_none (s : Bool) (n : Nat) : Toward.even.cut s n 0 = n := by
  unfold Toward.cut
  simp
  omega
theorem cut_some (s : Bool) {m : Nat} (h1 : 4503599627370496 ≤ m) (h2 : m < 9007199254740992) {d : Nat} (hd : d ≤ 54) : Toward.even.cut s m d = cutE m d := by
  unfold Toward.cut cutE
  rw [log2_52 h1 h2, Nat.min_eq_left (by omega), Nat.shiftLeft_eq, Nat.one_mul]
  simp only [beq_iff_eq, Bool.decide_or, Bool.decide_and, decide_eq_true_eq]
  by_cases c : 2 ^ d < 2 * (m % 2 ^ d) ∨ (2 ^ d = 2 * (m % 2 ^ d) ∧ m / 2 ^ d % 2 = 1)
  · rw [if_pos c]
    congr 1
    have : (decide (2 ^ d < 2 * (m % 2 ^ d)) || (2 ^ d == 2 * (m % 2 ^ d) && m / 2 ^ d % 2 == 1)) = true := by simpa using c
    rw [this]; rfl
  · rw [if_neg c]
    congr 1
    have : (decide (2 ^ d < 2 * (m % 2 ^ d)) || (2 ^ d == 2 * (m % 2 ^ d) && m / 2 ^ d % 2 == 1)) = false := by
      cases h : (decide (2 ^ d < 2 * (m % 2 ^ d)) || (2 ^ d == 2 * (m % 2 ^ d) && m / 2 ^ d % 2 == 1)) with
      | false => rfl
      | true => exact absurd (by simpa using h) c
    rw [this]; rfl
theorem cut_all (s : Bool) {n d : Nat} (hd : n.log2 + 2 ≤ d) : Toward.even.cut s n d = 0 := by
  unfold Toward.cut
  rw [Nat.min_eq_right hd, Nat.shiftLeft_eq, Nat.one_mul]
  have h1 : n < 2 ^ (n.log2 + 1) := Nat.lt_log2_self
  have h2 : 2 ^ (n.log2 + 2) = 2 * 2 ^ (n.log2 + 1) := by rw [Nat.pow_succ 2 (n.log2 + 1)]; omega
  have e1 : n / 2 ^ (n.log2 + 2) = 0 := Nat.div_eq_of_lt (by omega)
  have e2 : n % 2 ^ (n.log2 + 2) = n := Nat.mod_eq_of_lt (by omega)
  simp only [e1, e2]
  have e3 : (decide (2 ^ (n.log2 + 2) < 2 * n)) = false := decide_eq_false (by omega)
  have e4 : (2 ^ (n.log2 + 2) == 2 * n) = false := by
    cases h : (2 ^ (n.log2 + 2) == 2 * n) with
    | false => rfl
    | true => have := beq_iff_eq.1 h; omega
  rw [e3, e4]; rfl
theorem cut_frac {m : Nat} (h1 : 4503599627370496 ≤ m) (h2 : m < 9007199254740992) {d : Nat} (h0 : 1 ≤ d) : cutE m d ≤ 4503599627370496 := by
  unfold cutE
  have e : 2 ^ d = 2 * 2 ^ (d - 1) := by rw [← Nat.pow_succ']; congr 1; omega
  have hp : 1 ≤ 2 ^ (d - 1) := Nat.one_le_two_pow
  have hq : m / 2 ^ d ≤ m / 2 := Nat.div_le_div_left (by omega) (by omega)
  have hr : m % 2 ^ d < 2 ^ d := Nat.mod_lt _ (by omega)
  by_cases c : m / 2 ^ d = 4503599627370495
  · split <;> omega
  · split <;> omega
theorem integral_at (sg ex fr : Nat) (h1 : sg < 2) (h2 : ex < 2047) (h3 : fr < 4503599627370496) :
    (Ieee.double.read (sg * 9223372036854775808 + ex * 4503599627370496 + fr)).integral .even = .number (sg == 1) (magE ex fr) 0 := by
  rw [read_at sg ex fr h1 h2 h3]
  unfold magE
  by_cases c : ex = 0
  · rw [if_pos c, if_pos c]
    simp only [Datum.integral]
    rw [cut_all]
    have e : fr <<< (-1074 : Int).toNat = fr := by rw [show (-1074 : Int).toNat = 0 from rfl]; rfl
    rw [e]
    have : (-(-1074 : Int)).toNat = 1074 := by decide
    rw [this]
    by_cases z : fr = 0
    · subst z; decide
    · have : fr.log2 < 52 := (Nat.log2_lt z).2 (by have e : (2 : Nat) ^ 52 = 4503599627370496 := (by decide); omega)
      omega
  · rw [if_neg c, if_neg c]
    simp only [Datum.integral]
    by_cases d : 1075 ≤ ex
    · rw [if_pos d, show ((ex : Int) - 1075).toNat = ex - 1075 by omega, show (-((ex : Int) - 1075)).toNat = 0 by omega, cut_none, Nat.shiftLeft_eq]
    · rw [if_neg d, show ((ex : Int) - 1075).toNat = 0 by omega, show (-((ex : Int) - 1075)).toNat = 1075 - ex by omega, Nat.shiftLeft_zero]
      by_cases f : 1021 ≤ ex
      · rw [if_pos f, cut_some _ (by omega) (by omega) (by omega)]
      · rw [if_neg f, cut_all]; rw [log2_52 (by omega) (by omega)]; omega

/-- What a whole number's word is made of: where its first digit stands, and 53 digits. -/
theorem nearest_small (s : Bool) (M : Nat) (h0 : M ≠ 0) (hL : M.log2 ≤ 52) : Ieee.double.nearest s M 0 = Ieee.double.word s ((M.log2 + 1022) * 4503599627370496 + M * 2 ^ (52 - M.log2)) ∧ 4503599627370496 ≤ M * 2 ^ (52 - M.log2) ∧ M * 2 ^ (52 - M.log2) < 9007199254740992 := by
  have a : 2 ^ M.log2 ≤ M := Nat.log2_self_le h0
  have b : M < 2 ^ (M.log2 + 1) := Nat.lt_log2_self
  have p : 2 ^ M.log2 * 2 ^ (52 - M.log2) = 4503599627370496 := by rw [← Nat.pow_add, show M.log2 + (52 - M.log2) = 52 by omega]
  have q : 2 ^ (M.log2 + 1) * 2 ^ (52 - M.log2) = 9007199254740992 := by rw [← Nat.pow_add, show M.log2 + 1 + (52 - M.log2) = 53 by omega]
  have k1 : 4503599627370496 ≤ M * 2 ^ (52 - M.log2) := by rw [← p]; exact Nat.mul_le_mul_right _ a
  have k2 : M * 2 ^ (52 - M.log2) < 9007199254740992 := by rw [← q]; exact Nat.mul_lt_mul_of_pos_right b (Nat.two_pow_pos _)
  refine ⟨?_, k1, k2⟩
  have lp : Ieee.double.leastPlace = -1074 := by decide
  have fb : Ieee.double.fractionBits = 52 := rfl
  have ir : Ieee.double.infRung = 9218868437227405312 := by decide
  have bn : Ieee.double.binade = 4503599627370496 := by decide
  unfold Ieee.Format.nearest
  rw [if_neg h0, lp, fb, ir, bn]
  have el : max ((0 : Int) + M.log2 - (52 : Nat)) (-1074) = (M.log2 : Int) - 52 := by omega
  simp only [el]
  rw [show ((0 : Int) - ((M.log2 : Int) - 52)).toNat = 52 - M.log2 by omega, show (((M.log2 : Int) - 52) - 0).toNat = 0 by omega, cut_none, Nat.shiftLeft_eq, show (((M.log2 : Int) - 52) - -1074).toNat = M.log2 + 1022 by omega,
    Nat.min_eq_left (by omega)]
theorem log2_shift {m : Nat} (h1 : 4503599627370496 ≤ m) (h2 : m < 9007199254740992) (i : Nat) : (m * 2 ^ i).log2 = 52 + i := by
  have h0 : m * 2 ^ i ≠ 0 := by have := Nat.two_pow_pos i; exact Nat.mul_ne_zero (by omega) (by omega)
  have a : 52 + i ≤ (m * 2 ^ i).log2 := (Nat.le_log2 h0).2 (by
    rw [Nat.pow_add]; exact Nat.mul_le_mul_right _ (by have e : (2 : Nat) ^ 52 = 4503599627370496 := (by decide); omega))
  have b : (m * 2 ^ i).log2 < 53 + i := (Nat.log2_lt h0).2 (by
    rw [Nat.pow_add]; exact Nat.mul_lt_mul_of_pos_right (by have e : (2 : Nat) ^ 53 = 9007199254740992 := (by decide); omega) (Nat.two_pow_pos _))
  omega
theorem nearest_great (s : Bool) {m : Nat} (h1 : 4503599627370496 ≤ m) (h2 : m < 9007199254740992) (i : Nat) (hi : i ≤ 971) : Ieee.double.nearest s (m * 2 ^ i) 0 = Ieee.double.word s ((52 + i + 1022) * 4503599627370496 + m) := by
  have h0 : m * 2 ^ i ≠ 0 := by have := Nat.two_pow_pos i; exact Nat.mul_ne_zero (by omega) (by omega)
  have lp : Ieee.double.leastPlace = -1074 := by decide
  have fb : Ieee.double.fractionBits = 52 := rfl
  have ir : Ieee.double.infRung = 9218868437227405312 := by decide
  have bn : Ieee.double.binade = 4503599627370496 := by decide
  unfold Ieee.Format.nearest
  rw [if_neg h0, lp, fb, ir, bn, log2_shift h1 h2 i]
  have el : max ((0 : Int) + ((52 + i : Nat) : Int) - (52 : Nat)) (-1074) = (i : Int) := by omega
  simp only [el]
  rw [show ((0 : Int) - (i : Int)).toNat = 0 by omega, show ((i : Int) - 0).toNat = i by omega, Nat.shiftLeft_zero, show ((i : Int) - -1074).toNat = i + 1074 by omega]
  have ec : Toward.even.cut s (m * 2 ^ i) i = m := by
    unfold Toward.cut
    rw [log2_shift h1 h2 i, Nat.min_eq_left (by omega), Nat.shiftLeft_eq, Nat.one_mul]
    have e1 : m * 2 ^ i / 2 ^ i = m := Nat.mul_div_cancel _ (Nat.two_pow_pos _)
    have e2 : m * 2 ^ i % 2 ^ i = 0 := Nat.mul_mod_left _ _
    simp only [e1, e2]
    have e3 : (decide (2 ^ i < 2 * 0)) = false := decide_eq_false (by omega)
    have e4 : (2 ^ i == 2 * 0) = false := by
      have := Nat.two_pow_pos i
      cases h : (2 ^ i == 2 * 0) with
      | false => rfl
      | true => have := beq_iff_eq.1 h; omega
    rw [e3, e4]; rfl
  rw [ec, show i + 1074 = 52 + i + 1022 by omega, Nat.min_eq_left (by omega)]
/-- The word of a number made whole reads as a number of 53 digits. -/
theorem whole_word (sg ex fr : Nat) (h1 : sg < 2) (h2 : ex < 2047) (h3 : fr < 4503599627370496) (hz : magE ex fr ≠ 0) :
    ∃ L K : Nat, Ieee.double.nearest (sg == 1) (magE ex fr) 0 = sg * 9223372036854775808 + ((L + 1023) * 4503599627370496 + (K - 4503599627370496)) ∧ 4503599627370496 ≤ K ∧ K < 9007199254740992 ∧ L ≤ 1023 ∧
      ((52 ≤ L ∧ magE ex fr = K * 2 ^ (L - 52)) ∨ (L < 52 ∧ K = magE ex fr * 2 ^ (52 - L))) := by
  have hw : ∀ r, Ieee.double.word (sg == 1) r = sg * 9223372036854775808 + r := fun r => by
    have e2 : Ieee.double.signWeight = 9223372036854775808 := by decide
    unfold Ieee.Format.word
    rw [e2]
    have : sg = 0 ∨ sg = 1 := by omega
    rcases this with rfl | rfl <;> simp
  by_cases d : 1075 ≤ ex
  · have hm : magE ex fr = (4503599627370496 + fr) * 2 ^ (ex - 1075) := by unfold magE; rw [if_neg (by omega), if_pos d]
    refine ⟨52 + (ex - 1075), 4503599627370496 + fr, ?_, by omega, by omega, by omega, .inl ⟨by omega, ?_⟩⟩
    · rw [hm, nearest_great _ (by omega) (by omega) _ (by omega), hw]; omega
    · rw [hm, show 52 + (ex - 1075) - 52 = ex - 1075 by omega]
  · have hl : magE ex fr ≤ 4503599627370496 := by
      unfold magE
      by_cases c : ex = 0
      · rw [if_pos c]; omega
      · rw [if_neg c, if_neg d]
        by_cases f : 1021 ≤ ex
        · rw [if_pos f]; exact cut_frac (by omega) (by omega) (by omega)
        · rw [if_neg f]; omega
    have hL : (magE ex fr).log2 ≤ 52 := by
      have := (Nat.log2_lt hz (k := 53)).2 (by have e : (2 : Nat) ^ 53 = 9007199254740992 := (by decide); omega)
      omega
    obtain ⟨n1, n2, n3⟩ := nearest_small (sg == 1) (magE ex fr) hz hL
    refine ⟨(magE ex fr).log2, magE ex fr * 2 ^ (52 - (magE ex fr).log2), ?_, n2, n3, by omega, ?_⟩
    · rw [n1, hw]; omega
    · by_cases e : (magE ex fr).log2 = 52
      · left; rw [e]; simp
      · right; exact ⟨by omega, rfl⟩
theorem whole_zero (sg ex fr : Nat) (h1 : sg < 2) (hz : magE ex fr = 0) : Ieee.double.nearest (sg == 1) (magE ex fr) 0 = sg * 9223372036854775808 := by
  have e2 : Ieee.double.signWeight = 9223372036854775808 := by decide
  unfold Ieee.Format.nearest Ieee.Format.word
  rw [if_pos hz, e2]
  have : sg = 0 ∨ sg = 1 := by omega
  rcases this with rfl | rfl <;> simp
/-- The word of 2 ^ 64. -/
def two64 : Nat := 4895412794951729152
theorem read_two64 : Ieee.double.read two64 = .number false 4503599627370496 12 := by decide +kernel
theorem read_zero : Ieee.double.read 0 = .number false 0 (-1074) := by decide +kernel
theorem read_kl (sg L K : Nat) (h1 : sg < 2) (hL : L ≤ 1023) (hk1 : 4503599627370496 ≤ K) (hk2 : K < 9007199254740992) :
    Ieee.double.read (sg * 9223372036854775808 + ((L + 1023) * 4503599627370496 + (K - 4503599627370496))) = .number (sg == 1) K ((L : Int) - 52) := by
  have := read_at sg (L + 1023) (K - 4503599627370496) h1 (by omega) (by omega)
  rw [if_neg (by omega), show 4503599627370496 + (K - 4503599627370496) = K by omega, show (((L + 1023 : Nat) : Int) - 1075) = (L : Int) - 52 by omega] at this
  rw [← Nat.add_assoc]
  exact this
/-- Is the size of a number made whole below 2 ^ 64? -/
theorem abs_order (ex fr : Nat) (h2 : ex < 2047) (h3 : fr < 4503599627370496) :
    (Ieee.double.order (Ieee.double.nearest false (magE ex fr) 0) two64 == some .gt || Ieee.double.order (Ieee.double.nearest false (magE ex fr) 0) two64 == some .eq) = decide (18446744073709551616 ≤ magE ex fr) := by
  unfold Ieee.Format.order
  rw [read_two64]
  by_cases hz : magE ex fr = 0
  · have := whole_zero 0 ex fr (by omega) hz
    rw [show ((0 : Nat) == 1) = false from rfl] at this
    rw [this, hz, Nat.zero_mul, read_zero]
    decide +kernel
  · obtain ⟨L, K, e, k1, k2, l1, hv⟩ := whole_word 0 ex fr (by omega) h2 h3 hz
    rw [show ((0 : Nat) == 1) = false from rfl] at e
    rw [e, read_kl 0 L K (by omega) l1 k1 k2]
    rw [show ((0 : Nat) == 1) = false from rfl]
    have p12 : (4503599627370496 : Nat) * 2 ^ 12 = 18446744073709551616 := by decide
    simp only [Datum.order, signed, Bool.false_eq_true, if_false]
    by_cases c : 64 ≤ L
    · rw [show min ((L : Int) - 52) 12 = 12 by omega, show ((L : Int) - 52 - 12).toNat = L - 64 by omega, show ((12 : Int) - 12).toNat = 0 by omega, Nat.shiftLeft_zero, Nat.shiftLeft_eq]
      have hM : 18446744073709551616 ≤ magE ex fr := by
        rcases hv with ⟨_, e⟩ | ⟨h, _⟩
        · rw [e, ← p12]; exact Nat.le_trans (Nat.mul_le_mul_left _ (Nat.pow_le_pow_right (by decide) (by omega : 12 ≤ L - 52))) (Nat.mul_le_mul_right _ k1)
        · omega
      rw [decide_eq_true hM]
      have hk : 4503599627370496 ≤ K * 2 ^ (L - 64) := Nat.le_trans k1 (Nat.le_mul_of_pos_right _ (Nat.two_pow_pos _))
      rcases Nat.lt_or_ge 4503599627370496 (K * 2 ^ (L - 64)) with g | g
      · rw [show compare ((K * 2 ^ (L - 64) : Nat) : Int) ((4503599627370496 : Nat) : Int) = .gt from Int.compare_eq_gt.2 (by omega)]; rfl
      · rw [show compare ((K * 2 ^ (L - 64) : Nat) : Int) ((4503599627370496 : Nat) : Int) = .eq from Int.compare_eq_eq.2 (by omega)]; rfl
    · rw [show min ((L : Int) - 52) 12 = (L : Int) - 52 by omega, show ((L : Int) - 52 - ((L : Int) - 52)).toNat = 0 by omega, show ((12 : Int) - ((L : Int) - 52)).toNat = 64 - L by omega, Nat.shiftLeft_zero, Nat.shiftLeft_eq]
      have hM : ¬ 18446744073709551616 ≤ magE ex fr := by
        rcases hv with ⟨h, e⟩ | ⟨h, e⟩
        · rw [e]
          have : K * 2 ^ (L - 52) < 9007199254740992 * 2 ^ 11 := Nat.lt_of_lt_of_le (Nat.mul_lt_mul_of_pos_right k2 (Nat.two_pow_pos _)) (Nat.mul_le_mul_left _ (Nat.pow_le_pow_right (by decide) (by omega)))
          have p11 : (9007199254740992 : Nat) * 2 ^ 11 = 18446744073709551616 := by decide
          omega
        · have : magE ex fr ≤ K := by rw [e]; exact Nat.le_mul_of_pos_right _ (Nat.two_pow_pos _)
          omega
      rw [decide_eq_false hM]
      have hk : K < 4503599627370496 * 2 ^ (64 - L) := by
        have : 2 ^ 1 ≤ 2 ^ (64 - L) := Nat.pow_le_pow_right (by decide) (by omega)
        omega
      rw [show compare ((K : Nat) : Int) ((4503599627370496 * 2 ^ (64 - L) : Nat) : Int) = .lt from Int.compare_eq_lt.2 (by omega)]; rfl
/-- Is a number made whole below nought? -/
theorem neg_order (sg ex fr : Nat) (h1 : sg < 2) (h2 : ex < 2047) (h3 : fr < 4503599627370496) :
    (Ieee.double.order (Ieee.double.nearest (sg == 1) (magE ex fr) 0) 0 == some .lt) = (sg == 1 && decide (0 < magE ex fr)) := by
  unfold Ieee.Format.order
  rw [read_zero]
  by_cases hz : magE ex fr = 0
  · rw [whole_zero sg ex fr h1 hz, hz]
    have : sg = 0 ∨ sg = 1 := by omega
    rcases this with rfl | rfl <;> decide +kernel
  · obtain ⟨L, K, e, k1, k2, l1, hv⟩ := whole_word sg ex fr h1 h2 h3 hz
    rw [e, read_kl sg L K h1 l1 k1 k2, decide_eq_true (Nat.pos_of_ne_zero hz), Bool.and_true]
    simp only [Datum.order, signed]
    rw [show min ((L : Int) - 52) (-1074) = -1074 by omega, show ((-1074 : Int) - -1074).toNat = 0 by decide, Nat.zero_shiftLeft]
    have hp : 0 < K <<< ((L : Int) - 52 - -1074).toNat := by rw [Nat.shiftLeft_eq]; exact Nat.mul_pos (by omega) (Nat.two_pow_pos _)
    generalize K <<< ((L : Int) - 52 - -1074).toNat = x at hp
    have : sg = 0 ∨ sg = 1 := by omega
    rcases this with rfl | rfl
    · simp only [show ((0 : Nat) == 1) = false from rfl, Bool.false_eq_true, if_false]
      rw [show compare ((x : Nat) : Int) ((0 : Nat) : Int) = .gt from Int.compare_eq_gt.2 (by omega)]; rfl
    · simp only [show ((1 : Nat) == 1) = true from rfl, if_true, Bool.false_eq_true, if_false]
      rw [show compare (-((x : Nat) : Int)) ((0 : Nat) : Int) = .lt from Int.compare_eq_lt.2 (by omega)]; rfl
/-- The size of a number made whole, out of its word. -/
theorem abs_int (ex fr : Nat) (h2 : ex < 2047) (h3 : fr < 4503599627370496) : (Ieee.double.read (Ieee.double.nearest false (magE ex fr) 0)).toInt .zero = some (magE ex fr : Int) := by
  by_cases hz : magE ex fr = 0
  · have := whole_zero 0 ex fr (by omega) hz
    rw [show ((0 : Nat) == 1) = false from rfl] at this
    rw [this, hz, Nat.zero_mul, read_zero]
    decide +kernel
  · obtain ⟨L, K, e, k1, k2, l1, hv⟩ := whole_word 0 ex fr (by omega) h2 h3 hz
    rw [show ((0 : Nat) == 1) = false from rfl] at e
    rw [e, read_kl 0 L K (by omega) l1 k1 k2]
    rw [show ((0 : Nat) == 1) = false from rfl]
    simp only [Datum.toInt, Datum.integral, signed, Bool.false_eq_true, if_false, Nat.shiftLeft_zero, Option.some.injEq]
    rcases hv with ⟨h, ev⟩ | ⟨h, ev⟩
    · rw [show ((L : Int) - 52).toNat = L - 52 by omega, show (-((L : Int) - 52)).toNat = 0 by omega, Nat.shiftLeft_eq, ← ev]
      unfold Toward.cut
      simp
    · rw [show ((L : Int) - 52).toNat = 0 by omega, show (-((L : Int) - 52)).toNat = 52 - L by omega, Nat.shiftLeft_zero]
      have hlog : K.log2 = 52 := log2_52 k1 k2
      unfold Toward.cut
      rw [hlog, Nat.min_eq_left (by omega), Nat.shiftLeft_eq, Nat.one_mul]
      have e1 : K / 2 ^ (52 - L) = magE ex fr := by rw [ev]; exact Nat.mul_div_cancel _ (Nat.two_pow_pos _)
      simp only [e1]
      simp
end Go.Proofs.YtlmmkaddlflepaaGreatDoor.Plain
