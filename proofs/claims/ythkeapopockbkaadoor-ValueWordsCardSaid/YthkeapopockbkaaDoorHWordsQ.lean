/- Plain facts for hexadecimal texts: the library's numeral in great letters is the document's. No condition. -/
import Derived.Test.YthkeapopockbkaaDoorHWordsP
import Derived.Test.YthkeapopockbkaaDoorHFmt16
namespace Go.Proofs.YthkeapopockbkaaDoor.Plain
set_option linter.unusedSimpArgs false
set_option linter.unusedVariables false
open Go.RowKit
theorem upper_digit : ∀ d : Fin 16, Lib.upperB (hexD d.val) = hexUD d.val := by decide
theorem hex_upper (n : Nat) (h : n ≠ 0) : Lib.toUpperA (hexL n) = hexU n := by
  induction n using Nat.strongRecOn with
  | ind n ih =>
    rw [hexU_pos n h]
    by_cases c : n < 16
    · rw [hexL_small n c, show n / 16 = 0 by omega, hexU_zero, show n % 16 = n by omega]
      simp [Lib.toUpperA, upper_digit ⟨n, c⟩]
    · rw [hexL_great n c, ← ih (n / 16) (by omega) (by omega)]
      simp [Lib.toUpperA, upper_digit ⟨n % 16, by omega⟩]
theorem hexF_one (n : Nat) : hexF n 1 = Lib.toUpperA (hexL n) := by
  by_cases c : n = 0
  · subst c; rw [hexL_small 0 (by decide)]; unfold hexF; rw [hexU_zero]; rfl
  · have := hexU_ne n c
    rw [hex_upper n c, hexF, show 1 - (hexU n).length = 0 by omega]; rfl
theorem hexL_len (k : Nat) : ∀ n, n < 16 ^ (k + 1) → (hexL n).length ≤ k + 1 := by
  induction k with
  | zero => intro n h; rw [hexL_small n (by simpa using h)]; simp
  | succ k ih =>
    intro n h
    by_cases c : n < 16
    · rw [hexL_small n c]; simp
    · rw [hexL_great n c]
      have := ih (n / 16) (by rw [Nat.pow_succ] at h; omega)
      simp; omega
theorem pow16 : (16 : Nat) ^ (15 + 1) = 18446744073709551616 := by decide
theorem hexL_16 (n : Nat) (h : n < 18446744073709551616) : (hexL n).length ≤ 16 := hexL_len 15 n (by rw [pow16]; exact h)
theorem upper_len (l : List UInt8) : (Lib.toUpperA l).length = l.length := by simp [Lib.toUpperA]
theorem hexF_16 (n : Nat) : hexF n 16 = List.replicate (16 - (Lib.toUpperA (hexL n)).length) 48 ++ Lib.toUpperA (hexL n) := by
  by_cases c : n = 0
  · subst c; rw [hexL_small 0 (by decide)]; unfold hexF; rw [hexU_zero]; rfl
  · rw [hex_upper n c, hexF]
theorem hexL_ascii (n : Nat) : ∀ b ∈ hexL n, b.toNat < 128 := by
  induction n using Nat.strongRecOn with
  | ind n ih =>
    have hd : ∀ d : Fin 16, (hexD d.val).toNat < 128 := by decide
    by_cases c : n < 16
    · rw [hexL_small n c]; intro b hb; rw [List.mem_singleton] at hb; subst hb; exact hd ⟨n, c⟩
    · rw [hexL_great n c]
      intro b hb
      rcases List.mem_append.1 hb with x | x
      · exact ih (n / 16) (by omega) b x
      · rw [List.mem_singleton] at x; subst x; exact hd ⟨n % 16, by omega⟩
end Go.Proofs.YthkeapopockbkaaDoor.Plain
