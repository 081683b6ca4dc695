/- Plain facts for kinds' words and for hexadecimal texts: the program's numeral in great letters is the document's. No program in sight; no condition. -/
import Derived.Test.YthkeapopockbkaaDoorHPlain
import Derived.Lib.Case
import Derived.Lib.Repeat
import Derived.Lib.ItoaNum
namespace Go.Proofs.YthkeapopockbkaaDoor.Plain
set_option linter.unusedSimpArgs false
set_option linter.unusedVariables false
open Go.RowKit
/-- The kinds' words, the one of nought ahead. -/
def wordsA : Array ByteArray := #[⟨#[]⟩, ⟨#[66, 79, 79, 76]⟩, ⟨#[83, 73, 78, 84]⟩, ⟨#[73, 78, 84]⟩, ⟨#[68, 73, 78, 84]⟩, ⟨#[76, 73, 78, 84]⟩, ⟨#[85, 83, 73, 78, 84]⟩, ⟨#[85, 73, 78, 84]⟩, ⟨#[85, 68, 73, 78, 84]⟩, ⟨#[85, 76, 73, 78, 84]⟩, ⟨#[66, 89, 84, 69]⟩, ⟨#[87, 79, 82, 68]⟩, ⟨#[68, 87, 79, 82, 68]⟩, ⟨#[76, 87, 79, 82, 68]⟩, ⟨#[84, 73, 77, 69]⟩, ⟨#[68, 65, 84, 69]⟩, ⟨#[84, 79, 68]⟩, ⟨#[68, 84]⟩, ⟨#[76, 82, 69, 65, 76]⟩, ⟨#[83, 84, 82, 73, 78, 71]⟩]
/-- A kind's word; empty: it has none. -/
def wordT (k : Int) : ByteArray := if 1 ≤ k ∧ k ≤ 19 then wordsA.getD k.toNat ⟨#[]⟩ else ⟨#[]⟩
theorem words_size : wordsA.size = 20 := by rfl
theorem words_apart : ∀ i : Fin 20, ∀ j : Fin 20, wordsA.getD i.val ⟨#[]⟩ = wordsA.getD j.val ⟨#[]⟩ → i = j := by decide +kernel
/-- The kind of a word, and whether there is one. -/
def IsKind (s : ByteArray) (k : Int) (ok : Bool) : Prop := (ok = true ∧ 1 ≤ k ∧ k ≤ 19 ∧ wordsA.getD k.toNat ⟨#[]⟩ = s) ∨ (ok = false ∧ k = 0 ∧ ∀ j : Nat, 1 ≤ j → j ≤ 19 → wordsA.getD j ⟨#[]⟩ ≠ s)
theorem isKind_one {s : ByteArray} {k l : Int} {a b : Bool} (h : IsKind s k a) (g : IsKind s l b) : k = l ∧ a = b := by
  rcases h with ⟨rfl, h1, h2, h3⟩ | ⟨rfl, rfl, h3⟩
  · rcases g with ⟨rfl, g1, g2, g3⟩ | ⟨rfl, rfl, g3⟩
    · refine ⟨?_, rfl⟩
      have := words_apart ⟨k.toNat, by omega⟩ ⟨l.toNat, by omega⟩ (h3.trans g3.symm)
      have := congrArg Fin.val this
      simp only at this
      omega
    · exact absurd h3 (g3 k.toNat (by omega) (by omega))
  · rcases g with ⟨rfl, g1, g2, g3⟩ | ⟨rfl, rfl, g3⟩
    · exact absurd g3 (h3 l.toNat (by omega) (by omega))
    · exact ⟨rfl, rfl⟩
/-- A hexadecimal digit in great letters. -/
def hexUD (d : Nat) : UInt8 := UInt8.ofNat (if d < 10 then 48 + d else 55 + d)
/-- A number's hexadecimal digits in great letters; none of nought. -/
def hexU (n : Nat) : List UInt8 := if _h : n = 0 then [] else hexU (n / 16) ++ [hexUD (n % 16)]
termination_by n
decreasing_by omega
theorem hexU_zero : hexU 0 = [] := by rw [hexU, dif_pos rfl]
theorem hexU_pos (n : Nat) (h : n ≠ 0) : hexU n = hexU (n / 16) ++ [hexUD (n % 16)] := by rw [hexU, dif_neg h]
/-- A number's digits, filled up to so many. -/
def hexF (n least : Nat) : List UInt8 := List.replicate (least - (hexU n).length) 48 ++ hexU n
theorem hexU_ne (n : Nat) (h : n ≠ 0) : 1 ≤ (hexU n).length := by rw [hexU_pos n h]; simp
/-- What the document's loop has made so far. -/
def HexAt (u least n : Nat) (s : List UInt8) : Prop := hexF u least = List.replicate (least - ((hexU n).length + s.length)) 48 ++ (hexU n ++ s)
theorem hexAt_start (u least : Nat) : HexAt u least u [] := by simp [HexAt, hexF]
theorem hexAt_step {u least n : Nat} {s : List UInt8} (h : HexAt u least n s) (hg : 0 < n ∨ s.length < least) : HexAt u least (n / 16) (hexUD (n % 16) :: s) := by
  unfold HexAt at *
  by_cases c : n = 0
  · subst c
    have hl : s.length < least := by omega
    obtain ⟨k, hk⟩ : ∃ k, least - s.length = k + 1 := ⟨least - s.length - 1, by omega⟩
    have e : least - (s.length + 1) = k := by omega
    have d : hexUD 0 = 48 := by decide
    rw [h]
    simp [hexU_zero, hk, e, d, List.replicate_succ']
  · rw [h, hexU_pos n c]
    simp [Nat.add_comm, Nat.add_left_comm, Nat.add_assoc]
theorem hexAt_end {u least n : Nat} {s : List UInt8} (h : HexAt u least n s) (h0 : n = 0) (hl : least ≤ s.length) : s = hexF u least := by
  unfold HexAt at h
  subst h0
  rw [h, hexU_zero]
  simp [Nat.sub_eq_zero_of_le hl]
theorem hexU_len (k : Nat) : ∀ n, n < 16 ^ k → (hexU n).length ≤ k := by
  induction k with
  | zero => intro n h; rw [show n = 0 by simpa using h, hexU_zero]; simp
  | succ k ih =>
    intro n h
    by_cases c : n = 0
    · rw [c, hexU_zero]; simp
    · rw [hexU_pos n c]
      have := ih (n / 16) (by rw [Nat.pow_succ] at h; omega)
      simp; omega
theorem p16 : (16 : Nat) ^ 16 = 18446744073709551616 := by decide
theorem hexAt_len {n : Nat} {s : List UInt8} {least : Nat} (h : (hexU n).length + s.length ≤ 16) (hl : least ≤ 16) (hg : 0 < n ∨ s.length < least) : (hexU (n / 16)).length + (hexUD (n % 16) :: s).length ≤ 16 := by
  by_cases c : n = 0
  · subst c; simp [hexU_zero]; omega
  · rw [hexU_pos n c] at h; simp at h ⊢; omega
theorem ext_digit : ∀ d : Nat, d < 16 → (⟨#[48, 49, 50, 51, 52, 53, 54, 55, 56, 57, 65, 66, 67, 68, 69, 70]⟩ : ByteArray).extract d (d + 1) = ⟨#[hexUD d]⟩
  | 0, _ => rfl | 1, _ => rfl | 2, _ => rfl | 3, _ => rfl | 4, _ => rfl | 5, _ => rfl | 6, _ => rfl | 7, _ => rfl | 8, _ => rfl | 9, _ => rfl
  | 10, _ => rfl | 11, _ => rfl | 12, _ => rfl | 13, _ => rfl | 14, _ => rfl | 15, _ => rfl
  | n + 16, h => absurd h (by omega)
theorem app_digit (d : UInt8) (s : List UInt8) : (⟨#[d]⟩ : ByteArray) ++ (⟨s.toArray⟩ : ByteArray) = ⟨(d :: s).toArray⟩ := by
  apply ByteArray.ext
  simp [ByteArray.data_append]
/-- The text of a value that may be. -/
def fullT (kd b : Int) (t : ByteArray) : ByteArray :=
  if mayB kd b t = false then ⟨#[]⟩
  else if kd = 19 then t
  else if kd = 1 then (if b = 0 then ⟨#[70, 65, 76, 83, 69]⟩ else ⟨#[84, 82, 85, 69]⟩)
  else if kd = 18 then ⟨#[49, 54, 35]⟩ ++ ⟨(hexF b.toNat 16).toArray⟩
  else if 10 ≤ kd ∧ kd ≤ 13 then ⟨#[49, 54, 35]⟩ ++ ⟨(hexF b.toNat 1).toArray⟩
  else if 6 ≤ kd ∧ kd ≤ 9 then ⟨(Lib.decDigits b.toNat).toArray⟩
  else ⟨(Lib.itoa (wrap64 b)).toArray⟩
end Go.Proofs.YthkeapopockbkaaDoor.Plain
