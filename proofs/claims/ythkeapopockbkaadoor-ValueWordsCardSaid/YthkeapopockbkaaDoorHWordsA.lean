/- Contracts of the words of kinds and of the document's hexadecimal texts. Conditions: bits are 64. -/
import Derived.Test.YthkeapopockbkaaDoorHMay
import Derived.Test.YthkeapopockbkaaDoorHWordsP
import Derived.WalkSmall
import Derived.Handy
namespace Go.Proofs.YthkeapopockbkaaDoor.H
set_option linter.unusedVariables false
open Go.RowKit Go.Proofs.YthkeapopockbkaaDoor.Plain
set_option maxHeartbeats 3200000
set_option maxRecDepth 100000
set_option linter.unusedSimpArgs false
attribute [local go_sem] ext_from ext_bits cell_isSome un_neg_float
/-- A value's text. -/
def strOf : Value → ByteArray
  | .string s => s
  | _ => ⟨#[]⟩
/-- A list of words in memory. -/
def WordsAt (w : World) (b : Nat) : Prop := b < w.heap.size ∧ ∀ j : Nat, j < 20 → w.cell? ⟨b, j, none⟩ = some (.string (wordsA.getD j ⟨#[]⟩))
/-- The words in memory. -/
def wordsV : Array Value := #[Value.string { data := #[] }, Value.string { data := #[66, 79, 79, 76] }, Value.string { data := #[83, 73, 78, 84] }, Value.string { data := #[73, 78, 84] }, Value.string { data := #[68, 73, 78, 84] }, Value.string { data := #[76, 73, 78, 84] }, Value.string { data := #[85, 83, 73, 78, 84] }, Value.string { data := #[85, 73, 78, 84] }, Value.string { data := #[85, 68, 73, 78, 84] }, Value.string { data := #[85, 76, 73, 78, 84] }, Value.string { data := #[66, 89, 84, 69] }, Value.string { data := #[87, 79, 82, 68] }, Value.string { data := #[68, 87, 79, 82, 68] }, Value.string { data := #[76, 87, 79, 82, 68] }, Value.string { data := #[84, 73, 77, 69] }, Value.string { data := #[68, 65, 84, 69] }, Value.string { data := #[84, 79, 68] }, Value.string { data := #[68, 84] }, Value.string { data := #[76, 82, 69, 65, 76] }, Value.string { data := #[83, 84, 82, 73, 78, 71] }]
theorem words_get : ∀ (n : Nat) (hn : n < 20), wordsV[n]? = some (.string (wordsA.getD n ⟨#[]⟩))
  | 0, _ => rfl | 1, _ => rfl | 2, _ => rfl | 3, _ => rfl | 4, _ => rfl | 5, _ => rfl | 6, _ => rfl | 7, _ => rfl | 8, _ => rfl | 9, _ => rfl
  | 10, _ => rfl | 11, _ => rfl | 12, _ => rfl | 13, _ => rfl | 14, _ => rfl | 15, _ => rfl | 16, _ => rfl | 17, _ => rfl | 18, _ => rfl | 19, _ => rfl
  | n + 20, h => absurd h (by omega)
theorem wordsAt_alloc (w : World) : WordsAt (w.alloc (.cells wordsV 9)) w.heap.size := by
  refine ⟨by simp, fun j hj => ?_⟩
  exact (k_cell (k_new rfl) j).trans (words_get j hj)
theorem wordsAt_get {w : World} {b n : Nat} {s : ByteArray} (h : WordsAt w b) (hn : n < 20) (hs : wordsA.getD n ⟨#[]⟩ = s) : w.cell? ⟨b, n, none⟩ = some (.string s) := by rw [h.2 n hn, hs]
theorem v_words (w : World) : Calls Tryd.prog 10 #[] w fun e w' => e = .returned (.slice (some ⟨w.heap.size, 0, none⟩) 20 20) ∧ WordsAt w' w.heap.size ∧ Below w.heap.size w w' := by
  go_enter Tryd.func10, Tryd.ntmps10
  go_wp2
  go_ret
  have h : WordsAt (w.alloc (.cells #[Value.string { data := #[] }, Value.string { data := #[66, 79, 79, 76] }, Value.string { data := #[83, 73, 78, 84] }, Value.string { data := #[73, 78, 84] }, Value.string { data := #[68, 73, 78, 84] }, Value.string { data := #[76, 73, 78, 84] }, Value.string { data := #[85, 83, 73, 78, 84] }, Value.string { data := #[85, 73, 78, 84] }, Value.string { data := #[85, 68, 73, 78, 84] }, Value.string { data := #[85, 76, 73, 78, 84] }, Value.string { data := #[66, 89, 84, 69] }, Value.string { data := #[87, 79, 82, 68] }, Value.string { data := #[68, 87, 79, 82, 68] }, Value.string { data := #[76, 87, 79, 82, 68] }, Value.string { data := #[84, 73, 77, 69] }, Value.string { data := #[68, 65, 84, 69] }, Value.string { data := #[84, 79, 68] }, Value.string { data := #[68, 84] }, Value.string { data := #[76, 82, 69, 65, 76] }, Value.string { data := #[83, 84, 82, 73, 78, 71] }] 9)) w.heap.size := wordsAt_alloc w
  exact ⟨rfl, h, b_al (Below.refl _ _) _⟩
theorem wordT_in {n : Nat} (h1 : 1 ≤ n) (h2 : n ≤ 19) : wordT (n : Int) = wordsA.getD n ⟨#[]⟩ := by
  unfold wordT; rw [if_pos (by omega)]; simp
theorem wordT_out {k : Int} (h : ¬ (1 ≤ k ∧ k ≤ 19)) : wordT k = ⟨#[]⟩ := by unfold wordT; rw [if_neg h]
theorem v_Word (k : Int) (w : World) : Calls Tryd.prog 6 #[.int .u8 k] w fun e w' => e = .returned (.string (wordT k)) ∧ Below w.heap.size w w' := by
  by_cases hk : 1 ≤ k ∧ k ≤ 19
  · obtain ⟨n, rfl⟩ := Int.eq_ofNat_of_zero_le (show 0 ≤ k by omega)
    have N1 : ∀ W, Calls Tryd.prog 11 #[.int .u8 n] W fun e w' => e = .returned (.bool true) ∧ W = w' := fun W => (v_known n W).mono fun e w' ⟨h1, h2⟩ => ⟨by rw [h1]; simp [elB, hk], h2⟩
    have hn : n < 20 := by omega
    rw [wordT_in (by omega) (by omega)]
    generalize hs : wordsA.getD n ⟨#[]⟩ = s
    have hs := Lib.hid hs
    clear hk
    go_enter Tryd.func6, Tryd.ntmps6
    go_wp2_with (first | (go_at_call 11; with_reducible refine (N1 _).mono ?_; rintro e w' ⟨rfl, rfl⟩) | (go_at_call 10; with_reducible refine (v_words _).mono ?_; rintro e w1 ⟨rfl, hW, hb⟩; have q := wordsAt_get hW hn hs.out; clear hW))
    go_ret
    exact ⟨rfl, hb⟩
  · have N1 : ∀ W, Calls Tryd.prog 11 #[.int .u8 k] W fun e w' => e = .returned (.bool false) ∧ W = w' := fun W => (v_known k W).mono fun e w' ⟨h1, h2⟩ => ⟨by rw [h1]; simp only [elB, hk, decide_false], h2⟩
    rw [wordT_out hk]
    clear hk
    go_enter Tryd.func6, Tryd.ntmps6
    go_wp2_with (first | (go_at_call 11; with_reducible refine (N1 _).mono ?_; rintro e w' ⟨rfl, rfl⟩))
    go_ret
    exact ⟨rfl, Below.refl _ _⟩
theorem r_Word (k : Int) (w : World) : Calls Tryd.prog 7 #[.int .u8 k] w fun e w' => e = .returned (.string (wordT k)) ∧ Below w.heap.size w w' := by
  by_cases hk : 1 ≤ k ∧ k ≤ 19
  · obtain ⟨n, rfl⟩ := Int.eq_ofNat_of_zero_le (show 0 ≤ k by omega)
    have N1 : ∀ W, Calls Tryd.prog 12 #[.int .u8 n] W fun e w' => e = .returned (.bool true) ∧ W = w' := fun W => (r_elem n W).mono fun e w' ⟨h1, h2⟩ => ⟨by rw [h1]; simp [elB, hk], h2⟩
    have hn : n < 20 := by omega
    rw [wordT_in (by omega) (by omega)]
    generalize hs : wordsA.getD n ⟨#[]⟩ = s
    have q := wordsAt_get (wordsAt_alloc w) hn hs
    have Q := Lib.hid q
    clear q hs
    clear hk
    go_enter Tryd.func7, Tryd.ntmps7
    go_wp2_with (first | (go_at_call 12; with_reducible refine (N1 _).mono ?_; rintro e w' ⟨rfl, rfl⟩); have q : (w.alloc (.cells #[Value.string { data := #[] }, Value.string { data := #[66, 79, 79, 76] }, Value.string { data := #[83, 73, 78, 84] }, Value.string { data := #[73, 78, 84] }, Value.string { data := #[68, 73, 78, 84] }, Value.string { data := #[76, 73, 78, 84] }, Value.string { data := #[85, 83, 73, 78, 84] }, Value.string { data := #[85, 73, 78, 84] }, Value.string { data := #[85, 68, 73, 78, 84] }, Value.string { data := #[85, 76, 73, 78, 84] }, Value.string { data := #[66, 89, 84, 69] }, Value.string { data := #[87, 79, 82, 68] }, Value.string { data := #[68, 87, 79, 82, 68] }, Value.string { data := #[76, 87, 79, 82, 68] }, Value.string { data := #[84, 73, 77, 69] }, Value.string { data := #[68, 65, 84, 69] }, Value.string { data := #[84, 79, 68] }, Value.string { data := #[68, 84] }, Value.string { data := #[76, 82, 69, 65, 76] }, Value.string { data := #[83, 84, 82, 73, 78, 71] }] 9)).cell? ⟨w.heap.size, n, none⟩ = some (.string s) := Q.out)
    go_ret
    exact ⟨rfl, b_al (Below.refl _ _) _⟩
  · have N1 : ∀ W, Calls Tryd.prog 12 #[.int .u8 k] W fun e w' => e = .returned (.bool false) ∧ W = w' := fun W => (r_elem k W).mono fun e w' ⟨h1, h2⟩ => ⟨by rw [h1]; simp only [elB, hk, decide_false], h2⟩
    rw [wordT_out hk]
    clear hk
    go_enter Tryd.func7, Tryd.ntmps7
    go_wp2_with (first | (go_at_call 12; with_reducible refine (N1 _).mono ?_; rintro e w' ⟨rfl, rfl⟩))
    go_ret
    exact ⟨rfl, b_al (Below.refl _ _) _⟩
/-- What reads alike is one text. -/
theorem ByteArray_ext_toList {a b : ByteArray} (h : a.toList = b.toList) : a = b := by
  have e : ∀ x : ByteArray, x.toList = x.data.toList := fun x => by first | rfl | simp [ByteArray.toList_eq]
  apply ByteArray.ext
  rw [e, e] at h
  exact Array.toList_inj.1 h
theorem u8_wrap (k : Nat) (h : k < 256) : IntKind.u8.wrap (k : Int) = k := by simp [IntKind.wrap, IntKind.signed, IntKind.bits]; omega
theorem toL_eq {a b : ByteArray} (h : (a.toList == b.toList) = true) : a = b := ByteArray_ext_toList (by simpa using h)
theorem toL_ne {a b : ByteArray} (h : (a.toList == b.toList) = false) : a ≠ b := fun e => by subst e; simp at h
/-- The kind of a word is answered. -/
def KindP (s : ByteArray) (e : Ending) : Prop := ∃ k ok, IsKind s k ok ∧ e = .returned (.tuple #[.int .u8 k, .bool ok])
theorem kindP {s : ByteArray} {k : Int} {ok : Bool} (h : IsKind s k ok) : KindP s (.returned (.tuple #[.int .u8 k, .bool ok])) := ⟨k, ok, h, rfl⟩
theorem v_Kind (s : ByteArray) (w : World) : Calls Tryd.prog 4 #[.string s] w fun e w' => KindP s e ∧ Below w.heap.size w w' := by
  go_enter Tryd.func4, Tryd.ntmps4
  go_wp2_with (first | (go_at_call 10; with_reducible refine (v_words _).mono ?_; rintro e w1 ⟨rfl, hW, hb⟩; have HW := Lib.hid hW; clear hW))
  go_loop [8] (fun i => ∃ k : Nat, k ≤ 20 ∧ i = .int .i64 k ∧ Hid (∀ j : Nat, 1 ≤ j → j < k → wordsA.getD j ⟨#[]⟩ ≠ s)) (fun i => 20 - (intOf i).toNat)
  case atStart => exact ⟨0, by decide, rfl, Lib.hid (fun j h1 h2 => absurd h2 (by omega))⟩
  case round =>
    obtain ⟨k, hk, rfl, hno⟩ := hrel
    by_cases hk2 : k < 20
    · obtain ⟨t, ht⟩ : ∃ t, wordsA.getD k ⟨#[]⟩ = t := ⟨_, rfl⟩
      have hc : w1.cell? ⟨w.heap.size, k, none⟩ = some (.string t) := wordsAt_get HW.out hk2 ht
      have HT := Lib.hid ht
      clear ht
      go_wp2
      · have he : t = s := toL_eq (by assumption)
        exact bodyPost_ret (v := .tuple #[.int .u8 k, .bool true]) (by simp [results, Tryd.results4, go_sem]) rfl ⟨kindP (.inl ⟨rfl, by omega, by omega, by simpa using HT.out.trans he⟩), hb⟩
      · have he : t ≠ s := toL_ne (by assumption)
        go_round
        case rel =>
          refine ⟨k + 1, by omega, by go_num, Lib.hid (fun j j1 j2 => ?_)⟩
          rcases Nat.lt_or_ge j k with c | c
          · exact hno.out j j1 c
          · obtain rfl : j = k := by omega
            rw [HT.out]; exact he
        case measure => simp [intOf]; omega
      · obtain rfl : k = 0 := by omega
        go_round
        case rel => exact ⟨1, by omega, by go_num, Lib.hid (fun j j1 j2 => absurd j2 (by omega))⟩
        case measure => simp [intOf]
    · obtain rfl : k = 20 := by omega
      clear hk2 hk
      go_wp2
      exact bodyPost_ret (v := .tuple #[.int .u8 0, .bool false]) (by simp [results, Tryd.results4, go_sem]) rfl ⟨kindP (.inr ⟨rfl, rfl, fun j h1 h2 => hno.out j h1 (by omega)⟩), hb⟩
theorem r_Kind (s : ByteArray) (w : World) : Calls Tryd.prog 5 #[.string s] w fun e w' => KindP s e ∧ Below w.heap.size w w' := by
  go_enter Tryd.func5, Tryd.ntmps5
  go_wp2_with fail
  go_loopw [4] (fun i wr => ∃ k : Nat, 1 ≤ k ∧ k ≤ 20 ∧ i = .int .u8 k ∧ Below w.heap.size w wr ∧ Hid (∀ j : Nat, 1 ≤ j → j < k → wordsA.getD j ⟨#[]⟩ ≠ s)) (fun i _ => 20 - (intOf i).toNat)
  case atStart => exact ⟨1, by decide, by decide, rfl, Below.refl _ _, Lib.hid (fun j h1 h2 => absurd h2 (by omega))⟩
  case round =>
    obtain ⟨k, h1, hk, rfl, hb, hno⟩ := hrel
    obtain ⟨t, ht⟩ : ∃ t, wordT (k : Int) = t := ⟨_, rfl⟩
    have N1 : ∀ W, Calls Tryd.prog 7 #[.int .u8 k] W fun e w' => e = .returned (.string t) ∧ Below W.heap.size W w' := fun W => ht ▸ r_Word k W
    have HT := Lib.hid ht
    clear ht
    go_wp2_with (first | (go_at_call 7; with_reducible refine (N1 _).mono ?_; rintro e w1 ⟨rfl, hb2⟩))
    · have h3 : k ≤ 19 := by omega
      have ht := HT.out
      rw [wordT_in h1 h3] at ht
      have he : t = s := toL_eq (by assumption)
      exact bodyPost_ret (v := .tuple #[.int .u8 k, .bool true]) (by simp [results, Tryd.results5, go_sem]) rfl ⟨kindP (.inl ⟨rfl, by omega, by omega, by simpa using ht.trans he⟩), b_go hb hb2⟩
    · have h3 : k ≤ 19 := by omega
      have ht := HT.out
      rw [wordT_in h1 h3] at ht
      have he : t ≠ s := toL_ne (by assumption)
      go_roundw
      case rel =>
        refine ⟨k + 1, by omega, by omega, by go_num, b_go hb hb2, Lib.hid (fun j j1 j2 => ?_)⟩
        rcases Nat.lt_or_ge j k with c | c
        · exact hno.out j j1 c
        · obtain rfl : j = k := by omega
          rw [ht]; exact he
      case measure => simp [intOf]; omega
    · obtain rfl : k = 20 := by omega
      exact bodyPost_ret (v := .tuple #[.int .u8 0, .bool false]) (by simp [results, Tryd.results5, go_sem]) rfl ⟨kindP (.inr ⟨rfl, rfl, fun j h1 h2 => hno.out j h1 (by omega)⟩), hb⟩
theorem r_hex (u : Nat) (hu : u < 18446744073709551616) (least : Nat) (hl : least ≤ 16) (w : World) : Calls Tryd.prog 21 #[.int .u64 u, .int .i64 least] w fun e w' => e = .returned (.string ⟨(hexF u least).toArray⟩) ∧ Below w.heap.size w w' := by
  go_enter Tryd.func21, Tryd.ntmps21
  go_wp2_with fail
  go_loop [5, 0] (fun vs vn => ∃ (n : Nat) (s : List UInt8), n ≤ u ∧ vn = .int .u64 n ∧ vs = .string ⟨s.toArray⟩ ∧ s.length ≤ 16 ∧ Hid ((hexU n).length + s.length ≤ 16) ∧ Hid (HexAt u least n s)) (fun vs vn => (intOf vn).toNat + (least - (strOf vs).size))
  case atStart => exact ⟨u, [], Nat.le_refl _, rfl, rfl, by simp, Lib.hid (by have := hexU_len 16 u (by rw [p16]; exact hu); simpa using this), Lib.hid (hexAt_start u least)⟩
  case round =>
    obtain ⟨n, s, hn, rfl, rfl, hs, hA1, hA⟩ := hrel
    by_cases h0 : n = 0
    · subst h0
      have b0 : bits BinOp.and IntKind.u64 0 15 = 0 := by decide
      have x0 : (⟨#[48, 49, 50, 51, 52, 53, 54, 55, 56, 57, 65, 66, 67, 68, 69, 70]⟩ : ByteArray).extract 0 1 = ⟨#[48]⟩ := rfl
      have a0 := app_digit 48 s
      go_wp2
      · go_round
        case rel => exact ⟨0, 48 :: s, by omega, rfl, rfl, by simp; omega, Lib.hid (by simp [hexU_zero]; omega), Lib.hid (by have h := hexAt_step hA.out (.inr (by assumption)); simpa [hexUD] using h)⟩
        case measure => simp [intOf, strOf, ByteArray.size]; omega
      · go_ret
        exact ⟨by rw [hexAt_end hA.out rfl (by omega)]; rfl, Below.refl _ _⟩
    · have hand : bits BinOp.and IntKind.u64 (n : Int) 15 = ((n % 16 : Nat) : Int) := by
        have := bits_and_nat n 15 (by omega) (by decide)
        rw [show ((15 : Nat) : Int) = 15 from rfl] at this
        rw [this, show (15 : Nat) = 2 ^ 4 - 1 from rfl, Nat.and_two_pow_sub_one_eq_mod]
      have xn := ext_digit (n % 16) (by omega)
      have an := app_digit (hexUD (n % 16)) s
      have l16 : n % 16 < 16 := by omega
      go_wp2
      go_round
      case rel => exact ⟨n / 16, hexUD (n % 16) :: s, by omega, by go_num, rfl, by have := hexAt_len hA1.out hl (.inl (by omega)); simp at this ⊢; omega, Lib.hid (hexAt_len hA1.out hl (.inl (by omega))), Lib.hid (hexAt_step hA.out (.inl (by omega)))⟩
      case measure => simp [intOf, strOf, ByteArray.size]; omega
end Go.Proofs.YthkeapopockbkaaDoor.H
