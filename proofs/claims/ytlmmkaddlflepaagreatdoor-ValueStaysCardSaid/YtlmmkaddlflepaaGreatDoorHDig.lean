/- The document's 'digits': the number of a numeral. Condition: a string's bytes take no more than can be read. -/
import Derived.Test.YtlmmkaddlflepaaGreatDoorHPrint
import Derived.Test.YtlmmkaddlflepaaGreatDoorHDigits
import Derived.LoopTactic
namespace Go.Proofs.YtlmmkaddlflepaaGreatDoor.H
set_option linter.unusedVariables false
open Go.RowKit Go.Proofs.YtlmmkaddlflepaaGreatDoor.Plain
set_option maxHeartbeats 3200000
set_option maxRecDepth 100000
set_option linter.unusedSimpArgs false
theorem ret_dig {a b : Int × Bool} (h : a = b) : Ending.returned (.tuple #[.int .u64 a.1, .bool a.2]) = Ending.returned (.tuple #[.int .u64 b.1, .bool b.2]) := by rw [h]
theorem s_len (s : ByteArray) : s.data.toList.length = s.size := by rw [Array.length_toList]; rfl
theorem s_get (s : ByteArray) (k : Nat) (h : k < s.size) : s.data.toList[k]'(by rw [s_len]; exact h) = s[k] := rfl
theorem r_digits (s : ByteArray) (hs : s.size ≤ 140737488351232) (w : World) : Calls Tryz.prog 61 #[.string s] w fun e w' => e = .returned (.tuple #[.int .u64 (digV s.data.toList).1, .bool (digV s.data.toList).2]) ∧ w = w' := by
  by_cases a1 : s.toList = []
  · have E := Lib.hid (show digV s.data.toList = (0, false) by rw [← ByteArray.toList_eq, a1]; exact digV_nil)
    go_enter Tryz.func61, Tryz.ntmps61
    go_wp2
    go_ret2
    exact ⟨ret_dig (a := (0, false)) E.out.symm, rfl⟩
  have a1' : s.toList.isEmpty = false := by simpa using a1
  have hpos : 0 < s.size := by
    rcases Nat.eq_zero_or_pos s.size with c | c
    · exact absurd (by rw [ByteArray.toList_eq]; exact List.length_eq_zero_iff.1 (by rw [s_len]; exact c)) a1
    · exact c
  by_cases a2 : 20 < (s.size : Int)
  · have E := Lib.hid (show digV s.data.toList = (0, false) from digV_long (by rw [s_len]; omega))
    go_enter Tryz.func61, Tryz.ntmps61
    go_wp2
    all_goals (go_ret2; exact ⟨ret_dig (a := (0, false)) E.out.symm, rfl⟩)
  have a2' : (s.size : Int) ≤ 20 := by omega
  clear a2
  by_cases a3 : 1 < (s.size : Int) ∧ ((s[0].toNat : Int) == 48) = true
  · obtain ⟨a3, a4⟩ := a3
    have E := Lib.hid (show digV s.data.toList = (0, false) from digV_zero (by rw [s_len]; omega) (by
      have h48 : s[0] = 48 := UInt8.toNat_inj.1 (by have := beq_iff_eq.1 a4; have e : (48 : UInt8).toNat = 48 := rfl; omega)
      rw [List.head?_eq_getElem?, List.getElem?_eq_getElem (by rw [s_len]; exact hpos)]
      exact congrArg some h48))
    go_enter Tryz.func61, Tryz.ntmps61
    go_wp2
    all_goals (go_ret2; exact ⟨ret_dig (a := (0, false)) E.out.symm, rfl⟩)
  have HH := Lib.hid (show s.data.toList.length = 1 ∨ s.data.toList.head? ≠ some 48 by
    by_cases c : 1 < (s.size : Int)
    · right
      intro e
      rw [List.head?_eq_getElem?, List.getElem?_eq_getElem (by rw [s_len]; exact hpos)] at e
      have e2 : s[0] = 48 := Option.some.inj e
      exact a3 ⟨c, by rw [e2]; rfl⟩
    · left; rw [s_len]; omega)
  have a3' : (s.size : Int) ≤ 1 ∨ (1 < (s.size : Int) ∧ ((s[0].toNat : Int) == 48) = false) := by
    by_cases c : 1 < (s.size : Int)
    · right; refine ⟨c, ?_⟩; cases h : ((s[0].toNat : Int) == 48); rfl; exact absurd ⟨c, h⟩ a3
    · left; omega
  have HN := Lib.hid (show s.data.toList ≠ [] by rw [← ByteArray.toList_eq]; exact a1)
  clear a3
  rcases a3' with a3 | ⟨a3, a4⟩
  all_goals
    go_enter Tryz.func61, Tryz.ntmps61
    go_wp2
    go_loop [4, 5] (fun vn vi => ∃ k : Nat, k ≤ s.size ∧ vi = .int .i64 k ∧ vn = .int .u64 (dval 0 (s.data.toList.take k) : Nat) ∧ Hid (dval 0 (s.data.toList.take k) < 18446744073709551616) ∧ Hid (∀ j (h : j < s.data.toList.length), j < k → isD s.data.toList[j])) (fun _ vi => s.size - (intOf vi).toNat)
    case atStart => exact ⟨0, Nat.zero_le _, rfl, rfl, Lib.hid (show dval 0 [] < _ by decide), Lib.hid (fun j _ h => absurd h (Nat.not_lt_zero _))⟩
    case round =>
      obtain ⟨k, hk, rfl, rfl, HB, HD⟩ := hrel
      by_cases hlt : k < s.size
      · have hkl : k < s.data.toList.length := by rw [s_len]; exact hlt
        have S1 := Lib.hid (dval_step s.data.toList k hkl)
        have S2 := Lib.hid (s_get s k hlt)
        have S3 := Lib.hid (fun hd => digV_bad (k := k) hkl hd)
        have S4 := Lib.hid (fun hd => digV_over (l := s.data.toList) (k := k + 1) hd)
        generalize hn : dval 0 (s.data.toList.take k) = n at *
        clear hn
        go_wp2
        all_goals first
          | (go_ret2
             refine ⟨ret_dig (a := (0, false)) ?_, rfl⟩
             have s1 := S1.out; have s2 := S2.out
             rw [s2] at s1
             first
               | (refine (S3.out ?_).symm; rw [s2]; unfold isD; omega)
               | (refine (S4.out ?_).symm; rw [s1]; omega))
          | (refine ⟨⟨k + 1, hlt, by go_num, ?_, ?_, ?_⟩, ?_⟩
             · have s1 := S1.out; rw [S2.out] at s1; rw [s1]; simp only [Value.int.injEq, true_and]; omega
             · have s1 := S1.out; rw [S2.out] at s1; have := HB.out; refine Lib.hid ?_; rw [s1]; omega
             · refine Lib.hid (fun j hj hjk => ?_)
               rcases Nat.lt_or_ge j k with c | c
               · exact HD.out j hj c
               · obtain rfl : j = k := by omega
                 rw [S2.out]; unfold isD; omega
             · simp [intOf] <;> omega)
      · have E := Lib.hid (show digV s.data.toList = (((dval 0 (s.data.toList.take k) : Nat) : Int), true) by
          have e : s.data.toList.take k = s.data.toList := List.take_of_length_le (by rw [s_len]; omega)
          have hb := HB.out
          rw [e] at hb ⊢
          exact digV_ok HN.out (fun j hj => HD.out j hj (by rw [s_len] at hj; omega)) HH.out hb)
        generalize dval 0 (s.data.toList.take k) = n at *
        go_wp2
        go_ret2
        exact ⟨ret_dig (a := ((n : Int), true)) E.out.symm, rfl⟩
end Go.Proofs.YtlmmkaddlflepaaGreatDoor.H
