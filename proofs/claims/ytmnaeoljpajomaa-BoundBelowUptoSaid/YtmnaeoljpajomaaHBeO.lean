/- Contract of bound.can: can a code be reckoned. Condition: its size is modest. -/
import Derived.Test.YtmnaeoljpajomaaHBeN
namespace Go.Proofs.Ytmnaeoljpajomaa.H
set_option linter.unusedVariables false
set_option linter.unusedSimpArgs false
open Go.RowKit Go.Proofs.Ytmnaeoljpajomaa.Plain Go.Sort Go.Maps
set_option maxHeartbeats 3200000
set_option maxRecDepth 100000
attribute [local go_sem] ext_from ext_bits cell_isSome un_neg_float
/-- Is a loop one that begins at a place and has another? -/
def backB (q p : Int) (x : LoopD) : Bool := x.head == q && hasB x p
theorem c_can1 (x : LoopD) (q p : Int) (b1 b2 : Nat) (w : World) (h1 : w.heap[b1]? = some (.cells #[.int .i64 q] 3 (0, 0))) (h2 : w.heap[b2]? = some (.cells #[.int .i64 p] 3 (0, 0))) :
    Calls Try.prog 41 #[x.val, .pointer (some ⟨b1, 0, none⟩), .pointer (some ⟨b2, 0, none⟩)] w fun e w' => e = .returned (.bool (backB q p x)) ∧ Below w.heap.size w w' := by
  have q0 := k_cv h1 0 rfl
  have q1 := k_cv h2 0 rfl
  simp only [List.getElem_toArray, List.getElem_cons_succ, List.getElem_cons_zero] at q0 q1
  have l1 := k_lt h1
  have l2 := k_lt h2
  have n1 : ¬ b1 = w.heap.size := by omega
  have n2 : ¬ b2 = w.heap.size := by omega
  obtain ⟨R, hR⟩ : ∃ R, backB q p x = R := ⟨_, rfl⟩
  rw [hR]
  unfold backB at hR
  have N1 := c_has x p (w.alloc (.cells #[.int .i64 x.head, .int .i64 x.stop, .int .i64 x.times] 40 (0, 0)))
  obtain ⟨b, hb⟩ : ∃ b, hasB x p = b := ⟨_, rfl⟩
  rw [hb] at hR N1
  clear h1 h2 hb
  by_cases c : x.head = q
  · obtain rfl : b = R := by simpa [c] using hR
    subst c
    go_enter Try.func41, Try.ntmps41
    go_wp2_with (go_at_call 42; go_loud (with_reducible refine N1.mono ?_); rintro e w1 ⟨rfl, hb1⟩)
    all_goals go_returns
    all_goals exact ⟨rfl, b_go (b_al (Below.refl _ _) _) hb1⟩
  · have c2 : (x.head == q) = false := by simp [c]
    obtain rfl : false = R := by rw [c2] at hR; simpa using hR
    clear N1
    go_enter Try.func41, Try.ntmps41
    go_wp2_with fail
    all_goals go_returns
    all_goals exact ⟨rfl, b_al (Below.refl _ _) _⟩
theorem i_loop (ao : Option Addr) (n c : Nat) (xs : List LoopD) (q p : Int) (b1 b2 : Nat) (w : World) (hL : Loops w ao n xs) (hsz : n ≤ 1048576) (h1 : w.heap[b1]? = some (.cells #[.int .i64 q] 3 (0, 0))) (h2 : w.heap[b2]? = some (.cells #[.int .i64 p] 3 (0, 0))) :
    Calls Try.prog 54 #[.slice ao n c, .func (.func 41) #[] #[.pointer (some ⟨b1, 0, none⟩), .pointer (some ⟨b2, 0, none⟩)]] w fun e w' => (∃ r : Int, e = .returned (.int .i64 r) ∧ decide (r ≥ 0) = xs.any (backB q p)) ∧ Below w.heap.size w w' := by
  obtain ⟨hl, hS⟩ := hL
  have HS := Lib.hid hS
  have K1 := Lib.hid h1
  have K2 := Lib.hid h2
  clear hS h1 h2
  go_enter Try.func54, Try.ntmps54
  go_wp2_with fail
  go_loopw [8] (fun i wr => ∃ k : Nat, k ≤ n ∧ i = .int .i64 k ∧ (∀ (j : Nat) z, j < k → xs[j]? = some z → backB q p z = false) ∧ Below w.heap.size w wr) (fun i _ => n - (intOf i).toNat)
  case atStart => exact ⟨0, Nat.zero_le _, rfl, fun j z h => absurd h (by omega), Below.refl _ _⟩
  case round =>
    obtain ⟨k, hk, rfl, hno, hbe⟩ := hrel
    by_cases hkn : k < n
    · obtain ⟨x, hx⟩ : ∃ x, xs[k]? = some x := ⟨_, List.getElem?_eq_getElem (by omega)⟩
      rcases ao with _ | a
      · exact absurd (HS.out.2.1 rfl) (by omega)
      have hS := HS.out.go hbe
      have p0 := hS.at0 LoopD.len hx rfl
      have p1 := hS.atS LoopD.len hx (j := 1) (by decide) rfl
      have p2 := hS.atS LoopD.len hx (j := 2) (by decide) rfl
      have N1 := c_can1 x q p b1 b2 wr (k_go K1.out hbe) (k_go K2.out hbe)
      have hkI : (k : Int) < n := by omega
      have HNO := Lib.hid hno
      clear hS hno
      rcases Bool.eq_false_or_eq_true (backB q p x) with hb | hb
      · rw [hb] at N1
        have hm : xs.any (backB q p) = true := List.any_eq_true.2 ⟨x, List.mem_of_getElem? hx, hb⟩
        have HM := Lib.hid hm
        clear hm hx
        go_wp2_with (go_at_call 41; go_loud (with_reducible refine N1.mono ?_); rintro e w1 ⟨rfl, hb1⟩)
        go_returns
        exact ⟨⟨k, rfl, by rw [HM.out]; simp⟩, b_go hbe hb1⟩
      · rw [hb] at N1
        go_wp2_with (go_at_call 41; go_loud (with_reducible refine N1.mono ?_); rintro e w1 ⟨rfl, hb1⟩)
        go_roundw
        case rel =>
          refine ⟨k + 1, hkn, by go_num, fun j y hj hy => ?_, b_go hbe hb1⟩
          rcases Nat.lt_or_ge j k with c | c
          · exact HNO.out j y c hy
          · obtain rfl : j = k := by omega
            rw [hx] at hy
            cases hy
            exact hb
        case measure => first | exact meas_next hkn | (simp [intOf]; omega)
    · obtain rfl : k = n := by omega
      have hm : xs.any (backB q p) = false := by
        rw [List.any_eq_false]
        intro x hx
        obtain ⟨i, hi, e⟩ := List.mem_iff_getElem.1 hx
        rw [hno i x (by omega) (by rw [← e]; exact List.getElem?_eq_getElem hi)]
        decide
      have HM := Lib.hid hm
      have HB := Lib.hid hbe
      clear hno hm hbe
      go_wp2_with fail
      go_returns
      exact ⟨⟨-1, rfl, by rw [HM.out]; decide⟩, HB.out⟩
theorem f_loop (ao : Option Addr) (n c : Nat) (xs : List LoopD) (q p : Int) (b1 b2 : Nat) (w : World) (hL : Loops w ao n xs) (hsz : n ≤ 1048576) (h1 : w.heap[b1]? = some (.cells #[.int .i64 q] 3 (0, 0))) (h2 : w.heap[b2]? = some (.cells #[.int .i64 p] 3 (0, 0))) :
    Calls Try.prog 40 #[.slice ao n c, .func (.func 41) #[] #[.pointer (some ⟨b1, 0, none⟩), .pointer (some ⟨b2, 0, none⟩)]] w fun e w' => e = .returned (.bool (xs.any (backB q p))) ∧ Below w.heap.size w w' := by
  have N1 := i_loop ao n c xs q p b1 b2 w hL hsz h1 h2
  clear hL h1 h2
  go_enter Try.func40, Try.ntmps40
  go_wp2_with (go_at_call 54; go_loud (with_reducible refine N1.mono ?_); rintro e w1 ⟨⟨r, rfl, hr⟩, hb1⟩)
  go_returns
  exact ⟨by first | rfl | (rw [← hr]; rfl), hb1⟩
end Go.Proofs.Ytmnaeoljpajomaa.H
