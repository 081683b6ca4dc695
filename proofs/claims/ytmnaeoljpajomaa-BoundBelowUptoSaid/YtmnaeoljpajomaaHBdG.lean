/- Contracts: slices.IndexFunc and ContainsFunc over the closures of bound, there, and the document's called. Condition: the lists lie in memory. -/
import Derived.Test.YtmnaeoljpajomaaHBdF
namespace Go.Proofs.Ytmnaeoljpajomaa.H
set_option linter.unusedVariables false
set_option linter.unusedSimpArgs false
open Go.RowKit Go.Proofs.Ytmnaeoljpajomaa.Plain Go.Sort
set_option maxHeartbeats 3200000
set_option maxRecDepth 100000
attribute [local go_sem] ext_from ext_bits cell_isSome un_neg_float
/-- Is a number none of a code? -/
def outB (n : Nat) (x : Int) : Bool := decide (x < 0) || decide (x ≥ n)
theorem c_there1 (n : Nat) (x : Int) (b : Nat) (w : World) (h : w.heap[b]? = some (.cells #[.int .i64 n] 3 (0, 0))) : Calls Try.prog 48 #[.int .i64 x, .pointer (some ⟨b, 0, none⟩)] w fun e w' => e = .returned (.bool (outB n x)) ∧ w' = w := by
  have q0 := k_cv h 0 rfl
  simp only [List.getElem_toArray, List.getElem_cons_succ, List.getElem_cons_zero] at q0
  unfold outB
  clear h
  go_enter Try.func48, Try.ntmps48
  go_wp2
  all_goals go_ret
  all_goals simp_all
theorem c_order1 (ds : List Bool) (x : Nat) (b g : Nat) (c : Nat) (w : World) (h : w.heap[b]? = some (.cells #[.slice (some ⟨g, 0, none⟩) ds.length c] 65 (0, 0))) (d : Bool) (hd : ds[x]? = some d) (hg : w.cell? ⟨g, x, none⟩ = some (.bool d)) : Calls Try.prog 33 #[.int .i64 x, .pointer (some ⟨b, 0, none⟩)] w fun e w' => e = .returned (.bool (!d)) ∧ w' = w := by
  have q0 := k_cv h 0 rfl
  simp only [List.getElem_toArray, List.getElem_cons_succ, List.getElem_cons_zero] at q0
  have hx : x < ds.length := by
    rcases Nat.lt_or_ge x ds.length with c | c
    · exact c
    · rw [List.getElem?_eq_none c] at hd; cases hd
  clear h hd
  go_enter Try.func33, Try.ntmps33
  go_wp2
  all_goals go_ret
  all_goals simp_all
theorem i_there (B : Nat) (v cap : Value) (zs : List Int) (p : Int → Bool) (w : World) (h : Ints w B v zs) (hsz : zs.length ≤ 140737488355328) (hP : ∀ x ∈ zs, Calls Try.prog 48 #[.int .i64 x, cap] w fun e w' => e = .returned (.bool (p x)) ∧ w' = w) :
    Calls Try.prog 49 #[v, .func (.func 48) #[] #[cap]] w fun e w' => (∃ r : Int, e = .returned (.int .i64 r) ∧ decide (r ≥ 0) = zs.any p) ∧ w' = w := by
  rcases h.form with ⟨rfl, rfl⟩ | ⟨g, c, rfl, hcap, hg, hgl, hcell⟩
  · go_enter Try.func49, Try.ntmps49
    go_wp2_with fail
    go_loop [8] (fun i => i = .int .i64 0) (fun i => 0)
    case atStart => rfl
    case round =>
      subst hrel
      go_wp2
      go_ret
      exact ⟨⟨_, rfl, by simp⟩, rfl⟩
  · clear h
    go_enter Try.func49, Try.ntmps49
    go_wp2_with fail
    go_loop [8] (fun i => ∃ k : Nat, k ≤ zs.length ∧ i = .int .i64 k ∧ ∀ j z, j < k → zs[j]? = some z → p z = false) (fun i => zs.length - (intOf i).toNat)
    case atStart => exact ⟨0, Nat.zero_le _, rfl, fun j z h => absurd h (by omega)⟩
    case round =>
      obtain ⟨k, hk, rfl, hno⟩ := hrel
      by_cases hkn : k < zs.length
      · obtain ⟨z, hz⟩ : ∃ z, zs[k]? = some z := ⟨_, List.getElem?_eq_getElem hkn⟩
        have hc := hcell k z hz
        have hw : wrap64 ((k : Int) + 1) = k + 1 := by unfold wrap64; omega
        have N1 := hP z (List.mem_of_getElem? hz)
        have HC := Lib.hid hcell
        have HNO := Lib.hid hno
        clear hcell hno hP
        rcases Bool.eq_false_or_eq_true (p z) with hpz | hpz
        · rw [hpz] at N1
          go_wp2_with (go_at_call 48; go_loud (with_reducible refine N1.mono ?_); rintro e w1 ⟨rfl, rfl⟩)
          go_ret
          refine ⟨⟨_, rfl, ?_⟩, rfl⟩
          have hm : zs.any p = true := List.any_eq_true.2 ⟨z, List.mem_of_getElem? hz, hpz⟩
          rw [hm]
          simp
        · rw [hpz] at N1
          go_wp2_with (go_at_call 48; go_loud (with_reducible refine N1.mono ?_); rintro e w1 ⟨rfl, rfl⟩)
          refine ⟨⟨k + 1, by omega, by go_num, fun j y hj hy => ?_⟩, by simp [intOf]; omega⟩
          rcases Nat.lt_or_ge j k with c | c
          · exact HNO.out j y c hy
          · obtain rfl : j = k := by omega
            rw [hz] at hy
            cases hy
            exact hpz
      · obtain rfl : k = zs.length := by omega
        have hm : zs.any p = false := by
          rw [List.any_eq_false]
          intro x hx
          obtain ⟨i, hi, e⟩ := List.mem_iff_getElem.1 hx
          rw [hno i x hi (by rw [← e]; exact List.getElem?_eq_getElem hi)]
          simp
        clear hcell hno hP
        go_wp2
        go_ret
        exact ⟨⟨_, rfl, by first | (rw [hm]; simp) | simp⟩, rfl⟩
theorem f_there (B : Nat) (v cap : Value) (zs : List Int) (p : Int → Bool) (w : World) (h : Ints w B v zs) (hsz : zs.length ≤ 140737488355328) (hP : ∀ x ∈ zs, Calls Try.prog 48 #[.int .i64 x, cap] w fun e w' => e = .returned (.bool (p x)) ∧ w' = w) :
    Calls Try.prog 34 #[v, .func (.func 48) #[] #[cap]] w fun e w' => e = .returned (.bool (zs.any p)) ∧ w' = w := by
  have N1 := i_there B v cap zs p w h hsz hP
  clear h hP
  go_enter Try.func34, Try.ntmps34
  go_wp2_with (go_at_call 49; go_loud (with_reducible refine N1.mono ?_); rintro e w1 ⟨⟨r, rfl, hr⟩, rfl⟩)
  go_ret
  exact ⟨rfl, rfl⟩
theorem i_waits (B : Nat) (v cap : Value) (zs : List Int) (p : Int → Bool) (w : World) (h : Ints w B v zs) (hsz : zs.length ≤ 140737488355328) (hP : ∀ x ∈ zs, Calls Try.prog 33 #[.int .i64 x, cap] w fun e w' => e = .returned (.bool (p x)) ∧ w' = w) :
    Calls Try.prog 49 #[v, .func (.func 33) #[] #[cap]] w fun e w' => (∃ r : Int, e = .returned (.int .i64 r) ∧ decide (r ≥ 0) = zs.any p) ∧ w' = w := by
  rcases h.form with ⟨rfl, rfl⟩ | ⟨g, c, rfl, hcap, hg, hgl, hcell⟩
  · go_enter Try.func49, Try.ntmps49
    go_wp2_with fail
    go_loop [8] (fun i => i = .int .i64 0) (fun i => 0)
    case atStart => rfl
    case round =>
      subst hrel
      go_wp2
      go_ret
      exact ⟨⟨_, rfl, by simp⟩, rfl⟩
  · clear h
    go_enter Try.func49, Try.ntmps49
    go_wp2_with fail
    go_loop [8] (fun i => ∃ k : Nat, k ≤ zs.length ∧ i = .int .i64 k ∧ ∀ j z, j < k → zs[j]? = some z → p z = false) (fun i => zs.length - (intOf i).toNat)
    case atStart => exact ⟨0, Nat.zero_le _, rfl, fun j z h => absurd h (by omega)⟩
    case round =>
      obtain ⟨k, hk, rfl, hno⟩ := hrel
      by_cases hkn : k < zs.length
      · obtain ⟨z, hz⟩ : ∃ z, zs[k]? = some z := ⟨_, List.getElem?_eq_getElem hkn⟩
        have hc := hcell k z hz
        have hw : wrap64 ((k : Int) + 1) = k + 1 := by unfold wrap64; omega
        have N1 := hP z (List.mem_of_getElem? hz)
        have HC := Lib.hid hcell
        have HNO := Lib.hid hno
        clear hcell hno hP
        rcases Bool.eq_false_or_eq_true (p z) with hpz | hpz
        · rw [hpz] at N1
          go_wp2_with (go_at_call 33; go_loud (with_reducible refine N1.mono ?_); rintro e w1 ⟨rfl, rfl⟩)
          go_ret
          refine ⟨⟨_, rfl, ?_⟩, rfl⟩
          have hm : zs.any p = true := List.any_eq_true.2 ⟨z, List.mem_of_getElem? hz, hpz⟩
          rw [hm]
          simp
        · rw [hpz] at N1
          go_wp2_with (go_at_call 33; go_loud (with_reducible refine N1.mono ?_); rintro e w1 ⟨rfl, rfl⟩)
          refine ⟨⟨k + 1, by omega, by go_num, fun j y hj hy => ?_⟩, by simp [intOf]; omega⟩
          rcases Nat.lt_or_ge j k with c | c
          · exact HNO.out j y c hy
          · obtain rfl : j = k := by omega
            rw [hz] at hy
            cases hy
            exact hpz
      · obtain rfl : k = zs.length := by omega
        have hm : zs.any p = false := by
          rw [List.any_eq_false]
          intro x hx
          obtain ⟨i, hi, e⟩ := List.mem_iff_getElem.1 hx
          rw [hno i x hi (by rw [← e]; exact List.getElem?_eq_getElem hi)]
          simp
        clear hcell hno hP
        go_wp2
        go_ret
        exact ⟨⟨_, rfl, by first | (rw [hm]; simp) | simp⟩, rfl⟩
theorem f_waits (B : Nat) (v cap : Value) (zs : List Int) (p : Int → Bool) (w : World) (h : Ints w B v zs) (hsz : zs.length ≤ 140737488355328) (hP : ∀ x ∈ zs, Calls Try.prog 33 #[.int .i64 x, cap] w fun e w' => e = .returned (.bool (p x)) ∧ w' = w) :
    Calls Try.prog 34 #[v, .func (.func 33) #[] #[cap]] w fun e w' => e = .returned (.bool (zs.any p)) ∧ w' = w := by
  have N1 := i_waits B v cap zs p w h hsz hP
  clear h hP
  go_enter Try.func34, Try.ntmps34
  go_wp2_with (go_at_call 49; go_loud (with_reducible refine N1.mono ?_); rintro e w1 ⟨⟨r, rfl, hr⟩, rfl⟩)
  go_ret
  exact ⟨rfl, rfl⟩
theorem c_thereB (B : Nat) (v : Value) (zs : List Int) (n : Nat) (w : World) (h : Ints w B v zs) (hsz : zs.length ≤ 140737488355328) : Calls Try.prog 32 #[v, .int .i64 n] w fun e w' => e = .returned (.bool (!zs.any (outB n))) ∧ Below w.heap.size w w' := by
  have N1 := f_there B v (.pointer (some ⟨w.heap.size, 0, none⟩)) zs (outB n) (w.alloc (.cells #[.int .i64 n] 3 (0, 0))) (h.go (b_al (Below.refl _ _) _)) hsz (fun x _ => c_there1 n x _ _ (k_new rfl))
  clear h
  go_enter Try.func32, Try.ntmps32
  go_wp2_with (go_at_call 34; go_loud (with_reducible refine N1.mono ?_); rintro e w1 ⟨rfl, rfl⟩)
  go_ret
  exact ⟨rfl, b_al (Below.refl _ _) _⟩
theorem r_called (B : Nat) (ao : Option Addr) (n cc : Nat) (v : Value) (zs : List Int) (w : World) (h : Ints w B v zs) (hsz : zs.length ≤ 140737488355328) : Calls Try.prog 35 #[.slice ao n cc, v] w fun e w' => e = .returned (.bool (!zs.any (outB n))) ∧ w' = w := by
  obtain ⟨R, hR⟩ : ∃ R, zs.any (outB n) = R := ⟨_, rfl⟩
  rw [hR]
  rcases h.form with ⟨rfl, rfl⟩ | ⟨g, c, rfl, hcap, hg, hgl, hcell⟩
  · obtain rfl : false = R := by simpa using hR
    go_enter Try.func35, Try.ntmps35
    go_wp2_with fail
    go_loop [5] (fun i => i = .int .i64 0) (fun i => 0)
    case atStart => rfl
    case round =>
      subst hrel
      go_wp2
      go_ret
      simp
  · clear h
    go_enter Try.func35, Try.ntmps35
    go_wp2_with fail
    go_loop [5] (fun i => ∃ k : Nat, k ≤ zs.length ∧ i = .int .i64 k ∧ ∀ j z, j < k → zs[j]? = some z → outB n z = false) (fun i => zs.length - (intOf i).toNat)
    case atStart => exact ⟨0, Nat.zero_le _, rfl, fun j z h => absurd h (by omega)⟩
    case round =>
      obtain ⟨k, hk, rfl, hno⟩ := hrel
      by_cases hkn : k < zs.length
      · obtain ⟨z, hz⟩ : ∃ z, zs[k]? = some z := ⟨_, List.getElem?_eq_getElem hkn⟩
        have hc := hcell k z hz
        have hw : wrap64 ((k : Int) + 1) = k + 1 := by unfold wrap64; omega
        have HC := Lib.hid hcell
        have HNO := Lib.hid hno
        clear hcell hno
        rcases Bool.eq_false_or_eq_true (outB n z) with hpz | hpz
        · have hm : zs.any (outB n) = true := List.any_eq_true.2 ⟨z, List.mem_of_getElem? hz, hpz⟩
          rw [hR] at hm
          subst hm
          have hz2 : z < 0 ∨ ¬ z < 0 ∧ (n : Int) ≤ z := by simp [outB] at hpz; omega
          rcases hz2 with hz2 | ⟨hz2, hz3⟩
          · go_wp2
            all_goals go_ret
            all_goals simp
          · go_wp2
            all_goals go_ret
            all_goals simp
        · have hz2 : ¬ z < 0 ∧ ¬ (n : Int) ≤ z := by simp [outB] at hpz; omega
          obtain ⟨hz2, hz3⟩ := hz2
          go_wp2_with fail
          all_goals refine ⟨⟨k + 1, by omega, by go_num, fun j y hj hy => ?_⟩, by simp [intOf]; omega⟩
          all_goals
            rcases Nat.lt_or_ge j k with c | c
            · exact HNO.out j y c hy
            · obtain rfl : j = k := by omega
              rw [hz] at hy
              cases hy
              exact hpz
      · obtain rfl : k = zs.length := by omega
        have hm : zs.any (outB n) = false := by
          rw [List.any_eq_false]
          intro x hx
          obtain ⟨i, hi, e⟩ := List.mem_iff_getElem.1 hx
          rw [hno i x hi (by rw [← e]; exact List.getElem?_eq_getElem hi)]
          simp
        rw [hR] at hm
        subst hm
        clear hcell hno
        go_wp2
        go_ret
        exact ⟨rfl, rfl⟩
end Go.Proofs.Ytmnaeoljpajomaa.H
