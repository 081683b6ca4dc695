/- Contracts of small functions: sum, has, inside, once, and both sides' Next. Condition: loops lie in memory, places are small. -/
import Derived.Test.YtmnaeoljpajomaaHBoA
import Derived.Deep.RegionHeld3
namespace Go.Proofs.Ytmnaeoljpajomaa.H
set_option linter.unusedVariables false
set_option linter.unusedSimpArgs false
open Go.RowKit Go.Proofs.Ytmnaeoljpajomaa.Plain Go.Sort
set_option maxHeartbeats 3200000
set_option maxRecDepth 100000
attribute [local go_sem] ext_from ext_bits cell_isSome un_neg_float
abbrev OpD.val (o : OpD) : Value := .agg #[.int .i64 o.code, .int .i64 o.a, .int .i64 o.b, .int .i64 o.c, .int .i64 o.d, .int .i64 o.lo, .int .i64 o.hi, .int .u8 o.vk, .int .u64 o.vb, .string o.vt]
abbrev LoopD.val (o : LoopD) : Value := .agg #[.int .i64 o.head, .int .i64 o.stop, .int .i64 o.times]
theorem ints_row {w : World} {B g : Nat} {zs : List Int} (h : w.heap[g]? = some (.cells (zs.map encI).toArray 3 (0, 0))) (hB : B ≤ g) (hz : zs.length ≤ maxLen) : Ints w B (.slice (some ⟨g, 0, none⟩) zs.length zs.length) zs :=
  ⟨by simp, .inr ⟨g, zs.length, _, rfl, hB, h, Nat.le_refl _, hz, by simp, by rw [List.take_of_length_le (by simp)]⟩⟩
theorem outI_row {w : World} {B g n c : Nat} {zs : List Int} (h : w.heap[g]? = some (.cells (zs.map encI).toArray 3 (0, 0))) (hB : B ≤ g) (hz : zs.length ≤ maxLen) (hn : n = zs.length) (hc : c = zs.length) : OutI B (.returned (.slice (some ⟨g, 0, none⟩) n c)) zs w := by
  subst hn hc
  exact ⟨_, rfl, ints_row h hB hz⟩
theorem outI_nil (w : World) (B : Nat) : OutI B (.returned (.slice none 0 0)) [] w := ⟨_, rfl, World.ownsRow_nil _ _ _ _⟩
theorem c_sum (a b : Int) (w : World) (ha : 0 ≤ a ∧ a ≤ 1099511627776) (hb : 0 ≤ b ∧ b ≤ 1099511627776) : Calls Try.prog 44 #[.int .i64 a, .int .i64 b] w fun e w' => e = .returned (.int .i64 (sumC a b)) ∧ w' = w := by
  have hw : wrap64 (a + b) = a + b := by unfold wrap64; omega
  obtain ⟨r, hr⟩ : ∃ r, sumC a b = r := ⟨_, rfl⟩
  rw [hr]
  unfold sumC H40 at hr
  by_cases c : a + b ≤ 1099511627776
  · rw [if_pos c] at hr
    subst hr
    have c2 : ¬ (1099511627776 < a + b) := by omega
    go_enter Try.func44, Try.ntmps44
    go_wp2
    all_goals go_ret
    all_goals (first | exact ⟨rfl, rfl⟩ | (refine ⟨?_, rfl⟩; simp [*]; omega))
  · rw [if_neg c] at hr
    subst hr
    have c2 : 1099511627776 < a + b := by omega
    go_enter Try.func44, Try.ntmps44
    go_wp2
    all_goals go_ret
    all_goals (first | exact ⟨rfl, rfl⟩ | (refine ⟨?_, rfl⟩; simp [*]; omega))
theorem c_has (x : LoopD) (q : Int) (w : World) : Calls Try.prog 42 #[x.val, .int .i64 q] w fun e w' => e = .returned (.bool (hasB x q)) ∧ Below w.heap.size w w' := by
  obtain ⟨r, hr⟩ : ∃ r, hasB x q = r := ⟨_, rfl⟩
  rw [hr]
  unfold hasB at hr
  by_cases c1 : x.head ≤ q
  · by_cases c2 : q < x.stop
    · obtain rfl : true = r := by simpa [c1, c2] using hr
      go_enter Try.func42, Try.ntmps42
      go_wp2
      all_goals go_ret
      all_goals exact ⟨by simp, b_al (Below.refl _ _) _⟩
    · obtain rfl : false = r := by simpa [c1, c2] using hr
      go_enter Try.func42, Try.ntmps42
      go_wp2
      all_goals go_ret
      all_goals exact ⟨by simp, b_al (Below.refl _ _) _⟩
  · obtain rfl : false = r := by simpa [c1] using hr
    go_enter Try.func42, Try.ntmps42
    go_wp2
    all_goals go_ret
    all_goals exact ⟨by simp, b_al (Below.refl _ _) _⟩
theorem sort1 (a b : Int) : sortI [a, b] = if a ≤ b then [a, b] else [b, a] := by
  unfold sortI
  by_cases h : a ≤ b
  · simp [List.mergeSort, List.MergeSort.Internal.splitInTwo, h, List.merge]
  · simp [List.mergeSort, List.MergeSort.Internal.splitInTwo, h, List.merge]
theorem k_n1 (w : World) (A : Obj) (cs : Array Value) (t : TypeId) : ((w.alloc A).alloc (.cells cs t (0, 0))).heap[w.heap.size + 1]? = some (.cells cs t (0, 0)) := by
  have h : ((w.alloc A).alloc (.cells cs t (0, 0))).heap[(w.alloc A).heap.size]? = some (.cells cs t (0, 0)) := k_new rfl
  rwa [alloc_sz] at h
theorem c_irOnce (a b : Int) (w : World) : Calls Try.prog 53 #[.int .i64 a, .int .i64 b] w fun e w' => OutI w.heap.size e (if a = b then [a] else [a, b]) w' ∧ Below w.heap.size w w' := by
  by_cases c : a = b
  · rw [if_pos c]
    subst c
    go_enter Try.func53, Try.ntmps53
    go_wp2
    go_ret
    exact ⟨outI_row (k_new rfl) (Nat.le_refl _) (by simp [maxLen]) rfl rfl, b_al (Below.refl _ _) _⟩
  · rw [if_neg c]
    go_enter Try.func53, Try.ntmps53
    go_wp2
    go_ret
    exact ⟨outI_row (k_new rfl) (Nat.le_refl _) (by simp [maxLen]) rfl rfl, b_al (Below.refl _ _) _⟩
theorem c_irNext (o : OpD) (p : Nat) (w : World) (hp : p ≤ 1099511627776) : Calls Try.prog 39 #[o.val, .int .i64 p] w fun e w' => OutI w.heap.size e (nextI o p) w' ∧ Below w.heap.size w w' := by
  have hw : wrap64 ((p : Int) + 1) = p + 1 := by unfold wrap64; omega
  obtain ⟨r, hr⟩ : ∃ r, nextI o p = r := ⟨_, rfl⟩
  rw [hr]
  unfold nextI at hr
  by_cases c16 : o.code = 16
  · rw [if_pos c16] at hr
    subst hr
    clear hp
    go_enter Try.func39, Try.ntmps39
    go_wp2
    all_goals go_ret
    all_goals exact ⟨outI_row (k_n1 _ _ _ _) (Nat.le_succ _) (by simp [maxLen]) rfl rfl, b_al (b_al (Below.refl _ _) _) _⟩
  · rw [if_neg c16] at hr
    by_cases c17 : o.code = 17
    · rw [if_pos c17] at hr
      have N1 := c_irOnce ((p : Int) + 1) o.b (w.alloc (.cells #[.int .i64 17, .int .i64 o.a, .int .i64 o.b, .int .i64 o.c, .int .i64 o.d, .int .i64 o.lo, .int .i64 o.hi, .int .u8 o.vk, .int .u64 o.vb, .string o.vt] 47 (0, 0)))
      obtain ⟨zs, hzs⟩ : ∃ zs, (if (p : Int) + 1 = o.b then [(p : Int) + 1] else [(p : Int) + 1, o.b]) = zs := ⟨_, rfl⟩
      rw [hzs] at N1
      have hzl : zs.length < 4611686018427387904 := by subst hzs; split <;> simp
      have hsr : sortI zs = r := by
        subst hzs hr
        by_cases e : (p : Int) + 1 = o.b
        · rw [if_pos e, if_pos e.symm]; simp [sortI]
        · rw [if_neg e, if_neg (fun h => e h.symm), sort1]
          by_cases h : (p : Int) + 1 ≤ o.b
          · rw [if_pos h, if_neg (by omega)]
          · rw [if_neg h, if_pos (by omega)]
      clear hp hr hzs
      go_enter Try.func39, Try.ntmps39
      go_wp2_with (first | (go_at_call 53; go_loud (with_reducible refine N1.mono ?_); rintro e w1 ⟨⟨v1, rfl, hI1⟩, hb1⟩; have N2 := c_sortI (w.heap.size + 1) v1 zs w1 (by simpa using hI1) (by have := hb1.size; simpa using this) hzl) | (go_at_call 27; go_loud (with_reducible refine N2.mono ?_); rintro e w2 ⟨rfl, hI2, hb2⟩))
      all_goals go_ret
      all_goals exact ⟨⟨_, rfl, hsr ▸ own_low hI2 (Nat.le_succ _)⟩, (b_go (b_al (Below.refl _ _) _) hb1).trans (hb2.mono (Nat.le_succ _))⟩
    · rw [if_neg c17] at hr
      by_cases c20 : o.code = 20 ∨ o.code = 21
      · rw [if_pos c20] at hr
        subst hr
        clear hp
        rcases c20 with c20 | c20
        · go_enter Try.func39, Try.ntmps39
          go_wp2
          all_goals go_ret
          all_goals exact ⟨outI_nil _ _, b_al (Below.refl _ _) _⟩
        · go_enter Try.func39, Try.ntmps39
          go_wp2
          all_goals go_ret
          all_goals exact ⟨outI_nil _ _, b_al (Below.refl _ _) _⟩
      · rw [if_neg c20] at hr
        subst hr
        have c1 : ¬ o.code = 20 := fun h => c20 (.inl h)
        have c2 : ¬ o.code = 21 := fun h => c20 (.inr h)
        clear hp c20
        go_enter Try.func39, Try.ntmps39
        go_wp2
        all_goals go_ret
        all_goals exact ⟨outI_row (k_n1 _ _ _ _) (Nat.le_succ _) (by simp [maxLen]) rfl rfl, b_al (b_al (Below.refl _ _) _) _⟩
theorem r_Next (o : OpD) (p : Nat) (w : World) (hp : p ≤ 1099511627776) : Calls Try.prog 15 #[o.val, .int .i64 p] w fun e w' => OutI w.heap.size e (nextI o p) w' ∧ Below w.heap.size w w' := by
  have hw : wrap64 ((p : Int) + 1) = p + 1 := by unfold wrap64; omega
  obtain ⟨r, hr⟩ : ∃ r, nextI o p = r := ⟨_, rfl⟩
  rw [hr]
  unfold nextI at hr
  by_cases c16 : o.code = 16
  · rw [if_pos c16] at hr
    subst hr
    clear hp
    go_enter Try.func15, Try.ntmps15
    go_wp2
    all_goals go_ret
    all_goals exact ⟨outI_row (k_n1 _ _ _ _) (Nat.le_succ _) (by simp [maxLen]) rfl rfl, b_al (b_al (Below.refl _ _) _) _⟩
  · rw [if_neg c16] at hr
    by_cases c17 : o.code = 17
    · rw [if_pos c17] at hr
      by_cases e : o.b = (p : Int) + 1
      · rw [if_pos e] at hr
        subst hr
        clear hp
        have e1 : ¬ o.b < (p : Int) + 1 := by omega
        have e2 : ¬ o.b > (p : Int) + 1 := by omega
        go_enter Try.func15, Try.ntmps15
        go_wp2
        all_goals go_ret
        all_goals exact ⟨outI_row (k_n1 _ _ _ _) (Nat.le_succ _) (by simp [maxLen]) rfl rfl, b_al (b_al (Below.refl _ _) _) _⟩
      · rw [if_neg e] at hr
        by_cases h : o.b < (p : Int) + 1
        · rw [if_pos h] at hr
          subst hr
          clear hp
          go_enter Try.func15, Try.ntmps15
          go_wp2
          all_goals go_ret
          all_goals exact ⟨outI_row (k_n1 _ _ _ _) (Nat.le_succ _) (by simp [maxLen]) rfl rfl, b_al (b_al (Below.refl _ _) _) _⟩
        · rw [if_neg h] at hr
          subst hr
          clear hp
          have h2 : (p : Int) + 1 < o.b := by omega
          go_enter Try.func15, Try.ntmps15
          go_wp2
          all_goals go_ret
          all_goals exact ⟨outI_row (k_n1 _ _ _ _) (Nat.le_succ _) (by simp [maxLen]) rfl rfl, b_al (b_al (Below.refl _ _) _) _⟩
    · rw [if_neg c17] at hr
      by_cases c20 : o.code = 20 ∨ o.code = 21
      · rw [if_pos c20] at hr
        subst hr
        clear hp
        rcases c20 with c20 | c20
        · go_enter Try.func15, Try.ntmps15
          go_wp2
          all_goals go_ret
          all_goals exact ⟨outI_nil _ _, b_al (Below.refl _ _) _⟩
        · go_enter Try.func15, Try.ntmps15
          go_wp2
          all_goals go_ret
          all_goals exact ⟨outI_nil _ _, b_al (Below.refl _ _) _⟩
      · rw [if_neg c20] at hr
        subst hr
        have c1 : ¬ o.code = 20 := fun h => c20 (.inl h)
        have c2 : ¬ o.code = 21 := fun h => c20 (.inr h)
        have b1 : (o.code == 20) = false := by simp [c1]
        have b2 : (o.code == 21) = false := by simp [c2]
        have b3 : (o.code == 16) = false := by simp [c16]
        have b4 : (o.code == 17) = false := by simp [c17]
        clear hp c20 c1 c2 c16 c17
        go_enter Try.func15, Try.ntmps15
        go_wp2
        all_goals go_ret
        all_goals exact ⟨outI_row (k_n1 _ _ _ _) (Nat.le_succ _) (by simp [maxLen]) rfl rfl, b_al (b_al (Below.refl _ _) _) _⟩
end Go.Proofs.Ytmnaeoljpajomaa.H
