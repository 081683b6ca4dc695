/- Contract of Calls: the codes that a code calls, sorted, each once. Condition: its instructions lie in memory. -/
import Derived.Test.YtmnaeoljpajomaaHBdB
import Derived.Test.YtmnaeoljpajomaaShelf
import Derived.Lib.OwnBridge
import Derived.Lib.RowBridge
namespace Go.Proofs.Ytmnaeoljpajomaa.H
set_option linter.unusedVariables false
set_option linter.unusedSimpArgs false
open Go.RowKit Go.Proofs.Ytmnaeoljpajomaa.Plain Go.Sort
set_option maxHeartbeats 3200000
set_option maxRecDepth 100000
attribute [local go_sem] ext_from ext_bits cell_isSome un_neg_float
abbrev encI : Int → Value := Value.int .i64
/-- Whole numbers in a slice of the walk's own. -/
def Ints (w : World) (B : Nat) (v : Value) (zs : List Int) : Prop := w.ownsRow B 3 1 v zs.length (zs.map encI)
theorem Ints.go {w w' : World} {B : Nat} {v : Value} {zs : List Int} (h : Ints w B v zs) (hb : Below w.heap.size w w') : Ints w' B v zs := own_below h hb
def sortI (zs : List Int) : List Int := zs.mergeSort fun x y => decide (x ≤ y)
theorem sortI_len (zs : List Int) : (sortI zs).length = zs.length := List.length_mergeSort zs
theorem own_grow {w : World} {B k n : Nat} {T : TypeId} {v : Value} {xs : List Value} (h : w.ownsRow B T k v n xs) (os : Array Obj) : (grow w os).ownsRow B T k v n xs := by
  obtain ⟨h1, h2⟩ := h
  refine ⟨h1, ?_⟩
  rcases h2 with h2 | ⟨g, cap, cur, e1, e2, e3, e4⟩
  · exact .inl h2
  · exact .inr ⟨g, cap, cur, e1, e2, (heap_grow_old w os (k_lt e3)).trans e3, e4⟩
theorem below_grow0 {B : Nat} {a w : World} (h : Below B a w) (hB : B ≤ w.heap.size) (os : Array Obj) : Below B a (grow w os) :=
  ⟨h.os, h.tape, h.output, Nat.le_trans h.size (by simp [grow]), fun k hk => (heap_grow_old w os (by omega)).trans (h.block k hk)⟩
theorem nil_ints {w : World} {B n : Nat} {T : TypeId} {xs : List Value} (h : w.ownsRow B T 1 (.slice none 0 0) n xs) : n = 0 ∧ xs = [] := by
  have h1 := h.1
  rcases h.2 with ⟨_, e⟩ | ⟨g, cap, cur, e, _⟩
  · subst e
    exact ⟨rfl, List.eq_nil_of_length_eq_zero (by simpa using h1)⟩
  · cases e
theorem c_sortI (B : Nat) (v : Value) (zs : List Int) (w : World) (h : Ints w B v zs) (hB : B ≤ w.heap.size) (hsz : zs.length < 4611686018427387904) : Calls Try.prog 27 #[v] w fun e w' => e = .returned (.tuple #[]) ∧ Ints w' B v (sortI zs) ∧ Below B w w' := by
  by_cases hv : v = .slice none 0 0
  · subst hv
    obtain ⟨h0, h1⟩ := nil_ints h
    obtain rfl : zs = [] := List.eq_nil_of_length_eq_zero h0
    refine (Try.slices_Sort_int_none none 0 w).mono ?_
    rintro e w' ⟨rfl, rfl⟩
    exact ⟨rfl, by rw [show sortI [] = [] by simp [sortI]]; exact World.ownsRow_nil _ _ _ _, Below.refl _ _⟩
  · obtain ⟨g, cap, rfl, hg, hgl, hn, hm, hl, hH⟩ := Go.Lib.holds_of_ownsRow h hv
    refine (Try.slices_Sort_int g 0 cap zs w hH hgl hsz).mono ?_
    rintro e w' ⟨rfl, q, os, rfl⟩
    refine ⟨rfl, ?_, below_grow0 (Go.Lib.below_putRow (Below.refl _ _) hg) (by simpa [putRow, mapBlock, Sort.ahead] using hB) os⟩
    have := Go.Lib.ownsRow_putRow (q := q) (k := zs.length) h (sortI_len zs) (Nat.le_refl _)
    have ht : (sortI zs).take zs.length = sortI zs := List.take_of_length_le (by rw [sortI_len]; exact Nat.le_refl _)
    rw [ht] at this
    unfold Ints
    rw [sortI_len]
    exact own_grow this os
theorem c_compactI (B : Nat) (v : Value) (zs : List Int) (w : World) (h : Ints w B v zs) (hB : B ≤ w.heap.size) (hsz : zs.length < 4611686018427387904) : Calls Try.prog 28 #[v] w fun e w' => (∃ v', e = .returned v' ∧ Ints w' B v' (Lib.compact zs)) ∧ Below B w w' := by
  by_cases hv : v = .slice none 0 0
  · subst hv
    obtain ⟨h0, h1⟩ := nil_ints h
    obtain rfl : zs = [] := List.eq_nil_of_length_eq_zero h0
    refine (Try.slices_Compact_int_empty none 0 w).mono ?_
    rintro e w' ⟨rfl, rfl⟩
    exact ⟨⟨_, rfl, World.ownsRow_nil _ _ _ _⟩, Below.refl _ _⟩
  · obtain ⟨g, cap, rfl, hg, hgl, hn, hm, hl, hH⟩ := Go.Lib.holds_of_ownsRow h hv
    refine (Try.slices_Compact_int g 0 cap zs w hH (by omega) hn).mono ?_
    rintro e w' ⟨rfl, q, rfl⟩
    refine ⟨⟨_, rfl, ?_⟩, Go.Lib.below_putRow (Below.refl _ _) hg⟩
    have hc : (Lib.compact zs).length ≤ zs.length := Lib.compact_length_le zs
    have := Go.Lib.ownsRow_putRow (q := q) (k := (Lib.compact zs).length) (ys := Lib.compact zs ++ List.replicate (zs.length - (Lib.compact zs).length) 0) h (by simp; omega) hc
    rw [List.take_left'] at this
    · exact this
    · rfl
/-- Which codes some instructions call, in their order. -/
def callsOf (ops : List OpD) : List Int := (ops.filter (fun o => o.code == 18)).map OpD.b
/-- The same, sorted, each once. -/
def callsV (ops : List OpD) : List Int := Lib.compact (sortI (callsOf ops))
theorem callsOf_step {ops : List OpD} {k : Nat} {o : OpD} (h : ops[k]? = some o) : callsOf (ops.take (k + 1)) = callsOf (ops.take k) ++ (if o.code == 18 then [o.b] else []) := by
  rw [List.take_add_one, h]
  unfold callsOf
  rw [List.filter_append, List.map_append]
  congr 1
  by_cases c : o.code = 18
  · simp [c]
  · simp [c]
theorem callsOf_len (ops : List OpD) : (callsOf ops).length ≤ ops.length := by
  unfold callsOf
  rw [List.length_map]
  exact List.length_filter_le _ _
/-- A list of codes' numbers is answered. -/
def OutI (B : Nat) (e : Ending) (zs : List Int) (w : World) : Prop := ∃ v, e = .returned v ∧ Ints w B v zs
theorem c_Calls (f : FlatD) (w : World) (hf : Ops w f.ao f.on f.ops) (hs : f.on * 88 ≤ 140737488355328) : Calls Try.prog 11 #[f.val] w fun e w' => OutI w.heap.size e (callsV f.ops) w' ∧ Below w.heap.size w w' := by
  obtain ⟨i0, hi, hz0, hz1, hz2⟩ := info_parts (show (Try.prog.info? 3).map (fun i => (i.zero, i.size, i.bytes)) = some (some (.int .i64 0), 1, 8) by kernel_rfl)
  obtain ⟨hl, hS⟩ := hf
  obtain ⟨ops, hops⟩ : ∃ o, f.ops = o := ⟨_, rfl⟩
  obtain ⟨ao, hao⟩ : ∃ o, f.ao = o := ⟨_, rfl⟩
  obtain ⟨n, hn⟩ : ∃ o, f.on = o := ⟨_, rfl⟩
  rw [hops, hao, hn] at hS
  rw [hops, hn] at hl
  rw [hn] at hs
  rw [hops]
  have HN := Lib.hid (And.intro hao hn)
  simp only [FlatD.val, hao, hn]
  clear hops hao hn
  go_enter Try.func11, Try.ntmps11
  go_wp2_with fail
  go_loopw [3, 9] (fun u i wr => ∃ (k : Nat) (zs : List Int), k ≤ n ∧ i = .int .i64 k ∧ zs = callsOf (ops.take k) ∧ Ints wr w.heap.size u zs ∧ Below w.heap.size w wr) (fun _ i _ => n - (intOf i).toNat)
  case atStart => exact ⟨0, [], Nat.zero_le _, rfl, by simp [callsOf], World.ownsRow_nil _ _ _ _, b_al (Below.refl _ _) _⟩
  case round =>
    obtain ⟨k, zs, hk, rfl, hzs, hown, hbel⟩ := hrel
    subst hzs
    by_cases hkn : k < n
    · obtain ⟨o, ho⟩ : ∃ o, ops[k]? = some o := ⟨_, List.getElem?_eq_getElem (by omega)⟩
      rcases ao with _ | a
      · exact absurd (hS.2.1 rfl) (by omega)
      have hSr := hS.go hbel
      have z0 := hSr.at0 OpD.len ho rfl
      have z1 := hSr.atS OpD.len ho (j := 1) (by decide) rfl
      have z2 := hSr.atS OpD.len ho (j := 2) (by decide) rfl
      have z3 := hSr.atS OpD.len ho (j := 3) (by decide) rfl
      have z4 := hSr.atS OpD.len ho (j := 4) (by decide) rfl
      have z5 := hSr.atS OpD.len ho (j := 5) (by decide) rfl
      have z6 := hSr.atS OpD.len ho (j := 6) (by decide) rfl
      have z7 := hSr.atS OpD.len ho (j := 7) (by decide) rfl
      have z8 := hSr.atS OpD.len ho (j := 8) (by decide) rfl
      have z9 := hSr.atS OpD.len ho (j := 9) (by decide) rfl
      have hstep := callsOf_step ho
      have hzl : (callsOf (ops.take k)).length ≤ k := by have h1 := callsOf_len (ops.take k); rw [List.length_take] at h1; omega
      rcases Bool.eq_false_or_eq_true (o.code == 18) with hc | hc
      · go_wp2_with (at_builtin; go_loud (refine wpList_append_own _ rfl _ _ 27 rfl w.heap.size 3 i0 _ 1 8 Try.underlying27 hi hz0 hz1 hz2 rfl (by decide) _ _ _ rfl ((World.ownsRow.alloc hown _).alloc _) ⟨wr.heap.size + 1, 0, none⟩ 1 1 [.int .i64 o.b] rfl rfl ?c1 ?c2 ?c3 ?c4 ?c5 ?_))
        case c1 =>
          intro j u hj
          rw [add_pl]
          exact (k_cell (k_new (by simp)) j).trans (by simpa using hj)
        case c2 => intro u hu; simp at hu; subst hu; rfl
        case c3 => unfold maxLen; omega
        case c4 => omega
        case c5 => have h1 := hbel.size; simp; omega
        intro v' w3 hown' hgrow hnil
        have hb3 : Below w.heap.size w w3 := Below.grown (row := u3.ownBlock) (b_al (b_al hbel _) _) hgrow (by have h1 := hbel.size; simp; omega) (fun q hq => (World.ownsRow.lt hown q hq).1)
        rw [if_pos hc] at hstep
        have hI : Ints w3 w.heap.size v' (callsOf (ops.take (k + 1))) := by
          rw [hstep]
          unfold Ints
          rw [List.map_append, List.length_append]
          exact hown'
        have HI := Lib.hid hI
        clear hI hown' hgrow
        go_wp2
        go_roundw
        case rel => exact ⟨k + 1, _, by omega, by go_num, rfl, HI.out, hb3⟩
        case measure => simp [intOf]; omega
      · rw [if_neg (by rw [hc]; decide), List.append_nil] at hstep
        have HI := Lib.hid hown
        clear hown
        go_wp2
        go_roundw
        case rel => exact ⟨k + 1, _, by omega, by go_num, rfl, (by rw [hstep]; exact Ints.go HI.out (b_al (Below.refl _ _) _)), b_al hbel _⟩
        case measure => simp [intOf]; omega
    · obtain rfl : k = n := by omega
      rw [List.take_of_length_le (by omega)] at hown
      have hzl : (callsOf ops).length ≤ k := by have h1 := callsOf_len ops; omega
      have N1 := c_sortI w.heap.size u3 (callsOf ops) wr hown hbel.size (by omega)
      go_wp2_with (first | (go_at_call 27; go_loud (with_reducible refine N1.mono ?_); rintro e w1 ⟨rfl, hI1, hb1⟩; have N2 := c_compactI w.heap.size u3 (sortI (callsOf ops)) w1 hI1 (Nat.le_trans hbel.size hb1.size) (by rw [sortI_len]; omega)) | (go_at_call 28; go_loud (with_reducible refine N2.mono ?_); rintro e w2 ⟨⟨v', rfl, hI2⟩, hb2⟩))
      go_ret
      exact ⟨⟨_, rfl, hI2⟩, (hbel.trans hb1).trans hb2⟩
end Go.Proofs.Ytmnaeoljpajomaa.H
