/- slices.Clone at []api.Input: some slice comes back; what lay there lies there still. Condition: the slice's cells are there, and are not too many. -/
import Derived.Test.YtilbgcinmnndhaaGreatDoorProg
import Derived.WalkKit
import Derived.Below
import Derived.OwnWalk
import Derived.Lib.Hide
import Derived.Lib.SliceRun
import Derived.Lib.Walk
import Derived.DataReads
import Derived.DataElems
namespace Go.Proofs.YtilbgcinmnndhaaGreatDoor.H
set_option linter.unusedSimpArgs false
set_option linter.unusedVariables false
open Go.RowKit
set_option maxHeartbeats 3200000
set_option maxRecDepth 100000
theorem c_clone_nil (n c : Nat) (w : World) : Calls Tryz.prog 5 #[.slice none n c] w fun e w' => (∃ v', e = .returned v') ∧ Below w.heap.size w w' := by
  have q22 : ∀ (w : World) (a : Option Addr) (n c n' c' : Nat), (binOp .eql 26 (.slice a n c) (.slice none n' c')).run Tryz.prog w = .ok (.bool a.isNone) w := fun w a n c n' c' => Lib.run_eql_slice_nil w _ _ a n c n' c' Tryz.underlying26
  go_enter Tryz.func5, Tryz.ntmps5
  go_wp2
  go_ret
  exact ⟨⟨_, rfl⟩, Below.refl _ _⟩
theorem c_clone (a : Addr) (n c : Nat) (news : List Value) (w : World) (hl : news.length = n * 4) (hn : n ≤ maxLen) (hbig : n * 48 ≤ 140737488355328)
    (hc : ∀ j u, news[j]? = some u → w.cell? (a.add j) = some u) (h1 : ∀ u ∈ news, u.oneCell' = true) :
    Calls Tryz.prog 5 #[.slice (some a) n c] w fun e w' => (∃ v', e = .returned v') ∧ Below w.heap.size w w' := by
  have q22 : ∀ (w : World) (a : Option Addr) (n c n' c' : Nat), (binOp .eql 26 (.slice a n c) (.slice none n' c')).run Tryz.prog w = .ok (.bool a.isNone) w := fun w a n c n' c' => Lib.run_eql_slice_nil w _ _ a n c n' c' Tryz.underlying26
  obtain ⟨i0, hi, hz0, hz1, hz2⟩ := info_parts (show (Tryz.prog.info? 54).map (fun i => (i.zero, i.size, i.bytes)) = some (some (.agg #[.string ⟨#[]⟩, .int .u8 0, .int .u64 0, .string ⟨#[]⟩]), 4, 48) by kernel_rfl)
  have hzs : (Value.agg #[.string ⟨#[]⟩, .int .u8 0, .int .u64 0, .string ⟨#[]⟩]).cells.size = 4 := by rfl
  have A := Lib.hid hc
  clear hc
  go_enter Tryz.func5, Tryz.ntmps5
  go_wp2_with (at_builtin; go_loud (refine wpList_append_own _ rfl _ _ 26 rfl w.heap.size 54 i0 _ 4 48 Tryz.underlying26 hi hz0 hz1 hz2 hzs (by decide) _ _ _ rfl (World.ownsRow_made w #[] 0 (Nat.le_refl _) (Nat.zero_le _) (by simp)) a n c news rfl ?qc1 ?qc2 ?qc3 ?qc4 ?qc5 ?qc6 ?_))
  case qc1 => exact hl
  case qc2 =>
    intro j u hj
    exact Lib.cell?_alloc_some _ (A.out j u hj)
  case qc3 => exact h1
  case qc4 => rw [Nat.zero_add]; exact hn
  case qc5 => rw [Nat.zero_add]; exact hbig
  case qc6 => simp
  intro v' w1 hown hgrow hnil
  go_wp2
  go_ret
  exact ⟨⟨_, rfl⟩, ((Below.refl _ w).alloc (Nat.le_refl _) _).grown hgrow (by simp) (by intro k hk; simp [Value.ownBlock] at hk; omega)⟩
theorem rows_cells {w : World} {a : Addr} {k : Nat} : ∀ n, (∀ i, i < n → ∃ cs, w.cells? 0 (a.add (i * k)) k = some cs ∧ ∀ u ∈ cs, u.oneCell' = true) →
    ∃ news : List Value, news.length = n * k ∧ (∀ j u, news[j]? = some u → w.cell? (a.add j) = some u) ∧ ∀ u ∈ news, u.oneCell' = true
  | 0, _ => ⟨[], by simp, fun j u h => by simp at h, fun u h => by simp at h⟩
  | n + 1, h => by
    obtain ⟨news, hl, hc, h1⟩ := rows_cells n (fun i hi => h i (by omega))
    obtain ⟨cs, hcs, h2⟩ := h n (by omega)
    obtain ⟨_, hlen, hcell⟩ := World.cells?_some hcs
    refine ⟨news ++ cs, by rw [List.length_append, hl, hlen, Nat.succ_mul], fun j u hj => ?_, fun u hu => ?_⟩
    · by_cases c : j < news.length
      · rw [List.getElem?_append_left c] at hj; exact hc j u hj
      · rw [List.getElem?_append_right (by omega)] at hj
        have hj2 : j - news.length < k := by
          rcases Nat.lt_or_ge (j - news.length) cs.length with x | x
          · omega
          · rw [List.getElem?_eq_none x] at hj; cases hj
        have := hcell _ hj2
        rw [hj] at this
        have e : (a.add (n * k)).add (j - news.length) = a.add j := by
          rw [Addr.add_add]
          congr 1
          omega
        rw [e] at this
        exact this
    · rcases List.mem_append.1 hu with x | x
      · exact h1 u x
      · exact h2 u x
end Go.Proofs.YtilbgcinmnndhaaGreatDoor.H
