/- Contracts for VmNothing: slices.Clone at cells and at values, slices.Equal at values. Condition: sizes lie within reach. -/
import Derived.Test.YtccdgjjoeamnjaaGreatDoorHVmB
namespace Go.Proofs.YtccdgjjoeamnjaaGreatDoor.H
set_option linter.unusedVariables false
set_option linter.unusedSimpArgs false
open Go.RowKit Go.Proofs.YtccdgjjoeamnjaaGreatDoor.Plain
set_option maxHeartbeats 3200000
set_option maxRecDepth 100000
attribute [local go_sem] ext_from ext_bits cell_isSome un_neg_float
theorem add_pl (g j : Nat) : (⟨g, 0, none⟩ : Addr).add j = ⟨g, j, none⟩ := by
  unfold Addr.add
  split
  · rename_i h; subst h; rfl
  · simp
/-- Rows of cells side by side. -/
def flatR (l : List CellD) : List Value := l.flatMap CellD.row
theorem flatR_len (l : List CellD) : (flatR l).length = l.length * 11 := by
  induction l with
  | nil => rfl
  | cons v l ih =>
    have e : flatR (v :: l) = CellD.row v ++ flatR l := by simp [flatR]
    rw [e, List.length_append, ih]
    simp [CellD.row]
    omega
theorem flatR_get (l : List CellD) (i : Nat) (v : CellD) (h : l[i]? = some v) (j : Nat) (hj : j < 11) : (flatR l)[i * 11 + j]? = (CellD.row v)[j]? := by
  induction l generalizing i with
  | nil => simp at h
  | cons x l ih =>
    have e : flatR (x :: l) = CellD.row x ++ flatR l := by simp [flatR]
    have hx : (CellD.row x).length = 11 := rfl
    rw [e]
    cases i with
    | zero =>
      have h2 : x = v := by simpa using h
      subst h2
      rw [List.getElem?_append_left (by omega)]
      simp
    | succ i =>
      rw [List.getElem?_append_right (by omega), hx]
      have := ih i (by simpa using h)
      rw [show (i + 1) * 11 + j - 11 = i * 11 + j by omega]
      exact this
theorem flatR_one (l : List CellD) : ∀ u ∈ flatR l, u.oneCell' = true := by
  intro u hu
  obtain ⟨v, _, hv⟩ := List.mem_flatMap.1 hu
  exact row_one v u hv
theorem cells_flat {w : World} {a : Addr} {ds : List CellD} (h : CellsAt w a ds) : ∀ m u, (flatR ds)[m]? = some u → w.cell? (a.add m) = some u := by
  intro m u hm
  have hl : m < (flatR ds).length := by
    rcases Nat.lt_or_ge m (flatR ds).length with c | c
    · exact c
    · rw [List.getElem?_eq_none c] at hm; cases hm
  rw [flatR_len] at hl
  have hd : ds[m / 11]? = some (ds[m / 11]'(by omega)) := List.getElem?_eq_getElem (by omega)
  have e : m / 11 * 11 + m % 11 = m := by omega
  have := flatR_get ds (m / 11) _ hd (m % 11) (by omega)
  rw [e, hm] at this
  have := h.cell (m / 11) _ hd (m % 11) u this.symm
  rwa [e] at this
/-- A slice of cells, wherever it lies. -/
def Cells (w : World) (ao : Option Addr) (n : Nat) (ds : List CellD) : Prop := ds.length = n ∧ (ao = none → n = 0) ∧ ∀ a, ao = some a → CellsAt w a ds
theorem Cells.go {w w' : World} {ao : Option Addr} {n : Nat} {ds : List CellD} (h : Cells w ao n ds) (hb : Below w.heap.size w w') : Cells w' ao n ds := ⟨h.1, h.2.1, fun a ha => (h.2.2 a ha).go hb⟩
theorem cells_own {w : World} {B n : Nat} {v : Value} {ds : List CellD} (h : w.ownsRow B 40 11 v n (flatR ds)) (hl : ds.length = n) : ∃ ao c, v = .slice ao n c ∧ Cells w ao n ds := by
  obtain ⟨h1, h2 | ⟨g, cap, cur, rfl, e2, e3, e4⟩⟩ := h
  · obtain ⟨rfl, rfl⟩ := h2
    exact ⟨none, 0, rfl, hl, fun _ => rfl, fun a ha => by cases ha⟩
  · refine ⟨some ⟨g, 0, none⟩, cap, rfl, hl, (fun h => by cases h), fun a ha => ?_⟩
    obtain rfl : (⟨g, 0, none⟩ : Addr) = a := Option.some.inj ha
    refine ⟨fun i d hd j u hu => ?_, fun _ => k_lt e3⟩
    have hi : i < ds.length := by
      rcases Nat.lt_or_ge i ds.length with c | c
      · exact c
      · rw [List.getElem?_eq_none c] at hd; cases hd
    have hj : j < 11 := by
      rcases Nat.lt_or_ge j 11 with c | c
      · exact c
      · rw [List.getElem?_eq_none (by simpa [CellD.row] using c)] at hu; cases hu
    have hg := flatR_get ds i d hd j hj
    have hown : w.ownsRow B 40 11 (.slice (some ⟨g, 0, none⟩) n cap) n (flatR ds) := ⟨h1, .inr ⟨g, cap, cur, rfl, e2, e3, e4⟩⟩
    have := hown.cells (g := g) rfl (i * 11 + j) u (hg.trans hu)
    exact this
/-- A slice of values of the call's own. -/
def Vals (w : World) (v : Value) (vs : List Val) : Prop := w.ownsRow 0 28 3 v vs.length (flat vs)
theorem Vals.go {w w' : World} {v : Value} {vs : List Val} (h : Vals w v vs) (hb : Below w.heap.size w w') : Vals w' v vs := own_below h hb
theorem vals_own {w : World} {B n : Nat} {v : Value} {vs : List Val} (h : w.ownsRow B 28 3 v n (flat vs)) (hl : vs.length = n) : Vals w v vs := by
  subst hl
  obtain ⟨h1, h2 | ⟨g, cap, cur, e1, e2, e3⟩⟩ := h
  · exact ⟨h1, .inl h2⟩
  · exact ⟨h1, .inr ⟨g, cap, cur, e1, Nat.zero_le _, e3⟩⟩
/-- Where values lie. -/
theorem vals_form {w : World} {v : Value} {vs : List Val} (h : Vals w v vs) : ∃ ao c, v = .slice ao vs.length c ∧ (ao = none → vs.length = 0) ∧ ∀ a, ao = some a → ∃ g, a = ⟨g, 0, none⟩ ∧ g < w.heap.size ∧ (∀ j u, (flat vs)[j]? = some u → w.cell? ⟨g, j, none⟩ = some u) := by
  obtain ⟨h1, h2 | ⟨g, cap, cur, rfl, e2, e3, e4⟩⟩ := h
  · exact ⟨none, 0, by rw [h2.1, h2.2], fun _ => h2.2, fun a ha => by cases ha⟩
  · refine ⟨some ⟨g, 0, none⟩, cap, rfl, (fun h => by cases h), fun a ha => ?_⟩
    obtain rfl : (⟨g, 0, none⟩ : Addr) = a := Option.some.inj ha
    refine ⟨g, rfl, k_lt e3, fun j u hu => ?_⟩
    have hown : w.ownsRow 0 28 3 (.slice (some ⟨g, 0, none⟩) vs.length cap) vs.length (flat vs) := ⟨h1, .inr ⟨g, cap, cur, rfl, e2, e3, e4⟩⟩
    have := hown.cells (g := g) rfl j u hu
    simpa [add_pl] using this
/-- A slice of such cells is answered; of such values. -/
def OutC (e : Ending) (n : Nat) (ds : List CellD) (w : World) : Prop := ∃ ao c, e = .returned (.slice ao n c) ∧ Cells w ao n ds
theorem outC {ao : Option Addr} {n c : Nat} {ds : List CellD} {w : World} (h : Cells w ao n ds) : OutC (.returned (.slice ao n c)) n ds w := ⟨ao, c, rfl, h⟩
def OutVs (e : Ending) (vs : List Val) (w : World) : Prop := ∃ v, e = .returned v ∧ Vals w v vs
theorem outVs {v : Value} {vs : List Val} {w : World} (h : Vals w v vs) : OutVs (.returned v) vs w := ⟨v, rfl, h⟩
theorem c_cloneC (ao : Option Addr) (n c : Nat) (ds : List CellD) (w : World) (hC : Cells w ao n ds) (hbig : n * 96 ≤ 140737488355328) :
    Calls Tryz.prog 6 #[.slice ao n c] w fun e w' => OutC e n ds w' ∧ Below w.heap.size w w' := by
  have q22 : ∀ (w : World) (a : Option Addr) (n c n' c' : Nat), (binOp .eql 22 (.slice a n c) (.slice none n' c')).run Tryz.prog w = .ok (.bool a.isNone) w := fun w a n c n' c' => Lib.run_eql_slice_nil w _ _ a n c n' c' Tryz.underlying22
  obtain ⟨i0, hi, hz0, hz1, hz2⟩ := info_parts (show (Tryz.prog.info? 40).map (fun i => (i.zero, i.size, i.bytes)) = some (some (.agg #[.int .u8 0, .bool false, .int .i64 0, .int .i64 0, .int .i64 0, .int .u8 0, .int .u64 0, .string ⟨#[]⟩, .bool false, .int .i64 0, .string ⟨#[]⟩]), 11, 96) by kernel_rfl)
  obtain ⟨hl, h0, hA⟩ := hC
  rcases ao with _ | a
  · obtain rfl : n = 0 := h0 rfl
    go_enter Tryz.func6, Tryz.ntmps6
    go_wp2
    go_ret
    exact ⟨outC ⟨hl, fun _ => rfl, fun a ha => by cases ha⟩, Below.refl _ _⟩
  · have hfl := flatR_len ds
    rw [hl] at hfl
    have A := Lib.hid (cells_flat (hA a rfl))
    have O := Lib.hid (flatR_one ds)
    clear hA h0
    go_enter Tryz.func6, Tryz.ntmps6
    go_wp2_with (at_builtin; go_loud (refine wpList_append_own _ rfl _ _ 22 rfl w.heap.size 40 i0 _ 11 96 Tryz.underlying22 hi hz0 hz1 hz2 rfl (by decide) _ _ _ rfl (World.ownsRow_made w #[] 0 (Nat.le_refl _) (Nat.zero_le _) (by simp)) a n c (flatR ds) rfl hfl (fun j u hj => Lib.cell?_alloc_some _ (A.out j u hj)) O.out (by unfold maxLen; omega) (by omega) (by simp) ?_); intro v' w1 hown hgrow hnil)
    rw [List.nil_append, Nat.zero_add] at hown
    obtain ⟨ao', c', rfl, hC'⟩ := cells_own hown hl
    go_wp2
    go_ret
    exact ⟨outC hC', ((Below.refl _ w).alloc (Nat.le_refl _) _).grown hgrow (by simp) (fun k hk => by have e : w.heap.size = k := Option.some.inj hk; omega)⟩
theorem c_cloneV (v : Value) (vs : List Val) (w : World) (hV : Vals w v vs) (hbig : vs.length * 32 ≤ 140737488355328) :
    Calls Tryz.prog 7 #[v] w fun e w' => OutVs e vs w' ∧ Below w.heap.size w w' := by
  have q22 : ∀ (w : World) (a : Option Addr) (n c n' c' : Nat), (binOp .eql 23 (.slice a n c) (.slice none n' c')).run Tryz.prog w = .ok (.bool a.isNone) w := fun w a n c n' c' => Lib.run_eql_slice_nil w _ _ a n c n' c' Tryz.underlying23
  obtain ⟨i0, hi, hz0, hz1, hz2⟩ := info_parts (show (Tryz.prog.info? 28).map (fun i => (i.zero, i.size, i.bytes)) = some (some (.agg #[.int .u8 0, .int .u64 0, .string ⟨#[]⟩]), 3, 32) by kernel_rfl)
  obtain ⟨ao, c, rfl, h0, hA⟩ := vals_form hV
  rcases ao with _ | a
  · obtain rfl : vs = [] := List.eq_nil_of_length_eq_zero (h0 rfl)
    clear h0 hA hV
    go_enter Tryz.func7, Tryz.ntmps7
    go_wp2
    go_ret
    exact ⟨outVs (World.ownsRow_nil _ _ _ _), Below.refl _ _⟩
  · obtain ⟨g, rfl, hg, hcell⟩ := hA a rfl
    have hfl := flat_len vs
    have A := Lib.hid hcell
    have O := Lib.hid (flat_one_cell vs)
    clear hA h0 hcell hV
    go_enter Tryz.func7, Tryz.ntmps7
    go_wp2_with (at_builtin; go_loud (refine wpList_append_own _ rfl _ _ 23 rfl w.heap.size 28 i0 _ 3 32 Tryz.underlying23 hi hz0 hz1 hz2 rfl (by decide) _ _ _ rfl (World.ownsRow_made w #[] 0 (Nat.le_refl _) (Nat.zero_le _) (by simp)) ⟨g, 0, none⟩ vs.length c (flat vs) rfl hfl (fun j u hj => Lib.cell?_alloc_some _ (by rw [add_pl]; exact A.out j u hj)) O.out (by unfold maxLen; omega) (by omega) (by simp) ?_); intro v' w1 hown hgrow hnil)
    rw [List.nil_append, Nat.zero_add] at hown
    go_wp2
    go_ret
    exact ⟨outVs (vals_own hown rfl), ((Below.refl _ w).alloc (Nat.le_refl _) _).grown hgrow (by simp) (fun k hk => by have e : w.heap.size = k := Option.some.inj hk; omega)⟩
theorem e_Equal (v1 v2 : Value) (vs : List Val) (w : World) (h1 : Vals w v1 vs) (h2 : Vals w v2 vs) (hbig : vs.length * 32 ≤ 140737488355328) :
    Calls Tryz.prog 9 #[v1, v2] w fun e w' => e = .returned (.bool true) ∧ Below w.heap.size w w' := by
  obtain ⟨a1, c1, rfl, z1, A1⟩ := vals_form h1
  obtain ⟨a2, c2, rfl, z2, A2⟩ := vals_form h2
  clear h1 h2
  go_enter Tryz.func9, Tryz.ntmps9
  go_wp2_with fail
  go_loopw [13] (fun i wr => ∃ k : Nat, k ≤ vs.length ∧ i = .int .i64 k ∧ Below w.heap.size w wr) (fun i _ => vs.length - (intOf i).toNat)
  case atStart => exact ⟨0, Nat.zero_le _, rfl, Below.refl _ _⟩
  case round =>
    obtain ⟨k, hk, rfl, hbel⟩ := hrel
    by_cases hkn : k < vs.length
    · rcases a1 with _ | a1
      · exact absurd (z1 rfl) (by omega)
      rcases a2 with _ | a2
      · exact absurd (z2 rfl) (by omega)
      obtain ⟨g1, rfl, l1, f1⟩ := A1 _ rfl
      obtain ⟨g2, rfl, l2, f2⟩ := A2 _ rfl
      obtain ⟨x, hx⟩ : ∃ x, vs[k]? = some x := ⟨_, List.getElem?_eq_getElem hkn⟩
      have p0 := (hbel.cell (p := ⟨g1, k * 3 + 0, none⟩) l1).trans (f1 _ _ (flat_get vs k x hx 0 (by decide)))
      have p1 := (hbel.cell (p := ⟨g1, k * 3 + 1, none⟩) l1).trans (f1 _ _ (flat_get vs k x hx 1 (by decide)))
      have p2 := (hbel.cell (p := ⟨g1, k * 3 + 2, none⟩) l1).trans (f1 _ _ (flat_get vs k x hx 2 (by decide)))
      have q0 := (hbel.cell (p := ⟨g2, k * 3 + 0, none⟩) l2).trans (f2 _ _ (flat_get vs k x hx 0 (by decide)))
      have q1 := (hbel.cell (p := ⟨g2, k * 3 + 1, none⟩) l2).trans (f2 _ _ (flat_get vs k x hx 1 (by decide)))
      have q2 := (hbel.cell (p := ⟨g2, k * 3 + 2, none⟩) l2).trans (f2 _ _ (flat_get vs k x hx 2 (by decide)))
      rw [Nat.add_zero] at p0 q0
      clear A1 A2 f1 f2 z1 z2
      go_wp2
      go_quiet (fail)
      go_wp2
      go_roundw
      case rel => exact ⟨k + 1, by omega, by go_num, below_drewN hbel _⟩
      case measure => simp [intOf]; omega
    · obtain rfl : k = vs.length := by omega
      clear A1 A2 hkn
      go_wp2
      go_ret
      exact ⟨rfl, hbel⟩
end Go.Proofs.YtccdgjjoeamnjaaGreatDoor.H
