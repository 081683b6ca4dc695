/- Contract for VmNothing: vm.faulty over one code that only returns. Conditions: bits are 64, sizes lie within reach. -/
import Derived.Test.YtccdgjjoeamnjaaGreatDoorHVmC
namespace Go.Proofs.YtccdgjjoeamnjaaGreatDoor.H
set_option linter.unusedVariables false
set_option linter.unusedSimpArgs false
open Go.RowKit Go.Proofs.YtccdgjjoeamnjaaGreatDoor.Plain
set_option maxHeartbeats 3200000
set_option maxRecDepth 100000
attribute [local go_sem] ext_from ext_bits cell_isSome un_neg_float
/-- One code of one instruction, which returns, in memory. -/
structure CodeAt (w : World) (C O : Nat) : Prop where
  code : w.heap[C]? = some (.cells #[.string ⟨#[]⟩, .int .i64 0, .int .i64 0, .int .i64 0, .int .i64 0, .int .i64 0, .slice (some ⟨O, 0, none⟩) 1 1, .slice none 0 0] 34 (0, 0))
  op : w.heap[O]? = some (.cells #[.int .i64 21, .int .i64 0, .int .i64 0, .int .i64 0, .int .i64 0, .int .i64 0, .int .i64 0, .int .u8 0, .int .u64 0, .string ⟨#[]⟩] 30 (0, 0))
theorem CodeAt.go {w w' : World} {C O : Nat} (h : CodeAt w C O) (hb : Below w.heap.size w w') : CodeAt w' C O := ⟨k_go h.code hb, k_go h.op hb⟩
theorem kept_one {ds : List CellD} {k : Nat} {d : CellD} (hd : ds[k]? = some d) (h : keptB d.k (initV d) = false) : allKept ds = false := by
  unfold allKept
  rw [List.all_eq_false]
  exact ⟨d, List.mem_of_getElem? hd, by simp [h]⟩
theorem kept_all {ds : List CellD} (h : ∀ i, i < ds.length → ∀ d, ds[i]? = some d → keptB d.k (initV d) = true) : allKept ds = true := by
  unfold allKept
  rw [List.all_eq_true]
  intro d hd
  obtain ⟨i, hi, rfl⟩ := List.getElem_of_mem hd
  exact h i hi _ (List.getElem?_eq_getElem hi)
theorem step_all {ds : List CellD} {k : Nat} {d : CellD} (h : ∀ i, i < k → ∀ d, ds[i]? = some d → keptB d.k (initV d) = true) (hd : ds[k]? = some d) (hk : keptB d.k (initV d) = true) : ∀ i, i < k + 1 → ∀ d, ds[i]? = some d → keptB d.k (initV d) = true := by
  intro i hi d' hd'
  rcases Nat.lt_or_ge i k with c | c
  · exact h i c d' hd'
  · obtain rfl : i = k := by omega
    obtain rfl : d = d' := Option.some.inj (hd.symm.trans hd')
    exact hk
theorem v_faulty (ao : Option Addr) (n c C O : Nat) (ds : List CellD) (now base : Int) (v : Value) (w : World) (hC : Cells w ao n ds) (hV : Vals w v (ds.map initV)) (hK : CodeAt w C O) (hok : ∀ d ∈ ds, OkD d) (hbig : n * 96 ≤ 140737488355328) :
    Calls Tryz.prog 12 #[.slice (some ⟨C, 0, none⟩) 1 1, .int .i64 0, .int .i64 base, .int .i64 now, .slice ao n c, v, .int .i64 1] w fun e w' => e = .returned (.int .i64 (faultV now base ds)) ∧ Below w.heap.size w w' := by
  obtain ⟨av, cv, rfl, z1, A1⟩ := vals_form hV
  obtain ⟨hl, h0, hA⟩ := hC
  rw [List.length_map, hl]
  rw [List.length_map, hl] at z1
  have hcl := k_lt hK.code
  have k0 := k_cv hK.code 0 rfl
  have k1 := k_cv hK.code 1 rfl
  have k2 := k_cv hK.code 2 rfl
  have k3 := k_cv hK.code 3 rfl
  have k4 := k_cv hK.code 4 rfl
  have k5 := k_cv hK.code 5 rfl
  have k6 := k_cv hK.code 6 rfl
  have k7 := k_cv hK.code 7 rfl
  clear hV hK
  by_cases hnow : now < 0 ∨ now > 4611686018427387904
  · have hf : faultV now base ds = 8 := by unfold faultV; rw [if_pos hnow]
    rw [hf]
    clear hf A1 hA
    rcases hnow with hnow | hnow
    · go_enter Tryz.func12, Tryz.ntmps12
      go_wp2
      all_goals (go_ret; exact ⟨rfl, Below.refl _ _⟩)
    · go_enter Tryz.func12, Tryz.ntmps12
      go_wp2
      all_goals (go_ret; exact ⟨rfl, Below.refl _ _⟩)
  · have hn1 : 0 ≤ now := by omega
    have hn2 : now ≤ 4611686018427387904 := by omega
    have hf : faultV now base ds = if allKept ds = false then 8 else if base < 0 ∨ base > n then 9 else 0 := by unfold faultV; rw [if_neg hnow, hl]
    rw [hf]
    obtain ⟨F, hF⟩ : ∃ F, (if allKept ds = false then (8 : Int) else if base < 0 ∨ base > n then 9 else 0) = F := ⟨_, rfl⟩
    rw [hF]
    have HF := Lib.hid hF
    clear hnow hf hF
    go_enter Tryz.func12, Tryz.ntmps12
    go_wp2_with fail
    refine wp_loop_rounds 2 ?_
    rw [rounds_succ]
    go_wp2_with fail
    rw [rounds_succ]
    go_wp2_with fail
    go_loopw [69] (fun i wr => ∃ k : Nat, k ≤ n ∧ i = .int .i64 k ∧ Below w.heap.size w wr ∧ Hid (∀ i, i < k → ∀ d, ds[i]? = some d → keptB d.k (initV d) = true)) (fun i _ => n - (intOf i).toNat)
    case atStart => exact ⟨0, Nat.zero_le _, rfl, by (repeat (first | exact Below.refl _ _ | apply b_al | (refine b_st ?_ ?hg _; case hg => omega) | (refine b_go ?_ (by assumption)))), Lib.hid (fun i hi => absurd hi (by omega))⟩
    case round =>
      obtain ⟨k, hk, rfl, hbel, hall⟩ := hrel
      clear k0 k1 k2 k3 k4 k5 k6 k7
      by_cases hkn : k < n
      · rcases ao with _ | a
        · exact absurd (h0 rfl) (by omega)
        rcases av with _ | av
        · exact absurd (z1 rfl) (by omega)
        obtain ⟨g1, rfl, l1, f1⟩ := A1 _ rfl
        obtain ⟨d, hd⟩ : ∃ d, ds[k]? = some d := ⟨_, List.getElem?_eq_getElem (by omega)⟩
        obtain ⟨x, hx⟩ : ∃ x, initV d = x := ⟨_, rfl⟩
        have hm : (ds.map initV)[k]? = some x := by rw [List.getElem?_map, hd]; exact congrArg some hx
        have p0 := (hbel.cell (p := ⟨g1, k * 3 + 0, none⟩) l1).trans (f1 _ _ (flat_get _ k x hm 0 (by decide)))
        have p1 := (hbel.cell (p := ⟨g1, k * 3 + 1, none⟩) l1).trans (f1 _ _ (flat_get _ k x hm 1 (by decide)))
        have p2 := (hbel.cell (p := ⟨g1, k * 3 + 2, none⟩) l1).trans (f1 _ _ (flat_get _ k x hm 2 (by decide)))
        have q0 := ((hA a rfl).go hbel).cell k d hd 0 _ rfl
        have hao : a.block < w.heap.size := (hA a rfl).lt (by rintro rfl; simp at hd)
        rw [Nat.add_zero] at p0 q0
        have hok2 : OkV x := hx ▸ ok_init (hok d (List.mem_of_getElem? hd))
        have N1 := fun W y => v_may y x.2.1 x.2.2 hok2.1 hok2.2 W
        obtain ⟨xk, xb, xt⟩ := x
        obtain ⟨dk, hdk⟩ : ∃ dk, d.k = dk := ⟨_, rfl⟩
        have hkb : keptB d.k (initV d) = (xk == dk && (xk == 20 || mayB xk xb xt)) := by rw [hx, hdk]; rfl
        rw [hdk] at q0
        have HK := Lib.hid hkb
        have HD := Lib.hid hd
        have HL := Lib.hid hl
        clear A1 hA h0 z1 f1 hm hok2 hok hd hdk hx hkb hl
        simp only at N1 p0 p1 p2
        go_upto_region 12 with fail
        have hq := Lib.cell?_alloc_some (.cells #[.int .u8 xk, .int .u64 xb, .string xt] 28 (0, 0)) q0
        obtain ⟨m, hm⟩ : ∃ m, mayB xk xb xt = m := ⟨_, rfl⟩
        by_cases b1 : xk = dk
        · subst b1
          by_cases b2 : xk = 20
          · subst b2
            go_quiet (fail)
            go_wp2
            go_roundw
            case rel => exact ⟨k + 1, by omega, by go_num, below_drewN (b_al hbel _) _, Lib.hid (step_all hall.out HD.out (by rw [HK.out]; simp))⟩
            case measure => simp [intOf]; omega
          · have c2 : (xk == 20) = false := by simpa using b2
            have c3 : (xk != 20) = true := by simpa using b2
            have N2 : ∀ W, Calls Tryz.prog 20 #[.agg #[.int .u8 xk, .int .u64 xb, .string xt]] W fun e w' => e = .returned (.bool m) ∧ Below W.heap.size W w' := fun W => hm ▸ N1 W xk
            have HM := Lib.hid hm
            clear N1 hm
            go_region_with (go_at_call 20; with_reducible refine (N2 _).mono ?_; rintro e w1 ⟨rfl, hb1⟩)
            all_goals
              go_wp2
              · have hmf : m = false := by simpa using (by assumption : (!m) = true)
                subst hmf
                go_ret
                exact ⟨ret_int (by rw [← HF.out, if_pos (kept_one HD.out (by rw [HK.out, HM.out]; simp [b2]))]), by repeat (first | exact hbel | with_reducible apply b_dr | with_reducible apply b_al | with_reducible refine b_go ?_ (by assumption))⟩
              · have hmt : m = true := by simpa using (by assumption : (!m) = false)
                subst hmt
                go_roundw
                case rel => exact ⟨k + 1, by omega, by go_num, by repeat (first | exact hbel | with_reducible apply b_dr | with_reducible apply b_al | with_reducible refine b_go ?_ (by assumption)), Lib.hid (step_all hall.out HD.out (by rw [HK.out, HM.out]; simp))⟩
                case measure => simp [intOf]; omega
        · have c2 : (xk == dk) = false := by simpa using b1
          have c3 : (xk != dk) = true := by simpa using b1
          go_quiet (fail)
          go_wp2
          go_ret
          exact ⟨ret_int (by rw [← HF.out, if_pos (kept_one HD.out (by rw [HK.out, c2]; rfl))]), below_drewN (b_al hbel _) _⟩
      · obtain rfl : k = n := by omega
        have HA := Lib.hid (kept_all (ds := ds) (by rw [hl]; exact hall.out))
        have hF : F = if base < 0 ∨ base > k then 9 else 0 := by rw [← HF.out, if_neg (by rw [HA.out]; simp)]
        have HG := Lib.hid hF
        clear A1 hA z1 h0 hkn hk hF hl
        by_cases hb1 : base < 0
        · have hF := HG.out
          rw [if_pos (.inl hb1)] at hF
          subst hF
          clear HG HF
          go_wp2
          go_ret
          exact ⟨rfl, hbel⟩
        · by_cases hb2 : base > k
          · have hF := HG.out
            rw [if_pos (.inr hb2)] at hF
            subst hF
            clear HG HF
            go_wp2
            go_ret
            exact ⟨rfl, hbel⟩
          · have hF := HG.out
            rw [if_neg (by omega)] at hF
            subst hF
            clear HG HF
            go_wp2
            go_ret
            exact ⟨rfl, hbel⟩
end Go.Proofs.YtccdgjjoeamnjaaGreatDoor.H
