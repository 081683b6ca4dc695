/- Contract for VmNothing: the document's Run over one code that only returns: a fault, or the cells as they were in one step. Conditions: bits are 64; sizes lie within reach. -/
import Derived.Test.YtccdgjjoeamnjaaGreatDoorHVmJ
namespace Go.Proofs.YtccdgjjoeamnjaaGreatDoor.H
set_option linter.unusedVariables false
set_option linter.unusedSimpArgs false
open Go.RowKit Go.Proofs.YtccdgjjoeamnjaaGreatDoor.Plain
set_option maxHeartbeats 3200000
set_option maxRecDepth 100000
attribute [local go_sem] ext_from ext_bits cell_isSome un_neg_float dn_size dn_alloc dn_set
theorem own_shape {w : World} {B n size : Nat} {T : TypeId} {v : Value} {xs : List Value} (h : w.ownsRow B T size v n xs) : ∃ a c, v = .slice a n c := by
  rcases h.2 with ⟨rfl, rfl⟩ | ⟨g, cap, cur, rfl, _⟩
  · exact ⟨none, 0, rfl⟩
  · exact ⟨_, cap, rfl⟩
theorem b_go' {w w1 w2 : World} (h : Below w.heap.size w w1) (k : Below w1.heap.size w1 w2) : Below w.heap.size w w2 := b_go h k
theorem r_Run (ao : Option Addr) (n c C O : Nat) (ds : List CellD) (now base : Int) (v : Value) (w : World) (hC : Cells w ao n ds) (hV : Vals w v (ds.map initV)) (hKw : CodeAt w C O) (hok : ∀ d ∈ ds, OkD d) (hbig : n * 96 ≤ 140737488355328) :
    Calls Tryz.prog 8 #[.slice (some ⟨C, 0, none⟩) 1 1, .int .i64 0, .int .i64 base, .int .i64 now, .slice ao n c, v, .int .i64 1] w fun e w' => RunP now base ds e w' ∧ Below w.heap.size w w' := by
  have hml : (ds.map initV).length = n := by rw [List.length_map]; exact hC.1
  obtain ⟨av, cv, rfl, z1, A1⟩ := vals_form hV
  obtain ⟨hl, h0, hA⟩ := hC
  rw [hml]
  rw [hml] at z1 hV
  have hcl := k_lt hKw.code
  have k0 := k_cv hKw.code 0 rfl
  have k1 := k_cv hKw.code 1 rfl
  have k2 := k_cv hKw.code 2 rfl
  have k3 := k_cv hKw.code 3 rfl
  have k4 := k_cv hKw.code 4 rfl
  have k5 := k_cv hKw.code 5 rfl
  have k6 := k_cv hKw.code 6 rfl
  have k7 := k_cv hKw.code 7 rfl
  simp only [List.getElem_toArray, List.getElem_cons_succ, List.getElem_cons_zero] at k0 k1 k2 k3 k4 k5 k6 k7
  have hKw := Lib.hid hKw
  have hVw := Lib.hid hV
  clear hV
  by_cases hnow : now < 0 ∨ now > 4611686018427387904
  · have hf : faultV now base ds = 8 := by unfold faultV; rw [if_pos hnow]
    have HF := Lib.hid hf
    clear hf A1 hA
    rcases hnow with hnow | hnow
    · go_enter Tryz.func8, Tryz.ntmps8
      go_wp2
      exact bodyPost_ret (v := .tuple #[.slice none 0 0, .int .i64 0, .int .i64 8]) (by simp [results, Tryz.results8, go_sem]) rfl ⟨runP_bad HF.out (by decide), Below.refl _ _⟩
    · go_enter Tryz.func8, Tryz.ntmps8
      go_wp2
      exact bodyPost_ret (v := .tuple #[.slice none 0 0, .int .i64 0, .int .i64 8]) (by simp [results, Tryz.results8, go_sem]) rfl ⟨runP_bad HF.out (by decide), Below.refl _ _⟩
  · have hn1 : 0 ≤ now := by omega
    have hn2 : now ≤ 4611686018427387904 := by omega
    have hf : faultV now base ds = if allKept ds = false then 8 else if base < 0 ∨ base > n then 9 else 0 := by unfold faultV; rw [if_neg hnow, hl]
    have HF := Lib.hid hf
    clear hnow hf
    go_enter Tryz.func8, Tryz.ntmps8
    go_wp2_with fail
    refine wp_loop_rounds 2 ?_
    rw [rounds_succ]
    go_wp2_with fail
    rw [rounds_succ]
    go_wp2_with fail
    go_loopw [72] (fun i wr => ∃ k : Nat, k ≤ n ∧ i = .int .i64 k ∧ Below w.heap.size w wr ∧ Hid (∀ i, i < k → ∀ d, ds[i]? = some d → keptB d.k (initV d) = true)) (fun i _ => n - (intOf i).toNat)
    case atStart => exact ⟨0, Nat.zero_le _, rfl, by (repeat (first | exact Below.refl _ _ | apply b_al | (refine b_st ?_ ?hg _; case hg => omega) | (refine b_go ?_ (by assumption)))), Lib.hid (fun i hi => absurd hi (by omega))⟩
    case round =>
      obtain ⟨k, hk, rfl, hbel, hall⟩ := hrel
      clear k0 k1 k2 k3 k4 k5 k6 k7
      by_cases hkn : k < n
      · rcases ao with _ | a
        · exact absurd (h0 rfl) (by omega)
        rcases av with _ | av
        · exact absurd (z1 rfl) (by omega)
        obtain ⟨g1, rfl, l1, f1⟩ := A1 _ rfl
        obtain ⟨d, hd⟩ : ∃ d, ds[k]? = some d := ⟨_, List.getElem?_eq_getElem (by omega)⟩
        obtain ⟨x, hx⟩ : ∃ x, initV d = x := ⟨_, rfl⟩
        have hm : (ds.map initV)[k]? = some x := by rw [List.getElem?_map, hd]; exact congrArg some hx
        have p0 := (hbel.cell (p := ⟨g1, k * 3 + 0, none⟩) l1).trans (f1 _ _ (flat_get _ k x hm 0 (by decide)))
        have p1 := (hbel.cell (p := ⟨g1, k * 3 + 1, none⟩) l1).trans (f1 _ _ (flat_get _ k x hm 1 (by decide)))
        have p2 := (hbel.cell (p := ⟨g1, k * 3 + 2, none⟩) l1).trans (f1 _ _ (flat_get _ k x hm 2 (by decide)))
        rw [Nat.add_zero] at p0
        have hok2 : OkV x := hx ▸ ok_init (hok d (List.mem_of_getElem? hd))
        obtain ⟨xk, xb, xt⟩ := x
        have hcell := ((hA a rfl).go hbel).cell k d hd
        have hlt2 := (hA a rfl).lt (by rintro rfl; simp at hd)
        have q0 := Lib.cell?_alloc_some (.cells #[.int .u8 xk, .int .u64 xb, .string xt] 28 (0, 0)) (hcell 0 _ rfl)
        rw [Nat.add_zero] at q0
        have q1 := Lib.cell?_alloc_some (.cells #[.int .u8 xk, .int .u64 xb, .string xt] 28 (0, 0)) (hcell 1 _ rfl)
        rw [add_at a _ 1 (by decide)] at q1
        have q2 := Lib.cell?_alloc_some (.cells #[.int .u8 xk, .int .u64 xb, .string xt] 28 (0, 0)) (hcell 2 _ rfl)
        rw [add_at a _ 2 (by decide)] at q2
        have q3 := Lib.cell?_alloc_some (.cells #[.int .u8 xk, .int .u64 xb, .string xt] 28 (0, 0)) (hcell 3 _ rfl)
        rw [add_at a _ 3 (by decide)] at q3
        have q4 := Lib.cell?_alloc_some (.cells #[.int .u8 xk, .int .u64 xb, .string xt] 28 (0, 0)) (hcell 4 _ rfl)
        rw [add_at a _ 4 (by decide)] at q4
        have q5 := Lib.cell?_alloc_some (.cells #[.int .u8 xk, .int .u64 xb, .string xt] 28 (0, 0)) (hcell 5 _ rfl)
        rw [add_at a _ 5 (by decide)] at q5
        have q6 := Lib.cell?_alloc_some (.cells #[.int .u8 xk, .int .u64 xb, .string xt] 28 (0, 0)) (hcell 6 _ rfl)
        rw [add_at a _ 6 (by decide)] at q6
        have q7 := Lib.cell?_alloc_some (.cells #[.int .u8 xk, .int .u64 xb, .string xt] 28 (0, 0)) (hcell 7 _ rfl)
        rw [add_at a _ 7 (by decide)] at q7
        have q8 := Lib.cell?_alloc_some (.cells #[.int .u8 xk, .int .u64 xb, .string xt] 28 (0, 0)) (hcell 8 _ rfl)
        rw [add_at a _ 8 (by decide)] at q8
        have q9 := Lib.cell?_alloc_some (.cells #[.int .u8 xk, .int .u64 xb, .string xt] 28 (0, 0)) (hcell 9 _ rfl)
        rw [add_at a _ 9 (by decide)] at q9
        have q10 := Lib.cell?_alloc_some (.cells #[.int .u8 xk, .int .u64 xb, .string xt] 28 (0, 0)) (hcell 10 _ rfl)
        rw [add_at a _ 10 (by decide)] at q10
        obtain ⟨m, hm2⟩ : ∃ m, keptB d.k (xk, xb, xt) = m := ⟨_, rfl⟩
        have NK : ∀ W, Calls Tryz.prog 10 #[.agg #[.int .u8 d.k, .bool d.sb, .int .i64 d.lo, .int .i64 d.hi, .int .i64 d.mx, .int .u8 d.ik, .int .u64 d.ib, .string d.it, .bool d.kp, .int .i64 d.dir, .string d.ad], .agg #[.int .u8 xk, .int .u64 xb, .string xt]] W fun e w' => e = .returned (.bool m) ∧ Below W.heap.size W w' := fun W => hm2 ▸ r_kept d xk xb xt hok2.1 hok2.2 W
        have hkb : keptB d.k (initV d) = m := by rw [hx]; exact hm2
        have HK := Lib.hid hkb
        have HD := Lib.hid hd
        have HL := Lib.hid hl
        clear A1 hA h0 z1 f1 hm hok2 hok hd hx hkb hl hcell hm2
        simp only at p0 p1 p2
        go_upto_region 12 with fail
        go_region_with (go_at_call 10; with_reducible refine (NK _).mono ?_; rintro e w1 ⟨rfl, hb1⟩)
        all_goals
          go_wp2
          · have hmf : m = false := by simpa using (by assumption : (!m) = true)
            subst hmf
            exact bodyPost_ret (v := .tuple #[.slice none 0 0, .int .i64 0, .int .i64 8]) (by simp [results, Tryz.results8, go_sem]) rfl ⟨runP_bad (by rw [HF.out, if_pos (kept_one HD.out HK.out)]) (by decide), by repeat (first | exact hbel | with_reducible apply b_dr | with_reducible apply b_al | with_reducible refine b_go ?_ (by assumption))⟩
          · have hmt : m = true := by simpa using (by assumption : (!m) = false)
            subst hmt
            go_roundw
            case rel => exact ⟨k + 1, by omega, by go_num, by repeat (first | exact hbel | with_reducible apply b_dr | with_reducible apply b_al | with_reducible refine b_go ?_ (by assumption)), Lib.hid (step_all hall.out HD.out HK.out)⟩
            case measure => simp [intOf]; omega
      · obtain rfl : k = n := by omega
        have HA := Lib.hid (kept_all (ds := ds) (by rw [hl]; exact hall.out))
        have hG : faultV now base ds = if base < 0 ∨ base > k then 9 else 0 := by rw [HF.out, if_neg (by rw [HA.out]; simp)]
        by_cases hb1 : base < 0
        · have HG := Lib.hid (hG.trans (if_pos (.inl hb1)))
          clear hG A1 hA
          go_wp2
          exact bodyPost_ret (v := .tuple #[.slice none 0 0, .int .i64 0, .int .i64 9]) (by simp [results, Tryz.results8, go_sem]) rfl ⟨runP_bad HG.out (by decide), hbel⟩
        · by_cases hb2 : base > k
          · have HG := Lib.hid (hG.trans (if_pos (.inr hb2)))
            clear hG A1 hA
            go_wp2
            exact bodyPost_ret (v := .tuple #[.slice none 0 0, .int .i64 0, .int .i64 9]) (by simp [results, Tryz.results8, go_sem]) rfl ⟨runP_bad HG.out (by decide), hbel⟩
          · have HG := Lib.hid (hG.trans (if_neg (by omega)))
            have hKr := hKw.out
            have hKw := hKw.out
            have hVr := hVw.out.go hbel
            have hKr := hKr.go hbel
            clear hG hok hA h0
            obtain ⟨i0, hi, hz0, hz1, hz2⟩ := info_parts (show (Tryz.prog.info? 28).map (fun i => (i.zero, i.size, i.bytes)) = some (some (.agg #[.int .u8 0, .int .u64 0, .string ⟨#[]⟩]), 3, 32) by kernel_rfl)
            rcases av with _ | av
            · have hn0 : k = 0 := z1 rfl
              have hnil : ds.map initV = [] := List.eq_nil_of_length_eq_zero (hml.trans hn0)
              have hV2 : Vals (wr.alloc (.cells #[] 28 (0, 0))) (.slice (some ⟨wr.heap.size, 0, none⟩) 0 0) (ds.map initV) := vals_own (B := wr.heap.size) (n := 0) (by rw [hnil]; exact World.ownsRow_made wr #[] 0 (Nat.le_refl _) (Nat.zero_le _) (by simp)) (hml.trans hn0)
              have b02 : Below wr.heap.size wr (wr.alloc (.cells #[] 28 (0, 0))) := (Below.refl _ _).alloc (Nat.le_refl _) _
              have hn0 := Lib.hid hn0
              have hsz : (wr.alloc (.cells #[] 28 (0, 0))).heap.size = wr.heap.size + 1 := by simp
              clear A1 z1
              have s02 := b02.size
              have hK2 := hKr.go b02
              have lC := k_lt hK2.code
              have lO := k_lt hK2.op
              have lCw := k_lt hKw.code
              have lOw := k_lt hKw.op
              go_wp2_with fail
              refine (r_begin (wr.heap.size + 1) C O base now (.slice ao 0 c) (.slice (some ⟨wr.heap.size, 0, none⟩) 0 0) _ (k_new (by simp)) (hK2.go ((Below.refl _ _).alloc (Nat.le_refl _) _)) (by omega)).mono ?_
              rintro e w4 ⟨rfl, ⟨G, cap, cur, hM4, hG4, d0, d2, hcap, g1⟩, hB4⟩
              have g1' : (wr.heap.size + 1) + 1 ≤ G := by simpa using g1
              have hK4 : CodeAt w4 C O := (hK2.go ((Below.refl _ _).alloc (Nat.le_refl _) _)).bar hB4 (by simp; omega) (by simp; omega)
              have hM4' : w4.heap[(wr.heap.size + 1)]? = some (.cells #[.slice (some ⟨C, 0, none⟩) 1 1, .int .i64 now, .slice ao 0 c, (.slice (some ⟨wr.heap.size, 0, none⟩) 0 0), .slice (some ⟨G, 0, none⟩) 1 cap, .int .i64 0, .int .i64 0, .bool false] 58 (0, 0)) := hM4
              have y7 : w4.cell? ⟨(wr.heap.size + 1), 7, none⟩ = some (.bool false) := k_cv hM4' 7 rfl
              have HM4 := Lib.hid hM4
              have HG4 := Lib.hid hG4
              clear hM4 hM4' hG4 g1
              go_wp2_with fail
              refine wp_loop_rounds 2 ?_
              rw [rounds_succ]
              go_wp2_with fail
              refine (r_step (wr.heap.size + 1) C O G cap (.slice ao 0 c) (.slice (some ⟨wr.heap.size, 0, none⟩) 0 0) cur now _ HM4.out hcap hK4 HG4.out d0 d2 (by omega) (by omega) (by omega) (by omega) (by omega)).mono ?_
              rintro e w5 ⟨rfl, hM5, hB5⟩
              have hM5' : w5.heap[(wr.heap.size + 1)]? = some (.cells #[.slice (some ⟨C, 0, none⟩) 1 1, .int .i64 now, .slice ao 0 c, (.slice (some ⟨wr.heap.size, 0, none⟩) 0 0), .slice (some ⟨G, 0, none⟩) 0 cap, .int .i64 1, .int .i64 0, .bool true] 58 (0, 0)) := hM5
              have z3 : w5.cell? ⟨(wr.heap.size + 1), 3, none⟩ = some ((.slice (some ⟨wr.heap.size, 0, none⟩) 0 0)) := k_cv hM5' 3 rfl
              have z5 : w5.cell? ⟨(wr.heap.size + 1), 5, none⟩ = some (.int .i64 1) := k_cv hM5' 5 rfl
              have z6 : w5.cell? ⟨(wr.heap.size + 1), 6, none⟩ = some (.int .i64 0) := k_cv hM5' 6 rfl
              have z7 : w5.cell? ⟨(wr.heap.size + 1), 7, none⟩ = some (.bool true) := k_cv hM5' 7 rfl
              have b25 : Below (wr.alloc (.cells #[] 28 (0, 0))).heap.size (wr.alloc (.cells #[] 28 (0, 0))) w5 := (((Below.refl _ (wr.alloc (.cells #[] 28 (0, 0)))).alloc (Nat.le_refl _) _).trans (hB4.below (by simp) (by simp))).trans (hB5.below (by have := hB4.size; simp at this; omega) (by simp; omega))
              have hV5 := Vals.go hV2 b25
              have b05 : Below w.heap.size w w5 := b_go (b_go' hbel b02) b25
              clear hM5 hM5' hB4 hB5 HM4 HG4 y7 hK2 hK4 b25 b02
              go_wp2_with fail
              rw [rounds_succ]
              go_wp2_with fail
              go_quiet (fail)
              go_wp2_with fail
              exact bodyPost_ret (v := .tuple #[(.slice (some ⟨wr.heap.size, 0, none⟩) 0 0), .int .i64 1, .int .i64 0]) (by simp [results, Tryz.results8, go_sem]) rfl ⟨runP_good HG.out (hV5.go (below_drewN (Below.refl _ _) _)), below_drewN b05 _⟩
            · obtain ⟨g1, rfl, l1, f1⟩ := A1 _ rfl
              have hfl := flat_len (ds.map initV)
              rw [hml] at hfl
              have A := Lib.hid (fun j u hj => (hbel.cell (p := ⟨g1, j, none⟩) l1).trans (f1 j u hj))
              have O1 := Lib.hid (flat_one_cell (ds.map initV))
              clear A1 f1
              go_wp2_with (at_builtin; go_loud (refine wpList_append_own _ rfl _ _ 23 rfl wr.heap.size 28 i0 _ 3 32 Tryz.underlying23 hi hz0 hz1 hz2 rfl (by decide) _ _ _ rfl (World.ownsRow_made wr #[] 0 (Nat.le_refl _) (Nat.zero_le _) (by simp)) ⟨g1, 0, none⟩ k cv (flat (ds.map initV)) rfl hfl (fun j u hj => Lib.cell?_alloc_some _ (by rw [add_pl]; exact A.out j u hj)) O1.out (by unfold maxLen; omega) (by omega) (by simp) ?_); intro v2 w2 hown hgrow hnil; obtain ⟨av2, cv2, rfl⟩ := own_shape hown)
              have hV2 : Vals w2 (.slice av2 (0 + k) cv2) (ds.map initV) := vals_own (n := 0 + k) hown (by rw [hml]; omega)
              rw [Nat.zero_add] at hV2
              have b02 : Below wr.heap.size wr w2 := ((Below.refl _ wr).alloc (Nat.le_refl _) _).grown hgrow (by simp) (fun q hq => by have e : wr.heap.size = q := Option.some.inj hq; omega)
              clear hown hgrow hnil
              have s02 := b02.size
              have hK2 := hKr.go b02
              have lC := k_lt hK2.code
              have lO := k_lt hK2.op
              have lCw := k_lt hKw.code
              have lOw := k_lt hKw.op
              go_wp2_with fail
              refine (r_begin w2.heap.size C O base now (.slice ao k c) (.slice av2 k cv2) _ (k_new (by simp)) (hK2.go ((Below.refl _ _).alloc (Nat.le_refl _) _)) (by omega)).mono ?_
              rintro e w4 ⟨rfl, ⟨G, cap, cur, hM4, hG4, d0, d2, hcap, g1⟩, hB4⟩
              have g1' : w2.heap.size + 1 ≤ G := by simpa using g1
              have hK4 : CodeAt w4 C O := (hK2.go ((Below.refl _ _).alloc (Nat.le_refl _) _)).bar hB4 (by simp; omega) (by simp; omega)
              have hM4' : w4.heap[w2.heap.size]? = some (.cells #[.slice (some ⟨C, 0, none⟩) 1 1, .int .i64 now, .slice ao k c, (.slice av2 k cv2), .slice (some ⟨G, 0, none⟩) 1 cap, .int .i64 0, .int .i64 0, .bool false] 58 (0, 0)) := hM4
              have y7 : w4.cell? ⟨w2.heap.size, 7, none⟩ = some (.bool false) := k_cv hM4' 7 rfl
              have HM4 := Lib.hid hM4
              have HG4 := Lib.hid hG4
              clear hM4 hM4' hG4 g1
              go_wp2_with fail
              refine wp_loop_rounds 2 ?_
              rw [rounds_succ]
              go_wp2_with fail
              refine (r_step w2.heap.size C O G cap (.slice ao k c) (.slice av2 k cv2) cur now _ HM4.out hcap hK4 HG4.out d0 d2 (by omega) (by omega) (by omega) (by omega) (by omega)).mono ?_
              rintro e w5 ⟨rfl, hM5, hB5⟩
              have hM5' : w5.heap[w2.heap.size]? = some (.cells #[.slice (some ⟨C, 0, none⟩) 1 1, .int .i64 now, .slice ao k c, (.slice av2 k cv2), .slice (some ⟨G, 0, none⟩) 0 cap, .int .i64 1, .int .i64 0, .bool true] 58 (0, 0)) := hM5
              have z3 : w5.cell? ⟨w2.heap.size, 3, none⟩ = some ((.slice av2 k cv2)) := k_cv hM5' 3 rfl
              have z5 : w5.cell? ⟨w2.heap.size, 5, none⟩ = some (.int .i64 1) := k_cv hM5' 5 rfl
              have z6 : w5.cell? ⟨w2.heap.size, 6, none⟩ = some (.int .i64 0) := k_cv hM5' 6 rfl
              have z7 : w5.cell? ⟨w2.heap.size, 7, none⟩ = some (.bool true) := k_cv hM5' 7 rfl
              have b25 : Below w2.heap.size w2 w5 := (((Below.refl _ w2).alloc (Nat.le_refl _) _).trans (hB4.below (by simp) (by simp))).trans (hB5.below (by have := hB4.size; simp at this; omega) (by simp; omega))
              have hV5 := Vals.go hV2 b25
              have b05 : Below w.heap.size w w5 := b_go (b_go' hbel b02) b25
              clear hM5 hM5' hB4 hB5 HM4 HG4 y7 hK2 hK4 b25 b02
              go_wp2_with fail
              rw [rounds_succ]
              go_wp2_with fail
              go_quiet (fail)
              go_wp2_with fail
              exact bodyPost_ret (v := .tuple #[(.slice av2 k cv2), .int .i64 1, .int .i64 0]) (by simp [results, Tryz.results8, go_sem]) rfl ⟨runP_good HG.out (hV5.go (below_drewN (Below.refl _ _) _)), below_drewN b05 _⟩
end Go.Proofs.YtccdgjjoeamnjaaGreatDoor.H
