/- Contract of the document's Order: the same order. Condition: sizes within reach. -/
import Derived.Test.YtmnaeoljpajomaaHBdI
import Derived.Test.YtmnaeoljpajomaaHBdE
namespace Go.Proofs.Ytmnaeoljpajomaa.H
set_option linter.unusedVariables false
set_option linter.unusedSimpArgs false
open Go.RowKit Go.Proofs.Ytmnaeoljpajomaa.Plain Go.Sort
set_option maxHeartbeats 3200000
set_option maxRecDepth 100000
attribute [local go_sem] ext_from ext_bits cell_isSome un_neg_float
def slLen : Value → Nat
  | .slice _ n _ => n
  | _ => 0
theorem Ints.slLen {w : World} {B : Nat} {v : Value} {zs : List Int} (h : Ints w B v zs) : slLen v = zs.length := by
  obtain ⟨a, c, rfl⟩ := own_shape h
  rfl
theorem any_step {zs out : List Int} {q : Nat} {z : Int} (hz : zs[q]? = some z) : ((zs.take (q + 1)).any fun x => !(out.contains x)) = (((zs.take q).any fun x => !(out.contains x)) || !(out.contains z)) := by
  rw [List.take_add_one, hz, List.any_append]
  simp
theorem r_Order (ao : Option Addr) (n c : Nat) (fs : List FlatD) (w : World) (hC : Codes w ao n fs) (hs : ∀ f ∈ fs, FlatSz f) (hbig : n * 104 ≤ 140737488355328) :
    Calls Try.prog 19 #[.slice ao n c] w fun e w' => OutO e (orderV (allV fs)) w' ∧ Below w.heap.size w w' := by
  obtain ⟨i0, hi, hz0, hz1, hz2⟩ := info_parts (show (Try.prog.info? 3).map (fun i => (i.zero, i.size, i.bytes)) = some (some (.int .i64 0), 1, 8) by kernel_rfl)
  obtain ⟨hl, hS, hok⟩ := hC
  have hsz : ∀ l ∈ allV fs, l.length ≤ 140737488355328 := by
    intro l hl
    obtain ⟨f, hf, rfl⟩ := List.mem_map.1 hl
    have h1 := callsV_len f.ops
    have h2 := (hok f hf).1.1
    have h3 := (hs f hf).1
    omega
  have hln : (allV fs).length = n := by rw [allV_len, hl]
  have hat : ∀ (i : Nat), i < n → ∃ f zs a, fs[i]? = some f ∧ (allV fs)[i]? = some zs ∧ zs.length ≤ 140737488355328 ∧ ao = some a ∧ Sl w ao n 8 (fs.flatMap FlatD.row) ∧ ∀ W, Below w.heap.size w W → Calls Try.prog 17 #[f.val] W fun e w' => OutI W.heap.size e zs w' ∧ Below W.heap.size W w' := by
    intro i hin
    obtain ⟨f, hf⟩ : ∃ f, fs[i]? = some f := ⟨_, List.getElem?_eq_getElem (by omega)⟩
    have hfm := List.mem_of_getElem? hf
    rcases ao with _ | a
    · exact absurd (hS.2.1 rfl) (by omega)
    have hv : (allV fs)[i]? = some (callsV f.ops) := by simp [allV, hf]
    refine ⟨f, callsV f.ops, a, hf, hv, hsz _ (List.mem_of_getElem? hv), rfl, hS, fun W hb => ?_⟩
    rw [calls_same]
    exact r_Calls f W ((hok f hfm).1.go hb) (hs f hfm).1
  obtain ⟨ls, hls⟩ : ∃ l, allV fs = l := ⟨_, rfl⟩
  rw [hls] at hsz hln hat ⊢
  obtain ⟨R, hR⟩ : ∃ r, orderV ls = r := ⟨_, rfl⟩
  rw [hR]
  have HR := Lib.hid hR
  have HAT := Lib.hid hat
  have HB := Lib.hid hbig
  have hn63 : n < 4611686018427387904 := by omega
  clear hls hR hat hbig hok hS hs
  go_enter Try.func19, Try.ntmps19
  go_wp2_with fail
  go_loopw [4] (fun i wr => ∃ k : Nat, k ≤ n ∧ i = .int .i64 k ∧ (∀ j zs, j < k → ls[j]? = some zs → zs.any (outB n) = false) ∧ Below w.heap.size w wr) (fun i _ => n - (intOf i).toNat)
  case atStart => exact ⟨0, Nat.zero_le _, rfl, fun j zs h => absurd h (by omega), Below.refl _ _⟩
  case round =>
    obtain ⟨k, hk, rfl, hall, hbel⟩ := hrel
    by_cases hkn : k < n
    · obtain ⟨f, zs, a, hf, hz, hzl, rfl, hS, N1⟩ := HAT.out k hkn
      have hSr := hS.go hbel
      have z0 := hSr.at0 FlatD.len hf rfl
      have z1 := hSr.atS FlatD.len hf (j := 1) (by decide) rfl
      have z2 := hSr.atS FlatD.len hf (j := 2) (by decide) rfl
      have z3 := hSr.atS FlatD.len hf (j := 3) (by decide) rfl
      have z4 := hSr.atS FlatD.len hf (j := 4) (by decide) rfl
      have z5 := hSr.atS FlatD.len hf (j := 5) (by decide) rfl
      have z6 := hSr.atS FlatD.len hf (j := 6) (by decide) rfl
      have z7 := hSr.atS FlatD.len hf (j := 7) (by decide) rfl
      have HA := Lib.hid hall
      clear hall hSr hS
      rcases Bool.eq_false_or_eq_true (zs.any (outB n)) with hany | hany
      · have hO := Lib.hid (HR.out.symm.trans (orderV_bad hln hz hany))
        go_wp2_with (first | (go_at_call 17; go_loud (with_reducible refine (N1 _ hbel).mono ?_); rintro e w1 ⟨⟨v1, rfl, hI1⟩, hb1⟩; have N2 := r_called wr.heap.size (some a) n c v1 zs w1 hI1 hzl; rw [hany] at N2) | (go_at_call 35; go_loud (with_reducible refine N2.mono ?_); rintro e w2 ⟨rfl, rfl⟩))
        go_returns
        exact ⟨outO (by rw [hO.out]) (by rw [hO.out]; exact World.ownsRow_nil _ _ _ _), b_go hbel hb1⟩
      · go_wp2_with (first | (go_at_call 17; go_loud (with_reducible refine (N1 _ hbel).mono ?_); rintro e w1 ⟨⟨v1, rfl, hI1⟩, hb1⟩; have N2 := r_called wr.heap.size (some a) n c v1 zs w1 hI1 hzl; rw [hany] at N2) | (go_at_call 35; go_loud (with_reducible refine N2.mono ?_); rintro e w2 ⟨rfl, rfl⟩))
        all_goals go_roundw
        case rel =>
          refine ⟨k + 1, hkn, by go_num, fun j ys hj hy => ?_, b_go hbel hb1⟩
          rcases Nat.lt_or_ge j k with c | c
          · exact HA.out j ys c hy
          · obtain rfl : j = k := by omega
            rw [hz] at hy
            cases hy
            exact hany
        case measure => first | exact meas_next hkn | (simp [intOf]; omega)
    · obtain rfl : k = n := by omega
      have hOg := Lib.hid (HR.out.symm.trans (orderV_good hln hall))
      obtain ⟨wa, hwa⟩ : ∃ x, x = wr := ⟨_, rfl⟩
      subst hwa
      clear hall
      go_wp2_with fail
      go_loopw [5] (fun u w2 => ∃ (j : Nat) (out : List Int), j ≤ k ∧ out.length = j ∧ Ints w2 wa.heap.size u out ∧ orderGo ls (k - j) out = orderGo ls k [] ∧ Below wa.heap.size wa w2) (fun u _ => k - slLen u)
      case atStart => exact ⟨0, [], Nat.zero_le _, rfl, World.ownsRow_nil _ _ _ _, rfl, Below.refl _ _⟩
      case round =>
        obtain ⟨j, out, hj, rfl, hown, hgo, hbe⟩ := hrel
        obtain ⟨a5, c5, rfl⟩ := own_shape hown
        have hhB := HB.out
        have hon : out.length < 4611686018427387904 := by omega
        have hon2 : out.length ≤ 140737488355328 := by omega
        clear hhB
        by_cases hjk : out.length < k
        · have hjk2 : (out.length : Int) < k := by omega
          go_wp2_with fail
          go_loopw [6, 7] (fun x y w3 => ∃ m : Nat, m ≤ k ∧ y = .int .i64 m ∧ Below wa.heap.size wa w3 ∧ Ints w3 wa.heap.size (.slice a5 out.length c5) out ∧ (x = .int .i64 (-1) ∧ (∀ i, i < m → readyB ls out i = false) ∨ ∃ r : Nat, r < k ∧ x = .int .i64 r ∧ nextV ls out = some r)) (fun _ y _ => k - (intOf y).toNat)
          case atStart => exact ⟨0, Nat.zero_le _, rfl, hbe, hown, .inl ⟨rfl, fun i h => absurd h (by omega)⟩⟩
          case round =>
            obtain ⟨m, hm, rfl, hb3, ho3, hx⟩ := hrel
            rcases hx with ⟨rfl, hno⟩ | ⟨r, hr, rfl, hnx⟩
            · by_cases hmk : m < k
              · obtain ⟨f, zs, a, hf, hz, hzl, rfl, hS, N1⟩ := HAT.out m hmk
                have hbw := b_go hbel hb3
                have hSr := hS.go hbw
                have z0 := hSr.at0 FlatD.len hf rfl
                have z1 := hSr.atS FlatD.len hf (j := 1) (by decide) rfl
                have z2 := hSr.atS FlatD.len hf (j := 2) (by decide) rfl
                have z3 := hSr.atS FlatD.len hf (j := 3) (by decide) rfl
                have z4 := hSr.atS FlatD.len hf (j := 4) (by decide) rfl
                have z5 := hSr.atS FlatD.len hf (j := 5) (by decide) rfl
                have z6 := hSr.atS FlatD.len hf (j := 6) (by decide) rfl
                have z7 := hSr.atS FlatD.len hf (j := 7) (by decide) rfl
                have N2 := r_has wa.heap.size (.slice a5 out.length c5) out m wr ho3 hon2
                have hready := ready_at (out := out) hz
                have HNO := Lib.hid hno
                have hstep : readyB ls out m = false → ∀ i, i < m + 1 → readyB ls out i = false := by
                  intro h i hi
                  rcases Nat.lt_or_ge i m with c | c
                  · exact HNO.out i c
                  · obtain rfl : i = m := by omega
                    exact h
                clear hno hSr hS hown
                have hmw : wrap64 ((m : Int) + 1) = m + 1 := by unfold wrap64; omega
                rcases Bool.eq_false_or_eq_true (out.contains (m : Int)) with ho | ho
                · rw [ho] at hready N2
                  have hst := hstep (by rw [hready]; rfl)
                  clear hstep hready
                  go_wp2_with (go_at_call 31; go_loud (with_reducible refine N2.mono ?_); rintro e w1 ⟨rfl, rfl⟩)
                  all_goals go_roundw
                  case rel => exact ⟨m + 1, hmk, by go_num, hb3, ho3, .inl ⟨rfl, hst⟩⟩
                  case measure => first | exact meas_next hmk | (rw [hmw]; exact meas_next hmk)
                · rw [ho] at hready N2
                  go_wp2_with (first | (go_at_call 31; go_loud (with_reducible refine N2.mono ?_); rintro e w1 ⟨rfl, rfl⟩) | (go_at_call 17; go_loud (with_reducible refine (N1 _ hbw).mono ?_); rintro e w2 ⟨⟨v1, rfl, hI1⟩, hb1⟩; obtain ⟨a9, c9, rfl⟩ := own_shape hI1))
                  have hb4 := b_go hb3 hb1
                  have ho4 : Ints w2 wa.heap.size (.slice a5 out.length c5) out := ho3.go hb1
                  have HO4 := Lib.hid ho4
                  have HI1 := Lib.hid hI1
                  clear ho3 ho4 N1 N2
                  go_loop [8, 10] (fun x y => ∃ (q : Nat) (R : Bool), q ≤ zs.length ∧ y = .int .i64 q ∧ x = .bool R ∧ ((zs.take q).any fun x => !(out.contains x)) = !R) (fun _ y => zs.length - (intOf y).toNat)
                  case atStart => exact ⟨0, true, Nat.zero_le _, rfl, rfl, rfl⟩
                  case round =>
                    obtain ⟨q, R1, hq, rfl, rfl, hR1⟩ := hrel
                    by_cases hqz : q < zs.length
                    · obtain ⟨z, hz2⟩ : ∃ z, zs[q]? = some z := ⟨_, List.getElem?_eq_getElem hqz⟩
                      have hst := any_step (out := out) hz2
                      rw [hR1] at hst
                      rcases HI1.out.form with ⟨_, rfl⟩ | ⟨g9, c9', he9, _, _, _, hcell⟩
                      · simp at hqz
                      cases he9
                      have hc := hcell q z hz2
                      have N3 := r_has wa.heap.size (.slice a5 out.length c5) out z w2 HO4.out hon2
                      obtain ⟨R2, hR2⟩ : ∃ R, out.contains z = R := ⟨_, rfl⟩
                      rw [hR2] at N3 hst
                      have HST := Lib.hid hst
                      have hqw : wrap64 ((q : Int) + 1) = q + 1 := by unfold wrap64; omega
                      clear hcell hst hR1 hready hstep hon hon2 hzl hn63 hsz
                      cases R1 with
                      | false =>
                        go_wp2_with fail
                        go_round
                        case rel => exact ⟨q + 1, false, hqz, by first | (simp; done) | (rw [hqw]; simp), rfl, by rw [HST.out]; rfl⟩
                        case measure => first | exact meas_next hqz | (rw [hqw]; exact meas_next hqz)
                      | true =>
                        go_wp2_with (go_at_call 31; go_loud (with_reducible refine N3.mono ?_); rintro e w3 ⟨rfl, rfl⟩)
                        go_round
                        case rel => exact ⟨q + 1, R2, hqz, by first | (simp; done) | (rw [hqw]; simp), rfl, by rw [HST.out]; rfl⟩
                        case measure => first | exact meas_next hqz | (rw [hqw]; exact meas_next hqz)
                    · obtain rfl : q = zs.length := by omega
                      rw [List.take_length] at hR1
                      rw [hR1] at hready
                      cases R1 with
                      | false =>
                        have hst := hstep (by rw [hready]; rfl)
                        clear hstep hready hR1
                        go_wp2_with fail
                        all_goals go_roundw
                        case rel => exact ⟨m + 1, hmk, by go_num, hb4, HO4.out, .inl ⟨rfl, hst⟩⟩
                        case measure => first | exact meas_next hmk | (rw [hmw]; exact meas_next hmk)
                      | true =>
                        have hnx : nextV ls out = some m := next_some (by omega) HNO.out (by rw [hready]; rfl)
                        clear hstep hready hR1
                        go_wp2_with fail
                        all_goals go_roundw
                        case rel => exact ⟨m + 1, hmk, by go_num, hb4, HO4.out, .inr ⟨m, hmk, rfl, hnx⟩⟩
                        case measure => first | exact meas_next hmk | (rw [hmw]; exact meas_next hmk)
              · obtain rfl : m = k := by omega
                have hOn := Lib.hid (orderV_none hOg.out (hgo ▸ go_stop hjk (next_none (fun i hi => hno i (by omega)))))
                clear hno
                go_wp2_with fail
                go_returns
                exact ⟨outO (by rw [hOn.out]) (by first | exact World.ownsRow_nil _ _ _ _ | (rw [hOn.out]; exact World.ownsRow_nil _ _ _ _)), b_go hbel hb3⟩
            · have hgn := go_next hjk hnx
              have hr0 : ¬ (r : Int) < 0 := by omega
              have hb4 := b_go hbel hb3
              have hB5 := HB.out
              have h1 := hb3.size
              have hsz5 : out.length + 1 ≤ maxLen := by unfold maxLen; omega
              have hsz6 : (out.length + 1) * 8 ≤ 140737488355328 := by omega
              have hsz7 : wa.heap.size ≤ (wr.alloc (.cells #[.int .i64 r] 3)).heap.size := by simp; omega
              clear hB5
              rcases Nat.lt_or_ge m k with hmk | hmk
              all_goals (
                go_wp2_with (at_builtin; go_loud (refine wpList_append_own _ rfl _ _ 27 rfl wa.heap.size 3 i0 _ 1 8 Try.underlying27 hi hz0 hz1 hz2 rfl (by decide) _ _ _ rfl (World.ownsRow.alloc ho3 _) ⟨wr.heap.size, 0, none⟩ 1 1 [.int .i64 r] rfl rfl (fun i u hu => by rw [add_pl]; exact (k_cell (k_new (w := wr) (by simp)) i).trans (by simpa using hu)) (fun u hu => by obtain rfl := List.mem_singleton.1 hu; rfl) hsz5 hsz6 hsz7 ?_))
                intro v' w4 hown' hgrow hnil
                have hbe4 : Below wa.heap.size wa w4 := Below.grown (row := (Value.slice a5 out.length c5).ownBlock) (b_al hb3 _) hgrow (by have h1 := hb3.size; simp; omega) (fun q hq => by have := (World.ownsRow.lt ho3 q hq).1; omega)
                have hI4 : Ints w4 wa.heap.size v' (out ++ [(r : Int)]) := ints_add hown' rfl
                have HI4 := Lib.hid hI4
                have hs5 := HI4.out.slLen
                clear hI4 hgrow hown' ho3 hb3
                go_wp2
                go_roundw
                case rel => exact ⟨out.length + 1, out ++ [(r : Int)], hjk, by simp, HI4.out, by rw [← hgn]; exact hgo, hbe4⟩
                case measure => (try rw [hs5]); simp [slLen]; omega)
        · obtain rfl : k = out.length := by omega
          rw [Nat.sub_self] at hgo
          have hOs := Lib.hid (orderV_some hOg.out hgo.symm)
          have HI := Lib.hid hown
          clear hown
          go_wp2_with fail
          go_returns
          exact ⟨outO (by rw [hOs.out]) (by first | exact own_low HI.out (Nat.zero_le _) | (rw [hOs.out]; exact own_low HI.out (Nat.zero_le _))), b_go hbel hbe⟩
end Go.Proofs.Ytmnaeoljpajomaa.H
