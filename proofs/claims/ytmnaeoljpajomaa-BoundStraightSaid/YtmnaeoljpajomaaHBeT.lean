/- The law BoundStraight, walked: it answers true, and leaves all that was there. Condition: sizes within reach. -/
import Derived.Test.YtmnaeoljpajomaaHBoB
import Derived.Deep.CutBlock
namespace Go.Proofs.Ytmnaeoljpajomaa.H
set_option linter.unusedVariables false
set_option linter.unusedSimpArgs false
open Go.RowKit Go.Proofs.Ytmnaeoljpajomaa.Plain Go.Sort Go.Maps
set_option maxHeartbeats 3200000
set_option maxRecDepth 100000
attribute [local go_sem] ext_from ext_bits cell_isSome un_neg_float
theorem ints_cons {w : World} {B : Nat} {v : Value} {q : Int} {r : List Int} (h : Ints w B v (q :: r)) : ∃ g c, v = .slice (some ⟨g, 0, none⟩) (r.length + 1) c ∧ w.cell? ⟨g, 0, none⟩ = some (.int .i64 q) := by
  rcases own_parts h with ⟨_, e⟩ | ⟨g, cap, rfl, _, _, _, _, h5, _⟩
  · cases e
  · exact ⟨g, cap, rfl, h5 0 q rfl⟩
theorem r_NextW (o : OpD) (p : Nat) (w : World) (hp : p ≤ 1599289640401) : Calls Try.prog 15 #[o.val, .int .i64 p] w fun e w' => OutI w.heap.size e (nextI o p) w' ∧ Below w.heap.size w w' := by
  have hw : wrap64 ((p : Int) + 1) = p + 1 := by unfold wrap64; omega
  obtain ⟨r, hr⟩ : ∃ r, nextI o p = r := ⟨_, rfl⟩
  rw [hr]
  unfold nextI at hr
  by_cases c16 : o.code = 16
  · rw [if_pos c16] at hr
    subst hr
    clear hp
    go_enter Try.func15, Try.ntmps15
    go_wp2
    all_goals go_ret
    all_goals exact ⟨outI_row (k_n1 _ _ _ _) (Nat.le_succ _) (by simp [maxLen]) rfl rfl, b_al (b_al (Below.refl _ _) _) _⟩
  · rw [if_neg c16] at hr
    by_cases c17 : o.code = 17
    · rw [if_pos c17] at hr
      by_cases e : o.b = (p : Int) + 1
      · rw [if_pos e] at hr
        subst hr
        clear hp
        have e1 : ¬ o.b < (p : Int) + 1 := by omega
        have e2 : ¬ o.b > (p : Int) + 1 := by omega
        go_enter Try.func15, Try.ntmps15
        go_wp2
        all_goals go_ret
        all_goals exact ⟨outI_row (k_n1 _ _ _ _) (Nat.le_succ _) (by simp [maxLen]) rfl rfl, b_al (b_al (Below.refl _ _) _) _⟩
      · rw [if_neg e] at hr
        by_cases h : o.b < (p : Int) + 1
        · rw [if_pos h] at hr
          subst hr
          clear hp
          go_enter Try.func15, Try.ntmps15
          go_wp2
          all_goals go_ret
          all_goals exact ⟨outI_row (k_n1 _ _ _ _) (Nat.le_succ _) (by simp [maxLen]) rfl rfl, b_al (b_al (Below.refl _ _) _) _⟩
        · rw [if_neg h] at hr
          subst hr
          clear hp
          have h2 : (p : Int) + 1 < o.b := by omega
          go_enter Try.func15, Try.ntmps15
          go_wp2
          all_goals go_ret
          all_goals exact ⟨outI_row (k_n1 _ _ _ _) (Nat.le_succ _) (by simp [maxLen]) rfl rfl, b_al (b_al (Below.refl _ _) _) _⟩
    · rw [if_neg c17] at hr
      by_cases c20 : o.code = 20 ∨ o.code = 21
      · rw [if_pos c20] at hr
        subst hr
        clear hp
        rcases c20 with c20 | c20
        · go_enter Try.func15, Try.ntmps15
          go_wp2
          all_goals go_ret
          all_goals exact ⟨outI_nil _ _, b_al (Below.refl _ _) _⟩
        · go_enter Try.func15, Try.ntmps15
          go_wp2
          all_goals go_ret
          all_goals exact ⟨outI_nil _ _, b_al (Below.refl _ _) _⟩
      · rw [if_neg c20] at hr
        subst hr
        have c1 : ¬ o.code = 20 := fun h => c20 (.inl h)
        have c2 : ¬ o.code = 21 := fun h => c20 (.inr h)
        have b1 : (o.code == 20) = false := by simp [c1]
        have b2 : (o.code == 21) = false := by simp [c2]
        have b3 : (o.code == 16) = false := by simp [c16]
        have b4 : (o.code == 17) = false := by simp [c17]
        clear hp c20 c1 c2 c16 c17
        go_enter Try.func15, Try.ntmps15
        go_wp2
        all_goals go_ret
        all_goals exact ⟨outI_row (k_n1 _ _ _ _) (Nat.le_succ _) (by simp [maxLen]) rfl rfl, b_al (b_al (Below.refl _ _) _) _⟩
theorem law_Straight (f : FlatD) (w : World) (hf : FlatOk w f) (hz : FlatSz f) : Calls Try.prog 6 #[f.val] w fun e w' => e = .returned (.bool true) ∧ Below w.heap.size w w' := by
  obtain ⟨⟨hlo, hSo⟩, ⟨hll, hSl⟩⟩ := hf
  have hon : f.on ≤ 1599289640401 := by have := hz.1; omega
  have HSO := Lib.hid hSo
  have HSL := Lib.hid hSl
  have HLO := Lib.hid hlo
  have HLL := Lib.hid hll
  have HZ := Lib.hid hz
  have HON := Lib.hid hon
  have hon63 : f.on < 4611686018427387904 := by omega
  clear hSo hSl hlo hll hz hon
  go_enter Try.func6, Try.ntmps6
  go_upto_region 1 with fail
  obtain ⟨wB, hwB⟩ : ∃ W, W = w.alloc (.cells #[.string f.name, .int .i64 f.what, .int .i64 f.cells, .int .i64 f.base, .int .i64 f.regs, .int .i64 f.slots, .slice f.ao f.on f.oc, .slice f.lo f.ln f.lc] 32 (0, 0)) := ⟨_, rfl⟩
  have hbB : Below w.heap.size w wB := by rw [hwB]; exact b_al (Below.refl _ _) _
  have kB : wB.heap[w.heap.size]? = some (.cells #[.string f.name, .int .i64 f.what, .int .i64 f.cells, .int .i64 f.base, .int .i64 f.regs, .int .i64 f.slots, .slice f.ao f.on f.oc, .slice f.lo f.ln f.lc] 32 (0, 0)) := by rw [hwB]; exact k_box
  have sB : wB.heap.size = w.heap.size + 1 := by rw [hwB, alloc_sz]
  rw [← hwB]
  clear hwB
  have HBB := Lib.hid hbB
  have KB := Lib.hid kB
  clear hbB kB
  go_upto_block 0 with fail
  go_cut [4] from 12 (fun s4 wx => ∃ n : Nat, s4 = .int .i64 n ∧ n ≤ f.on + 1 ∧ (∀ K c, lenP f K 0 = some c → c = n ∨ f.ops.length < n ∧ n < c) ∧ Below wB.heap.size wB wx)
  case first =>
    go_wp2_with fail
    go_loopw [3, 4] (fun s3 s4 wr => ∃ (a : Int) (n : Nat), s3 = .int .i64 a ∧ s4 = .int .i64 n ∧ n ≤ f.on + 1 ∧ (∀ K c, lenP f K 0 = some c → ∃ K' c', lenP f K' a.toNat = some c' ∧ c = n + c') ∧ Below wB.heap.size wB wr) (fun _ s4 _ => f.on + 1 - (intOf s4).toNat)
    case atStart => exact ⟨0, 0, rfl, rfl, by omega, fun K c h => ⟨K, c, h, by omega⟩, Below.refl _ _⟩
    case round =>
      obtain ⟨a, n, rfl, rfl, hn, hlen, hbe⟩ := hrel
      have kb := k_go KB.out hbe
      have d6 := k_cv kb 6 rfl
      simp only [List.getElem_toArray, List.getElem_cons_succ, List.getElem_cons_zero] at d6
      have HLEN := Lib.hid hlen
      have HBE := Lib.hid hbe
      have HBT := Lib.hid (b_go HBB.out hbe)
      clear kb hlen hbe
      by_cases hnl : n ≤ f.on
      · have hnI : (n : Int) ≤ f.on := by omega
        have honI : (f.on : Int) ≤ 1599289640401 := by have := HON.out; omega
        by_cases a0 : a < 0
        · go_wp2_with (go_at_call 10; go_loud (with_reducible refine (c_awake _).mono ?_); rintro e w5 ⟨rfl, hb5⟩)
          all_goals go_returns
          all_goals exact ⟨rfl, b_go HBT.out hb5⟩
        · by_cases a1 : (f.on : Int) ≤ a
          · go_wp2_with (go_at_call 10; go_loud (with_reducible refine (c_awake _).mono ?_); rintro e w5 ⟨rfl, hb5⟩)
            all_goals go_returns
            all_goals exact ⟨rfl, b_go HBT.out hb5⟩
          · obtain ⟨p, rfl⟩ : ∃ p : Nat, a = p := ⟨a.toNat, by omega⟩
            have hop := opAt_get (f := f) (p := p) (by have := HLO.out; omega)
            obtain ⟨oo, hoo⟩ : ∃ o, opAt f p = o := ⟨_, rfl⟩
            rw [hoo] at hop
            obtain ⟨oa, hoa⟩ : ∃ a, f.ao = some a := by
              cases e : f.ao with
              | none => exact absurd (HSO.out.2.1 e) (by omega)
              | some a => exact ⟨a, rfl⟩
            have hS2 := HSO.out.go HBT.out
            rw [hoa] at hS2 d6
            have y0 := hS2.at0 OpD.len hop rfl
            have y1 := hS2.atS OpD.len hop (j := 1) (by decide) rfl
            have y2 := hS2.atS OpD.len hop (j := 2) (by decide) rfl
            have y3 := hS2.atS OpD.len hop (j := 3) (by decide) rfl
            have y4 := hS2.atS OpD.len hop (j := 4) (by decide) rfl
            have y5 := hS2.atS OpD.len hop (j := 5) (by decide) rfl
            have y6 := hS2.atS OpD.len hop (j := 6) (by decide) rfl
            have y7 := hS2.atS OpD.len hop (j := 7) (by decide) rfl
            have y8 := hS2.atS OpD.len hop (j := 8) (by decide) rfl
            have y9 := hS2.atS OpD.len hop (j := 9) (by decide) rfl
            by_cases c18 : oo.code = 18
            · clear hS2 hop
              go_wp2_with (go_at_call 10; go_loud (with_reducible refine (c_awake _).mono ?_); rintro e w5 ⟨rfl, hb5⟩)
              all_goals go_returns
              all_goals exact ⟨rfl, b_go HBT.out hb5⟩
            · have b18 : (oo.code == 18) = false := by simp [c18]
              have N1 := r_NextW oo p wr (by omega)
              obtain ⟨qs, hqs⟩ : ∃ qs, nextI oo p = qs := ⟨_, rfl⟩
              have hnx : nextsV f p = qs := by unfold nextsV; rw [hoo, hqs]
              rw [hqs] at N1
              have HL1 := Lib.hid (fun K c (h : lenP f K 0 = some c) => HLEN.out K c h)
              clear hS2 hop hqs c18
              cases qs with
              | nil =>
                have hcut : ∀ K c, lenP f K 0 = some c → c = n + 1 ∨ f.ops.length < n + 1 ∧ n + 1 < c := fun K c h => by
                  obtain ⟨K', c', h1, h2⟩ := HL1.out K c h
                  rw [Int.toNat_natCast] at h1
                  have := lenP_end hnx h1
                  omega
                have HCUT := Lib.hid hcut
                clear hcut
                go_wp2_with (go_at_call 15; go_loud (with_reducible refine N1.mono ?_); rintro e w3 ⟨⟨v3, rfl, hI3⟩, hb3⟩; obtain ⟨a3, c3, rfl⟩ := own_shape hI3)
                go_meet
                exact ⟨n + 1, by go_num, by omega, HCUT.out, b_go HBE.out hb3⟩
              | cons q r =>
                have hrel : ∀ K c, lenP f K 0 = some c → ∃ K' c', lenP f K' q.toNat = some c' ∧ c = n + 1 + c' := fun K c h => by
                  obtain ⟨K', c', h1, h2⟩ := HL1.out K c h
                  rw [Int.toNat_natCast] at h1
                  obtain ⟨k', c'', h3, h4⟩ := lenP_step hnx h1
                  exact ⟨k', c'', h3, by omega⟩
                have HREL := Lib.hid hrel
                clear hrel
                go_wp2_with (go_at_call 15; go_loud (with_reducible refine N1.mono ?_); rintro e w3 ⟨⟨v3, rfl, hI3⟩, hb3⟩; obtain ⟨g3, c3, rfl, hq3⟩ := ints_cons hI3)
                go_roundw
                case rel => exact ⟨q, n + 1, rfl, by go_num, by omega, HREL.out, b_go HBE.out hb3⟩
                case measure => simp [intOf]; omega
      · obtain rfl : n = f.on + 1 := by omega
        have hcut : ∀ K c, lenP f K 0 = some c → c = f.on + 1 ∨ f.ops.length < f.on + 1 ∧ f.on + 1 < c := fun K c h => by
          obtain ⟨K', c', h1, h2⟩ := HLEN.out K c h
          have := lenP_pos h1
          have := HLO.out
          right
          omega
        have HCUT := Lib.hid hcut
        have hnI : ¬ ((f.on : Int) + 1 ≤ f.on) := by omega
        clear hcut
        go_wp2_with fail
        go_meet
        exact ⟨f.on + 1, rfl, by omega, HCUT.out, HBE.out⟩
  case rest =>
    obtain ⟨n, rfl, hn, hlen, hbe⟩ := hcut
    obtain ⟨wC, hwC⟩ : ∃ W, W = wc := ⟨_, rfl⟩
    subst hwC
    have HBC := Lib.hid hbe
    have HLEN := Lib.hid hlen
    have kb := k_go KB.out hbe
    have d6 := k_cv kb 6 rfl
    simp only [List.getElem_toArray, List.getElem_cons_succ, List.getElem_cons_zero] at d6
    have hws : w.heap.size < wC.heap.size := k_lt kb
    clear hbe hlen kb
    go_wp2_with fail
    go_loopw [54] (fun i wr => ∃ k : Nat, k ≤ f.on ∧ i = .int .i64 k ∧ (∀ p, p < k → StepS f p) ∧ Below wC.heap.size wC wr) (fun i _ => f.on - (intOf i).toNat)
    case atStart => exact ⟨0, Nat.zero_le _, rfl, fun p h => absurd h (by omega), Below.refl _ _⟩
    case round =>
      obtain ⟨p, hp, rfl, hst, hb2⟩ := hrel
      have HBT := Lib.hid (b_go (b_go HBB.out HBC.out) hb2)
      have e6 := (hb2.cell (p := ⟨w.heap.size, 6, none⟩) hws).trans d6
      by_cases hpo : p < f.on
      · have hop := opAt_get (f := f) (p := p) (by have := HLO.out; omega)
        obtain ⟨oo, hoo⟩ : ∃ o, opAt f p = o := ⟨_, rfl⟩
        rw [hoo] at hop
        obtain ⟨oa, hoa⟩ : ∃ a, f.ao = some a := by
          cases e : f.ao with
          | none => exact absurd (HSO.out.2.1 e) (by omega)
          | some a => exact ⟨a, rfl⟩
        have hS2 := HSO.out.go HBT.out
        rw [hoa] at hS2 e6 ⊢
        have y0 := hS2.at0 OpD.len hop rfl
        have y1 := hS2.atS OpD.len hop (j := 1) (by decide) rfl
        have y2 := hS2.atS OpD.len hop (j := 2) (by decide) rfl
        have y3 := hS2.atS OpD.len hop (j := 3) (by decide) rfl
        have y4 := hS2.atS OpD.len hop (j := 4) (by decide) rfl
        have y5 := hS2.atS OpD.len hop (j := 5) (by decide) rfl
        have y6 := hS2.atS OpD.len hop (j := 6) (by decide) rfl
        have y7 := hS2.atS OpD.len hop (j := 7) (by decide) rfl
        have y8 := hS2.atS OpD.len hop (j := 8) (by decide) rfl
        have y9 := hS2.atS OpD.len hop (j := 9) (by decide) rfl
        have hpI : (p : Int) < f.on := by omega
        have honI : (f.on : Int) ≤ 1599289640401 := by have := HON.out; omega
        have N1 := fun W => r_NextW oo p W (by have := HON.out; omega)
        obtain ⟨qs, hqs⟩ : ∃ qs, nextI oo p = qs := ⟨_, rfl⟩
        have hnx : nextsV f p = qs := by unfold nextsV; rw [hoo, hqs]
        rw [hqs] at N1
        have HST := Lib.hid hst
        have HB2 := Lib.hid hb2
        clear hS2 hop hqs hst hb2
        go_upto_region 12 with fail
        obtain ⟨KX, hKX⟩ : ∃ b, wr.heap.size = b := ⟨_, rfl⟩
        obtain ⟨wi, hwi⟩ : ∃ W, W = wr.alloc (.cells #[.int .i64 oo.code, .int .i64 oo.a, .int .i64 oo.b, .int .i64 oo.c, .int .i64 oo.d, .int .i64 oo.lo, .int .i64 oo.hi, .int .u8 oo.vk, .int .u64 oo.vb, .string oo.vt] 47 (0, 0)) := ⟨_, rfl⟩
        have hbi : Below wr.heap.size wr wi := by rw [hwi]; exact b_al (Below.refl _ _) _
        have kx : wi.heap[wr.heap.size]? = some (.cells #[.int .i64 oo.code, .int .i64 oo.a, .int .i64 oo.b, .int .i64 oo.c, .int .i64 oo.d, .int .i64 oo.lo, .int .i64 oo.hi, .int .u8 oo.vk, .int .u64 oo.vb, .string oo.vt] 47 (0, 0)) := by rw [hwi]; exact k_box
        rw [← hwi, hKX]
        rw [hKX] at kx
        clear hwi y0 y1 y2 y3 y4 y5 y6 y7 y8 y9
        have o0 := k_cv kx 0 rfl
        have o1 := k_cv kx 1 rfl
        have o2 := k_cv kx 2 rfl
        have o3 := k_cv kx 3 rfl
        have o4 := k_cv kx 4 rfl
        have o5 := k_cv kx 5 rfl
        have o6 := k_cv kx 6 rfl
        have o7 := k_cv kx 7 rfl
        have o8 := k_cv kx 8 rfl
        have o9 := k_cv kx 9 rfl
        simp only [List.getElem_toArray, List.getElem_cons_succ, List.getElem_cons_zero] at o0 o1 o2 o3 o4 o5 o6 o7 o8 o9
        have hwr : w.heap.size < wr.heap.size := Nat.lt_of_lt_of_le hws HB2.out.size
        have hE6 : ∀ W, Below wi.heap.size wi W → W.cell? ⟨w.heap.size, 6, none⟩ = some (.slice (some oa) f.on f.oc) ∧ W.cell? ⟨KX, 0, none⟩ = some (.int .i64 oo.code) := fun W hb => ⟨((b_go hbi hb).cell (p := ⟨w.heap.size, 6, none⟩) hwr).trans e6, k_cv (k_go kx hb) 0 rfl⟩
        have HBI := Lib.hid hbi
        clear hbi
        rcases qs with _ | ⟨q, r⟩
        · go_upto_region 13 with (go_at_call 15; go_loud (with_reducible refine (N1 _).mono ?_); rintro e w3 ⟨⟨v3, rfl, hI3⟩, hb3⟩; obtain ⟨g3, c3, rfl⟩ := own_shape hI3)
          obtain ⟨t6, t7⟩ := hE6 w3 hb3
          by_cases c18 : oo.code = 18
          · go_quiet (fail)
            go_wp2_with (go_at_call 10; go_loud (with_reducible refine (c_awake _).mono ?_); rintro e w5 ⟨rfl, hb5⟩)
            all_goals go_returns
            all_goals exact ⟨rfl, b_go (b_go (b_go (b_go HBT.out HBI.out) hb3) (b_dn (Below.refl _ w3) nq)) hb5⟩
          · have b18 : (oo.code == 18) = false := by simp [c18]
            go_quiet (fail)
            go_wp2_with fail
            go_roundw
            case rel =>
              refine ⟨p + 1, by omega, by go_num, fun i hi => ?_, b_go HB2.out (b_go (b_go HBI.out hb3) (b_dn (Below.refl _ w3) nq))⟩
              by_cases hip : i < p
              · exact HST.out i hip
              · obtain rfl : i = p := by omega
                exact ⟨.inl hnx, by rw [hoo]; exact c18⟩
            case measure => simp [intOf]; omega
        · go_upto_region 13 with (go_at_call 15; go_loud (with_reducible refine (N1 _).mono ?_); rintro e w3 ⟨⟨v3, rfl, hI3⟩, hb3⟩; obtain ⟨g3, c3, rfl, hq3⟩ := ints_cons hI3)
          obtain ⟨t6, t7⟩ := hE6 w3 hb3
          by_cases hr0 : r = []
          · subst hr0
            by_cases q1 : q ≤ p
            · go_quiet (fail)
              go_wp2_with (go_at_call 10; go_loud (with_reducible refine (c_awake _).mono ?_); rintro e w5 ⟨rfl, hb5⟩)
              all_goals go_returns
              all_goals exact ⟨rfl, b_go (b_go (b_go (b_go HBT.out HBI.out) hb3) (b_dn (Below.refl _ w3) nq)) hb5⟩
            · by_cases q2 : (f.on : Int) ≤ q
              · go_quiet (fail)
                go_wp2_with (go_at_call 10; go_loud (with_reducible refine (c_awake _).mono ?_); rintro e w5 ⟨rfl, hb5⟩)
                all_goals go_returns
                all_goals exact ⟨rfl, b_go (b_go (b_go (b_go HBT.out HBI.out) hb3) (b_dn (Below.refl _ w3) nq)) hb5⟩
              · by_cases c18 : oo.code = 18
                · go_quiet (fail)
                  go_wp2_with (go_at_call 10; go_loud (with_reducible refine (c_awake _).mono ?_); rintro e w5 ⟨rfl, hb5⟩)
                  all_goals go_returns
                  all_goals exact ⟨rfl, b_go (b_go (b_go (b_go HBT.out HBI.out) hb3) (b_dn (Below.refl _ w3) nq)) hb5⟩
                · have b18 : (oo.code == 18) = false := by simp [c18]
                  go_quiet (fail)
                  go_wp2_with fail
                  go_roundw
                  case rel =>
                    refine ⟨p + 1, by omega, by go_num, fun i hi => ?_, b_go HB2.out (b_go (b_go HBI.out hb3) (b_dn (Below.refl _ w3) nq))⟩
                    by_cases hip : i < p
                    · exact HST.out i hip
                    · obtain rfl : i = p := by omega
                      exact ⟨.inr ⟨q.toNat, by rw [hnx, Int.toNat_of_nonneg (by omega)], by omega, by have := HLO.out; omega⟩, by rw [hoo]; exact c18⟩
                  case measure => simp [intOf]; omega
          · obtain ⟨q', r', rfl⟩ : ∃ a b, r = a :: b := by
              cases r with
              | nil => exact absurd rfl hr0
              | cons a b => exact ⟨a, b, rfl⟩
            clear hr0
            obtain ⟨m, hm⟩ : ∃ m, (q' :: r').length + 1 = m := ⟨_, rfl⟩
            rw [hm]
            have hm2 : 2 ≤ m := by rw [← hm]; simp
            have hmI : (1 : Int) < m := by omega
            clear hm hm2 hI3 N1 hnx
            go_quiet (fail)
            go_wp2_with (go_at_call 10; go_loud (with_reducible refine (c_awake _).mono ?_); rintro e w5 ⟨rfl, hb5⟩)
            all_goals go_returns
            all_goals exact ⟨rfl, b_go (b_go (b_go (b_go HBT.out HBI.out) hb3) (b_dn (Below.refl _ w3) nq)) hb5⟩
      · obtain rfl : p = f.on := by omega
        have kr := k_go (k_go KB.out HBC.out) hb2
        have f0 := k_cv kr 0 rfl
        have f1 := k_cv kr 1 rfl
        have f2 := k_cv kr 2 rfl
        have f3 := k_cv kr 3 rfl
        have f4 := k_cv kr 4 rfl
        have f5 := k_cv kr 5 rfl
        have f7 := k_cv kr 7 rfl
        simp only [List.getElem_toArray, List.getElem_cons_succ, List.getElem_cons_zero] at f0 f1 f2 f3 f4 f5 f7
        have HST := Lib.hid hst
        clear hst hb2 kr d6
        by_cases n0 : f.on = 0
        · have hI : (f.on : Int) = 0 := by omega
          have hb : ((f.on : Int) == 0) = true := by simp [n0]
          go_wp2_with (go_at_call 10; go_loud (with_reducible refine (c_awake _).mono ?_); rintro e w5 ⟨rfl, hb5⟩)
          all_goals go_returns
          all_goals exact ⟨rfl, b_go HBT.out hb5⟩
        · have hI : ¬ (f.on : Int) = 0 := by omega
          have hb : ((f.on : Int) == 0) = false := by simp [n0]
          by_cases l0 : 0 < f.ln
          · have hL : (0 : Int) < f.ln := by omega
            go_wp2_with (go_at_call 10; go_loud (with_reducible refine (c_awake _).mono ?_); rintro e w5 ⟨rfl, hb5⟩)
            all_goals go_returns
            all_goals exact ⟨rfl, b_go HBT.out hb5⟩
          · have hL : ¬ (0 : Int) < f.ln := by omega
            by_cases m0 : f.on ≤ 1048576
            · have hM : (f.on : Int) ≤ 1048576 := by omega
              have hlen' := HLO.out
              have hl0 : f.loops = [] := by
                have := HLL.out
                exact List.eq_nil_of_length_eq_zero (by omega)
              obtain ⟨c, hc1, hc2, hc3, hc4, hc5⟩ := straight_of hl0 (by omega) (by omega) (fun p h => HST.out p (by omega))
              have hcn : c = n := by
                rcases HLEN.out _ _ hc2 with h | h <;> omega
              subst hcn
              have N5 : ∀ W, Below w.heap.size w W → ∀ b, W.heap[b]? = some (.cells #[.string f.name, .int .i64 f.what, .int .i64 f.cells, .int .i64 f.base, .int .i64 f.regs, .int .i64 f.slots, .slice f.ao f.on f.oc, .slice f.lo f.ln f.lc] 32 (0, 0)) → Calls Try.prog 8 #[.slice (some ⟨b, 0, none⟩) 1 1, .int .i64 0] W fun e w' => Out3 e (c : Int) 0 0 ∧ Below W.heap.size W w' := fun W hb b hk => by
                have h := c_Of (some ⟨b, 0, none⟩) 1 1 [f] 0 c W (codes_one hk (FlatOk.go ⟨⟨HLO.out, HSO.out⟩, ⟨HLL.out, HSL.out⟩⟩ hb)) (fun g hg => by obtain rfl := List.mem_singleton.1 hg; exact HZ.out) (fun g hg => by obtain rfl := List.mem_singleton.1 hg; exact ⟨by omega, by rw [hl0]; simp⟩) (fun g hg => by obtain rfl := List.mem_singleton.1 hg; omega) (by omega) (by rw [hc5]; decide) hc4
                rw [hc3] at h
                exact h
              clear HLEN HST
              go_wp2_with (go_at_call 8; go_loud (with_reducible refine (N5 _ (b_go HBT.out (b_al (Below.refl _ _) _)) _ k_box).mono ?_); rintro e w5 ⟨rfl, hb5⟩)
              all_goals go_wp2_with (go_at_call 10; go_loud (with_reducible refine (c_awake _).mono ?_); rintro e w6 ⟨rfl, hb6⟩)
              all_goals go_returns
              all_goals exact ⟨rfl, b_go (b_go (b_go HBT.out (b_al (Below.refl _ _) _)) hb5) hb6⟩
            · have hM : ¬ (f.on : Int) ≤ 1048576 := by omega
              go_wp2_with (go_at_call 10; go_loud (with_reducible refine (c_awake _).mono ?_); rintro e w5 ⟨rfl, hb5⟩)
              all_goals go_returns
              all_goals exact ⟨rfl, b_go HBT.out hb5⟩
end Go.Proofs.Ytmnaeoljpajomaa.H
