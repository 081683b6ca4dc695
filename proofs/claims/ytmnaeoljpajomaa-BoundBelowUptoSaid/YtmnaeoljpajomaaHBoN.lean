/- Contract of called: it says true only if a way comes to a call of the code. Condition: sizes within reach. -/
import Derived.Test.YtmnaeoljpajomaaHBoJ
import Derived.Test.YtmnaeoljpajomaaHBeS
import Derived.Deep.CutBlock
namespace Go.Proofs.Ytmnaeoljpajomaa.H
set_option linter.unusedVariables false
set_option linter.unusedSimpArgs false
open Go.RowKit Go.Proofs.Ytmnaeoljpajomaa.Plain Go.Sort Go.Maps
set_option maxHeartbeats 3200000
set_option maxRecDepth 100000
attribute [local go_sem] ext_from ext_bits cell_isSome un_neg_float
/-- How many places were not seen yet. -/
def cntF (ms : List Bool) : Nat := (ms.filter fun b => !b).length
theorem cntF_set : ∀ (ms : List Bool) (m : Nat), ms[m]? = some false → cntF (ms.set m true) + 1 = cntF ms
  | [], m, h => by simp at h
  | b :: ms, 0, h => by
    obtain rfl : b = false := by simpa using h
    simp [cntF]
  | b :: ms, m + 1, h => by
    have ih := cntF_set ms m (by simpa using h)
    unfold cntF at ih ⊢
    rw [List.set_cons_succ, List.filter_cons, List.filter_cons]
    split
    · rw [List.length_cons, List.length_cons]; omega
    · exact ih
theorem cntF_le (ms : List Bool) : cntF ms ≤ ms.length := List.length_filter_le _ _
/-- A way comes to all that is open. -/
def CalI (f : FlatD) (zs : List Int) : Prop := ∀ p : Nat, (p : Int) ∈ zs → Way f none 0 p
theorem calI_tail {f : FlatD} {z : Int} {zs : List Int} (h : CalI f (z :: zs)) : CalI f zs := fun p hp => h p (List.mem_cons_of_mem _ hp)
theorem calI_app {f : FlatD} {m : Nat} {zs : List Int} (h : CalI f ((m : Int) :: zs)) : CalI f (zs ++ nextsV f m) := fun p hp => by
  rcases List.mem_append.1 hp with c | c
  · exact h p (List.mem_cons_of_mem _ c)
  · exact (h m (by simp)).snoc c rfl rfl
def OutCa (f : FlatD) (k : Int) (e : Ending) : Prop := ∃ b, e = .returned (.bool b) ∧ (b = true → Comes f k)
theorem c_called (f : FlatD) (k : Int) (w : World) (hf : FlatOk w f) (hm : f.on ≤ 1048576) :
    Calls Try.prog 12 #[f.val, .int .i64 k] w fun e w' => OutCa f k e ∧ Below w.heap.size w w' := by
  obtain ⟨⟨hlo, hSo⟩, _⟩ := hf
  obtain ⟨i0, hi, hz0, hz1, hz2⟩ := info_parts (show (Try.prog.info? 3).map (fun i => (i.zero, i.size, i.bytes)) = some (some (.int .i64 0), 1, 8) by kernel_rfl)
  obtain ⟨n, hn⟩ : ∃ n, f.on = n := ⟨_, rfl⟩
  have MK := mkB n (by omega)
  obtain ⟨fao, hfao⟩ : ∃ a, f.ao = a := ⟨_, rfl⟩
  rw [hn] at hSo hlo hm
  rw [hfao] at hSo
  have HSO := Lib.hid hSo
  have HLO := Lib.hid hlo
  have HM := Lib.hid hm
  have hn63 : n < 4611686018427387904 := by omega
  clear hSo hlo hm
  rw [FlatD.val, hn, hfao]
  clear hfao hn
  go_enter Try.func12, Try.ntmps12
  go_upto_region 1 with fail
  obtain ⟨wB, hwB⟩ : ∃ W, W = w.alloc (.cells #[.string f.name, .int .i64 f.what, .int .i64 f.cells, .int .i64 f.base, .int .i64 f.regs, .int .i64 f.slots, .slice fao n f.oc, .slice f.lo f.ln f.lc] 32 (0, 0)) := ⟨_, rfl⟩
  have hbB : Below w.heap.size w wB := by rw [hwB]; exact b_al (Below.refl _ _) _
  have kB : wB.heap[w.heap.size]? = some (.cells #[.string f.name, .int .i64 f.what, .int .i64 f.cells, .int .i64 f.base, .int .i64 f.regs, .int .i64 f.slots, .slice fao n f.oc, .slice f.lo f.ln f.lc] 32 (0, 0)) := by rw [hwB]; exact k_box
  have sB : wB.heap.size = w.heap.size + 1 := by rw [hwB, alloc_sz]
  rw [← hwB]
  clear hwB
  obtain ⟨e0, e1, e2, e3, e4, e5, e6, e7⟩ := box_cellsA kB
  obtain ⟨SB, hSB⟩ : ∃ b, wB.heap.size = b := ⟨_, rfl⟩
  obtain ⟨wL, hwL⟩ : ∃ W, W = (wB.alloc (.cells (doneA n []) 4)).alloc (.cells #[.int .i64 0] 3) := ⟨_, rfl⟩
  have hbL : Below wB.heap.size wB wL := by rw [hwL]; exact b_al (b_al (Below.refl _ _) _) _
  have hmL : wL.heap[SB]? = some (.cells (boolsA (doneL n [])) 4 (0, 0)) := by rw [hwL, ← hSB]; exact k_al (k_new rfl) _
  have hQL : Que wL (SB + 1) (.slice (some ⟨SB + 1, 0, none⟩) 1 1) [0] := by
    rw [hwL]
    have := @ints_row ((wB.alloc (.cells (doneA n []) 4)).alloc (.cells #[.int .i64 0] 3)) (SB + 1) (SB + 1) [(0 : Int)] (by rw [← hSB]; exact k_n1 _ _ _ _) (Nat.le_refl _) (by simp [maxLen])
    exact que_of_ints this
  have HBB := Lib.hid hbB
  have KB := Lib.hid kB
  have HBL := Lib.hid hbL
  have HML := Lib.hid hmL
  have HQL := Lib.hid hQL
  clear hbB kB hbL hmL hQL
  go_upto_block 0 with fail
  rw [show w.heap.size + 1 = SB by omega, ← hwL]
  clear sB
  clear hwL
  go_wp2_with fail
  go_loopw [6] (fun u wr => ∃ (zs : List Int) (ms : List Bool), ms.length = n ∧ CalI f zs ∧ Que wr (SB + 1) u zs ∧ wr.heap[SB]? = some (.cells (boolsA ms) 4 (0, 0)) ∧ Below wB.heap.size wB wr ∧ zs.length + 2 * cntF ms ≤ 1 + 2 * n) (fun u wr => slLen u + 2 * cntF (boolsOf wr SB))
  case atStart => exact ⟨[0], doneL n [], doneL_len _ _, fun p hp => by
      have : (p : Int) = 0 := by simpa using hp
      obtain rfl : p = 0 := by omega
      exact .here 0, HQL.out, HML.out, HBL.out, by have := cntF_le (doneL n []); rw [doneL_len] at this; simp; omega⟩
  case round =>
    obtain ⟨zs, ms, hml, hI, hQ, hm, hbe, hsum⟩ := hrel
    have hmeas : boolsOf wr SB = ms := boolsOf_at hm
    cases zs with
    | cons z zs =>
      obtain ⟨g, off, cap, rfl, hcap, hcm, hcell, hq1, hq2⟩ := hQ.front
      rw [hmeas]
      obtain ⟨d0, d1, d2, d3, d4, d5, d6, d7⟩ := box_cellsA (k_go KB.out hbe)
      have HI := Lib.hid hI
      have HMS := Lib.hid hm
      have HBE := Lib.hid hbe
      obtain ⟨S0, hS0⟩ : ∃ S, cntF ms = S := ⟨_, rfl⟩
      rw [hS0]
      have hw1 : wrap64 ((zs.length : Int) + 1 - 1) = zs.length := by unfold wrap64; unfold maxLen at hcm; omega
      have hzl : ¬ ((zs.length : Int) + 1 ≤ 0) := by omega
      have hzl2 : (0 : Int) < (zs.length : Int) + 1 := by omega
      have hcp : (1 : Int) ≤ cap := by omega
      have hle : (1 : Int) ≤ (zs.length : Int) + 1 := by omega
      obtain ⟨v', hv', hQ'⟩ : ∃ v', v' = (if cap = 1 then Value.slice (some ⟨g, off, none⟩) zs.length (cap - 1) else Value.slice (some ⟨g, off + 1, none⟩) zs.length (cap - 1)) ∧ Que wr (SB + 1) v' zs := by
        by_cases hc : cap = 1
        · exact ⟨_, rfl, by rw [if_pos hc]; exact hq1 hc⟩
        · exact ⟨_, rfl, by rw [if_neg hc]; exact hq2 hc⟩
      have HCM := Lib.hid hcm
      have HSUM := Lib.hid hsum
      clear hQ hq1 hq2 hcm hsum
      by_cases hc1 : cap = 1
      · subst hc1
        obtain rfl : zs = [] := List.eq_nil_of_length_eq_zero (by omega)
        rw [if_pos rfl] at hv'
        subst hv'
        have HQ := Lib.hid hQ'
        clear hQ' hI hm hbe
        by_cases hout : z < 0 ∨ ¬ z < 0 ∧ (n : Int) ≤ z
        · have HS := Lib.hid (calI_tail HI.out)
          rcases hout with hout | ⟨hout, hout2⟩
          · go_wp2_with fail
            refine ⟨⟨([] : List Int), ms, hml, HS.out, HQ.out, HMS.out, HBE.out, by have := HSUM.out; simp at this ⊢; omega⟩, ?_⟩
            rw [boolsOf_at HMS.out]
            simp [slLen]; omega
          · go_wp2_with fail
            refine ⟨⟨([] : List Int), ms, hml, HS.out, HQ.out, HMS.out, HBE.out, by have := HSUM.out; simp at this ⊢; omega⟩, ?_⟩
            rw [boolsOf_at HMS.out]
            simp [slLen]; omega
        · obtain ⟨m, rfl⟩ : ∃ m : Nat, z = m := ⟨z.toNat, by omega⟩
          have hmn : m < n := by omega
          have hmz0 : ¬ (m : Int) < 0 := by omega
          have hmz1 : ¬ (n : Int) ≤ m := by omega
          clear hout
          obtain ⟨b, hb⟩ : ∃ b, ms[m]? = some b := ⟨_, List.getElem?_eq_getElem (by omega)⟩
          have q1 := k_cv HMS.out m (boolsA_get hb)
          have q2 := k_fr HMS.out m
          cases b with
          | true =>
            have HS := Lib.hid (calI_tail HI.out)
            go_wp2_with fail
            refine ⟨⟨([] : List Int), ms, hml, HS.out, HQ.out, HMS.out, HBE.out, by have := HSUM.out; simp at this ⊢; omega⟩, ?_⟩
            rw [boolsOf_at HMS.out]
            simp [slLen]; omega
          | false =>
            have HS := Lib.hid (calI_app HI.out)
            have hset := cntF_set ms m hb
            go_upto_region 8 with fail
            obtain ⟨wS, hwS⟩ : ∃ W, W = wr.setCell ⟨SB, m, none⟩ (.bool true) := ⟨_, rfl⟩
            have hbS : Below wB.heap.size wB wS := by rw [hwS]; exact b_st HBE.out (by omega) _
            have hmS : wS.heap[SB]? = some (.cells (boolsA (ms.set m true)) 4 (0, 0)) := by rw [hwS, ← boolsA_set]; exact k_se HMS.out
            have hQS : Que wS (SB + 1) (.slice (some ⟨g, off, none⟩) ([] : List Int).length (1 - 1)) ([] : List Int) := by rw [hwS]; exact HQ.out.set (by omega)
            rw [← hwS]
            clear hwS
            obtain ⟨d0, d1, d2, d3, d4, d5, d6, d7⟩ := box_cellsA (k_go KB.out hbS)
            have hop := opAt_get (f := f) (p := m) (by have := HLO.out; omega)
            obtain ⟨oo, hoo⟩ : ∃ o, opAt f m = o := ⟨_, rfl⟩
            rw [hoo] at hop
            obtain ⟨oa, rfl⟩ : ∃ a, fao = some a := by
              cases e : fao with
              | none => exact absurd (HSO.out.2.1 e) (by omega)
              | some a => exact ⟨a, rfl⟩
            have hS2 := HSO.out.go (b_go HBB.out hbS)
            have y0 := hS2.at0 OpD.len hop rfl
            have y1 := hS2.atS OpD.len hop (j := 1) (by decide) rfl
            have y2 := hS2.atS OpD.len hop (j := 2) (by decide) rfl
            have y3 := hS2.atS OpD.len hop (j := 3) (by decide) rfl
            have y4 := hS2.atS OpD.len hop (j := 4) (by decide) rfl
            have y5 := hS2.atS OpD.len hop (j := 5) (by decide) rfl
            have y6 := hS2.atS OpD.len hop (j := 6) (by decide) rfl
            have y7 := hS2.atS OpD.len hop (j := 7) (by decide) rfl
            have y8 := hS2.atS OpD.len hop (j := 8) (by decide) rfl
            have y9 := hS2.atS OpD.len hop (j := 9) (by decide) rfl
            have HBS := Lib.hid hbS
            have HMM := Lib.hid hmS
            have HQS := Lib.hid hQS
            clear hS2 hop hbS hmS hQS
            by_cases hret : oo.code = 18 ∧ oo.b = k
            · have hc : Comes f k := ⟨m, HI.out m (by simp), by have := HLO.out; omega, by rw [hoo]; exact hret.1, by rw [hoo]; exact hret.2⟩
              have b18 : (oo.code == 18) = true := by simp [hret.1]
              have bk : (oo.b == k) = true := by simp [hret.2]
              have HC := Lib.hid hc
              clear hc hret
              go_wp2_with fail
              go_returns
              exact ⟨⟨true, rfl, fun _ => HC.out⟩, b_go HBB.out HBS.out⟩
            · have N1 := r_Next oo m wS (by have := HM.out; omega)
              obtain ⟨qs, hqs⟩ : ∃ qs, nextI oo m = qs := ⟨_, rfl⟩
              have hnx : nextsV f m = qs := by unfold nextsV; rw [hoo, hqs]
              have hql : qs.length ≤ 2 := by rw [← hqs]; exact nextI_len _ _
              rw [hqs] at N1
              have hmI := HM.out
              have hsI := HSUM.out
              have hcI := cntF_le ms
              have hlen : (([] : List Int)).length + qs.length ≤ 4194304 := by simp at hsI ⊢; omega
              have hbyt : ((([] : List Int)).length + qs.length) * 8 ≤ 140737488355328 := by omega
              have hmx : (([] : List Int)).length + qs.length ≤ maxLen := by unfold maxLen; omega
              have hsz3 : SB + 1 ≤ wS.heap.size := by have := k_lt HMM.out; omega
              have HLEN := Lib.hid hlen
              clear hqs hmI hsI hcI hlen
              by_cases c18 : oo.code = 18
              · have b18 : (oo.code == 18) = true := by simp [c18]
                have bk : (oo.b == k) = false := by simp; exact fun e => hret ⟨c18, e⟩
                clear hret c18
                go_wp2_with (first | (go_at_call 15; go_loud (with_reducible refine N1.mono ?_); rintro e w3 ⟨⟨v3, rfl, hI3⟩, hb3⟩; obtain ⟨a3, c3, rfl⟩ := own_shape hI3) | (at_builtin; go_loud (refine wpList_append_que _ rfl _ _ 27 rfl (SB + 1) 3 i0 Try.underlying27 hi hz0 hz1 hz2 _ ([] : List Int) rfl (HQS.out.go hb3) _ rfl qs (src_ints Try.underlying27 hI3) hmx hbyt (by have := hb3.size; omega) ?_)))
                intro v9 w9 row9 hQ9 hg9 hr9
                obtain ⟨a9, c9, rfl⟩ := hQ9.shape
                have hm9 : w9.heap[SB]? = some (.cells (boolsA (ms.set m true)) 4 (0, 0)) := (hg9.block _ (by have := k_lt HMM.out; have := hb3.size; omega) (fun e => by have := hr9 _ e.symm; omega)).trans (k_go HMM.out hb3)
                have hbe9 : Below wB.heap.size wB w9 := below_grown2 (b_go HBS.out hb3) hg9 (by have := HBS.out.size; have := hb3.size; omega) (fun g e => by have := hr9 g e; omega)
                have HQ9 := Lib.hid hQ9
                have HM9 := Lib.hid hm9
                have HB9 := Lib.hid hbe9
                clear hQ9 hg9 hm9 hbe9 hr9 hI3
                go_wp2_with fail
                go_roundw
                case rel => exact ⟨([] : List Int) ++ qs, ms.set m true, by rw [List.length_set]; exact hml, by rw [← hnx]; exact HS.out, HQ9.out, HM9.out, HB9.out, by have := HSUM.out; simp at this ⊢; omega⟩
                case measure =>
                  rw [boolsOf_at HM9.out]
                  simp [slLen]; omega
              · have b18 : (oo.code == 18) = false := by simp [c18]
                clear hret c18
                go_wp2_with (first | (go_at_call 15; go_loud (with_reducible refine N1.mono ?_); rintro e w3 ⟨⟨v3, rfl, hI3⟩, hb3⟩; obtain ⟨a3, c3, rfl⟩ := own_shape hI3) | (at_builtin; go_loud (refine wpList_append_que _ rfl _ _ 27 rfl (SB + 1) 3 i0 Try.underlying27 hi hz0 hz1 hz2 _ ([] : List Int) rfl (HQS.out.go hb3) _ rfl qs (src_ints Try.underlying27 hI3) hmx hbyt (by have := hb3.size; omega) ?_)))
                intro v9 w9 row9 hQ9 hg9 hr9
                obtain ⟨a9, c9, rfl⟩ := hQ9.shape
                have hm9 : w9.heap[SB]? = some (.cells (boolsA (ms.set m true)) 4 (0, 0)) := (hg9.block _ (by have := k_lt HMM.out; have := hb3.size; omega) (fun e => by have := hr9 _ e.symm; omega)).trans (k_go HMM.out hb3)
                have hbe9 : Below wB.heap.size wB w9 := below_grown2 (b_go HBS.out hb3) hg9 (by have := HBS.out.size; have := hb3.size; omega) (fun g e => by have := hr9 g e; omega)
                have HQ9 := Lib.hid hQ9
                have HM9 := Lib.hid hm9
                have HB9 := Lib.hid hbe9
                clear hQ9 hg9 hm9 hbe9 hr9 hI3
                go_wp2_with fail
                go_roundw
                case rel => exact ⟨([] : List Int) ++ qs, ms.set m true, by rw [List.length_set]; exact hml, by rw [← hnx]; exact HS.out, HQ9.out, HM9.out, HB9.out, by have := HSUM.out; simp at this ⊢; omega⟩
                case measure =>
                  rw [boolsOf_at HM9.out]
                  simp [slLen]; omega
      · have hc2 : ¬ (1 : Int) = cap := by omega
        have hc3 : ¬ (cap : Int) = 1 := by omega
        have hc4 : ¬ 1 = cap := by omega
        have hcw : wrap64 ((cap : Int) - 1) = ((cap - 1 : Nat) : Int) := by have := HCM.out; unfold wrap64; unfold maxLen at this; omega
        rw [if_neg hc1] at hv'
        subst hv'
        have HQ := Lib.hid hQ'
        clear hQ' hI hm hbe
        by_cases hout : z < 0 ∨ ¬ z < 0 ∧ (n : Int) ≤ z
        · have HS := Lib.hid (calI_tail HI.out)
          rcases hout with hout | ⟨hout, hout2⟩
          · go_wp2_with fail
            refine ⟨⟨zs, ms, hml, HS.out, HQ.out, HMS.out, HBE.out, by have := HSUM.out; simp at this ⊢; omega⟩, ?_⟩
            rw [boolsOf_at HMS.out]
            simp [slLen]; omega
          · go_wp2_with fail
            refine ⟨⟨zs, ms, hml, HS.out, HQ.out, HMS.out, HBE.out, by have := HSUM.out; simp at this ⊢; omega⟩, ?_⟩
            rw [boolsOf_at HMS.out]
            simp [slLen]; omega
        · obtain ⟨m, rfl⟩ : ∃ m : Nat, z = m := ⟨z.toNat, by omega⟩
          have hmn : m < n := by omega
          have hmz0 : ¬ (m : Int) < 0 := by omega
          have hmz1 : ¬ (n : Int) ≤ m := by omega
          clear hout
          obtain ⟨b, hb⟩ : ∃ b, ms[m]? = some b := ⟨_, List.getElem?_eq_getElem (by omega)⟩
          have q1 := k_cv HMS.out m (boolsA_get hb)
          have q2 := k_fr HMS.out m
          cases b with
          | true =>
            have HS := Lib.hid (calI_tail HI.out)
            go_wp2_with fail
            refine ⟨⟨zs, ms, hml, HS.out, HQ.out, HMS.out, HBE.out, by have := HSUM.out; simp at this ⊢; omega⟩, ?_⟩
            rw [boolsOf_at HMS.out]
            simp [slLen]; omega
          | false =>
            have HS := Lib.hid (calI_app HI.out)
            have hset := cntF_set ms m hb
            go_upto_region 8 with fail
            obtain ⟨wS, hwS⟩ : ∃ W, W = wr.setCell ⟨SB, m, none⟩ (.bool true) := ⟨_, rfl⟩
            have hbS : Below wB.heap.size wB wS := by rw [hwS]; exact b_st HBE.out (by omega) _
            have hmS : wS.heap[SB]? = some (.cells (boolsA (ms.set m true)) 4 (0, 0)) := by rw [hwS, ← boolsA_set]; exact k_se HMS.out
            have hQS : Que wS (SB + 1) (.slice (some ⟨g, off + 1, none⟩) zs.length (cap - 1)) zs := by rw [hwS]; exact HQ.out.set (by omega)
            rw [← hwS]
            clear hwS
            obtain ⟨d0, d1, d2, d3, d4, d5, d6, d7⟩ := box_cellsA (k_go KB.out hbS)
            have hop := opAt_get (f := f) (p := m) (by have := HLO.out; omega)
            obtain ⟨oo, hoo⟩ : ∃ o, opAt f m = o := ⟨_, rfl⟩
            rw [hoo] at hop
            obtain ⟨oa, rfl⟩ : ∃ a, fao = some a := by
              cases e : fao with
              | none => exact absurd (HSO.out.2.1 e) (by omega)
              | some a => exact ⟨a, rfl⟩
            have hS2 := HSO.out.go (b_go HBB.out hbS)
            have y0 := hS2.at0 OpD.len hop rfl
            have y1 := hS2.atS OpD.len hop (j := 1) (by decide) rfl
            have y2 := hS2.atS OpD.len hop (j := 2) (by decide) rfl
            have y3 := hS2.atS OpD.len hop (j := 3) (by decide) rfl
            have y4 := hS2.atS OpD.len hop (j := 4) (by decide) rfl
            have y5 := hS2.atS OpD.len hop (j := 5) (by decide) rfl
            have y6 := hS2.atS OpD.len hop (j := 6) (by decide) rfl
            have y7 := hS2.atS OpD.len hop (j := 7) (by decide) rfl
            have y8 := hS2.atS OpD.len hop (j := 8) (by decide) rfl
            have y9 := hS2.atS OpD.len hop (j := 9) (by decide) rfl
            have HBS := Lib.hid hbS
            have HMM := Lib.hid hmS
            have HQS := Lib.hid hQS
            clear hS2 hop hbS hmS hQS
            by_cases hret : oo.code = 18 ∧ oo.b = k
            · have hc : Comes f k := ⟨m, HI.out m (by simp), by have := HLO.out; omega, by rw [hoo]; exact hret.1, by rw [hoo]; exact hret.2⟩
              have b18 : (oo.code == 18) = true := by simp [hret.1]
              have bk : (oo.b == k) = true := by simp [hret.2]
              have HC := Lib.hid hc
              clear hc hret
              go_wp2_with fail
              go_returns
              exact ⟨⟨true, rfl, fun _ => HC.out⟩, b_go HBB.out HBS.out⟩
            · have N1 := r_Next oo m wS (by have := HM.out; omega)
              obtain ⟨qs, hqs⟩ : ∃ qs, nextI oo m = qs := ⟨_, rfl⟩
              have hnx : nextsV f m = qs := by unfold nextsV; rw [hoo, hqs]
              have hql : qs.length ≤ 2 := by rw [← hqs]; exact nextI_len _ _
              rw [hqs] at N1
              have hmI := HM.out
              have hsI := HSUM.out
              have hcI := cntF_le ms
              have hlen : (zs).length + qs.length ≤ 4194304 := by simp at hsI ⊢; omega
              have hbyt : ((zs).length + qs.length) * 8 ≤ 140737488355328 := by omega
              have hmx : (zs).length + qs.length ≤ maxLen := by unfold maxLen; omega
              have hsz3 : SB + 1 ≤ wS.heap.size := by have := k_lt HMM.out; omega
              have HLEN := Lib.hid hlen
              clear hqs hmI hsI hcI hlen
              by_cases c18 : oo.code = 18
              · have b18 : (oo.code == 18) = true := by simp [c18]
                have bk : (oo.b == k) = false := by simp; exact fun e => hret ⟨c18, e⟩
                clear hret c18
                go_wp2_with (first | (go_at_call 15; go_loud (with_reducible refine N1.mono ?_); rintro e w3 ⟨⟨v3, rfl, hI3⟩, hb3⟩; obtain ⟨a3, c3, rfl⟩ := own_shape hI3) | (at_builtin; go_loud (refine wpList_append_que _ rfl _ _ 27 rfl (SB + 1) 3 i0 Try.underlying27 hi hz0 hz1 hz2 _ zs rfl (HQS.out.go hb3) _ rfl qs (src_ints Try.underlying27 hI3) hmx hbyt (by have := hb3.size; omega) ?_)))
                intro v9 w9 row9 hQ9 hg9 hr9
                obtain ⟨a9, c9, rfl⟩ := hQ9.shape
                have hm9 : w9.heap[SB]? = some (.cells (boolsA (ms.set m true)) 4 (0, 0)) := (hg9.block _ (by have := k_lt HMM.out; have := hb3.size; omega) (fun e => by have := hr9 _ e.symm; omega)).trans (k_go HMM.out hb3)
                have hbe9 : Below wB.heap.size wB w9 := below_grown2 (b_go HBS.out hb3) hg9 (by have := HBS.out.size; have := hb3.size; omega) (fun g e => by have := hr9 g e; omega)
                have HQ9 := Lib.hid hQ9
                have HM9 := Lib.hid hm9
                have HB9 := Lib.hid hbe9
                clear hQ9 hg9 hm9 hbe9 hr9 hI3
                go_wp2_with fail
                go_roundw
                case rel => exact ⟨zs ++ qs, ms.set m true, by rw [List.length_set]; exact hml, by rw [← hnx]; exact HS.out, HQ9.out, HM9.out, HB9.out, by have := HSUM.out; simp at this ⊢; omega⟩
                case measure =>
                  rw [boolsOf_at HM9.out]
                  simp [slLen]; omega
              · have b18 : (oo.code == 18) = false := by simp [c18]
                clear hret c18
                go_wp2_with (first | (go_at_call 15; go_loud (with_reducible refine N1.mono ?_); rintro e w3 ⟨⟨v3, rfl, hI3⟩, hb3⟩; obtain ⟨a3, c3, rfl⟩ := own_shape hI3) | (at_builtin; go_loud (refine wpList_append_que _ rfl _ _ 27 rfl (SB + 1) 3 i0 Try.underlying27 hi hz0 hz1 hz2 _ zs rfl (HQS.out.go hb3) _ rfl qs (src_ints Try.underlying27 hI3) hmx hbyt (by have := hb3.size; omega) ?_)))
                intro v9 w9 row9 hQ9 hg9 hr9
                obtain ⟨a9, c9, rfl⟩ := hQ9.shape
                have hm9 : w9.heap[SB]? = some (.cells (boolsA (ms.set m true)) 4 (0, 0)) := (hg9.block _ (by have := k_lt HMM.out; have := hb3.size; omega) (fun e => by have := hr9 _ e.symm; omega)).trans (k_go HMM.out hb3)
                have hbe9 : Below wB.heap.size wB w9 := below_grown2 (b_go HBS.out hb3) hg9 (by have := HBS.out.size; have := hb3.size; omega) (fun g e => by have := hr9 g e; omega)
                have HQ9 := Lib.hid hQ9
                have HM9 := Lib.hid hm9
                have HB9 := Lib.hid hbe9
                clear hQ9 hg9 hm9 hbe9 hr9 hI3
                go_wp2_with fail
                go_roundw
                case rel => exact ⟨zs ++ qs, ms.set m true, by rw [List.length_set]; exact hml, by rw [← hnx]; exact HS.out, HQ9.out, HM9.out, HB9.out, by have := HSUM.out; simp at this ⊢; omega⟩
                case measure =>
                  rw [boolsOf_at HM9.out]
                  simp [slLen]; omega
    | nil =>
      obtain ⟨a6, c6, h6⟩ := hQ.shape
      simp only [List.length_nil] at h6
      subst h6
      have HBT := Lib.hid (b_go HBB.out hbe)
      clear hQ hI hm hbe hsum
      go_wp2_with fail
      go_returns
      exact ⟨⟨false, rfl, fun h => by cases h⟩, HBT.out⟩
end Go.Proofs.Ytmnaeoljpajomaa.H
