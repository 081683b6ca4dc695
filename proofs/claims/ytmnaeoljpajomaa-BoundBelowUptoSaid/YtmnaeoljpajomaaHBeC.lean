/- Contract: which codes belong to some (bound.belong). Condition: all lists together within reach. -/
import Derived.Test.YtmnaeoljpajomaaHBeB
namespace Go.Proofs.Ytmnaeoljpajomaa.H
set_option linter.unusedVariables false
set_option linter.unusedSimpArgs false
open Go.RowKit Go.Proofs.Ytmnaeoljpajomaa.Plain Go.Sort
set_option maxHeartbeats 3200000
set_option maxRecDepth 100000
attribute [local go_sem] ext_from ext_bits cell_isSome un_neg_float
theorem own_lt {w : World} {B : Nat} {v : Value} {zs : List Int} (h : Ints w B v zs) {g : Nat} (hg : v.ownBlock = some g) : B ≤ g ∧ g < w.heap.size := World.ownsRow.lt h g hg
theorem ints_set0 {w : World} {B b i : Nat} {v u : Value} {zs : List Int} (h : Ints w B v zs) (hne : ∀ g, v.ownBlock = some g → g ≠ b) : Ints (w.setCell ⟨b, i, none⟩ u) B v zs := by
  obtain ⟨h1, h2⟩ := h
  refine ⟨h1, ?_⟩
  rcases h2 with h2 | ⟨g, cap, cur, rfl, e2, e3, e4⟩
  · exact .inl h2
  · exact .inr ⟨g, cap, cur, rfl, e2, by rw [Below.heap_setCell _ _ _ _ (hne g rfl)]; exact e3, e4⟩
theorem below_grown2 {B : Nat} {a w w' : World} {row : Option Nat} (h : Below B a w) (hg : w.grownBy w' row) (hB : B ≤ w.heap.size) (hr : ∀ g, row = some g → B ≤ g) : Below B a w' := h.grown hg hB hr
theorem c_belong (Bl Bf : Nat) (v vf : Value) (ls : List (List Int)) (fr : List Int) (w : World) (hL : Lists w Bl v ls) (hF : Ints w Bf vf fr) (hn : ls.length * 104 ≤ 140737488355328) (hT : (fr.length + sumA ls) * 8 ≤ 140737488355328) :
    Calls Try.prog 23 #[v, vf] w fun e w' => OutI w.heap.size e (belongV ls fr) w' ∧ Below w.heap.size w w' := by
  obtain ⟨i0, hi, hz0, hz1, hz2⟩ := info_parts (show (Try.prog.info? 3).map (fun i => (i.zero, i.size, i.bytes)) = some (some (.int .i64 0), 1, 8) by kernel_rfl)
  have MK := mkB ls.length hn
  obtain ⟨al, cl, rfl, hform⟩ := hL.form
  obtain ⟨n, hln⟩ : ∃ n, ls.length = n := ⟨_, rfl⟩
  rw [hln] at MK hn ⊢
  have N1 := c_cloneI Bf vf fr (w.alloc (.cells (doneA n []) 4)) (hF.go (b_al (Below.refl _ _) _)) (by omega)
  have HF := Lib.hid hform
  have HT := Lib.hid hT
  have HN := Lib.hid hn
  have HN2 := Lib.hid hn
  have hn63 : n < 4611686018427387904 := by omega
  have hms0 : ∀ k : Nat, (doneL n [])[k]? ≠ some true := by intro k; simp [doneL]
  clear hform hT hn hF
  go_enter Try.func23, Try.ntmps23
  go_wp2_with (go_at_call 38; go_loud (with_reducible refine N1.mono ?_); rintro e w1 ⟨⟨v1, rfl, hI1⟩, hb1⟩)
  have hb0 : Below w.heap.size w w1 := b_go (b_al (Below.refl _ _) _) hb1
  have hm0 : w1.heap[w.heap.size]? = some (.cells (boolsA (doneL n [])) 4 (0, 0)) := k_go (k_new rfl) hb1
  have hQ0 : Que w1 (w.heap.size + 1) v1 fr := que_of_ints (own_low hI1 (by simp))
  have HB0 := Lib.hid hb0
  clear N1 hI1 hb1 hb0
  go_loopw [6] (fun u wr => ∃ (zs : List Int) (ms : List Bool), BelI ls fr zs ms ∧ Que wr (w.heap.size + 1) u zs ∧ wr.heap[w.heap.size]? = some (.cells (boolsA ms) 4 (0, 0)) ∧ Below w.heap.size w wr ∧ zs.length + sumU ls ms ≤ fr.length + sumA ls) (fun u wr => slLen u + sumU ls (boolsOf wr w.heap.size))
  case atStart => exact ⟨fr, doneL n [], belI_start (by rw [doneL_len, hln]) hms0, hQ0, hm0, HB0.out, by have := sumU_le ls (doneL n []); omega⟩
  case round =>
    obtain ⟨zs, ms, hI, hQ, hm, hbe, hsum⟩ := hrel
    have hmeas : boolsOf wr w.heap.size = ms := boolsOf_at hm
    have hml : ms.length = n := hI.len.trans hln
    cases zs with
    | cons z zs =>
      obtain ⟨g, off, cap, rfl, hcap, hcm, hcell, hq1, hq2⟩ := hQ.front
      have HI := Lib.hid hI
      have HM := Lib.hid hm
      have HBE := Lib.hid hbe
      rw [hmeas]
      obtain ⟨S0, hS0⟩ : ∃ S, sumU ls ms = S := ⟨_, rfl⟩
      rw [hS0]
      have hw1 : wrap64 ((zs.length : Int) + 1 - 1) = zs.length := by unfold wrap64; unfold maxLen at hcm; omega
      have hzl : ¬ ((zs.length : Int) + 1 ≤ 0) := by omega
      have hzl2 : (0 : Int) < (zs.length : Int) + 1 := by omega
      have hcp : (1 : Int) ≤ cap := by omega
      have hle : (1 : Int) ≤ (zs.length : Int) + 1 := by omega
      obtain ⟨v', hv', hQ'⟩ : ∃ v', v' = (if cap = 1 then Value.slice (some ⟨g, off, none⟩) zs.length (cap - 1) else Value.slice (some ⟨g, off + 1, none⟩) zs.length (cap - 1)) ∧ Que wr (w.heap.size + 1) v' zs := by
        by_cases hc : cap = 1
        · exact ⟨_, rfl, by rw [if_pos hc]; exact hq1 hc⟩
        · exact ⟨_, rfl, by rw [if_neg hc]; exact hq2 hc⟩
      have HCM := Lib.hid hcm
      have HSUM := Lib.hid hsum
      clear hQ hq1 hq2 hcm hsum
      by_cases hc1 : cap = 1
      · subst hc1
        obtain rfl : zs = [] := List.eq_nil_of_length_eq_zero (by omega)
        rw [if_pos rfl] at hv'
        subst hv'
        have HQ := Lib.hid hQ'
        clear hQ' hI hm hbe
        by_cases hout : z < 0 ∨ ¬ z < 0 ∧ (n : Int) ≤ z
        · have HS := Lib.hid (belI_skip HI.out (fun k hk hkn => by omega))
          rcases hout with hout | ⟨hout, hout2⟩
          · go_wp2_with fail
            refine ⟨⟨([] : List Int), ms, HS.out, HQ.out, HM.out, HBE.out, by have := HSUM.out; simp at this ⊢; omega⟩, ?_⟩
            rw [boolsOf_at HM.out]
            simp [slLen]; omega
          · go_wp2_with fail
            refine ⟨⟨([] : List Int), ms, HS.out, HQ.out, HM.out, HBE.out, by have := HSUM.out; simp at this ⊢; omega⟩, ?_⟩
            rw [boolsOf_at HM.out]
            simp [slLen]; omega
        · obtain ⟨m, rfl⟩ : ∃ m : Nat, z = m := ⟨z.toNat, by omega⟩
          have hmn : m < n := by omega
          have hmz0 : ¬ (m : Int) < 0 := by omega
          have hmz1 : ¬ (n : Int) ≤ m := by omega
          clear hout
          obtain ⟨b, hb⟩ : ∃ b, ms[m]? = some b := ⟨_, List.getElem?_eq_getElem (by omega)⟩
          have q1 := k_cv HM.out m (boolsA_get hb)
          have q2 := k_fr HM.out m
          cases b with
          | true =>
            have HS := Lib.hid (belI_skip HI.out (fun k hk hkn => (by omega : m = k) ▸ hb))
            go_wp2_with fail
            refine ⟨⟨([] : List Int), ms, HS.out, HQ.out, HM.out, HBE.out, by have := HSUM.out; simp at this ⊢; omega⟩, ?_⟩
            rw [boolsOf_at HM.out]
            simp [slLen]; omega
          | false =>
            obtain ⟨l, hl⟩ : ∃ l, ls[m]? = some l := ⟨_, List.getElem?_eq_getElem (by omega)⟩
            obtain ⟨gl, ga, gc, rfl, hgl, hcl, hIl⟩ := HF.out m l hl
            have q3 := (HBE.out.cell (p := ⟨gl, m, none⟩) hgl).trans hcl
            have HS := Lib.hid (belI_take HI.out (by omega) hl)
            have hset := sumU_set ls ms m l hl hb
            have hI2 : Ints (wr.setCell ⟨w.heap.size, m, none⟩ (.bool true)) 0 (.slice ga l.length gc) l := ints_set0 (hIl.go HBE.out) (fun g hg => by have := own_lt hIl hg; omega)
            have hlen : ([] : List Int).length + l.length ≤ fr.length + sumA ls := by have := HSUM.out; simp at this ⊢; omega
            have hbyt : (([] : List Int).length + l.length) * 8 ≤ 140737488355328 := by have := HT.out; omega
            have hmx : ([] : List Int).length + l.length ≤ maxLen := by unfold maxLen; omega
            have hBz : w.heap.size + 1 ≤ (wr.setCell ⟨w.heap.size, m, none⟩ (.bool true)).heap.size := by have := k_lt HM.out; simp [World.setCell]; omega
            have HSL := Lib.hid (src_ints Try.underlying27 hI2)
            have hgB : ¬ gl = w.heap.size := by omega
            have hgB2 : ¬ w.heap.size = gl := by omega
            clear hcl hIl hI2 hgl
            go_wp2_with (at_builtin; go_loud (refine wpList_append_que _ rfl _ _ 27 rfl (w.heap.size + 1) 3 i0 Try.underlying27 hi hz0 hz1 hz2 _ ([] : List Int) rfl (HQ.out.set (by omega)) _ rfl l HSL.out hmx hbyt hBz ?_))
            intro v3 w3 row3 hQ3 hg3 hr3
            obtain ⟨a3, c3, rfl⟩ := hQ3.shape
            have hm3 : w3.heap[w.heap.size]? = some (.cells (boolsA (ms.set m true)) 4 (0, 0)) := (hg3.block _ (by have := k_lt HM.out; simpa [World.setCell] using this) (fun e => by have := hr3 _ e.symm; omega)).trans (by rw [← boolsA_set]; exact k_se HM.out)
            have hbe3 : Below w.heap.size w w3 := below_grown2 (b_st HBE.out (Nat.le_refl _) _) hg3 (by have := k_lt HM.out; simp [World.setCell]; omega) (fun g e => by have := hr3 g e; omega)
            have HQ3 := Lib.hid hQ3
            have HM3 := Lib.hid hm3
            have HB3 := Lib.hid hbe3
            clear hQ3 hg3 hm3 hbe3 hr3
            go_wp2_with fail
            refine ⟨⟨([] : List Int) ++ l, ms.set m true, HS.out, HQ3.out, HM3.out, HB3.out, by have := HSUM.out; simp at this ⊢; omega⟩, ?_⟩
            rw [boolsOf_at HM3.out]
            simp [slLen]; omega
      · have hc2 : ¬ (1 : Int) = cap := by omega
        have hc3 : ¬ (cap : Int) = 1 := by omega
        have hc4 : ¬ 1 = cap := by omega
        have hcw : wrap64 ((cap : Int) - 1) = ((cap - 1 : Nat) : Int) := by have := HCM.out; unfold wrap64; unfold maxLen at this; omega
        rw [if_neg hc1] at hv'
        subst hv'
        have HQ := Lib.hid hQ'
        clear hQ' hI hm hbe
        by_cases hout : z < 0 ∨ ¬ z < 0 ∧ (n : Int) ≤ z
        · have HS := Lib.hid (belI_skip HI.out (fun k hk hkn => by omega))
          rcases hout with hout | ⟨hout, hout2⟩
          · go_wp2_with fail
            refine ⟨⟨zs, ms, HS.out, HQ.out, HM.out, HBE.out, by have := HSUM.out; simp at this ⊢; omega⟩, ?_⟩
            rw [boolsOf_at HM.out]
            simp [slLen]; omega
          · go_wp2_with fail
            refine ⟨⟨zs, ms, HS.out, HQ.out, HM.out, HBE.out, by have := HSUM.out; simp at this ⊢; omega⟩, ?_⟩
            rw [boolsOf_at HM.out]
            simp [slLen]; omega
        · obtain ⟨m, rfl⟩ : ∃ m : Nat, z = m := ⟨z.toNat, by omega⟩
          have hmn : m < n := by omega
          have hmz0 : ¬ (m : Int) < 0 := by omega
          have hmz1 : ¬ (n : Int) ≤ m := by omega
          clear hout
          obtain ⟨b, hb⟩ : ∃ b, ms[m]? = some b := ⟨_, List.getElem?_eq_getElem (by omega)⟩
          have q1 := k_cv HM.out m (boolsA_get hb)
          have q2 := k_fr HM.out m
          cases b with
          | true =>
            have HS := Lib.hid (belI_skip HI.out (fun k hk hkn => (by omega : m = k) ▸ hb))
            go_wp2_with fail
            refine ⟨⟨zs, ms, HS.out, HQ.out, HM.out, HBE.out, by have := HSUM.out; simp at this ⊢; omega⟩, ?_⟩
            rw [boolsOf_at HM.out]
            simp [slLen]; omega
          | false =>
            obtain ⟨l, hl⟩ : ∃ l, ls[m]? = some l := ⟨_, List.getElem?_eq_getElem (by omega)⟩
            obtain ⟨gl, ga, gc, rfl, hgl, hcl, hIl⟩ := HF.out m l hl
            have q3 := (HBE.out.cell (p := ⟨gl, m, none⟩) hgl).trans hcl
            have HS := Lib.hid (belI_take HI.out (by omega) hl)
            have hset := sumU_set ls ms m l hl hb
            have hI2 : Ints (wr.setCell ⟨w.heap.size, m, none⟩ (.bool true)) 0 (.slice ga l.length gc) l := ints_set0 (hIl.go HBE.out) (fun g hg => by have := own_lt hIl hg; omega)
            have hlen : zs.length + l.length ≤ fr.length + sumA ls := by have := HSUM.out; simp at this ⊢; omega
            have hbyt : (zs.length + l.length) * 8 ≤ 140737488355328 := by have := HT.out; omega
            have hmx : zs.length + l.length ≤ maxLen := by unfold maxLen; omega
            have hBz : w.heap.size + 1 ≤ (wr.setCell ⟨w.heap.size, m, none⟩ (.bool true)).heap.size := by have := k_lt HM.out; simp [World.setCell]; omega
            have HSL := Lib.hid (src_ints Try.underlying27 hI2)
            have hgB : ¬ gl = w.heap.size := by omega
            have hgB2 : ¬ w.heap.size = gl := by omega
            clear hcl hIl hI2 hgl
            go_wp2_with (at_builtin; go_loud (refine wpList_append_que _ rfl _ _ 27 rfl (w.heap.size + 1) 3 i0 Try.underlying27 hi hz0 hz1 hz2 _ zs rfl (HQ.out.set (by omega)) _ rfl l HSL.out hmx hbyt hBz ?_))
            intro v3 w3 row3 hQ3 hg3 hr3
            obtain ⟨a3, c3, rfl⟩ := hQ3.shape
            have hm3 : w3.heap[w.heap.size]? = some (.cells (boolsA (ms.set m true)) 4 (0, 0)) := (hg3.block _ (by have := k_lt HM.out; simpa [World.setCell] using this) (fun e => by have := hr3 _ e.symm; omega)).trans (by rw [← boolsA_set]; exact k_se HM.out)
            have hbe3 : Below w.heap.size w w3 := below_grown2 (b_st HBE.out (Nat.le_refl _) _) hg3 (by have := k_lt HM.out; simp [World.setCell]; omega) (fun g e => by have := hr3 g e; omega)
            have HQ3 := Lib.hid hQ3
            have HM3 := Lib.hid hm3
            have HB3 := Lib.hid hbe3
            clear hQ3 hg3 hm3 hbe3 hr3
            go_wp2_with fail
            refine ⟨⟨zs ++ l, ms.set m true, HS.out, HQ3.out, HM3.out, HB3.out, by have := HSUM.out; simp at this ⊢; omega⟩, ?_⟩
            rw [boolsOf_at HM3.out]
            simp [slLen]; omega
    | nil =>
      obtain ⟨a6, c6, h6⟩ := hQ.shape
      simp only [List.length_nil] at h6
      subst h6
      have hE := onesV_end hI
      rw [hln] at hE
      have HE := Lib.hid hE
      have HM := Lib.hid hm
      have HBE := Lib.hid hbe
      clear hQ hI hE hm hbe hsum HN HT HF
      obtain ⟨wa, hwa⟩ : ∃ x, x = wr := ⟨_, rfl⟩
      subst hwa
      go_wp2_with fail
      go_loopw [8, 49] (fun u i w2 => ∃ k : Nat, k ≤ n ∧ i = .int .i64 k ∧ Ints w2 wa.heap.size u (onesV ms k) ∧ Below wa.heap.size wa w2) (fun _ i _ => n - (intOf i).toNat)
      case atStart => exact ⟨0, Nat.zero_le _, rfl, World.ownsRow_nil _ _ _ _, Below.refl _ _⟩
      case round =>
        obtain ⟨k, hk, rfl, hown, hb2⟩ := hrel
        by_cases hkn : k < n
        · obtain ⟨b, hb⟩ : ∃ b, ms[k]? = some b := ⟨_, List.getElem?_eq_getElem (by omega)⟩
          have hst := onesV_succ hb
          have hBl := k_lt HM.out
          have hm2 : wr.heap[w.heap.size]? = some (.cells (boolsA ms) 4 (0, 0)) := (hb2.block _ hBl).trans HM.out
          have q1 := k_cv hm2 k (boolsA_get hb)
          have hzl := onesV_len ms k
          have hOw := Lib.hid hown
          clear hm2
          cases b with
          | false =>
            rw [if_neg (by decide), List.append_nil] at hst
            have HI2 := Lib.hid (hst ▸ hown)
            clear hown hst
            go_wp2
            go_roundw
            case rel => exact ⟨k + 1, by omega, by go_num, HI2.out, hb2⟩
            case measure => first | exact meas_next hkn | (simp [intOf]; omega)
          | true =>
            rw [if_pos rfl] at hst
            have hB8 : (n : Int) * 104 ≤ 140737488355328 := by have := HN2.out; omega
            have hs1 : (onesV ms k).length + 1 ≤ maxLen := by unfold maxLen; omega
            have hs2 : ((onesV ms k).length + 1) * 8 ≤ 140737488355328 := by omega
            have hs3 : wa.heap.size ≤ (wr.alloc (.cells #[.int .i64 k] 3)).heap.size := by have := hb2.size; simp; omega
            clear hB8
            go_wp2_with (at_builtin; go_loud (refine wpList_append_own _ rfl _ _ 27 rfl wa.heap.size 3 i0 _ 1 8 Try.underlying27 hi hz0 hz1 hz2 rfl (by decide) _ _ _ rfl (World.ownsRow.alloc hOw.out _) ⟨wr.heap.size, 0, none⟩ 1 1 [.int .i64 k] rfl rfl (fun i u hu => by rw [add_pl]; exact (k_cell (k_new (w := wr) (by simp)) i).trans (by simpa using hu)) (fun u hu => by obtain rfl := List.mem_singleton.1 hu; rfl) hs1 hs2 hs3 ?_))
            intro v' w4 hown' hgrow hnil
            have hI4 : Ints w4 wa.heap.size v' (onesV ms k ++ [(k : Int)]) := ints_add hown' rfl
            have HI4 := Lib.hid (hst ▸ hI4)
            have HB4 := Lib.hid (Below.grown (row := u8.ownBlock) (b_al hb2 _) hgrow hs3 (fun q hq => (World.ownsRow.lt hOw.out q hq).1))
            clear hI4 hown' hgrow hst hown
            go_wp2
            go_roundw
            case rel => exact ⟨k + 1, by omega, by go_num, HI4.out, HB4.out⟩
            case measure => first | exact meas_next hkn | (simp [intOf]; omega)
        · obtain rfl : k = n := by omega
          have hOw := Lib.hid (own_low (hown) (Nat.le_trans HBE.out.size (Nat.le_refl _)))
          clear hown
          go_wp2_with fail
          go_returns
          exact ⟨⟨_, rfl, HE.out ▸ hOw.out⟩, HBE.out.trans (hb2.mono HBE.out.size)⟩
end Go.Proofs.Ytmnaeoljpajomaa.H
