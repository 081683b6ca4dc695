/- The law BoundCalls, walked: it answers true, and leaves all that was there. Condition: sizes within reach. -/
import Derived.Test.YtmnaeoljpajomaaHBeR
namespace Go.Proofs.Ytmnaeoljpajomaa.H
set_option linter.unusedVariables false
set_option linter.unusedSimpArgs false
open Go.RowKit Go.Proofs.Ytmnaeoljpajomaa.Plain Go.Sort Go.Maps
set_option maxHeartbeats 3200000
set_option maxRecDepth 100000
attribute [local go_sem] ext_from ext_bits cell_isSome un_neg_float
theorem c_equalI (B1 B2 : Nat) (v1 v2 : Value) (zs : List Int) (w : World) (h1 : Ints w B1 v1 zs) (h2 : Ints w B2 v2 zs) (hsz : zs.length ≤ 140737488355328) : Calls Try.prog 16 #[v1, v2] w fun e w' => e = .returned (.bool true) ∧ Below w.heap.size w w' := by
  cases zs with
  | nil =>
    obtain ⟨a1, c1, rfl⟩ := own_shape h1
    obtain ⟨a2, c2, rfl⟩ := own_shape h2
    refine (Try.slices_Equal_int_empty a1 a2 c1 0 c2 w (by decide)).mono ?_
    rintro e w' ⟨rfl, rfl⟩
    exact ⟨rfl, Below.refl _ _⟩
  | cons z zs =>
    rcases own_parts h1 with ⟨_, h⟩ | ⟨g1, p1, rfl, _, _, _, _, h5, _⟩
    · cases h
    rcases own_parts h2 with ⟨_, h⟩ | ⟨g2, p2, rfl, _, _, _, _, k5, _⟩
    · cases h
    have cell : ∀ (g : Nat), (∀ (i : Nat) x, (z :: zs)[i]? = some x → w.cell? ⟨g, i, none⟩ = some (.int .i64 x)) → ∀ j, j < (z :: zs).length → w.cell? ⟨g, 0 + j, none⟩ = some (.int .i64 ((z :: zs).getD j 0)) := by
      intro g h j hj
      rw [Nat.zero_add]
      refine h j _ ?_
      rw [List.getElem?_eq_getElem hj, List.getD_eq_getElem?_getD, List.getElem?_eq_getElem hj]
      rfl
    refine (Try.slices_Equal_int g1 0 (z :: zs).length p1 g2 0 (z :: zs).length p2 (z :: zs) (z :: zs) w (Nat.le_refl _) (Nat.le_refl _) (by omega) (by omega) (cell g1 h5) (cell g2 k5)).mono ?_
    rintro e w' ⟨rfl, q, rfl⟩
    exact ⟨by simp, ⟨rfl, rfl, rfl, Nat.le_refl _, fun _ _ => rfl⟩⟩
theorem codes_cells {W : World} {ga : Addr} {n k : Nat} {gs : List FlatD} {g : FlatD} (h : Codes W (some ga) n gs) (hg : gs[k]? = some g) : W.cell? (ga.add (k * 8)) = some (.string g.name) ∧ W.cell? ⟨(ga.add (k * 8)).block, (ga.add (k * 8)).off + 1, none⟩ = some (.int .i64 g.what) ∧ W.cell? ⟨(ga.add (k * 8)).block, (ga.add (k * 8)).off + 2, none⟩ = some (.int .i64 g.cells) ∧ W.cell? ⟨(ga.add (k * 8)).block, (ga.add (k * 8)).off + 3, none⟩ = some (.int .i64 g.base) ∧ W.cell? ⟨(ga.add (k * 8)).block, (ga.add (k * 8)).off + 4, none⟩ = some (.int .i64 g.regs) ∧ W.cell? ⟨(ga.add (k * 8)).block, (ga.add (k * 8)).off + 5, none⟩ = some (.int .i64 g.slots) ∧ W.cell? ⟨(ga.add (k * 8)).block, (ga.add (k * 8)).off + 6, none⟩ = some (.slice g.ao g.on g.oc) ∧ W.cell? ⟨(ga.add (k * 8)).block, (ga.add (k * 8)).off + 7, none⟩ = some (.slice g.lo g.ln g.lc) := by
  have hS := h.2.1
  exact ⟨hS.at0 FlatD.len hg rfl, hS.atS FlatD.len hg (j := 1) (by decide) rfl, hS.atS FlatD.len hg (j := 2) (by decide) rfl, hS.atS FlatD.len hg (j := 3) (by decide) rfl, hS.atS FlatD.len hg (j := 4) (by decide) rfl, hS.atS FlatD.len hg (j := 5) (by decide) rfl, hS.atS FlatD.len hg (j := 6) (by decide) rfl, hS.atS FlatD.len hg (j := 7) (by decide) rfl⟩
theorem box_cells {W : World} {KB : Nat} {f : FlatD} (h : W.heap[KB]? = some (.cells #[.string f.name, .int .i64 f.what, .int .i64 f.cells, .int .i64 f.base, .int .i64 f.regs, .int .i64 f.slots, .slice f.ao f.on f.oc, .slice f.lo f.ln f.lc] 32 (0, 0))) : W.cell? ⟨KB, 0, none⟩ = some (.string f.name) ∧ W.cell? ⟨KB, 1, none⟩ = some (.int .i64 f.what) ∧ W.cell? ⟨KB, 2, none⟩ = some (.int .i64 f.cells) ∧ W.cell? ⟨KB, 3, none⟩ = some (.int .i64 f.base) ∧ W.cell? ⟨KB, 4, none⟩ = some (.int .i64 f.regs) ∧ W.cell? ⟨KB, 5, none⟩ = some (.int .i64 f.slots) ∧ W.cell? ⟨KB, 6, none⟩ = some (.slice f.ao f.on f.oc) ∧ W.cell? ⟨KB, 7, none⟩ = some (.slice f.lo f.ln f.lc) := ⟨k_cv h 0 rfl, k_cv h 1 rfl, k_cv h 2 rfl, k_cv h 3 rfl, k_cv h 4 rfl, k_cv h 5 rfl, k_cv h 6 rfl, k_cv h 7 rfl⟩
theorem alike_all {gs fs : List FlatD} (h : Alike gs fs) : allV gs = allV fs := by
  unfold allV
  apply List.ext_getElem?
  intro i
  rw [List.getElem?_map, List.getElem?_map]
  rcases Nat.lt_or_ge i gs.length with c | c
  · have h1 := List.getElem?_eq_getElem c
    have c2 : i < fs.length := by rw [← h.1]; exact c
    have h2 : fs[i]? = some fs[i] := List.getElem?_eq_getElem c2
    have e := (h.2 i _ _ h1 h2).2.2.2.2.2.2.2.2.1
    rw [h1, h2]
    simp only [Option.map_some, e]
  · rw [List.getElem?_eq_none c, List.getElem?_eq_none (by rw [← h.1]; exact c)]
theorem orderGo_len (ls : List (List Int)) : ∀ k out r, orderGo ls k out = some r → r.length = out.length + k
  | 0, out, r, h => by cases h; rfl
  | k + 1, out, r, h => by
    rw [orderGo_succ] at h
    split at h
    · cases h
    · have := orderGo_len ls k _ r h
      rw [this]
      simp
      omega
theorem orderV_len (ls : List (List Int)) : (orderV ls).1.length ≤ ls.length := by
  unfold orderV
  split
  · simp
  · split
    · simp
    · rename_i out h
      have := orderGo_len ls _ _ _ h
      simp at this
      show out.length ≤ _
      omega
theorem law_Calls (ao : Option Addr) (n c : Nat) (fs : List FlatD) (w : World) (hC : Codes w ao n fs) (hs : ∀ f ∈ fs, FlatSz f) (hbig : n * 104 ≤ 140737488355328) (hAw : ∀ W, Calls Try.prog 10 #[] W fun e w' => e = .returned (.bool true) ∧ Below W.heap.size W w') :
    Calls Try.prog 7 #[.slice ao n c] w fun e w' => e = .returned (.bool true) ∧ Below w.heap.size w w' := by
  have N1 := c_Flats ao n c fs w hC hs hbig
  have hl := hC.1
  have HC := Lib.hid hC
  have HS := Lib.hid hs
  have HB := Lib.hid hbig
  have hn63 : n < 4611686018427387904 := by omega
  clear hC hs hbig
  go_enter Try.func7, Try.ntmps7
  go_wp2_with (go_at_call 13; go_loud (with_reducible refine N1.mono ?_); rintro e w1 ⟨⟨ag, cg, gs, rfl, hG, hal⟩, hb1⟩; rw [hl] at hG ⊢)
  clear N1
  have HG := Lib.hid hG
  have HAL := Lib.hid hal
  have HB1 := Lib.hid hb1
  have hgl : gs.length = n := hG.1
  have hgs : ∀ g ∈ gs, FlatSz g := fun g hg => by
    obtain ⟨i, hi, e⟩ := List.mem_iff_getElem.1 hg
    have h1 : gs[i]? = some g := by rw [← e]; exact List.getElem?_eq_getElem hi
    have h2 : fs[i]? = some fs[i] := List.getElem?_eq_getElem (by omega)
    obtain ⟨_, _, _, _, _, _, e1, e2, _, _⟩ := hal.2 i _ _ h1 h2
    have := HS.out _ (List.getElem_mem (by omega : i < fs.length))
    exact ⟨by rw [e1]; exact this.1, by rw [e2]; exact this.2⟩
  have HGS := Lib.hid hgs
  clear hG hal hb1 hgs
  go_loopw [14] (fun i wr => ∃ k : Nat, k ≤ n ∧ i = .int .i64 k ∧ Below w1.heap.size w1 wr) (fun i _ => n - (intOf i).toNat)
  case atStart => exact ⟨0, Nat.zero_le _, rfl, Below.refl _ _⟩
  case round =>
    obtain ⟨k, hk, rfl, hbe⟩ := hrel
    by_cases hkn : k < n
    · obtain ⟨f, hf⟩ : ∃ f, fs[k]? = some f := ⟨_, List.getElem?_eq_getElem (by omega)⟩
      obtain ⟨g, hg⟩ : ∃ g, gs[k]? = some g := ⟨_, List.getElem?_eq_getElem (by omega)⟩
      have hsm := HAL.out.2 k g f hg hf
      have hfm := List.mem_of_getElem? hf
      have hgm := List.mem_of_getElem? hg
      have hbw := HB1.out.trans (hbe.mono HB1.out.size)
      have hCr := HC.out.go hbw
      have hGr := HG.out.go hbe
      obtain ⟨a, rfl⟩ : ∃ a, ao = some a := by
        cases ao with
        | none => exact absurd (HC.out.2.1.2.1 rfl) (by omega)
        | some a => exact ⟨a, rfl⟩
      obtain ⟨ga, rfl⟩ : ∃ a, ag = some a := by
        cases ag with
        | none => exact absurd (HG.out.2.1.2.1 rfl) (by omega)
        | some a => exact ⟨a, rfl⟩
      obtain ⟨x0, x1, x2, x3, x4, x5, x6, x7⟩ := codes_cells hCr hf
      have hfs := HS.out f hfm
      have hgs := HGS.out g hgm
      have hcl : callsV g.ops = callsV f.ops := by rw [hsm.2.2.2.2.2.2.2.2.1]
      have N2 := fun W hb => c_Calls g W ((hGr.2.2 g hgm).go (w' := W) hb).1 hgs.1
      have N3 := fun W hb => r_Calls f W ((hCr.2.2 f hfm).go (w' := W) hb).1 hfs.1
      rw [hcl] at N2
      rw [← calls_same] at N3
      have hol := callsV_len f.ops
      have hol2 := (hCr.2.2 f hfm).1.1
      have hfs1 := hfs.1
      have N4 := fun B1 B2 v1 v2 W h1 h2 => c_equalI B1 B2 v1 v2 (callsV f.ops) W h1 h2 (by omega)
      obtain ⟨L, hL⟩ : ∃ L, callsV f.ops = L := ⟨_, rfl⟩
      rw [hL] at N2 N3 N4
      have hkI : (k : Int) < n := by omega
      have hGc := fun W (hb : Below wr.heap.size wr W) => codes_cells (hGr.go hb) hg
      clear hol hol2 hfs1 hL hcl hsm hbw hCr
      go_upto_region 5 with fail
      obtain ⟨KB, hKB⟩ : ∃ b, wr.heap.size = b := ⟨_, rfl⟩
      obtain ⟨wi, hwi⟩ : ∃ W, W = wr.alloc (.cells #[.string f.name, .int .i64 f.what, .int .i64 f.cells, .int .i64 f.base, .int .i64 f.regs, .int .i64 f.slots, .slice f.ao f.on f.oc, .slice f.lo f.ln f.lc] 32 (0, 0)) := ⟨_, rfl⟩
      have hbi : Below wr.heap.size wr wi := by rw [hwi]; exact b_al (Below.refl _ _) _
      have kb : wi.heap[wr.heap.size]? = some (.cells #[.string f.name, .int .i64 f.what, .int .i64 f.cells, .int .i64 f.base, .int .i64 f.regs, .int .i64 f.slots, .slice f.ao f.on f.oc, .slice f.lo f.ln f.lc] 32 (0, 0)) := by rw [hwi]; exact k_box
      rw [← hwi, hKB]
      rw [hKB] at kb
      clear hwi
      have hbd : Below wr.heap.size wr wi.drew := hbi.drew
      have hRS : ∀ W, Below wi.heap.size wi W → _ ∧ _ := fun W hb => And.intro (hGc W (b_go hbi hb)) (box_cells (k_go kb hb))
      have hid0 : Below wi.heap.size wi wi.drew := (Below.refl _ _).drew
      go_region_held3 (fun w' => (w'.cell? (ga.add (k * 8)) = some (.string g.name) ∧ w'.cell? ⟨(ga.add (k * 8)).block, (ga.add (k * 8)).off + 1, none⟩ = some (.int .i64 g.what) ∧ w'.cell? ⟨(ga.add (k * 8)).block, (ga.add (k * 8)).off + 2, none⟩ = some (.int .i64 g.cells) ∧ w'.cell? ⟨(ga.add (k * 8)).block, (ga.add (k * 8)).off + 3, none⟩ = some (.int .i64 g.base) ∧ w'.cell? ⟨(ga.add (k * 8)).block, (ga.add (k * 8)).off + 4, none⟩ = some (.int .i64 g.regs) ∧ w'.cell? ⟨(ga.add (k * 8)).block, (ga.add (k * 8)).off + 5, none⟩ = some (.int .i64 g.slots) ∧ w'.cell? ⟨(ga.add (k * 8)).block, (ga.add (k * 8)).off + 6, none⟩ = some (.slice g.ao g.on g.oc) ∧ w'.cell? ⟨(ga.add (k * 8)).block, (ga.add (k * 8)).off + 7, none⟩ = some (.slice g.lo g.ln g.lc)) ∧ w'.cell? ⟨KB, 0, none⟩ = some (.string f.name) ∧ w'.cell? ⟨KB, 1, none⟩ = some (.int .i64 f.what) ∧ w'.cell? ⟨KB, 2, none⟩ = some (.int .i64 f.cells) ∧ w'.cell? ⟨KB, 3, none⟩ = some (.int .i64 f.base) ∧ w'.cell? ⟨KB, 4, none⟩ = some (.int .i64 f.regs) ∧ w'.cell? ⟨KB, 5, none⟩ = some (.int .i64 f.slots) ∧ w'.cell? ⟨KB, 6, none⟩ = some (.slice f.ao f.on f.oc) ∧ w'.cell? ⟨KB, 7, none⟩ = some (.slice f.lo f.ln f.lc)) (first | exact hRS _ (by assumption) | go_keep) (first | (go_at_call 11; (with_reducible refine (N2 _ (b_go hbi (by assumption))).mono ?_); rintro e w3 ⟨⟨v3, rfl, hI3⟩, hb3⟩; have hc3 : Below wi.heap.size wi w3 := b_go (by assumption) hb3) | (go_at_call 17; (with_reducible refine (N3 _ (b_go hbi (by assumption))).mono ?_); rintro e w4 ⟨⟨v4, rfl, hI4⟩, hb4⟩; have hc4 : Below wi.heap.size wi w4 := b_go (by assumption) hb4) | (go_at_call 16; (with_reducible refine (N4 _ _ _ _ _ (hI3.go hb4) hI4).mono ?_); rintro e w5 ⟨rfl, hb5⟩; have hc5 : Below wi.heap.size wi w5 := b_go hc4 hb5))
      go_wp2
      exact ⟨⟨k + 1, hkn, by go_num, b_go (b_go hbe hbi) hc5⟩, by simp [intOf]; omega⟩
    · obtain rfl : k = n := by omega
      have hbw := HB1.out.trans (hbe.mono HB1.out.size)
      have N2 := fun W (hb : Below wr.heap.size wr W) => c_Order ag k cg gs W ((HG.out.go hbe).go hb) HGS.out HB.out
      have N3 := fun W (hb : Below wr.heap.size wr W) => r_Order ao k c fs W ((HC.out.go hbw).go hb) HS.out HB.out
      rw [alike_all HAL.out] at N2
      have N5 := fun W (hb : Below wr.heap.size wr W) => e_Flats ag ao k cg c gs fs W ((HG.out.go hbe).go hb) ((HC.out.go hbw).go hb) HAL.out HS.out HB.out
      obtain ⟨R, hR⟩ : ∃ R, orderV (allV fs) = R := ⟨_, rfl⟩
      rw [hR] at N2 N3
      have hRl : R.1.length ≤ 140737488355328 := by
        rw [← hR]
        have h1 := orderV_len (allV fs)
        rw [allV_len] at h1
        have := HB.out
        omega
      have N4 := fun B1 B2 v1 v2 W h1 h2 => c_equalI B1 B2 v1 v2 R.1 W h1 h2 hRl
      have HBW := Lib.hid hbw
      clear hbw hbe hR hRl
      go_wp2_with (first | (go_at_call 18; go_loud (with_reducible refine (N2 _ (Below.refl _ _)).mono ?_); rintro e w2 ⟨⟨v2, rfl, hI2⟩, hb2⟩) | (go_at_call 19; go_loud (with_reducible refine (N3 _ hb2).mono ?_); rintro e w3 ⟨⟨v3, rfl, hI3⟩, hb3⟩; have hc3 := b_go hb2 hb3) | (go_at_call 16; go_loud (with_reducible refine (N4 _ _ _ _ _ (hI2.go hb3) hI3).mono ?_); rintro e w4 ⟨rfl, hb4⟩; have hc4 := b_go hc3 hb4) | (go_at_call 10; go_loud (with_reducible refine (hAw _).mono ?_); rintro e w5 ⟨rfl, hb5⟩; have hc5 := b_go hc4 hb5) | (go_at_call 20; go_loud (with_reducible refine (N5 _ hc5).mono ?_); rintro e w6 ⟨rfl, hb6⟩))
      go_returns
      exact ⟨by simp, b_go HBW.out (b_go hc5 hb6)⟩
end Go.Proofs.Ytmnaeoljpajomaa.H
