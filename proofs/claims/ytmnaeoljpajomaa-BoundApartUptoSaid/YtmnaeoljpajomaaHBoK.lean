/- Copies of codes, and where they lie: blocks of their own, no two loops' rows in one. Condition: sizes within reach. -/
import Derived.Test.YtmnaeoljpajomaaHBdB
namespace Go.Proofs.Ytmnaeoljpajomaa.H
set_option linter.unusedVariables false
set_option linter.unusedSimpArgs false
open Go.RowKit Go.Proofs.Ytmnaeoljpajomaa.Plain
set_option maxHeartbeats 3200000
set_option maxRecDepth 100000
attribute [local go_sem] ext_from ext_bits cell_isSome un_neg_float
/-- A code's instructions and loops are rows of their own, from a block on. -/
def FlatOwnB (w : World) (B : Nat) (f : FlatD) : Prop := (f.ops.length = f.on ∧ w.ownsRow B 47 10 (.slice f.ao f.on f.oc) f.on (f.ops.flatMap OpD.row)) ∧ (f.loops.length = f.ln ∧ w.ownsRow B 40 3 (.slice f.lo f.ln f.lc) f.ln (f.loops.flatMap LoopD.row))
theorem FlatOwnB.low {w : World} {B B' : Nat} {f : FlatD} (h : FlatOwnB w B f) (hb : B' ≤ B) : FlatOwnB w B' f := ⟨⟨h.1.1, own_low h.1.2 hb⟩, ⟨h.2.1, own_low h.2.2 hb⟩⟩
theorem FlatOwnB.own {w : World} {B : Nat} {f : FlatD} (h : FlatOwnB w B f) : FlatOwn w f := h.low (Nat.zero_le _)
theorem FlatOwnB.go {w w' : World} {B : Nat} {f : FlatD} (h : FlatOwnB w B f) (hb : Below w.heap.size w w') : FlatOwnB w' B f := ⟨⟨h.1.1, own_below h.1.2 hb⟩, ⟨h.2.1, own_below h.2.2 hb⟩⟩
theorem FlatOwnB.grown {w w1 : World} {f : FlatD} {B0 B n k : Nat} {u : Value} {us : List Value} {T : TypeId} (h : FlatOwnB w B0 f) (hu : w.ownsRow B T k u n us) (h1 : 47 ≠ T) (h2 : 40 ≠ T) (hg : w.grownBy w1 u.ownBlock) : FlatOwnB w1 B0 f :=
  ⟨⟨h.1.1, own_grown h.1.2 hu h1 hg⟩, ⟨h.2.1, own_grown h.2.2 hu h2 hg⟩⟩
theorem FlatOwnB.lo_lt {w : World} {B : Nat} {f : FlatD} (h : FlatOwnB w B f) {a : Addr} (ha : f.lo = some a) : a.block < w.heap.size := by
  rcases h.2.2.2 with ⟨e, _⟩ | ⟨g, cap, cur, e1, e2, e3, _⟩
  · have h2 : f.lo = none := by injection e
    rw [h2] at ha; cases ha
  · have h2 : f.lo = some ⟨g, 0, none⟩ := by injection e1
    rw [h2] at ha; cases ha; exact k_lt e3
theorem FlatOwnB.lo_ge {w : World} {B : Nat} {f : FlatD} (h : FlatOwnB w B f) {a : Addr} (ha : f.lo = some a) : B ≤ a.block := sl_fresh h.2.2 a ha
/-- No two codes' loops lie in one block. -/
def ApartL (gs : List FlatD) : Prop := ∀ (i i' : Nat) g g' a a', i < i' → gs[i]? = some g → gs[i']? = some g' → g.lo = some a → g'.lo = some a' → a.block ≠ a'.block
theorem apartL_step {gs : List FlatD} {g : FlatD} {B : Nat} (h : ApartL gs) (hlt : ∀ g' ∈ gs, ∀ a, g'.lo = some a → a.block < B) (hge : ∀ a, g.lo = some a → B ≤ a.block) : ApartL (gs ++ [g]) := by
  intro i i' x y a a' hi hx hy ha ha'
  rcases Nat.lt_or_ge i' gs.length with c | c
  · rw [List.getElem?_append_left c] at hy
    rw [List.getElem?_append_left (by omega)] at hx
    exact h i i' x y a a' hi hx hy ha ha'
  · have hi' : i' = gs.length := by
      rcases Nat.lt_or_ge gs.length i' with d | d
      · rw [List.getElem?_eq_none (by simp; omega)] at hy; cases hy
      · omega
    subst hi'
    rw [List.getElem?_append_left hi] at hx
    rw [List.getElem?_append_right (Nat.le_refl _), Nat.sub_self] at hy
    obtain rfl : g = y := by simpa using hy
    have h1 := hlt x (List.mem_of_getElem? hx) a ha
    have h2 := hge a' ha'
    omega
def OutFB (e : Ending) (f : FlatD) (B : Nat) (w : World) : Prop := ∃ g : FlatD, e = .returned g.val ∧ g.same f ∧ FlatOwnB w B g
theorem outFB {f : FlatD} {ao lo : Option Addr} {oc lc B : Nat} {w : World} (h1 : f.ops.length = f.on ∧ w.ownsRow B 47 10 (.slice ao f.on oc) f.on (f.ops.flatMap OpD.row)) (h2 : f.loops.length = f.ln ∧ w.ownsRow B 40 3 (.slice lo f.ln lc) f.ln (f.loops.flatMap LoopD.row)) : OutFB (.returned (.agg #[.string f.name, .int .i64 f.what, .int .i64 f.cells, .int .i64 f.base, .int .i64 f.regs, .int .i64 f.slots, .slice ao f.on oc, .slice lo f.ln lc])) f B w :=
  ⟨{ f with ao := ao, oc := oc, lo := lo, lc := lc }, rfl, ⟨rfl, rfl, rfl, rfl, rfl, rfl, rfl, rfl, rfl, rfl⟩, h1, h2⟩
/-- Copies of codes are answered, in blocks from one on. -/
def OutFsB (e : Ending) (fs : List FlatD) (B : Nat) (w : World) : Prop := ∃ ao c gs, e = .returned (.slice ao fs.length c) ∧ Alike gs fs ∧ w.ownsRow B 32 8 (.slice ao fs.length c) fs.length (gs.flatMap FlatD.row) ∧ (∀ g ∈ gs, FlatOwnB w B g) ∧ ApartL gs
theorem c_FlatB (f : FlatD) (w : World) (hf : FlatOk w f) (hs : FlatSz f) : Calls Try.prog 14 #[f.val] w fun e w' => OutFB e f w.heap.size w' ∧ Below w.heap.size w w' := by
  obtain ⟨⟨lo1, so⟩, ⟨ll1, sl⟩⟩ := hf
  have N1 : ∀ W, Below w.heap.size w W → Calls Try.prog 29 #[.slice f.ao f.on f.oc] W fun e w' => OutSl W.heap.size 47 e f.on 10 (f.ops.flatMap OpD.row) w' ∧ Below W.heap.size W w' := fun W hb => c_cloneOps _ _ _ _ W (so.go hb) (fm_one OpD.one _) hs.1
  have N2 : ∀ W, Below w.heap.size w W → Calls Try.prog 30 #[.slice f.lo f.ln f.lc] W fun e w' => OutSl W.heap.size 40 e f.ln 3 (f.loops.flatMap LoopD.row) w' ∧ Below W.heap.size W w' := fun W hb => c_cloneLoops _ _ _ _ W (sl.go hb) (fm_one LoopD.one _) hs.2
  clear so sl hs
  go_enter Try.func14, Try.ntmps14
  go_wp2
  go_region_with (first | (go_at_call 29; go_loud (with_reducible refine (N1 _ (by repeat (first | exact Below.refl _ _ | with_reducible apply b_al | with_reducible apply b_dr | with_reducible refine b_go ?_ (by assumption)))).mono ?_); rintro e w1 ⟨⟨ao1, oc1, rfl, sl1⟩, hb1⟩; have KB : w1.heap[w.heap.size]? = some (.cells #[.string f.name, .int .i64 f.what, .int .i64 f.cells, .int .i64 f.base, .int .i64 f.regs, .int .i64 f.slots, .slice f.ao f.on f.oc, .slice f.lo f.ln f.lc] 32 (0, 0)) := (by repeat (first | exact k_new rfl | with_reducible apply k_al | with_reducible apply k_dr | with_reducible refine k_go ?_ (by assumption))); have KR : w1.heap[w.heap.size + 1]? = some (.cells #[.string ⟨#[]⟩, .int .i64 0, .int .i64 0, .int .i64 0, .int .i64 0, .int .i64 0, .slice none 0 0, .slice none 0 0] 32 (0, 0)) := (by repeat (first | exact k_new (by simp) | with_reducible apply k_al | with_reducible apply k_dr | with_reducible refine k_go ?_ (by assumption))); have B0 := k_cv KB 0 rfl; have R0 := k_cv KR 0 rfl; have fB0 := k_fr KB 0; have fR0 := k_fr KR 0; have B1 := k_cv KB 1 rfl; have R1 := k_cv KR 1 rfl; have fB1 := k_fr KB 1; have fR1 := k_fr KR 1; have B2 := k_cv KB 2 rfl; have R2 := k_cv KR 2 rfl; have fB2 := k_fr KB 2; have fR2 := k_fr KR 2; have B3 := k_cv KB 3 rfl; have R3 := k_cv KR 3 rfl; have fB3 := k_fr KB 3; have fR3 := k_fr KR 3; have B4 := k_cv KB 4 rfl; have R4 := k_cv KR 4 rfl; have fB4 := k_fr KB 4; have fR4 := k_fr KR 4; have B5 := k_cv KB 5 rfl; have R5 := k_cv KR 5 rfl; have fB5 := k_fr KB 5; have fR5 := k_fr KR 5; have B6 := k_cv KB 6 rfl; have R6 := k_cv KR 6 rfl; have fB6 := k_fr KB 6; have fR6 := k_fr KR 6; have B7 := k_cv KB 7 rfl; have R7 := k_cv KR 7 rfl; have fB7 := k_fr KB 7; have fR7 := k_fr KR 7; simp only [List.getElem_toArray, List.getElem_cons_succ, List.getElem_cons_zero] at B0 R0 B1 R1 B2 R2 B3 R3 B4 R4 B5 R5 B6 R6 B7 R7) | (go_at_call 30; go_loud (with_reducible refine (N2 _ (by repeat (first | exact Below.refl _ _ | with_reducible apply b_al | with_reducible apply b_dr | with_reducible refine b_go ?_ (by assumption)))).mono ?_); rintro e w2 ⟨⟨ao2, oc2, rfl, sl2⟩, hb2⟩; have KB : w2.heap[w.heap.size]? = some (.cells #[.string f.name, .int .i64 f.what, .int .i64 f.cells, .int .i64 f.base, .int .i64 f.regs, .int .i64 f.slots, .slice f.ao f.on f.oc, .slice f.lo f.ln f.lc] 32 (0, 0)) := (by repeat (first | exact k_new rfl | with_reducible apply k_al | with_reducible apply k_dr | with_reducible refine k_go ?_ (by assumption))); have KR : w2.heap[w.heap.size + 1]? = some (.cells #[.string ⟨#[]⟩, .int .i64 0, .int .i64 0, .int .i64 0, .int .i64 0, .int .i64 0, .slice none 0 0, .slice none 0 0] 32 (0, 0)) := (by repeat (first | exact k_new (by simp) | with_reducible apply k_al | with_reducible apply k_dr | with_reducible refine k_go ?_ (by assumption))); have B0 := k_cv KB 0 rfl; have R0 := k_cv KR 0 rfl; have fB0 := k_fr KB 0; have fR0 := k_fr KR 0; have B1 := k_cv KB 1 rfl; have R1 := k_cv KR 1 rfl; have fB1 := k_fr KB 1; have fR1 := k_fr KR 1; have B2 := k_cv KB 2 rfl; have R2 := k_cv KR 2 rfl; have fB2 := k_fr KB 2; have fR2 := k_fr KR 2; have B3 := k_cv KB 3 rfl; have R3 := k_cv KR 3 rfl; have fB3 := k_fr KB 3; have fR3 := k_fr KR 3; have B4 := k_cv KB 4 rfl; have R4 := k_cv KR 4 rfl; have fB4 := k_fr KB 4; have fR4 := k_fr KR 4; have B5 := k_cv KB 5 rfl; have R5 := k_cv KR 5 rfl; have fB5 := k_fr KB 5; have fR5 := k_fr KR 5; have B6 := k_cv KB 6 rfl; have R6 := k_cv KR 6 rfl; have fB6 := k_fr KB 6; have fR6 := k_fr KR 6; have B7 := k_cv KB 7 rfl; have R7 := k_cv KR 7 rfl; have fB7 := k_fr KB 7; have fR7 := k_fr KR 7; simp only [List.getElem_toArray, List.getElem_cons_succ, List.getElem_cons_zero] at B0 R0 B1 R1 B2 R2 B3 R3 B4 R4 B5 R5 B6 R6 B7 R7))
  all_goals go_wp2
  all_goals
    clear N1 N2
    have x1 := hb1.size
    have x2 := hb2.size
    (try simp at x1)
    (try simp at x2)
    refine bodyPost_ret (v := .agg #[.string f.name, .int .i64 f.what, .int .i64 f.cells, .int .i64 f.base, .int .i64 f.regs, .int .i64 f.slots, .slice ao1 f.on oc1, .slice ao2 f.ln oc2]) ?_ rfl ⟨outFB ⟨lo1, ?_⟩ ⟨ll1, ?_⟩, ?_⟩
    · simp [results, Try.results14, go_sem, R0, R1, R2, R3, R4, R5, R6, R7]
    · have sl1' := own_low (B' := w.heap.size + 2) sl1 (by first | omega | (simp; done) | (simp; omega)); refine own_low (B := w.heap.size + 2) ?_ (Nat.le_add_right _ _); repeat (first | with_reducible exact sl1' | with_reducible exact own_below sl1' hb2 | with_reducible refine own_set ?_ (by omega))
    · have sl2' := own_low (B' := w.heap.size + 2) sl2 (by first | omega | (simp; done) | (simp; omega)); refine own_low (B := w.heap.size + 2) ?_ (Nat.le_add_right _ _); repeat (first | with_reducible exact sl2' | with_reducible exact own_below sl2' hb1 | with_reducible refine own_set ?_ (by omega))
    · repeat (first | with_reducible exact Below.refl _ _ | with_reducible apply b_al | with_reducible apply b_dr | (with_reducible refine b_st ?_ ?hg _; case hg => omega) | (with_reducible refine b_go ?_ (by assumption)))
theorem c_FlatsB (ao : Option Addr) (n c : Nat) (fs : List FlatD) (w : World) (hC : Codes w ao n fs) (hs : ∀ f ∈ fs, FlatSz f) (hbig : n * 104 ≤ 140737488355328) :
    Calls Try.prog 13 #[.slice ao n c] w fun e w' => OutFsB e fs w.heap.size w' ∧ Below w.heap.size w w' := by
  obtain ⟨i0, hi, hz0, hz1, hz2⟩ := info_parts (show (Try.prog.info? 32).map (fun i => (i.zero, i.size, i.bytes)) = some (some (.agg #[.string ⟨#[]⟩, .int .i64 0, .int .i64 0, .int .i64 0, .int .i64 0, .int .i64 0, .slice none 0 0, .slice none 0 0]), 8, 104) by kernel_rfl)
  obtain ⟨hl, hS, hok⟩ := hC
  go_enter Try.func13, Try.ntmps13
  go_wp2_with fail
  go_loopw [3, 8] (fun u i wr => ∃ (k : Nat) (gs : List FlatD), k ≤ n ∧ i = .int .i64 k ∧ Alike gs (fs.take k) ∧ wr.ownsRow w.heap.size 32 8 u k (gs.flatMap FlatD.row) ∧ (∀ g ∈ gs, FlatOwnB wr w.heap.size g) ∧ ApartL gs ∧ Below w.heap.size w wr) (fun _ i _ => n - (intOf i).toNat)
  case atStart => exact ⟨0, [], Nat.zero_le _, rfl, ⟨rfl, fun i g f h => by simp at h⟩, World.ownsRow_nil _ _ _ _, fun g h => by simp at h, fun i i' g g' a a' _ h => by simp at h, Below.refl _ _⟩
  case round =>
    obtain ⟨k, gs, hk, rfl, hal, hown, hfo, hap, hbel⟩ := hrel
    by_cases hkn : k < n
    · obtain ⟨f, hf⟩ : ∃ f, fs[k]? = some f := ⟨_, List.getElem?_eq_getElem (by omega)⟩
      have hfm := List.mem_of_getElem? hf
      rcases ao with _ | a
      · exact absurd (hS.2.1 rfl) (by omega)
      have hSr := hS.go hbel
      have z0 := hSr.at0 FlatD.len hf rfl
      have z1 := hSr.atS FlatD.len hf (j := 1) (by decide) rfl
      have z2 := hSr.atS FlatD.len hf (j := 2) (by decide) rfl
      have z3 := hSr.atS FlatD.len hf (j := 3) (by decide) rfl
      have z4 := hSr.atS FlatD.len hf (j := 4) (by decide) rfl
      have z5 := hSr.atS FlatD.len hf (j := 5) (by decide) rfl
      have z6 := hSr.atS FlatD.len hf (j := 6) (by decide) rfl
      have z7 := hSr.atS FlatD.len hf (j := 7) (by decide) rfl
      have N1 : ∀ W, Below w.heap.size w W → Calls Try.prog 14 #[f.val] W fun e w' => OutFB e f W.heap.size w' ∧ Below W.heap.size W w' := fun W hb => c_FlatB f W ((hok f hfm).go hb) (hs f hfm)
      go_wp2_with (first | (go_at_call 14; go_loud (with_reducible refine (N1 _ (b_al hbel _)).mono ?_); rintro e w1 ⟨⟨g, rfl, hsame, hgo⟩, hb1⟩) | (at_builtin; go_loud (refine wpList_append_own _ rfl _ _ 22 rfl w.heap.size 32 i0 _ 8 104 Try.underlying22 hi hz0 hz1 hz2 rfl (by decide) _ _ _ rfl ((own_below (own_below hown (b_al (Below.refl _ _) _)) hb1).alloc _) ⟨w1.heap.size, 0, none⟩ 1 1 g.row rfl rfl ?c1 ?c2 ?c3 ?c4 ?c5 ?_)))
      case c1 =>
        intro j u hj
        rw [add_pl]
        exact (k_cell (k_new (by simp)) j).trans (by simpa [FlatD.row] using hj)
      case c2 => exact FlatD.one g
      case c3 => unfold maxLen; omega
      case c4 => omega
      case c5 => have h1 := hbel.size; have h2 := hb1.size; simp at h1 h2 ⊢; omega
      intro v' w3 hown' hgrow hnil
      have h1 := hbel.size
      have h2 := hb1.size
      simp at h2
      have hownW := (own_below (own_below hown (b_al (Below.refl _ _) (.cells #[.string f.name, .int .i64 f.what, .int .i64 f.cells, .int .i64 f.base, .int .i64 f.regs, .int .i64 f.slots, .slice f.ao f.on f.oc, .slice f.lo f.ln f.lc] 32 (0, 0)))) hb1).alloc (.cells #[.string g.name, .int .i64 g.what, .int .i64 g.cells, .int .i64 g.base, .int .i64 g.regs, .int .i64 g.slots, .slice g.ao g.on g.oc, .slice g.lo g.ln g.lc] 32 (0, 0))
      have hap3 : ApartL (gs ++ [g]) := apartL_step hap (fun g' hg' a ha => (hfo g' hg').lo_lt ha) (fun a ha => by have := hgo.lo_ge ha; simp at this; omega)
      have hfo3 : ∀ g' ∈ gs ++ [g], FlatOwnB w3 w.heap.size g' := by
        intro g' hg'
        rcases List.mem_append.1 hg' with x | x
        · exact FlatOwnB.grown ((((hfo g' x).go (b_al (Below.refl _ _) _)).go hb1).go (b_al (Below.refl _ _) _)) hownW (by decide) (by decide) hgrow
        · obtain rfl := List.mem_singleton.1 x
          exact FlatOwnB.grown ((hgo.low (by simp; omega)).go (b_al (Below.refl _ _) _)) hownW (by decide) (by decide) hgrow
      have hb3 : Below w.heap.size w w3 := Below.grown (row := u3.ownBlock) (b_al (b_go (b_al hbel _) hb1) _) hgrow (by simp; omega) (fun q hq => (hown.lt q hq).1)
      have HF := Lib.hid hfo3
      have HA := Lib.hid hap3
      clear hfo3 hfo hgo hownW hgrow hap hap3
      go_wp2
      go_roundw
      case rel => exact ⟨k + 1, gs ++ [g], by omega, by go_num, alike_step hal hf hsame, by rw [List.flatMap_append, List.flatMap_singleton]; exact hown', HF.out, HA.out, hb3⟩
      case measure => simp [intOf]; omega
    · obtain rfl : k = n := by omega
      have hlg : gs.length = k := by rw [hal.1, List.length_take]; omega
      rw [List.take_of_length_le (by omega)] at hal
      obtain ⟨ao', c', rfl⟩ := own_shape hown
      have HF := Lib.hid hfo
      clear hfo
      go_wp2
      go_ret
      subst hl
      exact ⟨⟨ao', c', gs, rfl, hal, hown, HF.out, hap⟩, hbel⟩
theorem codes_own {w : World} {B n c : Nat} {ao : Option Addr} {gs : List FlatD} (hl : gs.length = n) (h : w.ownsRow B 32 8 (.slice ao n c) n (gs.flatMap FlatD.row)) (hf : ∀ g ∈ gs, FlatOwnB w B g) : Codes w ao n gs := by
  obtain ⟨a, c', e, hS⟩ := sl_own h (by rw [fm_len FlatD.len, hl])
  cases e
  exact ⟨hl, hS, fun g hg => (hf g hg).own.ok⟩
end Go.Proofs.Ytmnaeoljpajomaa.H
