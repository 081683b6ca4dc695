/- Contracts: slices.Clone at instructions and at loops; copies of codes. Condition: sizes within reach. -/
import Derived.Test.YtmnaeoljpajomaaHBdA
import Derived.Deep.RegionWith
namespace Go.Proofs.Ytmnaeoljpajomaa.H
set_option linter.unusedVariables false
set_option linter.unusedSimpArgs false
open Go.RowKit Go.Proofs.Ytmnaeoljpajomaa.Plain
set_option maxHeartbeats 3200000
set_option maxRecDepth 100000
attribute [local go_sem] ext_from ext_bits cell_isSome un_neg_float
/-- A slice of the call's own is answered. -/
def OutSl (B : Nat) (T : TypeId) (e : Ending) (n k : Nat) (us : List Value) (w : World) : Prop := ∃ ao c, e = .returned (.slice ao n c) ∧ w.ownsRow B T k (.slice ao n c) n us
theorem outSl {B n k : Nat} {T : TypeId} {v : Value} {us : List Value} {w : World} (h : w.ownsRow B T k v n us) : OutSl B T (.returned v) n k us w := by
  rcases h.2 with ⟨rfl, rfl⟩ | ⟨g, cap, cur, rfl, _⟩
  · exact ⟨none, 0, rfl, h⟩
  · exact ⟨_, cap, rfl, h⟩
theorem c_cloneOps (ao : Option Addr) (n c : Nat) (us : List Value) (w : World) (hS : Sl w ao n 10 us) (h1 : ∀ u ∈ us, u.oneCell' = true) (hbig : n * 88 ≤ 140737488355328) :
    Calls Try.prog 29 #[.slice ao n c] w fun e w' => OutSl w.heap.size 47 e n 10 us w' ∧ Below w.heap.size w w' := by
  have q22 : ∀ (w : World) (a : Option Addr) (n c n' c' : Nat), (binOp .eql 29 (.slice a n c) (.slice none n' c')).run Try.prog w = .ok (.bool a.isNone) w := fun w a n c n' c' => Lib.run_eql_slice_nil w _ _ a n c n' c' Try.underlying29
  obtain ⟨i0, hi, hz0, hz1, hz2⟩ := info_parts (show (Try.prog.info? 47).map (fun i => (i.zero, i.size, i.bytes)) = some (some (.agg #[.int .i64 0, .int .i64 0, .int .i64 0, .int .i64 0, .int .i64 0, .int .i64 0, .int .i64 0, .int .u8 0, .int .u64 0, .string ⟨#[]⟩]), 10, 88) by kernel_rfl)
  obtain ⟨hl, h0, hA⟩ := hS
  rcases ao with _ | a
  · obtain rfl : n = 0 := h0 rfl
    go_enter Try.func29, Try.ntmps29
    go_wp2
    go_ret
    obtain rfl : us = [] := List.eq_nil_of_length_eq_zero (by rw [hl, Nat.zero_mul])
    exact ⟨outSl (World.ownsRow_nil _ _ _ _), Below.refl _ _⟩
  · have A := Lib.hid (hA a rfl).1
    have O := Lib.hid h1
    clear hA h0 h1
    go_enter Try.func29, Try.ntmps29
    go_wp2_with (at_builtin; go_loud (refine wpList_append_own _ rfl _ _ 29 rfl w.heap.size 47 i0 _ 10 88 Try.underlying29 hi hz0 hz1 hz2 rfl (by decide) _ _ _ rfl (World.ownsRow_made w #[] 0 (Nat.le_refl _) (Nat.zero_le _) (by simp)) a n c us rfl hl (fun j u hj => Lib.cell?_alloc_some _ (A.out j u hj)) O.out (by unfold maxLen; omega) (by omega) (by simp) ?_); intro v' w1 hown hgrow hnil)
    rw [List.nil_append, Nat.zero_add] at hown
    go_wp2
    go_ret
    exact ⟨outSl hown, ((Below.refl _ w).alloc (Nat.le_refl _) _).grown hgrow (by simp) (fun k hk => by have e : w.heap.size = k := Option.some.inj hk; omega)⟩
theorem c_cloneLoops (ao : Option Addr) (n c : Nat) (us : List Value) (w : World) (hS : Sl w ao n 3 us) (h1 : ∀ u ∈ us, u.oneCell' = true) (hbig : n * 24 ≤ 140737488355328) :
    Calls Try.prog 30 #[.slice ao n c] w fun e w' => OutSl w.heap.size 40 e n 3 us w' ∧ Below w.heap.size w w' := by
  have q22 : ∀ (w : World) (a : Option Addr) (n c n' c' : Nat), (binOp .eql 30 (.slice a n c) (.slice none n' c')).run Try.prog w = .ok (.bool a.isNone) w := fun w a n c n' c' => Lib.run_eql_slice_nil w _ _ a n c n' c' Try.underlying30
  obtain ⟨i0, hi, hz0, hz1, hz2⟩ := info_parts (show (Try.prog.info? 40).map (fun i => (i.zero, i.size, i.bytes)) = some (some (.agg #[.int .i64 0, .int .i64 0, .int .i64 0]), 3, 24) by kernel_rfl)
  obtain ⟨hl, h0, hA⟩ := hS
  rcases ao with _ | a
  · obtain rfl : n = 0 := h0 rfl
    go_enter Try.func30, Try.ntmps30
    go_wp2
    go_ret
    obtain rfl : us = [] := List.eq_nil_of_length_eq_zero (by rw [hl, Nat.zero_mul])
    exact ⟨outSl (World.ownsRow_nil _ _ _ _), Below.refl _ _⟩
  · have A := Lib.hid (hA a rfl).1
    have O := Lib.hid h1
    clear hA h0 h1
    go_enter Try.func30, Try.ntmps30
    go_wp2_with (at_builtin; go_loud (refine wpList_append_own _ rfl _ _ 30 rfl w.heap.size 40 i0 _ 3 24 Try.underlying30 hi hz0 hz1 hz2 rfl (by decide) _ _ _ rfl (World.ownsRow_made w #[] 0 (Nat.le_refl _) (Nat.zero_le _) (by simp)) a n c us rfl hl (fun j u hj => Lib.cell?_alloc_some _ (A.out j u hj)) O.out (by unfold maxLen; omega) (by omega) (by simp) ?_); intro v' w1 hown hgrow hnil)
    rw [List.nil_append, Nat.zero_add] at hown
    go_wp2
    go_ret
    exact ⟨outSl hown, ((Below.refl _ w).alloc (Nat.le_refl _) _).grown hgrow (by simp) (fun k hk => by have e : w.heap.size = k := Option.some.inj hk; omega)⟩
/-- A code as a value. -/
abbrev FlatD.val (f : FlatD) : Value := .agg #[.string f.name, .int .i64 f.what, .int .i64 f.cells, .int .i64 f.base, .int .i64 f.regs, .int .i64 f.slots, .slice f.ao f.on f.oc, .slice f.lo f.ln f.lc]
/-- A copy of a code is answered. -/
def OutF (e : Ending) (f : FlatD) (w : World) : Prop := ∃ g : FlatD, e = .returned g.val ∧ g.same f ∧ FlatOwn w g
theorem outF {f : FlatD} {ao lo : Option Addr} {oc lc : Nat} {w : World} (h1 : f.ops.length = f.on ∧ w.ownsRow 0 47 10 (.slice ao f.on oc) f.on (f.ops.flatMap OpD.row)) (h2 : f.loops.length = f.ln ∧ w.ownsRow 0 40 3 (.slice lo f.ln lc) f.ln (f.loops.flatMap LoopD.row)) : OutF (.returned (.agg #[.string f.name, .int .i64 f.what, .int .i64 f.cells, .int .i64 f.base, .int .i64 f.regs, .int .i64 f.slots, .slice ao f.on oc, .slice lo f.ln lc])) f w :=
  ⟨{ f with ao := ao, oc := oc, lo := lo, lc := lc }, rfl, ⟨rfl, rfl, rfl, rfl, rfl, rfl, rfl, rfl, rfl, rfl⟩, h1, h2⟩
/-- A code's sizes within reach. -/
def FlatSz (f : FlatD) : Prop := f.on * 88 ≤ 140737488355328 ∧ f.ln * 24 ≤ 140737488355328
theorem c_Flat (f : FlatD) (w : World) (hf : FlatOk w f) (hs : FlatSz f) : Calls Try.prog 14 #[f.val] w fun e w' => OutF e f w' ∧ Below w.heap.size w w' := by
  obtain ⟨⟨lo1, so⟩, ⟨ll1, sl⟩⟩ := hf
  have N1 : ∀ W, Below w.heap.size w W → Calls Try.prog 29 #[.slice f.ao f.on f.oc] W fun e w' => OutSl W.heap.size 47 e f.on 10 (f.ops.flatMap OpD.row) w' ∧ Below W.heap.size W w' := fun W hb => c_cloneOps _ _ _ _ W (so.go hb) (fm_one OpD.one _) hs.1
  have N2 : ∀ W, Below w.heap.size w W → Calls Try.prog 30 #[.slice f.lo f.ln f.lc] W fun e w' => OutSl W.heap.size 40 e f.ln 3 (f.loops.flatMap LoopD.row) w' ∧ Below W.heap.size W w' := fun W hb => c_cloneLoops _ _ _ _ W (sl.go hb) (fm_one LoopD.one _) hs.2
  clear so sl hs
  go_enter Try.func14, Try.ntmps14
  go_wp2
  go_region_with (first | (go_at_call 29; go_loud (with_reducible refine (N1 _ (by repeat (first | exact Below.refl _ _ | with_reducible apply b_al | with_reducible apply b_dr | with_reducible refine b_go ?_ (by assumption)))).mono ?_); rintro e w1 ⟨⟨ao1, oc1, rfl, sl1⟩, hb1⟩; have KB : w1.heap[w.heap.size]? = some (.cells #[.string f.name, .int .i64 f.what, .int .i64 f.cells, .int .i64 f.base, .int .i64 f.regs, .int .i64 f.slots, .slice f.ao f.on f.oc, .slice f.lo f.ln f.lc] 32 (0, 0)) := (by repeat (first | exact k_new rfl | with_reducible apply k_al | with_reducible apply k_dr | with_reducible refine k_go ?_ (by assumption))); have KR : w1.heap[w.heap.size + 1]? = some (.cells #[.string ⟨#[]⟩, .int .i64 0, .int .i64 0, .int .i64 0, .int .i64 0, .int .i64 0, .slice none 0 0, .slice none 0 0] 32 (0, 0)) := (by repeat (first | exact k_new (by simp) | with_reducible apply k_al | with_reducible apply k_dr | with_reducible refine k_go ?_ (by assumption))); have B0 := k_cv KB 0 rfl; have R0 := k_cv KR 0 rfl; have fB0 := k_fr KB 0; have fR0 := k_fr KR 0; have B1 := k_cv KB 1 rfl; have R1 := k_cv KR 1 rfl; have fB1 := k_fr KB 1; have fR1 := k_fr KR 1; have B2 := k_cv KB 2 rfl; have R2 := k_cv KR 2 rfl; have fB2 := k_fr KB 2; have fR2 := k_fr KR 2; have B3 := k_cv KB 3 rfl; have R3 := k_cv KR 3 rfl; have fB3 := k_fr KB 3; have fR3 := k_fr KR 3; have B4 := k_cv KB 4 rfl; have R4 := k_cv KR 4 rfl; have fB4 := k_fr KB 4; have fR4 := k_fr KR 4; have B5 := k_cv KB 5 rfl; have R5 := k_cv KR 5 rfl; have fB5 := k_fr KB 5; have fR5 := k_fr KR 5; have B6 := k_cv KB 6 rfl; have R6 := k_cv KR 6 rfl; have fB6 := k_fr KB 6; have fR6 := k_fr KR 6; have B7 := k_cv KB 7 rfl; have R7 := k_cv KR 7 rfl; have fB7 := k_fr KB 7; have fR7 := k_fr KR 7; simp only [List.getElem_toArray, List.getElem_cons_succ, List.getElem_cons_zero] at B0 R0 B1 R1 B2 R2 B3 R3 B4 R4 B5 R5 B6 R6 B7 R7) | (go_at_call 30; go_loud (with_reducible refine (N2 _ (by repeat (first | exact Below.refl _ _ | with_reducible apply b_al | with_reducible apply b_dr | with_reducible refine b_go ?_ (by assumption)))).mono ?_); rintro e w2 ⟨⟨ao2, oc2, rfl, sl2⟩, hb2⟩; have KB : w2.heap[w.heap.size]? = some (.cells #[.string f.name, .int .i64 f.what, .int .i64 f.cells, .int .i64 f.base, .int .i64 f.regs, .int .i64 f.slots, .slice f.ao f.on f.oc, .slice f.lo f.ln f.lc] 32 (0, 0)) := (by repeat (first | exact k_new rfl | with_reducible apply k_al | with_reducible apply k_dr | with_reducible refine k_go ?_ (by assumption))); have KR : w2.heap[w.heap.size + 1]? = some (.cells #[.string ⟨#[]⟩, .int .i64 0, .int .i64 0, .int .i64 0, .int .i64 0, .int .i64 0, .slice none 0 0, .slice none 0 0] 32 (0, 0)) := (by repeat (first | exact k_new (by simp) | with_reducible apply k_al | with_reducible apply k_dr | with_reducible refine k_go ?_ (by assumption))); have B0 := k_cv KB 0 rfl; have R0 := k_cv KR 0 rfl; have fB0 := k_fr KB 0; have fR0 := k_fr KR 0; have B1 := k_cv KB 1 rfl; have R1 := k_cv KR 1 rfl; have fB1 := k_fr KB 1; have fR1 := k_fr KR 1; have B2 := k_cv KB 2 rfl; have R2 := k_cv KR 2 rfl; have fB2 := k_fr KB 2; have fR2 := k_fr KR 2; have B3 := k_cv KB 3 rfl; have R3 := k_cv KR 3 rfl; have fB3 := k_fr KB 3; have fR3 := k_fr KR 3; have B4 := k_cv KB 4 rfl; have R4 := k_cv KR 4 rfl; have fB4 := k_fr KB 4; have fR4 := k_fr KR 4; have B5 := k_cv KB 5 rfl; have R5 := k_cv KR 5 rfl; have fB5 := k_fr KB 5; have fR5 := k_fr KR 5; have B6 := k_cv KB 6 rfl; have R6 := k_cv KR 6 rfl; have fB6 := k_fr KB 6; have fR6 := k_fr KR 6; have B7 := k_cv KB 7 rfl; have R7 := k_cv KR 7 rfl; have fB7 := k_fr KB 7; have fR7 := k_fr KR 7; simp only [List.getElem_toArray, List.getElem_cons_succ, List.getElem_cons_zero] at B0 R0 B1 R1 B2 R2 B3 R3 B4 R4 B5 R5 B6 R6 B7 R7))
  all_goals go_wp2
  all_goals
    clear N1 N2
    have x1 := hb1.size
    have x2 := hb2.size
    (try simp at x1)
    (try simp at x2)
    refine bodyPost_ret (v := .agg #[.string f.name, .int .i64 f.what, .int .i64 f.cells, .int .i64 f.base, .int .i64 f.regs, .int .i64 f.slots, .slice ao1 f.on oc1, .slice ao2 f.ln oc2]) ?_ rfl ⟨outF ⟨lo1, ?_⟩ ⟨ll1, ?_⟩, ?_⟩
    · simp [results, Try.results14, go_sem, R0, R1, R2, R3, R4, R5, R6, R7]
    · have sl1' := own_low (B' := w.heap.size + 2) sl1 (by first | omega | (simp; done) | (simp; omega)); refine own_low (B := w.heap.size + 2) ?_ (Nat.zero_le _); repeat (first | with_reducible exact sl1' | with_reducible exact own_below sl1' hb2 | with_reducible refine own_set ?_ (by omega))
    · have sl2' := own_low (B' := w.heap.size + 2) sl2 (by first | omega | (simp; done) | (simp; omega)); refine own_low (B := w.heap.size + 2) ?_ (Nat.zero_le _); repeat (first | with_reducible exact sl2' | with_reducible exact own_below sl2' hb1 | with_reducible refine own_set ?_ (by omega))
    · repeat (first | with_reducible exact Below.refl _ _ | with_reducible apply b_al | with_reducible apply b_dr | (with_reducible refine b_st ?_ ?hg _; case hg => omega) | (with_reducible refine b_go ?_ (by assumption)))
/-- Two lists of codes that have all alike but where they lie. -/
def Alike (gs fs : List FlatD) : Prop := gs.length = fs.length ∧ ∀ (i : Nat) g f, gs[i]? = some g → fs[i]? = some f → g.same f
/-- Copies of codes are answered. -/
def OutFs (e : Ending) (fs : List FlatD) (w : World) : Prop := ∃ ao c gs, e = .returned (.slice ao fs.length c) ∧ Codes w ao fs.length gs ∧ Alike gs fs
theorem alike_step {gs fs : List FlatD} {k : Nat} {g f : FlatD} (h : Alike gs (fs.take k)) (hf : fs[k]? = some f) (hg : g.same f) : Alike (gs ++ [g]) (fs.take (k + 1)) := by
  obtain ⟨h1, h2⟩ := h
  have hk : k < fs.length := by
    rcases Nat.lt_or_ge k fs.length with c | c
    · exact c
    · rw [List.getElem?_eq_none c] at hf; cases hf
  have e : fs.take (k + 1) = fs.take k ++ [f] := by rw [List.take_add_one, hf]; rfl
  have hl : gs.length = k := by rw [h1, List.length_take]; omega
  refine ⟨by rw [e]; simp [h1], fun i g' f' hg' hf' => ?_⟩
  rw [e] at hf'
  rcases Nat.lt_or_ge i k with c | c
  · rw [List.getElem?_append_left (by omega)] at hg'
    rw [List.getElem?_append_left (by rw [List.length_take]; omega)] at hf'
    exact h2 i g' f' hg' hf'
  · have hi : i = k := by
      rcases Nat.lt_or_ge k i with x | x
      · rw [List.getElem?_eq_none (by simp; omega)] at hg'; cases hg'
      · omega
    subst hi
    rw [List.getElem?_append_right (by omega), hl, Nat.sub_self] at hg'
    rw [List.getElem?_append_right (by rw [List.length_take]; omega)] at hf'
    have hz : i - (List.take i fs).length = 0 := by rw [List.length_take]; omega
    rw [hz] at hf'
    obtain rfl : g = g' := by simpa using hg'
    obtain rfl : f = f' := by simpa using hf'
    exact hg
theorem c_Flats (ao : Option Addr) (n c : Nat) (fs : List FlatD) (w : World) (hC : Codes w ao n fs) (hs : ∀ f ∈ fs, FlatSz f) (hbig : n * 104 ≤ 140737488355328) :
    Calls Try.prog 13 #[.slice ao n c] w fun e w' => OutFs e fs w' ∧ Below w.heap.size w w' := by
  obtain ⟨i0, hi, hz0, hz1, hz2⟩ := info_parts (show (Try.prog.info? 32).map (fun i => (i.zero, i.size, i.bytes)) = some (some (.agg #[.string ⟨#[]⟩, .int .i64 0, .int .i64 0, .int .i64 0, .int .i64 0, .int .i64 0, .slice none 0 0, .slice none 0 0]), 8, 104) by kernel_rfl)
  obtain ⟨hl, hS, hok⟩ := hC
  go_enter Try.func13, Try.ntmps13
  go_wp2_with fail
  go_loopw [3, 8] (fun u i wr => ∃ (k : Nat) (gs : List FlatD), k ≤ n ∧ i = .int .i64 k ∧ Alike gs (fs.take k) ∧ wr.ownsRow w.heap.size 32 8 u k (gs.flatMap FlatD.row) ∧ (∀ g ∈ gs, FlatOwn wr g) ∧ Below w.heap.size w wr) (fun _ i _ => n - (intOf i).toNat)
  case atStart => exact ⟨0, [], Nat.zero_le _, rfl, ⟨rfl, fun i g f h => by simp at h⟩, World.ownsRow_nil _ _ _ _, fun g h => by simp at h, Below.refl _ _⟩
  case round =>
    obtain ⟨k, gs, hk, rfl, hal, hown, hfo, hbel⟩ := hrel
    by_cases hkn : k < n
    · obtain ⟨f, hf⟩ : ∃ f, fs[k]? = some f := ⟨_, List.getElem?_eq_getElem (by omega)⟩
      have hfm := List.mem_of_getElem? hf
      rcases ao with _ | a
      · exact absurd (hS.2.1 rfl) (by omega)
      have hSr := hS.go hbel
      have z0 := hSr.at0 FlatD.len hf rfl
      have z1 := hSr.atS FlatD.len hf (j := 1) (by decide) rfl
      have z2 := hSr.atS FlatD.len hf (j := 2) (by decide) rfl
      have z3 := hSr.atS FlatD.len hf (j := 3) (by decide) rfl
      have z4 := hSr.atS FlatD.len hf (j := 4) (by decide) rfl
      have z5 := hSr.atS FlatD.len hf (j := 5) (by decide) rfl
      have z6 := hSr.atS FlatD.len hf (j := 6) (by decide) rfl
      have z7 := hSr.atS FlatD.len hf (j := 7) (by decide) rfl
      have N1 : ∀ W, Below w.heap.size w W → Calls Try.prog 14 #[f.val] W fun e w' => OutF e f w' ∧ Below W.heap.size W w' := fun W hb => c_Flat f W ((hok f hfm).go hb) (hs f hfm)
      go_wp2_with (first | (go_at_call 14; go_loud (with_reducible refine (N1 _ (b_al hbel _)).mono ?_); rintro e w1 ⟨⟨g, rfl, hsame, hgo⟩, hb1⟩) | (at_builtin; go_loud (refine wpList_append_own _ rfl _ _ 22 rfl w.heap.size 32 i0 _ 8 104 Try.underlying22 hi hz0 hz1 hz2 rfl (by decide) _ _ _ rfl ((own_below (own_below hown (b_al (Below.refl _ _) _)) hb1).alloc _) ⟨w1.heap.size, 0, none⟩ 1 1 g.row rfl rfl ?c1 ?c2 ?c3 ?c4 ?c5 ?_)))
      case c1 =>
        intro j u hj
        rw [add_pl]
        exact (k_cell (k_new (by simp)) j).trans (by simpa [FlatD.row] using hj)
      case c2 => exact FlatD.one g
      case c3 => unfold maxLen; omega
      case c4 => omega
      case c5 => have h1 := hbel.size; have h2 := hb1.size; simp at h1 h2 ⊢; omega
      intro v' w3 hown' hgrow hnil
      have h1 := hbel.size
      have h2 := hb1.size
      simp at h2
      have hownW := (own_below (own_below hown (b_al (Below.refl _ _) (.cells #[.string f.name, .int .i64 f.what, .int .i64 f.cells, .int .i64 f.base, .int .i64 f.regs, .int .i64 f.slots, .slice f.ao f.on f.oc, .slice f.lo f.ln f.lc] 32 (0, 0)))) hb1).alloc (.cells #[.string g.name, .int .i64 g.what, .int .i64 g.cells, .int .i64 g.base, .int .i64 g.regs, .int .i64 g.slots, .slice g.ao g.on g.oc, .slice g.lo g.ln g.lc] 32 (0, 0))
      have hfo3 : ∀ g' ∈ gs ++ [g], FlatOwn w3 g' := by
        intro g' hg'
        rcases List.mem_append.1 hg' with x | x
        · exact FlatOwn.grown ((((hfo g' x).go (b_al (Below.refl _ _) _)).go hb1).go (b_al (Below.refl _ _) _)) hownW (by decide) (by decide) hgrow
        · obtain rfl := List.mem_singleton.1 x
          exact FlatOwn.grown (hgo.go (b_al (Below.refl _ _) _)) hownW (by decide) (by decide) hgrow
      have hb3 : Below w.heap.size w w3 := Below.grown (row := u3.ownBlock) (b_al (b_go (b_al hbel _) hb1) _) hgrow (by simp; omega) (fun q hq => (hown.lt q hq).1)
      have HF := Lib.hid hfo3
      clear hfo3 hfo hgo hownW hgrow
      go_wp2
      go_roundw
      case rel => exact ⟨k + 1, gs ++ [g], by omega, by go_num, alike_step hal hf hsame, by rw [List.flatMap_append, List.flatMap_singleton]; exact hown', HF.out, hb3⟩
      case measure => simp [intOf]; omega
    · obtain rfl : k = n := by omega
      have hlg : gs.length = k := by rw [hal.1, List.length_take]; omega
      rw [List.take_of_length_le (by omega)] at hal
      obtain ⟨ao', c', rfl, hS'⟩ := sl_own hown (by rw [fm_len FlatD.len, hlg])
      have HF := Lib.hid hfo
      clear hfo
      go_wp2
      go_ret
      subst hl
      exact ⟨⟨ao', c', gs, rfl, ⟨hlg, hS', fun g hg => (HF.out g hg).ok⟩, hal⟩, hbel⟩
end Go.Proofs.Ytmnaeoljpajomaa.H
