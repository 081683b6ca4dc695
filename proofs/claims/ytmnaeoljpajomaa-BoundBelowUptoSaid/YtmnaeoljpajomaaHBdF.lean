/- Contracts: slices.Equal at instructions and at loops, SameFlat and SameFlats of codes that are alike: true. Condition: they lie in memory. -/
import Derived.Test.YtmnaeoljpajomaaHBdD
namespace Go.Proofs.Ytmnaeoljpajomaa.H
set_option linter.unusedVariables false
set_option linter.unusedSimpArgs false
open Go.RowKit Go.Proofs.Ytmnaeoljpajomaa.Plain Go.Sort
set_option maxHeartbeats 3200000
set_option maxRecDepth 100000
attribute [local go_sem] ext_from ext_bits cell_isSome un_neg_float
theorem e_Ops (a1 a2 : Option Addr) (n c1 c2 : Nat) (xs : List OpD) (w : World) (hl : xs.length = n) (h1 : Sl w a1 n 10 (xs.flatMap OpD.row)) (h2 : Sl w a2 n 10 (xs.flatMap OpD.row)) (hbig : n * 24 ≤ 140737488355328) :
    Calls Try.prog 50 #[.slice a1 n c1, .slice a2 n c2] w fun e w' => e = .returned (.bool true) ∧ Below w.heap.size w w' := by
  go_enter Try.func50, Try.ntmps50
  go_wp2_with fail
  go_loopw [13] (fun i wr => ∃ k : Nat, k ≤ n ∧ i = .int .i64 k ∧ Below w.heap.size w wr) (fun i _ => n - (intOf i).toNat)
  case atStart => exact ⟨0, Nat.zero_le _, rfl, Below.refl _ _⟩
  case round =>
    obtain ⟨k, hk, rfl, hbel⟩ := hrel
    by_cases hkn : k < n
    · obtain ⟨x, hx⟩ : ∃ x, xs[k]? = some x := ⟨_, List.getElem?_eq_getElem (by omega)⟩
      rcases a1 with _ | a1
      · exact absurd (h1.2.1 rfl) (by omega)
      rcases a2 with _ | a2
      · exact absurd (h2.2.1 rfl) (by omega)
      have s1 := h1.go hbel
      have s2 := h2.go hbel
      have p0 := s1.at0 OpD.len hx rfl
      have p1 := s1.atS OpD.len hx (j := 1) (by decide) rfl
      have p2 := s1.atS OpD.len hx (j := 2) (by decide) rfl
      have p3 := s1.atS OpD.len hx (j := 3) (by decide) rfl
      have p4 := s1.atS OpD.len hx (j := 4) (by decide) rfl
      have p5 := s1.atS OpD.len hx (j := 5) (by decide) rfl
      have p6 := s1.atS OpD.len hx (j := 6) (by decide) rfl
      have p7 := s1.atS OpD.len hx (j := 7) (by decide) rfl
      have p8 := s1.atS OpD.len hx (j := 8) (by decide) rfl
      have p9 := s1.atS OpD.len hx (j := 9) (by decide) rfl
      have q0 := s2.at0 OpD.len hx rfl
      have q1 := s2.atS OpD.len hx (j := 1) (by decide) rfl
      have q2 := s2.atS OpD.len hx (j := 2) (by decide) rfl
      have q3 := s2.atS OpD.len hx (j := 3) (by decide) rfl
      have q4 := s2.atS OpD.len hx (j := 4) (by decide) rfl
      have q5 := s2.atS OpD.len hx (j := 5) (by decide) rfl
      have q6 := s2.atS OpD.len hx (j := 6) (by decide) rfl
      have q7 := s2.atS OpD.len hx (j := 7) (by decide) rfl
      have q8 := s2.atS OpD.len hx (j := 8) (by decide) rfl
      have q9 := s2.atS OpD.len hx (j := 9) (by decide) rfl
      clear s1 s2 h1 h2
      go_wp2
      go_quiet (fail)
      go_wp2
      go_roundw
      case rel => exact ⟨k + 1, by omega, by go_num, below_drewN hbel _⟩
      case measure => simp [intOf]; omega
    · obtain rfl : k = n := by omega
      clear h1 h2 hkn
      go_wp2
      go_ret
      exact ⟨rfl, hbel⟩
theorem e_Loops (a1 a2 : Option Addr) (n c1 c2 : Nat) (xs : List LoopD) (w : World) (hl : xs.length = n) (h1 : Sl w a1 n 3 (xs.flatMap LoopD.row)) (h2 : Sl w a2 n 3 (xs.flatMap LoopD.row)) (hbig : n * 24 ≤ 140737488355328) :
    Calls Try.prog 51 #[.slice a1 n c1, .slice a2 n c2] w fun e w' => e = .returned (.bool true) ∧ Below w.heap.size w w' := by
  go_enter Try.func51, Try.ntmps51
  go_wp2_with fail
  go_loopw [13] (fun i wr => ∃ k : Nat, k ≤ n ∧ i = .int .i64 k ∧ Below w.heap.size w wr) (fun i _ => n - (intOf i).toNat)
  case atStart => exact ⟨0, Nat.zero_le _, rfl, Below.refl _ _⟩
  case round =>
    obtain ⟨k, hk, rfl, hbel⟩ := hrel
    by_cases hkn : k < n
    · obtain ⟨x, hx⟩ : ∃ x, xs[k]? = some x := ⟨_, List.getElem?_eq_getElem (by omega)⟩
      rcases a1 with _ | a1
      · exact absurd (h1.2.1 rfl) (by omega)
      rcases a2 with _ | a2
      · exact absurd (h2.2.1 rfl) (by omega)
      have s1 := h1.go hbel
      have s2 := h2.go hbel
      have p0 := s1.at0 LoopD.len hx rfl
      have p1 := s1.atS LoopD.len hx (j := 1) (by decide) rfl
      have p2 := s1.atS LoopD.len hx (j := 2) (by decide) rfl
      have q0 := s2.at0 LoopD.len hx rfl
      have q1 := s2.atS LoopD.len hx (j := 1) (by decide) rfl
      have q2 := s2.atS LoopD.len hx (j := 2) (by decide) rfl
      clear s1 s2 h1 h2
      go_wp2
      go_quiet (fail)
      go_wp2
      go_roundw
      case rel => exact ⟨k + 1, by omega, by go_num, below_drewN hbel _⟩
      case measure => simp [intOf]; omega
    · obtain rfl : k = n := by omega
      clear h1 h2 hkn
      go_wp2
      go_ret
      exact ⟨rfl, hbel⟩
theorem e_Flat (g f : FlatD) (w : World) (hs : g.same f) (hg : FlatOk w g) (hf : FlatOk w f) (hz : FlatSz f) : Calls Try.prog 36 #[g.val, f.val] w fun e w' => e = .returned (.bool true) ∧ Below w.heap.size w w' := by
  obtain ⟨⟨lo1, so1⟩, ⟨ll1, sl1⟩⟩ := hg
  obtain ⟨⟨lo2, so2⟩, ⟨ll2, sl2⟩⟩ := hf
  obtain ⟨z1, z2⟩ := hz
  obtain ⟨gname, gwhat, gcells, gbase, gregs, gslots, gao, gon, goc, glo, gln, glc, gops, gloops⟩ := g
  obtain ⟨fname, fwhat, fcells, fbase, fregs, fslots, fao, fon, foc, flo, fln, flc, fops, floops⟩ := f
  obtain ⟨e1, e2, e3, e4, e5, e6, e7, e8, e9, e10⟩ := hs
  simp only at e1 e2 e3 e4 e5 e6 e7 e8 e9 e10 lo1 so1 ll1 sl1 lo2 so2 ll2 sl2 z1 z2
  subst e1 e2 e3 e4 e5 e6 e7 e8 e9 e10
  have N1 : ∀ W, Below w.heap.size w W → Calls Try.prog 50 #[.slice gao gon goc, .slice fao gon foc] W fun e w' => e = .returned (.bool true) ∧ Below W.heap.size W w' := fun W hb => e_Ops gao fao gon goc foc gops W lo1 (so1.go hb) (so2.go hb) (by omega)
  have N2 : ∀ W, Below w.heap.size w W → Calls Try.prog 51 #[.slice glo gln glc, .slice flo gln flc] W fun e w' => e = .returned (.bool true) ∧ Below W.heap.size W w' := fun W hb => e_Loops glo flo gln glc flc gloops W ll1 (sl1.go hb) (sl2.go hb) (by omega)
  clear so1 so2 sl1 sl2 z1 z2
  go_enter Try.func36, Try.ntmps36
  go_wp2_with (first | (go_at_call 50; go_loud (with_reducible refine (N1 _ (by repeat (first | exact Below.refl _ _ | with_reducible apply b_al))).mono ?_); rintro e w1 ⟨rfl, hb1⟩; have KA := k_cv (k_go (k_al (k_new (w := w) rfl) _) hb1) 7 rfl; have KB := k_cv (k_go (k_new rfl) hb1) 7 rfl; rw [alloc_sz] at KB; simp only [List.getElem_toArray, List.getElem_cons_succ, List.getElem_cons_zero] at KA KB) | (go_at_call 51; go_loud (with_reducible refine (N2 _ (by repeat (first | exact Below.refl _ _ | with_reducible apply b_al | with_reducible refine b_go ?_ (by assumption)))).mono ?_); rintro e w2 ⟨rfl, hb2⟩))
  go_ret
  exact ⟨rfl, b_go (b_go (b_al (b_al (Below.refl _ _) _) _) hb1) hb2⟩
theorem e_Flats (a1 a2 : Option Addr) (n c1 c2 : Nat) (gs fs : List FlatD) (w : World) (h1 : Codes w a1 n gs) (h2 : Codes w a2 n fs) (hal : Alike gs fs) (hs : ∀ f ∈ fs, FlatSz f) (hbig : n * 104 ≤ 140737488355328) :
    Calls Try.prog 20 #[.slice a1 n c1, .slice a2 n c2] w fun e w' => e = .returned (.bool true) ∧ Below w.heap.size w w' := by
  obtain ⟨l1, s1, k1⟩ := h1
  obtain ⟨l2, s2, k2⟩ := h2
  go_enter Try.func20, Try.ntmps20
  go_wp2_with fail
  go_loopw [13] (fun i wr => ∃ k : Nat, k ≤ n ∧ i = .int .i64 k ∧ Below w.heap.size w wr) (fun i _ => n - (intOf i).toNat)
  case atStart => exact ⟨0, Nat.zero_le _, rfl, Below.refl _ _⟩
  case round =>
    obtain ⟨k, hk, rfl, hbel⟩ := hrel
    by_cases hkn : k < n
    · obtain ⟨g, hg⟩ : ∃ x, gs[k]? = some x := ⟨_, List.getElem?_eq_getElem (by omega)⟩
      obtain ⟨f, hf⟩ : ∃ x, fs[k]? = some x := ⟨_, List.getElem?_eq_getElem (by omega)⟩
      rcases a1 with _ | a1
      · exact absurd (s1.2.1 rfl) (by omega)
      rcases a2 with _ | a2
      · exact absurd (s2.2.1 rfl) (by omega)
      have t1 := s1.go hbel
      have t2 := s2.go hbel
      have p0 := t1.at0 FlatD.len hg rfl
      have q0 := t2.at0 FlatD.len hf rfl
      have p1 := t1.atS FlatD.len hg (j := 1) (by decide) rfl
      have q1 := t2.atS FlatD.len hf (j := 1) (by decide) rfl
      have p2 := t1.atS FlatD.len hg (j := 2) (by decide) rfl
      have q2 := t2.atS FlatD.len hf (j := 2) (by decide) rfl
      have p3 := t1.atS FlatD.len hg (j := 3) (by decide) rfl
      have q3 := t2.atS FlatD.len hf (j := 3) (by decide) rfl
      have p4 := t1.atS FlatD.len hg (j := 4) (by decide) rfl
      have q4 := t2.atS FlatD.len hf (j := 4) (by decide) rfl
      have p5 := t1.atS FlatD.len hg (j := 5) (by decide) rfl
      have q5 := t2.atS FlatD.len hf (j := 5) (by decide) rfl
      have p6 := t1.atS FlatD.len hg (j := 6) (by decide) rfl
      have q6 := t2.atS FlatD.len hf (j := 6) (by decide) rfl
      have p7 := t1.atS FlatD.len hg (j := 7) (by decide) rfl
      have q7 := t2.atS FlatD.len hf (j := 7) (by decide) rfl
      have N1 : ∀ W, Below w.heap.size w W → Calls Try.prog 36 #[g.val, f.val] W fun e w' => e = .returned (.bool true) ∧ Below W.heap.size W w' := fun W hb => e_Flat g f W (hal.2 k g f hg hf) ((k1 g (List.mem_of_getElem? hg)).go hb) ((k2 f (List.mem_of_getElem? hf)).go hb) (hs f (List.mem_of_getElem? hf))
      clear t1 t2 s1 s2 k1 k2 hal hs
      go_wp2
      go_region_with (go_at_call 36; go_loud (with_reducible refine (N1 _ (by repeat (first | exact hbel | with_reducible apply b_dr | with_reducible apply b_al))).mono ?_); rintro e w1 ⟨rfl, hb1⟩)
      all_goals go_wp2
      all_goals go_roundw
      all_goals first | (case rel => exact ⟨k + 1, by omega, by go_num, by repeat (first | exact hbel | with_reducible apply b_dr | with_reducible refine b_go ?_ (by assumption))⟩) | (case measure => simp [intOf]; omega)
    · obtain rfl : k = n := by omega
      clear s1 s2 k1 k2 hal hs
      go_wp2
      go_ret
      exact ⟨rfl, hbel⟩
end Go.Proofs.Ytmnaeoljpajomaa.H
