/- Contracts of Find at LEFT, RIGHT, CONCAT, INSERT, DELETE. Conditions: the kinds or values lie in memory. -/
import Derived.Test.YtflhndjpfiklaaaGreatDoorHStdO
namespace Go.Proofs.YtflhndjpfiklaaaGreatDoor.H
set_option linter.unusedVariables false
set_option linter.unusedSimpArgs false
open Go.RowKit Go.Proofs.YtflhndjpfiklaaaGreatDoor.Plain
set_option maxHeartbeats 6400000
set_option maxRecDepth 100000
attribute [local go_sem] ext_from ext_bits cell_isSome un_neg_float
theorem f_left (j : Nat) (hj : j = 28) (l cl : Nat) (w : World) (hl : l < w.heap.size) (p0 : w.cell? ⟨l, 0, none⟩ = some (.int .u8 19)) (p1 : w.cell? ⟨l, 1, none⟩ = some (.int .u8 3)) :
    Calls Tryz.prog 11 #[.string (fnames.getD j ⟨#[]⟩), .slice (some ⟨l, 0, none⟩) 2 cl] w fun e w' => e = .returned (.tuple #[.int .i64 j, .int .u8 19, .int .i64 0]) ∧ Below w.heap.size w w' := by
  have hem : (fnames.getD j ⟨#[]⟩).toList.isEmpty = false := by subst hj; decide +kernel
  have hj37 : j < 37 := by omega
  have HJ := Lib.hid hj
  clear hj
  obtain ⟨nm, hnm⟩ : ∃ nm, fnames.getD j ⟨#[]⟩ = nm := ⟨_, rfl⟩
  rw [hnm] at hem ⊢
  have HNM := Lib.hid hnm
  clear hnm
  go_enter Tryz.func11, Tryz.ntmps11
  go_wp2_with (go_at_call 19; with_reducible refine (c_functions _).mono ?_; rintro e w1 ⟨v, xs, rfl, hT, hb1⟩; obtain ⟨g, cap, rfl, hg, hgl⟩ := hT.owns.form (by decide); have HT := Lib.hid hT; clear hT)
  go_loopw [13] (fun i wr => ∃ k : Nat, k ≤ j ∧ i = .int .i64 k ∧ Below w1.heap.size w1 wr) (fun i _ => 37 - (intOf i).toNat)
  case atStart => exact ⟨0, by omega, rfl, Below.refl _ _⟩
  case round =>
    obtain ⟨k, hk, rfl, hb⟩ := hrel
    have h37 : k < 37 := by omega
    obtain ⟨hn1, hn2⟩ := HT.out.named.2 k h37
    have hcell : ∀ (i : Nat) (v : Value), xs[i]? = some v → wr.cell? ⟨g, i, none⟩ = some v := fun i v h => (hb.cell (p := ⟨g, i, none⟩) hgl).trans (HT.out.at h)
    obtain ⟨v1, hv1, f1⟩ := hn2 1 (by decide) (by decide)
    obtain ⟨v2, hv2, f2⟩ := hn2 2 (by decide) (by decide)
    obtain ⟨v3, hv3, f3⟩ := hn2 3 (by decide) (by decide)
    obtain ⟨nk, hnk⟩ : ∃ t, fnames.getD k ⟨#[]⟩ = t := ⟨_, rfl⟩
    rw [hnk] at hn1
    have hc0 := hcell _ _ hn1
    have hc1 := hcell _ _ hv1
    have hc2 := hcell _ _ hv2
    have hc3 := hcell _ _ hv3
    have HNK := Lib.hid hnk
    have HC := Lib.hid hcell
    clear hcell
    by_cases hkj : k = j
    · subst hkj
      obtain ⟨p, gg, d, e1, e2, e3, hF, hK, hD⟩ : ∃ p g d, xs[k * 4 + 1]? = some p ∧ xs[k * 4 + 2]? = some g ∧ xs[k * 4 + 3]? = some d ∧ FixedAt w1 p 2 ∧ KindsOf w1 g 19 [.func 103, .func 52] ∧ d = .func (.func 106) #[] #[] := by
        have hj := HJ.out
        subst hj
        exact HT.out.texts 1 (by decide)
      rw [hv1] at e1
      rw [hv2] at e2
      rw [hv3] at e3
      obtain rfl := Option.some.inj e1
      obtain rfl := Option.some.inj e2
      obtain rfl := Option.some.inj e3
      subst hD
      obtain ⟨a, b, c, rfl, ha⟩ := hF
      obtain ⟨o, i, r, cr, rfl, ho, hi, hr⟩ := hK
      have ha' := k_go ha hb
      have ho' := k_go ho hb
      have hi' : wr.heap[i]? = some (.cells #[.slice (some ⟨r, 0, none⟩) 2 cr] 91 (0, 0)) := k_go hi hb
      have hr' : wr.heap[r]? = some (.cells #[.func (.func 103) #[] #[], .func (.func 52) #[] #[]] 34 (0, 0)) := k_go hr hb
      obtain rfl : nk = nm := HNK.out.symm.trans HNM.out
      have lo := k_lt ho'
      have li := k_lt hi'
      have lr := k_lt hr'
      have la := k_lt ha'
      have KK := Lib.hid (And.intro ha' (And.intro ho' (And.intro hi' hr')))
      clear e1 e2 e3 ha ho hi hr hn1 hn2 hv1 hv2 hv3 f1 f2 f3 hnk HNK ha' ho' hi' hr'
      have he : ∀ (W : World) (A : Addr) (n c : Nat), (binOp .eql 53 (.slice (some A) n c) (.slice none 0 0)).run Tryz.prog W = .ok (.bool false) W := fun _ _ _ _ => rfl
      have hlw : l < wr.heap.size := by have h1 := hb.size; have h2 := hb1.size; omega
      have z0 : wr.cell? ⟨l, 0, none⟩ = some (.int .u8 19) := (hb.cell (p := ⟨l, 0, none⟩) (by have h2 := hb1.size; show l < _; omega)).trans ((hb1.cell (p := ⟨l, 0, none⟩) hl).trans p0)
      have z1 : wr.cell? ⟨l, 1, none⟩ = some (.int .u8 3) := (hb.cell (p := ⟨l, 1, none⟩) (by have h2 := hb1.size; show l < _; omega)).trans ((hb1.cell (p := ⟨l, 1, none⟩) hl).trans p1)
      go_wp2_with (first | (go_at_call 85; with_reducible refine (c_fixed1 a b 2 c 2 _ (k_al KK.out.1 _)).mono ?_; rintro e w2 ⟨rfl, rfl⟩) | (go_at_call 91; with_reducible refine (c_kindsTW o i r cr cl l _ (k_al KK.out.2.1 _) (k_al KK.out.2.2.1 _) (k_al KK.out.2.2.2 _) (go_old z0) (go_old z1)).mono ?_; rintro e w2 ⟨rfl, rfl⟩))
      all_goals
        go_returns
        refine ⟨?_, b_go hb1 (b_al hb _)⟩
        simp_all
    · have hneq : ¬ nk.toList = nm.toList := fun e => fnames_ne ⟨k, h37⟩ ⟨j, by omega⟩ (fun e => hkj (Fin.mk.inj e)) ((HNK.out.trans (toList_inj e)).trans HNM.out.symm)
      clear hn1 hv1 hv2 hv3 hnk hn2
      by_cases h0 : k = 0
      · subst h0
        simp only [Nat.zero_mul, Nat.zero_add] at hc0 hc1 hc2 hc3
        rcases f1 with ⟨a1, b1, c1, rfl⟩ | ⟨_, rfl⟩ <;> rcases f2 with ⟨a2, b2, c2, rfl⟩ | ⟨_, rfl⟩ <;> rcases f3 with ⟨a3, b3, c3, rfl⟩ | ⟨_, rfl⟩
        all_goals
          go_wp2_with fail
          all_goals exact ⟨⟨1, by omega, by go_num, b_al hb _⟩, by simp [intOf]⟩
      · obtain ⟨a1, b1, c1, rfl⟩ : FnV v1 := f1.resolve_right (fun h => h0 h.1)
        obtain ⟨a2, b2, c2, rfl⟩ : FnV v2 := f2.resolve_right (fun h => h0 h.1)
        obtain ⟨a3, b3, c3, rfl⟩ : FnV v3 := f3.resolve_right (fun h => h0 h.1)
        clear f1 f2 f3
        go_wp2_with fail
        all_goals exact ⟨⟨k + 1, by omega, by go_num, b_al hb _⟩, by simp [intOf]; omega⟩
theorem f_right (j : Nat) (hj : j = 29) (l cl : Nat) (w : World) (hl : l < w.heap.size) (p0 : w.cell? ⟨l, 0, none⟩ = some (.int .u8 19)) (p1 : w.cell? ⟨l, 1, none⟩ = some (.int .u8 3)) :
    Calls Tryz.prog 11 #[.string (fnames.getD j ⟨#[]⟩), .slice (some ⟨l, 0, none⟩) 2 cl] w fun e w' => e = .returned (.tuple #[.int .i64 j, .int .u8 19, .int .i64 0]) ∧ Below w.heap.size w w' := by
  have hem : (fnames.getD j ⟨#[]⟩).toList.isEmpty = false := by subst hj; decide +kernel
  have hj37 : j < 37 := by omega
  have HJ := Lib.hid hj
  clear hj
  obtain ⟨nm, hnm⟩ : ∃ nm, fnames.getD j ⟨#[]⟩ = nm := ⟨_, rfl⟩
  rw [hnm] at hem ⊢
  have HNM := Lib.hid hnm
  clear hnm
  go_enter Tryz.func11, Tryz.ntmps11
  go_wp2_with (go_at_call 19; with_reducible refine (c_functions _).mono ?_; rintro e w1 ⟨v, xs, rfl, hT, hb1⟩; obtain ⟨g, cap, rfl, hg, hgl⟩ := hT.owns.form (by decide); have HT := Lib.hid hT; clear hT)
  go_loopw [13] (fun i wr => ∃ k : Nat, k ≤ j ∧ i = .int .i64 k ∧ Below w1.heap.size w1 wr) (fun i _ => 37 - (intOf i).toNat)
  case atStart => exact ⟨0, by omega, rfl, Below.refl _ _⟩
  case round =>
    obtain ⟨k, hk, rfl, hb⟩ := hrel
    have h37 : k < 37 := by omega
    obtain ⟨hn1, hn2⟩ := HT.out.named.2 k h37
    have hcell : ∀ (i : Nat) (v : Value), xs[i]? = some v → wr.cell? ⟨g, i, none⟩ = some v := fun i v h => (hb.cell (p := ⟨g, i, none⟩) hgl).trans (HT.out.at h)
    obtain ⟨v1, hv1, f1⟩ := hn2 1 (by decide) (by decide)
    obtain ⟨v2, hv2, f2⟩ := hn2 2 (by decide) (by decide)
    obtain ⟨v3, hv3, f3⟩ := hn2 3 (by decide) (by decide)
    obtain ⟨nk, hnk⟩ : ∃ t, fnames.getD k ⟨#[]⟩ = t := ⟨_, rfl⟩
    rw [hnk] at hn1
    have hc0 := hcell _ _ hn1
    have hc1 := hcell _ _ hv1
    have hc2 := hcell _ _ hv2
    have hc3 := hcell _ _ hv3
    have HNK := Lib.hid hnk
    have HC := Lib.hid hcell
    clear hcell
    by_cases hkj : k = j
    · subst hkj
      obtain ⟨p, gg, d, e1, e2, e3, hF, hK, hD⟩ : ∃ p g d, xs[k * 4 + 1]? = some p ∧ xs[k * 4 + 2]? = some g ∧ xs[k * 4 + 3]? = some d ∧ FixedAt w1 p 2 ∧ KindsOf w1 g 19 [.func 103, .func 52] ∧ d = .func (.func 110) #[] #[] := by
        have hj := HJ.out
        subst hj
        exact HT.out.texts 2 (by decide)
      rw [hv1] at e1
      rw [hv2] at e2
      rw [hv3] at e3
      obtain rfl := Option.some.inj e1
      obtain rfl := Option.some.inj e2
      obtain rfl := Option.some.inj e3
      subst hD
      obtain ⟨a, b, c, rfl, ha⟩ := hF
      obtain ⟨o, i, r, cr, rfl, ho, hi, hr⟩ := hK
      have ha' := k_go ha hb
      have ho' := k_go ho hb
      have hi' : wr.heap[i]? = some (.cells #[.slice (some ⟨r, 0, none⟩) 2 cr] 91 (0, 0)) := k_go hi hb
      have hr' : wr.heap[r]? = some (.cells #[.func (.func 103) #[] #[], .func (.func 52) #[] #[]] 34 (0, 0)) := k_go hr hb
      obtain rfl : nk = nm := HNK.out.symm.trans HNM.out
      have lo := k_lt ho'
      have li := k_lt hi'
      have lr := k_lt hr'
      have la := k_lt ha'
      have KK := Lib.hid (And.intro ha' (And.intro ho' (And.intro hi' hr')))
      clear e1 e2 e3 ha ho hi hr hn1 hn2 hv1 hv2 hv3 f1 f2 f3 hnk HNK ha' ho' hi' hr'
      have he : ∀ (W : World) (A : Addr) (n c : Nat), (binOp .eql 53 (.slice (some A) n c) (.slice none 0 0)).run Tryz.prog W = .ok (.bool false) W := fun _ _ _ _ => rfl
      have hlw : l < wr.heap.size := by have h1 := hb.size; have h2 := hb1.size; omega
      have z0 : wr.cell? ⟨l, 0, none⟩ = some (.int .u8 19) := (hb.cell (p := ⟨l, 0, none⟩) (by have h2 := hb1.size; show l < _; omega)).trans ((hb1.cell (p := ⟨l, 0, none⟩) hl).trans p0)
      have z1 : wr.cell? ⟨l, 1, none⟩ = some (.int .u8 3) := (hb.cell (p := ⟨l, 1, none⟩) (by have h2 := hb1.size; show l < _; omega)).trans ((hb1.cell (p := ⟨l, 1, none⟩) hl).trans p1)
      go_wp2_with (first | (go_at_call 85; with_reducible refine (c_fixed1 a b 2 c 2 _ (k_al KK.out.1 _)).mono ?_; rintro e w2 ⟨rfl, rfl⟩) | (go_at_call 91; with_reducible refine (c_kindsTW o i r cr cl l _ (k_al KK.out.2.1 _) (k_al KK.out.2.2.1 _) (k_al KK.out.2.2.2 _) (go_old z0) (go_old z1)).mono ?_; rintro e w2 ⟨rfl, rfl⟩))
      all_goals
        go_returns
        refine ⟨?_, b_go hb1 (b_al hb _)⟩
        simp_all
    · have hneq : ¬ nk.toList = nm.toList := fun e => fnames_ne ⟨k, h37⟩ ⟨j, by omega⟩ (fun e => hkj (Fin.mk.inj e)) ((HNK.out.trans (toList_inj e)).trans HNM.out.symm)
      clear hn1 hv1 hv2 hv3 hnk hn2
      by_cases h0 : k = 0
      · subst h0
        simp only [Nat.zero_mul, Nat.zero_add] at hc0 hc1 hc2 hc3
        rcases f1 with ⟨a1, b1, c1, rfl⟩ | ⟨_, rfl⟩ <;> rcases f2 with ⟨a2, b2, c2, rfl⟩ | ⟨_, rfl⟩ <;> rcases f3 with ⟨a3, b3, c3, rfl⟩ | ⟨_, rfl⟩
        all_goals
          go_wp2_with fail
          all_goals exact ⟨⟨1, by omega, by go_num, b_al hb _⟩, by simp [intOf]⟩
      · obtain ⟨a1, b1, c1, rfl⟩ : FnV v1 := f1.resolve_right (fun h => h0 h.1)
        obtain ⟨a2, b2, c2, rfl⟩ : FnV v2 := f2.resolve_right (fun h => h0 h.1)
        obtain ⟨a3, b3, c3, rfl⟩ : FnV v3 := f3.resolve_right (fun h => h0 h.1)
        clear f1 f2 f3
        go_wp2_with fail
        all_goals exact ⟨⟨k + 1, by omega, by go_num, b_al hb _⟩, by simp [intOf]; omega⟩
theorem f_concat (j : Nat) (hj : j = 31) (l cl : Nat) (w : World) (hl : l < w.heap.size) (p0 : w.cell? ⟨l, 0, none⟩ = some (.int .u8 19)) (p1 : w.cell? ⟨l, 1, none⟩ = some (.int .u8 19)) :
    Calls Tryz.prog 11 #[.string (fnames.getD j ⟨#[]⟩), .slice (some ⟨l, 0, none⟩) 2 cl] w fun e w' => e = .returned (.tuple #[.int .i64 j, .int .u8 19, .int .i64 0]) ∧ Below w.heap.size w w' := by
  have hem : (fnames.getD j ⟨#[]⟩).toList.isEmpty = false := by subst hj; decide +kernel
  have hj37 : j < 37 := by omega
  have HJ := Lib.hid hj
  clear hj
  obtain ⟨nm, hnm⟩ : ∃ nm, fnames.getD j ⟨#[]⟩ = nm := ⟨_, rfl⟩
  rw [hnm] at hem ⊢
  have HNM := Lib.hid hnm
  clear hnm
  go_enter Tryz.func11, Tryz.ntmps11
  go_wp2_with (go_at_call 19; with_reducible refine (c_functions _).mono ?_; rintro e w1 ⟨v, xs, rfl, hT, hb1⟩; obtain ⟨g, cap, rfl, hg, hgl⟩ := hT.owns.form (by decide); have HT := Lib.hid hT; clear hT)
  go_loopw [13] (fun i wr => ∃ k : Nat, k ≤ j ∧ i = .int .i64 k ∧ Below w1.heap.size w1 wr) (fun i _ => 37 - (intOf i).toNat)
  case atStart => exact ⟨0, by omega, rfl, Below.refl _ _⟩
  case round =>
    obtain ⟨k, hk, rfl, hb⟩ := hrel
    have h37 : k < 37 := by omega
    obtain ⟨hn1, hn2⟩ := HT.out.named.2 k h37
    have hcell : ∀ (i : Nat) (v : Value), xs[i]? = some v → wr.cell? ⟨g, i, none⟩ = some v := fun i v h => (hb.cell (p := ⟨g, i, none⟩) hgl).trans (HT.out.at h)
    obtain ⟨v1, hv1, f1⟩ := hn2 1 (by decide) (by decide)
    obtain ⟨v2, hv2, f2⟩ := hn2 2 (by decide) (by decide)
    obtain ⟨v3, hv3, f3⟩ := hn2 3 (by decide) (by decide)
    obtain ⟨nk, hnk⟩ : ∃ t, fnames.getD k ⟨#[]⟩ = t := ⟨_, rfl⟩
    rw [hnk] at hn1
    have hc0 := hcell _ _ hn1
    have hc1 := hcell _ _ hv1
    have hc2 := hcell _ _ hv2
    have hc3 := hcell _ _ hv3
    have HNK := Lib.hid hnk
    have HC := Lib.hid hcell
    clear hcell
    by_cases hkj : k = j
    · subst hkj
      obtain ⟨p, gg, d, e1, e2, e3, hF, hK, hD⟩ : ∃ p g d, xs[k * 4 + 1]? = some p ∧ xs[k * 4 + 2]? = some g ∧ xs[k * 4 + 3]? = some d ∧ p = .func (.func 30) #[] #[] ∧ g = .func (.func 113) #[] #[] ∧ d = .func (.func 114) #[] #[] := by
        have hj := HJ.out
        subst hj
        exact HT.out.texts 4 (by decide)
      rw [hv1] at e1
      rw [hv2] at e2
      rw [hv3] at e3
      obtain rfl := Option.some.inj e1
      obtain rfl := Option.some.inj e2
      obtain rfl := Option.some.inj e3
      subst hD
      subst hF hK
      obtain rfl : nk = nm := HNK.out.symm.trans HNM.out
      clear e1 e2 e3 hn1 hn2 hv1 hv2 hv3 f1 f2 f3 hnk HNK
      have he : ∀ (W : World) (A : Addr) (n c : Nat), (binOp .eql 53 (.slice (some A) n c) (.slice none 0 0)).run Tryz.prog W = .ok (.bool false) W := fun _ _ _ _ => rfl
      have hlw : l < wr.heap.size := by have h1 := hb.size; have h2 := hb1.size; omega
      have z0 : wr.cell? ⟨l, 0, none⟩ = some (.int .u8 19) := (hb.cell (p := ⟨l, 0, none⟩) (by have h2 := hb1.size; show l < _; omega)).trans ((hb1.cell (p := ⟨l, 0, none⟩) hl).trans p0)
      have z1 : wr.cell? ⟨l, 1, none⟩ = some (.int .u8 19) := (hb.cell (p := ⟨l, 1, none⟩) (by have h2 := hb1.size; show l < _; omega)).trans ((hb1.cell (p := ⟨l, 1, none⟩) hl).trans p1)
      go_wp2_with (first | (go_at_call 30; with_reducible refine (c_many2 _).mono ?_; rintro e w2 ⟨⟨gm, cm, rfl⟩, hb2⟩; have FB := k_go (k_new (w := wr) rfl) hb2; have y0 := k_cv FB 0 rfl; have y1 := k_cv FB 1 rfl; have y2 := k_cv FB 2 rfl; have y3 := k_cv FB 3 rfl; simp only [List.getElem_toArray, List.getElem_cons_succ, List.getElem_cons_zero] at y0 y1 y2 y3) | (go_at_call 113; with_reducible refine (c_texts6 l cl _ ((hb2.cell (p := ⟨l, 0, none⟩) (by simp; omega)).trans (go_old z0)) ((hb2.cell (p := ⟨l, 1, none⟩) (by simp; omega)).trans (go_old z1))).mono ?_; rintro e w3 ⟨rfl, rfl⟩))
      all_goals
        go_returns
        refine ⟨?_, b_go (b_go hb1 (b_al hb _)) hb2⟩
        simp_all
    · have hneq : ¬ nk.toList = nm.toList := fun e => fnames_ne ⟨k, h37⟩ ⟨j, by omega⟩ (fun e => hkj (Fin.mk.inj e)) ((HNK.out.trans (toList_inj e)).trans HNM.out.symm)
      clear hn1 hv1 hv2 hv3 hnk hn2
      by_cases h0 : k = 0
      · subst h0
        simp only [Nat.zero_mul, Nat.zero_add] at hc0 hc1 hc2 hc3
        rcases f1 with ⟨a1, b1, c1, rfl⟩ | ⟨_, rfl⟩ <;> rcases f2 with ⟨a2, b2, c2, rfl⟩ | ⟨_, rfl⟩ <;> rcases f3 with ⟨a3, b3, c3, rfl⟩ | ⟨_, rfl⟩
        all_goals
          go_wp2_with fail
          all_goals exact ⟨⟨1, by omega, by go_num, b_al hb _⟩, by simp [intOf]⟩
      · obtain ⟨a1, b1, c1, rfl⟩ : FnV v1 := f1.resolve_right (fun h => h0 h.1)
        obtain ⟨a2, b2, c2, rfl⟩ : FnV v2 := f2.resolve_right (fun h => h0 h.1)
        obtain ⟨a3, b3, c3, rfl⟩ : FnV v3 := f3.resolve_right (fun h => h0 h.1)
        clear f1 f2 f3
        go_wp2_with fail
        all_goals exact ⟨⟨k + 1, by omega, by go_num, b_al hb _⟩, by simp [intOf]; omega⟩
theorem f_insert (j : Nat) (hj : j = 32) (l cl : Nat) (w : World) (hl : l < w.heap.size) (p0 : w.cell? ⟨l, 0, none⟩ = some (.int .u8 19)) (p1 : w.cell? ⟨l, 1, none⟩ = some (.int .u8 19)) (p2 : w.cell? ⟨l, 2, none⟩ = some (.int .u8 3)) :
    Calls Tryz.prog 11 #[.string (fnames.getD j ⟨#[]⟩), .slice (some ⟨l, 0, none⟩) 3 cl] w fun e w' => e = .returned (.tuple #[.int .i64 j, .int .u8 19, .int .i64 0]) ∧ Below w.heap.size w w' := by
  have hem : (fnames.getD j ⟨#[]⟩).toList.isEmpty = false := by subst hj; decide +kernel
  have hj37 : j < 37 := by omega
  have HJ := Lib.hid hj
  clear hj
  obtain ⟨nm, hnm⟩ : ∃ nm, fnames.getD j ⟨#[]⟩ = nm := ⟨_, rfl⟩
  rw [hnm] at hem ⊢
  have HNM := Lib.hid hnm
  clear hnm
  go_enter Tryz.func11, Tryz.ntmps11
  go_wp2_with (go_at_call 19; with_reducible refine (c_functions _).mono ?_; rintro e w1 ⟨v, xs, rfl, hT, hb1⟩; obtain ⟨g, cap, rfl, hg, hgl⟩ := hT.owns.form (by decide); have HT := Lib.hid hT; clear hT)
  go_loopw [13] (fun i wr => ∃ k : Nat, k ≤ j ∧ i = .int .i64 k ∧ Below w1.heap.size w1 wr) (fun i _ => 37 - (intOf i).toNat)
  case atStart => exact ⟨0, by omega, rfl, Below.refl _ _⟩
  case round =>
    obtain ⟨k, hk, rfl, hb⟩ := hrel
    have h37 : k < 37 := by omega
    obtain ⟨hn1, hn2⟩ := HT.out.named.2 k h37
    have hcell : ∀ (i : Nat) (v : Value), xs[i]? = some v → wr.cell? ⟨g, i, none⟩ = some v := fun i v h => (hb.cell (p := ⟨g, i, none⟩) hgl).trans (HT.out.at h)
    obtain ⟨v1, hv1, f1⟩ := hn2 1 (by decide) (by decide)
    obtain ⟨v2, hv2, f2⟩ := hn2 2 (by decide) (by decide)
    obtain ⟨v3, hv3, f3⟩ := hn2 3 (by decide) (by decide)
    obtain ⟨nk, hnk⟩ : ∃ t, fnames.getD k ⟨#[]⟩ = t := ⟨_, rfl⟩
    rw [hnk] at hn1
    have hc0 := hcell _ _ hn1
    have hc1 := hcell _ _ hv1
    have hc2 := hcell _ _ hv2
    have hc3 := hcell _ _ hv3
    have HNK := Lib.hid hnk
    have HC := Lib.hid hcell
    clear hcell
    by_cases hkj : k = j
    · subst hkj
      obtain ⟨p, gg, d, e1, e2, e3, hF, hK, hD⟩ : ∃ p g d, xs[k * 4 + 1]? = some p ∧ xs[k * 4 + 2]? = some g ∧ xs[k * 4 + 3]? = some d ∧ FixedAt w1 p 3 ∧ KindsOf w1 g 19 [.func 103, .func 103, .func 52] ∧ d = .func (.func 115) #[] #[] := by
        have hj := HJ.out
        subst hj
        exact HT.out.texts 5 (by decide)
      rw [hv1] at e1
      rw [hv2] at e2
      rw [hv3] at e3
      obtain rfl := Option.some.inj e1
      obtain rfl := Option.some.inj e2
      obtain rfl := Option.some.inj e3
      subst hD
      obtain ⟨a, b, c, rfl, ha⟩ := hF
      obtain ⟨o, i, r, cr, rfl, ho, hi, hr⟩ := hK
      have ha' := k_go ha hb
      have ho' := k_go ho hb
      have hi' : wr.heap[i]? = some (.cells #[.slice (some ⟨r, 0, none⟩) 3 cr] 91 (0, 0)) := k_go hi hb
      have hr' : wr.heap[r]? = some (.cells #[.func (.func 103) #[] #[], .func (.func 103) #[] #[], .func (.func 52) #[] #[]] 34 (0, 0)) := k_go hr hb
      obtain rfl : nk = nm := HNK.out.symm.trans HNM.out
      have lo := k_lt ho'
      have li := k_lt hi'
      have lr := k_lt hr'
      have la := k_lt ha'
      have KK := Lib.hid (And.intro ha' (And.intro ho' (And.intro hi' hr')))
      clear e1 e2 e3 ha ho hi hr hn1 hn2 hv1 hv2 hv3 f1 f2 f3 hnk HNK ha' ho' hi' hr'
      have he : ∀ (W : World) (A : Addr) (n c : Nat), (binOp .eql 53 (.slice (some A) n c) (.slice none 0 0)).run Tryz.prog W = .ok (.bool false) W := fun _ _ _ _ => rfl
      have hlw : l < wr.heap.size := by have h1 := hb.size; have h2 := hb1.size; omega
      have z0 : wr.cell? ⟨l, 0, none⟩ = some (.int .u8 19) := (hb.cell (p := ⟨l, 0, none⟩) (by have h2 := hb1.size; show l < _; omega)).trans ((hb1.cell (p := ⟨l, 0, none⟩) hl).trans p0)
      have z1 : wr.cell? ⟨l, 1, none⟩ = some (.int .u8 19) := (hb.cell (p := ⟨l, 1, none⟩) (by have h2 := hb1.size; show l < _; omega)).trans ((hb1.cell (p := ⟨l, 1, none⟩) hl).trans p1)
      have z2 : wr.cell? ⟨l, 2, none⟩ = some (.int .u8 3) := (hb.cell (p := ⟨l, 2, none⟩) (by have h2 := hb1.size; show l < _; omega)).trans ((hb1.cell (p := ⟨l, 2, none⟩) hl).trans p2)
      go_wp2_with (first | (go_at_call 85; with_reducible refine (c_fixed1 a b 3 c 3 _ (k_al KK.out.1 _)).mono ?_; rintro e w2 ⟨rfl, rfl⟩) | (go_at_call 91; with_reducible refine (c_kindsTTW o i r cr cl l _ (k_al KK.out.2.1 _) (k_al KK.out.2.2.1 _) (k_al KK.out.2.2.2 _) (go_old z0) (go_old z1) (go_old z2)).mono ?_; rintro e w2 ⟨rfl, rfl⟩))
      all_goals
        go_returns
        refine ⟨?_, b_go hb1 (b_al hb _)⟩
        simp_all
    · have hneq : ¬ nk.toList = nm.toList := fun e => fnames_ne ⟨k, h37⟩ ⟨j, by omega⟩ (fun e => hkj (Fin.mk.inj e)) ((HNK.out.trans (toList_inj e)).trans HNM.out.symm)
      clear hn1 hv1 hv2 hv3 hnk hn2
      by_cases h0 : k = 0
      · subst h0
        simp only [Nat.zero_mul, Nat.zero_add] at hc0 hc1 hc2 hc3
        rcases f1 with ⟨a1, b1, c1, rfl⟩ | ⟨_, rfl⟩ <;> rcases f2 with ⟨a2, b2, c2, rfl⟩ | ⟨_, rfl⟩ <;> rcases f3 with ⟨a3, b3, c3, rfl⟩ | ⟨_, rfl⟩
        all_goals
          go_wp2_with fail
          all_goals exact ⟨⟨1, by omega, by go_num, b_al hb _⟩, by simp [intOf]⟩
      · obtain ⟨a1, b1, c1, rfl⟩ : FnV v1 := f1.resolve_right (fun h => h0 h.1)
        obtain ⟨a2, b2, c2, rfl⟩ : FnV v2 := f2.resolve_right (fun h => h0 h.1)
        obtain ⟨a3, b3, c3, rfl⟩ : FnV v3 := f3.resolve_right (fun h => h0 h.1)
        clear f1 f2 f3
        go_wp2_with fail
        all_goals exact ⟨⟨k + 1, by omega, by go_num, b_al hb _⟩, by simp [intOf]; omega⟩
theorem f_delete (j : Nat) (hj : j = 33) (l cl : Nat) (w : World) (hl : l < w.heap.size) (p0 : w.cell? ⟨l, 0, none⟩ = some (.int .u8 19)) (p1 : w.cell? ⟨l, 1, none⟩ = some (.int .u8 3)) (p2 : w.cell? ⟨l, 2, none⟩ = some (.int .u8 3)) :
    Calls Tryz.prog 11 #[.string (fnames.getD j ⟨#[]⟩), .slice (some ⟨l, 0, none⟩) 3 cl] w fun e w' => e = .returned (.tuple #[.int .i64 j, .int .u8 19, .int .i64 0]) ∧ Below w.heap.size w w' := by
  have hem : (fnames.getD j ⟨#[]⟩).toList.isEmpty = false := by subst hj; decide +kernel
  have hj37 : j < 37 := by omega
  have HJ := Lib.hid hj
  clear hj
  obtain ⟨nm, hnm⟩ : ∃ nm, fnames.getD j ⟨#[]⟩ = nm := ⟨_, rfl⟩
  rw [hnm] at hem ⊢
  have HNM := Lib.hid hnm
  clear hnm
  go_enter Tryz.func11, Tryz.ntmps11
  go_wp2_with (go_at_call 19; with_reducible refine (c_functions _).mono ?_; rintro e w1 ⟨v, xs, rfl, hT, hb1⟩; obtain ⟨g, cap, rfl, hg, hgl⟩ := hT.owns.form (by decide); have HT := Lib.hid hT; clear hT)
  go_loopw [13] (fun i wr => ∃ k : Nat, k ≤ j ∧ i = .int .i64 k ∧ Below w1.heap.size w1 wr) (fun i _ => 37 - (intOf i).toNat)
  case atStart => exact ⟨0, by omega, rfl, Below.refl _ _⟩
  case round =>
    obtain ⟨k, hk, rfl, hb⟩ := hrel
    have h37 : k < 37 := by omega
    obtain ⟨hn1, hn2⟩ := HT.out.named.2 k h37
    have hcell : ∀ (i : Nat) (v : Value), xs[i]? = some v → wr.cell? ⟨g, i, none⟩ = some v := fun i v h => (hb.cell (p := ⟨g, i, none⟩) hgl).trans (HT.out.at h)
    obtain ⟨v1, hv1, f1⟩ := hn2 1 (by decide) (by decide)
    obtain ⟨v2, hv2, f2⟩ := hn2 2 (by decide) (by decide)
    obtain ⟨v3, hv3, f3⟩ := hn2 3 (by decide) (by decide)
    obtain ⟨nk, hnk⟩ : ∃ t, fnames.getD k ⟨#[]⟩ = t := ⟨_, rfl⟩
    rw [hnk] at hn1
    have hc0 := hcell _ _ hn1
    have hc1 := hcell _ _ hv1
    have hc2 := hcell _ _ hv2
    have hc3 := hcell _ _ hv3
    have HNK := Lib.hid hnk
    have HC := Lib.hid hcell
    clear hcell
    by_cases hkj : k = j
    · subst hkj
      obtain ⟨p, gg, d, e1, e2, e3, hF, hK, hD⟩ : ∃ p g d, xs[k * 4 + 1]? = some p ∧ xs[k * 4 + 2]? = some g ∧ xs[k * 4 + 3]? = some d ∧ FixedAt w1 p 3 ∧ KindsOf w1 g 19 [.func 103, .func 52, .func 52] ∧ d = .func (.func 116) #[] #[] := by
        have hj := HJ.out
        subst hj
        exact HT.out.texts 6 (by decide)
      rw [hv1] at e1
      rw [hv2] at e2
      rw [hv3] at e3
      obtain rfl := Option.some.inj e1
      obtain rfl := Option.some.inj e2
      obtain rfl := Option.some.inj e3
      subst hD
      obtain ⟨a, b, c, rfl, ha⟩ := hF
      obtain ⟨o, i, r, cr, rfl, ho, hi, hr⟩ := hK
      have ha' := k_go ha hb
      have ho' := k_go ho hb
      have hi' : wr.heap[i]? = some (.cells #[.slice (some ⟨r, 0, none⟩) 3 cr] 91 (0, 0)) := k_go hi hb
      have hr' : wr.heap[r]? = some (.cells #[.func (.func 103) #[] #[], .func (.func 52) #[] #[], .func (.func 52) #[] #[]] 34 (0, 0)) := k_go hr hb
      obtain rfl : nk = nm := HNK.out.symm.trans HNM.out
      have lo := k_lt ho'
      have li := k_lt hi'
      have lr := k_lt hr'
      have la := k_lt ha'
      have KK := Lib.hid (And.intro ha' (And.intro ho' (And.intro hi' hr')))
      clear e1 e2 e3 ha ho hi hr hn1 hn2 hv1 hv2 hv3 f1 f2 f3 hnk HNK ha' ho' hi' hr'
      have he : ∀ (W : World) (A : Addr) (n c : Nat), (binOp .eql 53 (.slice (some A) n c) (.slice none 0 0)).run Tryz.prog W = .ok (.bool false) W := fun _ _ _ _ => rfl
      have hlw : l < wr.heap.size := by have h1 := hb.size; have h2 := hb1.size; omega
      have z0 : wr.cell? ⟨l, 0, none⟩ = some (.int .u8 19) := (hb.cell (p := ⟨l, 0, none⟩) (by have h2 := hb1.size; show l < _; omega)).trans ((hb1.cell (p := ⟨l, 0, none⟩) hl).trans p0)
      have z1 : wr.cell? ⟨l, 1, none⟩ = some (.int .u8 3) := (hb.cell (p := ⟨l, 1, none⟩) (by have h2 := hb1.size; show l < _; omega)).trans ((hb1.cell (p := ⟨l, 1, none⟩) hl).trans p1)
      have z2 : wr.cell? ⟨l, 2, none⟩ = some (.int .u8 3) := (hb.cell (p := ⟨l, 2, none⟩) (by have h2 := hb1.size; show l < _; omega)).trans ((hb1.cell (p := ⟨l, 2, none⟩) hl).trans p2)
      go_wp2_with (first | (go_at_call 85; with_reducible refine (c_fixed1 a b 3 c 3 _ (k_al KK.out.1 _)).mono ?_; rintro e w2 ⟨rfl, rfl⟩) | (go_at_call 91; with_reducible refine (c_kindsTWW o i r cr cl l _ (k_al KK.out.2.1 _) (k_al KK.out.2.2.1 _) (k_al KK.out.2.2.2 _) (go_old z0) (go_old z1) (go_old z2)).mono ?_; rintro e w2 ⟨rfl, rfl⟩))
      all_goals
        go_returns
        refine ⟨?_, b_go hb1 (b_al hb _)⟩
        simp_all
    · have hneq : ¬ nk.toList = nm.toList := fun e => fnames_ne ⟨k, h37⟩ ⟨j, by omega⟩ (fun e => hkj (Fin.mk.inj e)) ((HNK.out.trans (toList_inj e)).trans HNM.out.symm)
      clear hn1 hv1 hv2 hv3 hnk hn2
      by_cases h0 : k = 0
      · subst h0
        simp only [Nat.zero_mul, Nat.zero_add] at hc0 hc1 hc2 hc3
        rcases f1 with ⟨a1, b1, c1, rfl⟩ | ⟨_, rfl⟩ <;> rcases f2 with ⟨a2, b2, c2, rfl⟩ | ⟨_, rfl⟩ <;> rcases f3 with ⟨a3, b3, c3, rfl⟩ | ⟨_, rfl⟩
        all_goals
          go_wp2_with fail
          all_goals exact ⟨⟨1, by omega, by go_num, b_al hb _⟩, by simp [intOf]⟩
      · obtain ⟨a1, b1, c1, rfl⟩ : FnV v1 := f1.resolve_right (fun h => h0 h.1)
        obtain ⟨a2, b2, c2, rfl⟩ : FnV v2 := f2.resolve_right (fun h => h0 h.1)
        obtain ⟨a3, b3, c3, rfl⟩ : FnV v3 := f3.resolve_right (fun h => h0 h.1)
        clear f1 f2 f3
        go_wp2_with fail
        all_goals exact ⟨⟨k + 1, by omega, by go_num, b_al hb _⟩, by simp [intOf]; omega⟩
end Go.Proofs.YtflhndjpfiklaaaGreatDoor.H
