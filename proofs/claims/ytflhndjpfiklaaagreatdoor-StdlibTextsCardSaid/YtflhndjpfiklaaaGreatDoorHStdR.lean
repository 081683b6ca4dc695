/- Contracts of Call at LEFT, RIGHT, CONCAT, INSERT, DELETE. Conditions: the kinds or values lie in memory. -/
import Derived.Test.YtflhndjpfiklaaaGreatDoorHStdQ
import Derived.Test.YtflhndjpfiklaaaGreatDoorHStdL
namespace Go.Proofs.YtflhndjpfiklaaaGreatDoor.H
set_option linter.unusedVariables false
set_option linter.unusedSimpArgs false
open Go.RowKit Go.Proofs.YtflhndjpfiklaaaGreatDoor.Plain
set_option maxHeartbeats 6400000
set_option maxRecDepth 100000
attribute [local go_sem] ext_from ext_bits cell_isSome un_neg_float
theorem call_left (l cl : Nat) (s : ByteArray) (b : Int) (w : World) (hA : Args w l [(19, 0, s), (3, b, ⟨#[]⟩)]) (h0 : 0 ≤ b) (h1 : b ≤ s.size) (hs : s.size ≤ 254) (hmayall : ∀ d ∈ ([(19, 0, s), (3, b, ⟨#[]⟩)] : List Val), mayD d = true ∧ OkV d) :
    Calls Tryz.prog 13 #[.int .i64 28, .slice (some ⟨l, 0, none⟩) 2 cl] w fun e w' => e = .returned (.tuple #[.agg #[.int .u8 (textV (s.extract 0 b.toNat)).1, .int .u64 (textV (s.extract 0 b.toNat)).2.1, .string (textV (s.extract 0 b.toNat)).2.2.1], .int .i64 (textV (s.extract 0 b.toNat)).2.2.2]) ∧ Below w.heap.size w w' := by
  obtain ⟨i0, hi, hz0, hz1, hz2⟩ := info_parts (show (Tryz.prog.info? 22).map (fun i => (i.zero, i.size, i.bytes)) = some (some (.int .u8 0), 1, 1) by kernel_rfl)
  have ND : ∀ (la : Nat) (W : World), Args W l [(19, 0, s), (3, b, ⟨#[]⟩)] → Calls Tryz.prog 106 #[.slice (some ⟨l, 0, none⟩) 2 cl] W fun e w' => e = .returned (.tuple #[.agg #[.int .u8 (textV (s.extract 0 b.toNat)).1, .int .u64 (textV (s.extract 0 b.toNat)).2.1, .string (textV (s.extract 0 b.toNat)).2.2.1], .int .i64 (textV (s.extract 0 b.toNat)).2.2.2]) ∧ Below W.heap.size W w' := fun _ W h => c_left l cl s b W h h0 h1 hs
  obtain ⟨R, hR⟩ : ∃ R, textV (s.extract 0 b.toNat) = R := ⟨_, rfl⟩
  have hz : R.2.2.2 ≠ 0 → R = (0, 0, ⟨#[]⟩, R.2.2.2) := by subst hR; unfold textV; split <;> simp
  rw [hR] at ND ⊢
  have HZ := Lib.hid hz
  clear hz hR
  obtain ⟨ds, hds⟩ : ∃ ds : List Val, [(19, 0, s), (3, b, ⟨#[]⟩)] = ds := ⟨_, rfl⟩
  have hn : ds.length = 2 := by subst hds; rfl
  rw [hds] at hA hmayall
  have HDS := Lib.hid hds
  clear hds h0 h1 hs
  go_enter Tryz.func13, Tryz.ntmps13
  go_wp2_with fail
  go_loopw [6, 16] (fun u i wr => ∃ k : Nat, k ≤ 2 ∧ i = .int .i64 k ∧ wr.ownsRow (w.heap.size + 1) 22 1 u k ((kindsOf ds).take k) ∧ Below (w.heap.size + 1) (w.alloc R0) wr) (fun _ i _ => 2 - (intOf i).toNat)
  case atStart => exact ⟨0, by omega, rfl, World.ownsRow_nil _ _ _ _, Below.refl _ _⟩
  case round =>
    obtain ⟨k, hk, rfl, hown, hbeR⟩ := hrel
    have hbel : Below w.heap.size w wr := b_go (b_al (Below.refl _ _) _) (by rw [alloc_size]; exact hbeR)
    have K0 : wr.heap[w.heap.size]? = some R0 := k_go (k_new rfl) (by rw [alloc_size]; exact hbeR)
    by_cases hkn : k < 2
    · obtain ⟨d, hd⟩ : ∃ d, ds[k]? = some d := ⟨_, List.getElem?_eq_getElem (by omega)⟩
      obtain ⟨z0, z1, z2⟩ := (hA.go hbel).2 k d hd
      obtain ⟨hm, hokd⟩ := hmayall d (List.mem_of_getElem? hd)
      have N1 : ∀ W, Calls Tryz.prog 23 #[.agg #[.int .u8 d.1, .int .u64 d.2.1, .string d.2.2]] W fun e w' => e = .returned (.bool true) ∧ Below W.heap.size W w' := fun W => hm ▸ v_may d.1 d.2.1 d.2.2 hokd.1 hokd.2 W
      go_wp2_with (first | (go_at_call 23; with_reducible refine (N1 _).mono ?_; rintro e w1 ⟨rfl, hb1⟩; obtain ⟨hc1, hf1⟩ := bcell hb1) | (at_builtin; go_loud (refine wpList_append_own _ rfl _ _ 37 rfl (w.heap.size + 1) 22 i0 _ 1 1 Tryz.underlying37 hi hz0 hz1 hz2 rfl (by decide) _ _ _ rfl ((own_below (hown.alloc _) hb1).alloc _) ⟨w1.heap.size, 0, none⟩ 1 1 [.int .u8 d.1] rfl rfl ?c1 ?c2 ?c3 ?c4 ?c5 ?_)))
      case c1 =>
        intro j u hj
        rw [add_pl]
        exact (k_cell (k_new (by simp)) j).trans (by simpa using hj)
      case c2 => intro u hu; simp at hu; subst hu; rfl
      case c3 => unfold maxLen; omega
      case c4 => omega
      case c5 => have h1 := hbeR.size; have h2 := hb1.size; simp at h1 h2 ⊢; omega
      intro v' w3 hown' hgrow hnil
      have h9 : w.heap.size + 1 ≤ wr.heap.size := by have h1 := hbeR.size; simp at h1; omega
      have hbe1 : Below (w.heap.size + 1) (w.alloc R0) w1 := (hbeR.alloc h9 _).trans (hb1.mono (by simp; omega))
      have h10 := hb1.size
      simp at h10
      clear hc1 hf1
      go_wp2
      go_roundw
      case rel =>
        refine ⟨k + 1, by omega, by go_num, ?_, ?_⟩
        · rw [← kinds_step hd]; exact hown'
        · exact Below.grown (row := u6.ownBlock) (hbe1.alloc (by omega) _) hgrow (by simp; omega) (fun g hg => (hown.lt g hg).1)
      case measure => simp [intOf]; omega
    · obtain rfl : k = 2 := by omega
      have hds := HDS.out
      subst hds
      obtain ⟨a, c, rfl⟩ := own_shape hown
      obtain ⟨gk, rfl, hgk, hcell⟩ := kinds_own (ds := [(19, 0, s), (3, b, ⟨#[]⟩)]) hown (by decide)
      have hA1 := hA.go hbel
      have he : ∀ (W : World) (A : Addr) (n c : Nat), (binOp .eql 53 (.slice (some A) n c) (.slice none 0 0)).run Tryz.prog W = .ok (.bool false) W := fun _ _ _ _ => rfl
      clear hmayall
      go_wp2_with (first | (go_at_call 24; go_in))
      refine (c_functions _).mono ?_
      rintro e w1 ⟨v, xs, rfl, hT, hb1⟩
      obtain ⟨g, cap, rfl, hg, hgl⟩ := hT.owns.form (by decide)
      obtain ⟨p, gg, d, e1, e2, e3, hF, hKi, hD⟩ : ∃ p g d, xs[28 * 4 + 1]? = some p ∧ xs[28 * 4 + 2]? = some g ∧ xs[28 * 4 + 3]? = some d ∧ FixedAt w1 p 2 ∧ KindsOf w1 g 19 [.func 103, .func 52] ∧ d = .func (.func 106) #[] #[] := hT.texts 1 (by decide)
      subst hD
      have hc1 := hT.at e1
      have hc2 := hT.at e2
      have hc3 := hT.at e3
      clear hT e1 e2 e3
      obtain ⟨fa, fb, fc, rfl, ha⟩ := hF
      obtain ⟨o, i, r, cr, rfl, ho, hi', hr⟩ := hKi
      have hi2 : w1.heap[i]? = some (.cells #[.slice (some ⟨r, 0, none⟩) 2 cr] 91 (0, 0)) := hi'
      have hr2 : w1.heap[r]? = some (.cells #[.func (.func 103) #[] #[], .func (.func 52) #[] #[]] 34 (0, 0)) := hr
      have z0 : w1.cell? ⟨gk, 0, none⟩ = some (.int .u8 19) := (hb1.cell (p := ⟨gk, 0, none⟩) hgk).trans (hcell 0 _ rfl)
      have z1 : w1.cell? ⟨gk, 1, none⟩ = some (.int .u8 3) := (hb1.cell (p := ⟨gk, 1, none⟩) hgk).trans (hcell 1 _ rfl)
      have K1 := k_go K0 hb1
      have hA2 := hA1.go hb1
      clear hr hi'
      go_wp2_with (first | (go_at_call 85; with_reducible refine (c_fixed1 _ _ 2 _ 2 _ ha).mono ?_; rintro e w4 ⟨rfl, h4⟩; subst h4) | (go_at_call 91; with_reducible refine (c_kindsTW o i r cr c gk _ ho hi2 hr2 z0 z1).mono ?_; rintro e w4 ⟨rfl, h4⟩; subst h4) | (go_at_call 106; go_loud (with_reducible refine (ND 0 _ hA2).mono ?_); rintro e w5 ⟨rfl, hb5⟩; have K2 := k_go K1 hb5; have y0 := k_cv K2 0 rfl; have y1 := k_cv K2 1 rfl; have y2 := k_cv K2 2 rfl; have g0 := k_fr K2 0; have g1 := k_fr K2 1; have g2 := k_fr K2 2; have l2 := k_lt K2; simp only [List.getElem_toArray, List.getElem_cons_succ, List.getElem_cons_zero] at y0 y1 y2))
      all_goals
        refine bodyPost_ret (v := .tuple #[.agg #[.int .u8 (R).1, .int .u64 (R).2.1, .string (R).2.2.1], .int .i64 (R).2.2.2]) ?hr rfl ⟨rfl, ?hB⟩
        case hB => repeat (first | exact hbel | apply b_al | (refine b_st ?_ ?hg _; case hg => exact Nat.le_refl _) | (refine b_go ?_ (by assumption)))
        case hr =>
          have q := fun (y0 y1 y2 : Value) => set3 (w1 := w5) (g := w.heap.size) K2 y0 y1 y2
          have q0 := fun (y0 y1 y2 : Value) => (q y0 y1 y2).1
          have q1 := fun (y0 y1 y2 : Value) => (q y0 y1 y2).2.1
          have q2 := fun (y0 y1 y2 : Value) => (q y0 y1 y2).2.2
          clear q
          simp [results, Tryz.results13, go_sem, l2, q0, q1, q2]
          have hz := HZ.out
          grind
theorem call_right (l cl : Nat) (s : ByteArray) (b : Int) (w : World) (hA : Args w l [(19, 0, s), (3, b, ⟨#[]⟩)]) (h0 : 0 ≤ b) (h1 : b ≤ s.size) (hs : s.size ≤ 254) (hmayall : ∀ d ∈ ([(19, 0, s), (3, b, ⟨#[]⟩)] : List Val), mayD d = true ∧ OkV d) :
    Calls Tryz.prog 13 #[.int .i64 29, .slice (some ⟨l, 0, none⟩) 2 cl] w fun e w' => e = .returned (.tuple #[.agg #[.int .u8 (textV (s.extract ((s.size : Int) - b).toNat s.size)).1, .int .u64 (textV (s.extract ((s.size : Int) - b).toNat s.size)).2.1, .string (textV (s.extract ((s.size : Int) - b).toNat s.size)).2.2.1], .int .i64 (textV (s.extract ((s.size : Int) - b).toNat s.size)).2.2.2]) ∧ Below w.heap.size w w' := by
  obtain ⟨i0, hi, hz0, hz1, hz2⟩ := info_parts (show (Tryz.prog.info? 22).map (fun i => (i.zero, i.size, i.bytes)) = some (some (.int .u8 0), 1, 1) by kernel_rfl)
  have ND : ∀ (la : Nat) (W : World), Args W l [(19, 0, s), (3, b, ⟨#[]⟩)] → Calls Tryz.prog 110 #[.slice (some ⟨l, 0, none⟩) 2 cl] W fun e w' => e = .returned (.tuple #[.agg #[.int .u8 (textV (s.extract ((s.size : Int) - b).toNat s.size)).1, .int .u64 (textV (s.extract ((s.size : Int) - b).toNat s.size)).2.1, .string (textV (s.extract ((s.size : Int) - b).toNat s.size)).2.2.1], .int .i64 (textV (s.extract ((s.size : Int) - b).toNat s.size)).2.2.2]) ∧ Below W.heap.size W w' := fun _ W h => c_right l cl s b W h h0 h1 hs
  obtain ⟨R, hR⟩ : ∃ R, textV (s.extract ((s.size : Int) - b).toNat s.size) = R := ⟨_, rfl⟩
  have hz : R.2.2.2 ≠ 0 → R = (0, 0, ⟨#[]⟩, R.2.2.2) := by subst hR; unfold textV; split <;> simp
  rw [hR] at ND ⊢
  have HZ := Lib.hid hz
  clear hz hR
  obtain ⟨ds, hds⟩ : ∃ ds : List Val, [(19, 0, s), (3, b, ⟨#[]⟩)] = ds := ⟨_, rfl⟩
  have hn : ds.length = 2 := by subst hds; rfl
  rw [hds] at hA hmayall
  have HDS := Lib.hid hds
  clear hds h0 h1 hs
  go_enter Tryz.func13, Tryz.ntmps13
  go_wp2_with fail
  go_loopw [6, 16] (fun u i wr => ∃ k : Nat, k ≤ 2 ∧ i = .int .i64 k ∧ wr.ownsRow (w.heap.size + 1) 22 1 u k ((kindsOf ds).take k) ∧ Below (w.heap.size + 1) (w.alloc R0) wr) (fun _ i _ => 2 - (intOf i).toNat)
  case atStart => exact ⟨0, by omega, rfl, World.ownsRow_nil _ _ _ _, Below.refl _ _⟩
  case round =>
    obtain ⟨k, hk, rfl, hown, hbeR⟩ := hrel
    have hbel : Below w.heap.size w wr := b_go (b_al (Below.refl _ _) _) (by rw [alloc_size]; exact hbeR)
    have K0 : wr.heap[w.heap.size]? = some R0 := k_go (k_new rfl) (by rw [alloc_size]; exact hbeR)
    by_cases hkn : k < 2
    · obtain ⟨d, hd⟩ : ∃ d, ds[k]? = some d := ⟨_, List.getElem?_eq_getElem (by omega)⟩
      obtain ⟨z0, z1, z2⟩ := (hA.go hbel).2 k d hd
      obtain ⟨hm, hokd⟩ := hmayall d (List.mem_of_getElem? hd)
      have N1 : ∀ W, Calls Tryz.prog 23 #[.agg #[.int .u8 d.1, .int .u64 d.2.1, .string d.2.2]] W fun e w' => e = .returned (.bool true) ∧ Below W.heap.size W w' := fun W => hm ▸ v_may d.1 d.2.1 d.2.2 hokd.1 hokd.2 W
      go_wp2_with (first | (go_at_call 23; with_reducible refine (N1 _).mono ?_; rintro e w1 ⟨rfl, hb1⟩; obtain ⟨hc1, hf1⟩ := bcell hb1) | (at_builtin; go_loud (refine wpList_append_own _ rfl _ _ 37 rfl (w.heap.size + 1) 22 i0 _ 1 1 Tryz.underlying37 hi hz0 hz1 hz2 rfl (by decide) _ _ _ rfl ((own_below (hown.alloc _) hb1).alloc _) ⟨w1.heap.size, 0, none⟩ 1 1 [.int .u8 d.1] rfl rfl ?c1 ?c2 ?c3 ?c4 ?c5 ?_)))
      case c1 =>
        intro j u hj
        rw [add_pl]
        exact (k_cell (k_new (by simp)) j).trans (by simpa using hj)
      case c2 => intro u hu; simp at hu; subst hu; rfl
      case c3 => unfold maxLen; omega
      case c4 => omega
      case c5 => have h1 := hbeR.size; have h2 := hb1.size; simp at h1 h2 ⊢; omega
      intro v' w3 hown' hgrow hnil
      have h9 : w.heap.size + 1 ≤ wr.heap.size := by have h1 := hbeR.size; simp at h1; omega
      have hbe1 : Below (w.heap.size + 1) (w.alloc R0) w1 := (hbeR.alloc h9 _).trans (hb1.mono (by simp; omega))
      have h10 := hb1.size
      simp at h10
      clear hc1 hf1
      go_wp2
      go_roundw
      case rel =>
        refine ⟨k + 1, by omega, by go_num, ?_, ?_⟩
        · rw [← kinds_step hd]; exact hown'
        · exact Below.grown (row := u6.ownBlock) (hbe1.alloc (by omega) _) hgrow (by simp; omega) (fun g hg => (hown.lt g hg).1)
      case measure => simp [intOf]; omega
    · obtain rfl : k = 2 := by omega
      have hds := HDS.out
      subst hds
      obtain ⟨a, c, rfl⟩ := own_shape hown
      obtain ⟨gk, rfl, hgk, hcell⟩ := kinds_own (ds := [(19, 0, s), (3, b, ⟨#[]⟩)]) hown (by decide)
      have hA1 := hA.go hbel
      have he : ∀ (W : World) (A : Addr) (n c : Nat), (binOp .eql 53 (.slice (some A) n c) (.slice none 0 0)).run Tryz.prog W = .ok (.bool false) W := fun _ _ _ _ => rfl
      clear hmayall
      go_wp2_with (first | (go_at_call 24; go_in))
      refine (c_functions _).mono ?_
      rintro e w1 ⟨v, xs, rfl, hT, hb1⟩
      obtain ⟨g, cap, rfl, hg, hgl⟩ := hT.owns.form (by decide)
      obtain ⟨p, gg, d, e1, e2, e3, hF, hKi, hD⟩ : ∃ p g d, xs[29 * 4 + 1]? = some p ∧ xs[29 * 4 + 2]? = some g ∧ xs[29 * 4 + 3]? = some d ∧ FixedAt w1 p 2 ∧ KindsOf w1 g 19 [.func 103, .func 52] ∧ d = .func (.func 110) #[] #[] := hT.texts 2 (by decide)
      subst hD
      have hc1 := hT.at e1
      have hc2 := hT.at e2
      have hc3 := hT.at e3
      clear hT e1 e2 e3
      obtain ⟨fa, fb, fc, rfl, ha⟩ := hF
      obtain ⟨o, i, r, cr, rfl, ho, hi', hr⟩ := hKi
      have hi2 : w1.heap[i]? = some (.cells #[.slice (some ⟨r, 0, none⟩) 2 cr] 91 (0, 0)) := hi'
      have hr2 : w1.heap[r]? = some (.cells #[.func (.func 103) #[] #[], .func (.func 52) #[] #[]] 34 (0, 0)) := hr
      have z0 : w1.cell? ⟨gk, 0, none⟩ = some (.int .u8 19) := (hb1.cell (p := ⟨gk, 0, none⟩) hgk).trans (hcell 0 _ rfl)
      have z1 : w1.cell? ⟨gk, 1, none⟩ = some (.int .u8 3) := (hb1.cell (p := ⟨gk, 1, none⟩) hgk).trans (hcell 1 _ rfl)
      have K1 := k_go K0 hb1
      have hA2 := hA1.go hb1
      clear hr hi'
      go_wp2_with (first | (go_at_call 85; with_reducible refine (c_fixed1 _ _ 2 _ 2 _ ha).mono ?_; rintro e w4 ⟨rfl, h4⟩; subst h4) | (go_at_call 91; with_reducible refine (c_kindsTW o i r cr c gk _ ho hi2 hr2 z0 z1).mono ?_; rintro e w4 ⟨rfl, h4⟩; subst h4) | (go_at_call 110; go_loud (with_reducible refine (ND 0 _ hA2).mono ?_); rintro e w5 ⟨rfl, hb5⟩; have K2 := k_go K1 hb5; have y0 := k_cv K2 0 rfl; have y1 := k_cv K2 1 rfl; have y2 := k_cv K2 2 rfl; have g0 := k_fr K2 0; have g1 := k_fr K2 1; have g2 := k_fr K2 2; have l2 := k_lt K2; simp only [List.getElem_toArray, List.getElem_cons_succ, List.getElem_cons_zero] at y0 y1 y2))
      all_goals
        refine bodyPost_ret (v := .tuple #[.agg #[.int .u8 (R).1, .int .u64 (R).2.1, .string (R).2.2.1], .int .i64 (R).2.2.2]) ?hr rfl ⟨rfl, ?hB⟩
        case hB => repeat (first | exact hbel | apply b_al | (refine b_st ?_ ?hg _; case hg => exact Nat.le_refl _) | (refine b_go ?_ (by assumption)))
        case hr =>
          have q := fun (y0 y1 y2 : Value) => set3 (w1 := w5) (g := w.heap.size) K2 y0 y1 y2
          have q0 := fun (y0 y1 y2 : Value) => (q y0 y1 y2).1
          have q1 := fun (y0 y1 y2 : Value) => (q y0 y1 y2).2.1
          have q2 := fun (y0 y1 y2 : Value) => (q y0 y1 y2).2.2
          clear q
          simp [results, Tryz.results13, go_sem, l2, q0, q1, q2]
          have hz := HZ.out
          grind
theorem call_concat (l cl : Nat) (x y : ByteArray) (w : World) (hA : Args w l [(19, 0, x), (19, 0, y)]) (hx : x.size ≤ 254) (hy : y.size ≤ 254) (hmayall : ∀ d ∈ ([(19, 0, x), (19, 0, y)] : List Val), mayD d = true ∧ OkV d) :
    Calls Tryz.prog 13 #[.int .i64 31, .slice (some ⟨l, 0, none⟩) 2 cl] w fun e w' => e = .returned (.tuple #[.agg #[.int .u8 (textV ((⟨#[]⟩ : ByteArray) ++ x ++ y)).1, .int .u64 (textV ((⟨#[]⟩ : ByteArray) ++ x ++ y)).2.1, .string (textV ((⟨#[]⟩ : ByteArray) ++ x ++ y)).2.2.1], .int .i64 (textV ((⟨#[]⟩ : ByteArray) ++ x ++ y)).2.2.2]) ∧ Below w.heap.size w w' := by
  obtain ⟨i0, hi, hz0, hz1, hz2⟩ := info_parts (show (Tryz.prog.info? 22).map (fun i => (i.zero, i.size, i.bytes)) = some (some (.int .u8 0), 1, 1) by kernel_rfl)
  have ND : ∀ (la : Nat) (W : World), Args W l [(19, 0, x), (19, 0, y)] → Calls Tryz.prog 114 #[.slice (some ⟨l, 0, none⟩) 2 cl] W fun e w' => e = .returned (.tuple #[.agg #[.int .u8 (textV ((⟨#[]⟩ : ByteArray) ++ x ++ y)).1, .int .u64 (textV ((⟨#[]⟩ : ByteArray) ++ x ++ y)).2.1, .string (textV ((⟨#[]⟩ : ByteArray) ++ x ++ y)).2.2.1], .int .i64 (textV ((⟨#[]⟩ : ByteArray) ++ x ++ y)).2.2.2]) ∧ Below W.heap.size W w' := fun _ W h => c_concat l cl x y W h hx hy
  obtain ⟨R, hR⟩ : ∃ R, textV ((⟨#[]⟩ : ByteArray) ++ x ++ y) = R := ⟨_, rfl⟩
  have hz : R.2.2.2 ≠ 0 → R = (0, 0, ⟨#[]⟩, R.2.2.2) := by subst hR; unfold textV; split <;> simp
  rw [hR] at ND ⊢
  have HZ := Lib.hid hz
  clear hz hR
  obtain ⟨ds, hds⟩ : ∃ ds : List Val, [(19, 0, x), (19, 0, y)] = ds := ⟨_, rfl⟩
  have hn : ds.length = 2 := by subst hds; rfl
  rw [hds] at hA hmayall
  have HDS := Lib.hid hds
  clear hds hx hy
  go_enter Tryz.func13, Tryz.ntmps13
  go_wp2_with fail
  go_loopw [6, 16] (fun u i wr => ∃ k : Nat, k ≤ 2 ∧ i = .int .i64 k ∧ wr.ownsRow (w.heap.size + 1) 22 1 u k ((kindsOf ds).take k) ∧ Below (w.heap.size + 1) (w.alloc R0) wr) (fun _ i _ => 2 - (intOf i).toNat)
  case atStart => exact ⟨0, by omega, rfl, World.ownsRow_nil _ _ _ _, Below.refl _ _⟩
  case round =>
    obtain ⟨k, hk, rfl, hown, hbeR⟩ := hrel
    have hbel : Below w.heap.size w wr := b_go (b_al (Below.refl _ _) _) (by rw [alloc_size]; exact hbeR)
    have K0 : wr.heap[w.heap.size]? = some R0 := k_go (k_new rfl) (by rw [alloc_size]; exact hbeR)
    by_cases hkn : k < 2
    · obtain ⟨d, hd⟩ : ∃ d, ds[k]? = some d := ⟨_, List.getElem?_eq_getElem (by omega)⟩
      obtain ⟨z0, z1, z2⟩ := (hA.go hbel).2 k d hd
      obtain ⟨hm, hokd⟩ := hmayall d (List.mem_of_getElem? hd)
      have N1 : ∀ W, Calls Tryz.prog 23 #[.agg #[.int .u8 d.1, .int .u64 d.2.1, .string d.2.2]] W fun e w' => e = .returned (.bool true) ∧ Below W.heap.size W w' := fun W => hm ▸ v_may d.1 d.2.1 d.2.2 hokd.1 hokd.2 W
      go_wp2_with (first | (go_at_call 23; with_reducible refine (N1 _).mono ?_; rintro e w1 ⟨rfl, hb1⟩; obtain ⟨hc1, hf1⟩ := bcell hb1) | (at_builtin; go_loud (refine wpList_append_own _ rfl _ _ 37 rfl (w.heap.size + 1) 22 i0 _ 1 1 Tryz.underlying37 hi hz0 hz1 hz2 rfl (by decide) _ _ _ rfl ((own_below (hown.alloc _) hb1).alloc _) ⟨w1.heap.size, 0, none⟩ 1 1 [.int .u8 d.1] rfl rfl ?c1 ?c2 ?c3 ?c4 ?c5 ?_)))
      case c1 =>
        intro j u hj
        rw [add_pl]
        exact (k_cell (k_new (by simp)) j).trans (by simpa using hj)
      case c2 => intro u hu; simp at hu; subst hu; rfl
      case c3 => unfold maxLen; omega
      case c4 => omega
      case c5 => have h1 := hbeR.size; have h2 := hb1.size; simp at h1 h2 ⊢; omega
      intro v' w3 hown' hgrow hnil
      have h9 : w.heap.size + 1 ≤ wr.heap.size := by have h1 := hbeR.size; simp at h1; omega
      have hbe1 : Below (w.heap.size + 1) (w.alloc R0) w1 := (hbeR.alloc h9 _).trans (hb1.mono (by simp; omega))
      have h10 := hb1.size
      simp at h10
      clear hc1 hf1
      go_wp2
      go_roundw
      case rel =>
        refine ⟨k + 1, by omega, by go_num, ?_, ?_⟩
        · rw [← kinds_step hd]; exact hown'
        · exact Below.grown (row := u6.ownBlock) (hbe1.alloc (by omega) _) hgrow (by simp; omega) (fun g hg => (hown.lt g hg).1)
      case measure => simp [intOf]; omega
    · obtain rfl : k = 2 := by omega
      have hds := HDS.out
      subst hds
      obtain ⟨a, c, rfl⟩ := own_shape hown
      obtain ⟨gk, rfl, hgk, hcell⟩ := kinds_own (ds := [(19, 0, x), (19, 0, y)]) hown (by decide)
      have hA1 := hA.go hbel
      have he : ∀ (W : World) (A : Addr) (n c : Nat), (binOp .eql 53 (.slice (some A) n c) (.slice none 0 0)).run Tryz.prog W = .ok (.bool false) W := fun _ _ _ _ => rfl
      clear hmayall
      go_wp2_with (first | (go_at_call 24; go_in))
      refine (c_functions _).mono ?_
      rintro e w1 ⟨v, xs, rfl, hT, hb1⟩
      obtain ⟨g, cap, rfl, hg, hgl⟩ := hT.owns.form (by decide)
      obtain ⟨p, gg, d, e1, e2, e3, hF, hKi, hD⟩ : ∃ p g d, xs[31 * 4 + 1]? = some p ∧ xs[31 * 4 + 2]? = some g ∧ xs[31 * 4 + 3]? = some d ∧ p = .func (.func 30) #[] #[] ∧ g = .func (.func 113) #[] #[] ∧ d = .func (.func 114) #[] #[] := hT.texts 4 (by decide)
      subst hF hKi hD
      have hc1 := hT.at e1
      have hc2 := hT.at e2
      have hc3 := hT.at e3
      clear hT e1 e2 e3
      have z0 : w1.cell? ⟨gk, 0, none⟩ = some (.int .u8 19) := (hb1.cell (p := ⟨gk, 0, none⟩) hgk).trans (hcell 0 _ rfl)
      have z1 : w1.cell? ⟨gk, 1, none⟩ = some (.int .u8 19) := (hb1.cell (p := ⟨gk, 1, none⟩) hgk).trans (hcell 1 _ rfl)
      have K1 := k_go K0 hb1
      have hA2 := hA1.go hb1
      have hg1 : gk < w1.heap.size := Nat.lt_of_lt_of_le hgk hb1.size
      go_wp2_with (first | (go_at_call 30; with_reducible refine (c_many2 _).mono ?_; rintro e w4 ⟨⟨gm, cm, rfl⟩, hb4⟩; have c2 := (hb4.cell (p := ⟨g, 31 * 4 + 2, none⟩) hgl).trans hc2; have c3 := (hb4.cell (p := ⟨g, 31 * 4 + 3, none⟩) hgl).trans hc3; have K3 := k_go K1 hb4) | (go_at_call 113; with_reducible refine (c_texts6 gk c _ ((hb4.cell (p := ⟨gk, 0, none⟩) hg1).trans z0) ((hb4.cell (p := ⟨gk, 1, none⟩) hg1).trans z1)).mono ?_; rintro e w6 ⟨rfl, h6⟩; subst h6) | (go_at_call 114; go_loud (with_reducible refine (ND 0 _ (hA2.go hb4)).mono ?_); rintro e w5 ⟨rfl, hb5⟩; have K2 := k_go K3 hb5; have y0 := k_cv K2 0 rfl; have y1 := k_cv K2 1 rfl; have y2 := k_cv K2 2 rfl; have g0 := k_fr K2 0; have g1 := k_fr K2 1; have g2 := k_fr K2 2; have l2 := k_lt K2; simp only [List.getElem_toArray, List.getElem_cons_succ, List.getElem_cons_zero] at y0 y1 y2))
      all_goals
        refine bodyPost_ret (v := .tuple #[.agg #[.int .u8 (R).1, .int .u64 (R).2.1, .string (R).2.2.1], .int .i64 (R).2.2.2]) ?hr rfl ⟨rfl, ?hB⟩
        case hB => repeat (first | exact hbel | apply b_al | (refine b_st ?_ ?hg _; case hg => exact Nat.le_refl _) | (refine b_go ?_ (by assumption)))
        case hr =>
          have q := fun (y0 y1 y2 : Value) => set3 (w1 := w5) (g := w.heap.size) K2 y0 y1 y2
          have q0 := fun (y0 y1 y2 : Value) => (q y0 y1 y2).1
          have q1 := fun (y0 y1 y2 : Value) => (q y0 y1 y2).2.1
          have q2 := fun (y0 y1 y2 : Value) => (q y0 y1 y2).2.2
          clear q
          simp [results, Tryz.results13, go_sem, l2, q0, q1, q2]
          have hz := HZ.out
          grind
theorem call_insert (l cl : Nat) (s t : ByteArray) (b : Int) (w : World) (hA : Args w l [(19, 0, s), (19, 0, t), (3, b, ⟨#[]⟩)]) (h0 : 0 ≤ b) (h1 : b ≤ s.size) (hs : s.size ≤ 254) (ht : t.size ≤ 254) (hmayall : ∀ d ∈ ([(19, 0, s), (19, 0, t), (3, b, ⟨#[]⟩)] : List Val), mayD d = true ∧ OkV d) :
    Calls Tryz.prog 13 #[.int .i64 32, .slice (some ⟨l, 0, none⟩) 3 cl] w fun e w' => e = .returned (.tuple #[.agg #[.int .u8 (textV (s.extract 0 b.toNat ++ t ++ s.extract b.toNat s.size)).1, .int .u64 (textV (s.extract 0 b.toNat ++ t ++ s.extract b.toNat s.size)).2.1, .string (textV (s.extract 0 b.toNat ++ t ++ s.extract b.toNat s.size)).2.2.1], .int .i64 (textV (s.extract 0 b.toNat ++ t ++ s.extract b.toNat s.size)).2.2.2]) ∧ Below w.heap.size w w' := by
  obtain ⟨i0, hi, hz0, hz1, hz2⟩ := info_parts (show (Tryz.prog.info? 22).map (fun i => (i.zero, i.size, i.bytes)) = some (some (.int .u8 0), 1, 1) by kernel_rfl)
  have ND : ∀ (la : Nat) (W : World), Args W l [(19, 0, s), (19, 0, t), (3, b, ⟨#[]⟩)] → Calls Tryz.prog 115 #[.slice (some ⟨l, 0, none⟩) 3 cl] W fun e w' => e = .returned (.tuple #[.agg #[.int .u8 (textV (s.extract 0 b.toNat ++ t ++ s.extract b.toNat s.size)).1, .int .u64 (textV (s.extract 0 b.toNat ++ t ++ s.extract b.toNat s.size)).2.1, .string (textV (s.extract 0 b.toNat ++ t ++ s.extract b.toNat s.size)).2.2.1], .int .i64 (textV (s.extract 0 b.toNat ++ t ++ s.extract b.toNat s.size)).2.2.2]) ∧ Below W.heap.size W w' := fun _ W h => c_insert l cl s t b W h h0 h1 hs ht
  obtain ⟨R, hR⟩ : ∃ R, textV (s.extract 0 b.toNat ++ t ++ s.extract b.toNat s.size) = R := ⟨_, rfl⟩
  have hz : R.2.2.2 ≠ 0 → R = (0, 0, ⟨#[]⟩, R.2.2.2) := by subst hR; unfold textV; split <;> simp
  rw [hR] at ND ⊢
  have HZ := Lib.hid hz
  clear hz hR
  obtain ⟨ds, hds⟩ : ∃ ds : List Val, [(19, 0, s), (19, 0, t), (3, b, ⟨#[]⟩)] = ds := ⟨_, rfl⟩
  have hn : ds.length = 3 := by subst hds; rfl
  rw [hds] at hA hmayall
  have HDS := Lib.hid hds
  clear hds h0 h1 hs ht
  go_enter Tryz.func13, Tryz.ntmps13
  go_wp2_with fail
  go_loopw [6, 16] (fun u i wr => ∃ k : Nat, k ≤ 3 ∧ i = .int .i64 k ∧ wr.ownsRow (w.heap.size + 1) 22 1 u k ((kindsOf ds).take k) ∧ Below (w.heap.size + 1) (w.alloc R0) wr) (fun _ i _ => 3 - (intOf i).toNat)
  case atStart => exact ⟨0, by omega, rfl, World.ownsRow_nil _ _ _ _, Below.refl _ _⟩
  case round =>
    obtain ⟨k, hk, rfl, hown, hbeR⟩ := hrel
    have hbel : Below w.heap.size w wr := b_go (b_al (Below.refl _ _) _) (by rw [alloc_size]; exact hbeR)
    have K0 : wr.heap[w.heap.size]? = some R0 := k_go (k_new rfl) (by rw [alloc_size]; exact hbeR)
    by_cases hkn : k < 3
    · obtain ⟨d, hd⟩ : ∃ d, ds[k]? = some d := ⟨_, List.getElem?_eq_getElem (by omega)⟩
      obtain ⟨z0, z1, z2⟩ := (hA.go hbel).2 k d hd
      obtain ⟨hm, hokd⟩ := hmayall d (List.mem_of_getElem? hd)
      have N1 : ∀ W, Calls Tryz.prog 23 #[.agg #[.int .u8 d.1, .int .u64 d.2.1, .string d.2.2]] W fun e w' => e = .returned (.bool true) ∧ Below W.heap.size W w' := fun W => hm ▸ v_may d.1 d.2.1 d.2.2 hokd.1 hokd.2 W
      go_wp2_with (first | (go_at_call 23; with_reducible refine (N1 _).mono ?_; rintro e w1 ⟨rfl, hb1⟩; obtain ⟨hc1, hf1⟩ := bcell hb1) | (at_builtin; go_loud (refine wpList_append_own _ rfl _ _ 37 rfl (w.heap.size + 1) 22 i0 _ 1 1 Tryz.underlying37 hi hz0 hz1 hz2 rfl (by decide) _ _ _ rfl ((own_below (hown.alloc _) hb1).alloc _) ⟨w1.heap.size, 0, none⟩ 1 1 [.int .u8 d.1] rfl rfl ?c1 ?c2 ?c3 ?c4 ?c5 ?_)))
      case c1 =>
        intro j u hj
        rw [add_pl]
        exact (k_cell (k_new (by simp)) j).trans (by simpa using hj)
      case c2 => intro u hu; simp at hu; subst hu; rfl
      case c3 => unfold maxLen; omega
      case c4 => omega
      case c5 => have h1 := hbeR.size; have h2 := hb1.size; simp at h1 h2 ⊢; omega
      intro v' w3 hown' hgrow hnil
      have h9 : w.heap.size + 1 ≤ wr.heap.size := by have h1 := hbeR.size; simp at h1; omega
      have hbe1 : Below (w.heap.size + 1) (w.alloc R0) w1 := (hbeR.alloc h9 _).trans (hb1.mono (by simp; omega))
      have h10 := hb1.size
      simp at h10
      clear hc1 hf1
      go_wp2
      go_roundw
      case rel =>
        refine ⟨k + 1, by omega, by go_num, ?_, ?_⟩
        · rw [← kinds_step hd]; exact hown'
        · exact Below.grown (row := u6.ownBlock) (hbe1.alloc (by omega) _) hgrow (by simp; omega) (fun g hg => (hown.lt g hg).1)
      case measure => simp [intOf]; omega
    · obtain rfl : k = 3 := by omega
      have hds := HDS.out
      subst hds
      obtain ⟨a, c, rfl⟩ := own_shape hown
      obtain ⟨gk, rfl, hgk, hcell⟩ := kinds_own (ds := [(19, 0, s), (19, 0, t), (3, b, ⟨#[]⟩)]) hown (by decide)
      have hA1 := hA.go hbel
      have he : ∀ (W : World) (A : Addr) (n c : Nat), (binOp .eql 53 (.slice (some A) n c) (.slice none 0 0)).run Tryz.prog W = .ok (.bool false) W := fun _ _ _ _ => rfl
      clear hmayall
      go_wp2_with (first | (go_at_call 24; go_in))
      refine (c_functions _).mono ?_
      rintro e w1 ⟨v, xs, rfl, hT, hb1⟩
      obtain ⟨g, cap, rfl, hg, hgl⟩ := hT.owns.form (by decide)
      obtain ⟨p, gg, d, e1, e2, e3, hF, hKi, hD⟩ : ∃ p g d, xs[32 * 4 + 1]? = some p ∧ xs[32 * 4 + 2]? = some g ∧ xs[32 * 4 + 3]? = some d ∧ FixedAt w1 p 3 ∧ KindsOf w1 g 19 [.func 103, .func 103, .func 52] ∧ d = .func (.func 115) #[] #[] := hT.texts 5 (by decide)
      subst hD
      have hc1 := hT.at e1
      have hc2 := hT.at e2
      have hc3 := hT.at e3
      clear hT e1 e2 e3
      obtain ⟨fa, fb, fc, rfl, ha⟩ := hF
      obtain ⟨o, i, r, cr, rfl, ho, hi', hr⟩ := hKi
      have hi2 : w1.heap[i]? = some (.cells #[.slice (some ⟨r, 0, none⟩) 3 cr] 91 (0, 0)) := hi'
      have hr2 : w1.heap[r]? = some (.cells #[.func (.func 103) #[] #[], .func (.func 103) #[] #[], .func (.func 52) #[] #[]] 34 (0, 0)) := hr
      have z0 : w1.cell? ⟨gk, 0, none⟩ = some (.int .u8 19) := (hb1.cell (p := ⟨gk, 0, none⟩) hgk).trans (hcell 0 _ rfl)
      have z1 : w1.cell? ⟨gk, 1, none⟩ = some (.int .u8 19) := (hb1.cell (p := ⟨gk, 1, none⟩) hgk).trans (hcell 1 _ rfl)
      have z2 : w1.cell? ⟨gk, 2, none⟩ = some (.int .u8 3) := (hb1.cell (p := ⟨gk, 2, none⟩) hgk).trans (hcell 2 _ rfl)
      have K1 := k_go K0 hb1
      have hA2 := hA1.go hb1
      clear hr hi'
      go_wp2_with (first | (go_at_call 85; with_reducible refine (c_fixed1 _ _ 3 _ 3 _ ha).mono ?_; rintro e w4 ⟨rfl, h4⟩; subst h4) | (go_at_call 91; with_reducible refine (c_kindsTTW o i r cr c gk _ ho hi2 hr2 z0 z1 z2).mono ?_; rintro e w4 ⟨rfl, h4⟩; subst h4) | (go_at_call 115; go_loud (with_reducible refine (ND 0 _ hA2).mono ?_); rintro e w5 ⟨rfl, hb5⟩; have K2 := k_go K1 hb5; have y0 := k_cv K2 0 rfl; have y1 := k_cv K2 1 rfl; have y2 := k_cv K2 2 rfl; have g0 := k_fr K2 0; have g1 := k_fr K2 1; have g2 := k_fr K2 2; have l2 := k_lt K2; simp only [List.getElem_toArray, List.getElem_cons_succ, List.getElem_cons_zero] at y0 y1 y2))
      all_goals
        refine bodyPost_ret (v := .tuple #[.agg #[.int .u8 (R).1, .int .u64 (R).2.1, .string (R).2.2.1], .int .i64 (R).2.2.2]) ?hr rfl ⟨rfl, ?hB⟩
        case hB => repeat (first | exact hbel | apply b_al | (refine b_st ?_ ?hg _; case hg => exact Nat.le_refl _) | (refine b_go ?_ (by assumption)))
        case hr =>
          have q := fun (y0 y1 y2 : Value) => set3 (w1 := w5) (g := w.heap.size) K2 y0 y1 y2
          have q0 := fun (y0 y1 y2 : Value) => (q y0 y1 y2).1
          have q1 := fun (y0 y1 y2 : Value) => (q y0 y1 y2).2.1
          have q2 := fun (y0 y1 y2 : Value) => (q y0 y1 y2).2.2
          clear q
          simp [results, Tryz.results13, go_sem, l2, q0, q1, q2]
          have hz := HZ.out
          grind
theorem call_delete (l cl : Nat) (s : ByteArray) (p n : Int) (w : World) (hA : Args w l [(19, 0, s), (3, n, ⟨#[]⟩), (3, p + 1, ⟨#[]⟩)]) (h0 : 0 ≤ p) (h1 : 0 ≤ n) (h2 : p + n ≤ s.size) (hs : s.size ≤ 254) (hmayall : ∀ d ∈ ([(19, 0, s), (3, n, ⟨#[]⟩), (3, p + 1, ⟨#[]⟩)] : List Val), mayD d = true ∧ OkV d) :
    Calls Tryz.prog 13 #[.int .i64 33, .slice (some ⟨l, 0, none⟩) 3 cl] w fun e w' => e = .returned (.tuple #[.agg #[.int .u8 (textV (s.extract 0 p.toNat ++ s.extract (p + n).toNat s.size)).1, .int .u64 (textV (s.extract 0 p.toNat ++ s.extract (p + n).toNat s.size)).2.1, .string (textV (s.extract 0 p.toNat ++ s.extract (p + n).toNat s.size)).2.2.1], .int .i64 (textV (s.extract 0 p.toNat ++ s.extract (p + n).toNat s.size)).2.2.2]) ∧ Below w.heap.size w w' := by
  obtain ⟨i0, hi, hz0, hz1, hz2⟩ := info_parts (show (Tryz.prog.info? 22).map (fun i => (i.zero, i.size, i.bytes)) = some (some (.int .u8 0), 1, 1) by kernel_rfl)
  have ND : ∀ (la : Nat) (W : World), Args W l [(19, 0, s), (3, n, ⟨#[]⟩), (3, p + 1, ⟨#[]⟩)] → Calls Tryz.prog 116 #[.slice (some ⟨l, 0, none⟩) 3 cl] W fun e w' => e = .returned (.tuple #[.agg #[.int .u8 (textV (s.extract 0 p.toNat ++ s.extract (p + n).toNat s.size)).1, .int .u64 (textV (s.extract 0 p.toNat ++ s.extract (p + n).toNat s.size)).2.1, .string (textV (s.extract 0 p.toNat ++ s.extract (p + n).toNat s.size)).2.2.1], .int .i64 (textV (s.extract 0 p.toNat ++ s.extract (p + n).toNat s.size)).2.2.2]) ∧ Below W.heap.size W w' := fun _ W h => c_delete l cl s p n W h h0 h1 h2 hs
  obtain ⟨R, hR⟩ : ∃ R, textV (s.extract 0 p.toNat ++ s.extract (p + n).toNat s.size) = R := ⟨_, rfl⟩
  have hz : R.2.2.2 ≠ 0 → R = (0, 0, ⟨#[]⟩, R.2.2.2) := by subst hR; unfold textV; split <;> simp
  rw [hR] at ND ⊢
  have HZ := Lib.hid hz
  clear hz hR
  obtain ⟨ds, hds⟩ : ∃ ds : List Val, [(19, 0, s), (3, n, ⟨#[]⟩), (3, p + 1, ⟨#[]⟩)] = ds := ⟨_, rfl⟩
  have hn : ds.length = 3 := by subst hds; rfl
  rw [hds] at hA hmayall
  have HDS := Lib.hid hds
  clear hds h0 h1 h2 hs
  go_enter Tryz.func13, Tryz.ntmps13
  go_wp2_with fail
  go_loopw [6, 16] (fun u i wr => ∃ k : Nat, k ≤ 3 ∧ i = .int .i64 k ∧ wr.ownsRow (w.heap.size + 1) 22 1 u k ((kindsOf ds).take k) ∧ Below (w.heap.size + 1) (w.alloc R0) wr) (fun _ i _ => 3 - (intOf i).toNat)
  case atStart => exact ⟨0, by omega, rfl, World.ownsRow_nil _ _ _ _, Below.refl _ _⟩
  case round =>
    obtain ⟨k, hk, rfl, hown, hbeR⟩ := hrel
    have hbel : Below w.heap.size w wr := b_go (b_al (Below.refl _ _) _) (by rw [alloc_size]; exact hbeR)
    have K0 : wr.heap[w.heap.size]? = some R0 := k_go (k_new rfl) (by rw [alloc_size]; exact hbeR)
    by_cases hkn : k < 3
    · obtain ⟨d, hd⟩ : ∃ d, ds[k]? = some d := ⟨_, List.getElem?_eq_getElem (by omega)⟩
      obtain ⟨z0, z1, z2⟩ := (hA.go hbel).2 k d hd
      obtain ⟨hm, hokd⟩ := hmayall d (List.mem_of_getElem? hd)
      have N1 : ∀ W, Calls Tryz.prog 23 #[.agg #[.int .u8 d.1, .int .u64 d.2.1, .string d.2.2]] W fun e w' => e = .returned (.bool true) ∧ Below W.heap.size W w' := fun W => hm ▸ v_may d.1 d.2.1 d.2.2 hokd.1 hokd.2 W
      go_wp2_with (first | (go_at_call 23; with_reducible refine (N1 _).mono ?_; rintro e w1 ⟨rfl, hb1⟩; obtain ⟨hc1, hf1⟩ := bcell hb1) | (at_builtin; go_loud (refine wpList_append_own _ rfl _ _ 37 rfl (w.heap.size + 1) 22 i0 _ 1 1 Tryz.underlying37 hi hz0 hz1 hz2 rfl (by decide) _ _ _ rfl ((own_below (hown.alloc _) hb1).alloc _) ⟨w1.heap.size, 0, none⟩ 1 1 [.int .u8 d.1] rfl rfl ?c1 ?c2 ?c3 ?c4 ?c5 ?_)))
      case c1 =>
        intro j u hj
        rw [add_pl]
        exact (k_cell (k_new (by simp)) j).trans (by simpa using hj)
      case c2 => intro u hu; simp at hu; subst hu; rfl
      case c3 => unfold maxLen; omega
      case c4 => omega
      case c5 => have h1 := hbeR.size; have h2 := hb1.size; simp at h1 h2 ⊢; omega
      intro v' w3 hown' hgrow hnil
      have h9 : w.heap.size + 1 ≤ wr.heap.size := by have h1 := hbeR.size; simp at h1; omega
      have hbe1 : Below (w.heap.size + 1) (w.alloc R0) w1 := (hbeR.alloc h9 _).trans (hb1.mono (by simp; omega))
      have h10 := hb1.size
      simp at h10
      clear hc1 hf1
      go_wp2
      go_roundw
      case rel =>
        refine ⟨k + 1, by omega, by go_num, ?_, ?_⟩
        · rw [← kinds_step hd]; exact hown'
        · exact Below.grown (row := u6.ownBlock) (hbe1.alloc (by omega) _) hgrow (by simp; omega) (fun g hg => (hown.lt g hg).1)
      case measure => simp [intOf]; omega
    · obtain rfl : k = 3 := by omega
      have hds := HDS.out
      subst hds
      obtain ⟨a, c, rfl⟩ := own_shape hown
      obtain ⟨gk, rfl, hgk, hcell⟩ := kinds_own (ds := [(19, 0, s), (3, n, ⟨#[]⟩), (3, p + 1, ⟨#[]⟩)]) hown (by decide)
      have hA1 := hA.go hbel
      have he : ∀ (W : World) (A : Addr) (n c : Nat), (binOp .eql 53 (.slice (some A) n c) (.slice none 0 0)).run Tryz.prog W = .ok (.bool false) W := fun _ _ _ _ => rfl
      clear hmayall
      go_wp2_with (first | (go_at_call 24; go_in))
      refine (c_functions _).mono ?_
      rintro e w1 ⟨v, xs, rfl, hT, hb1⟩
      obtain ⟨g, cap, rfl, hg, hgl⟩ := hT.owns.form (by decide)
      obtain ⟨p, gg, d, e1, e2, e3, hF, hKi, hD⟩ : ∃ p g d, xs[33 * 4 + 1]? = some p ∧ xs[33 * 4 + 2]? = some g ∧ xs[33 * 4 + 3]? = some d ∧ FixedAt w1 p 3 ∧ KindsOf w1 g 19 [.func 103, .func 52, .func 52] ∧ d = .func (.func 116) #[] #[] := hT.texts 6 (by decide)
      subst hD
      have hc1 := hT.at e1
      have hc2 := hT.at e2
      have hc3 := hT.at e3
      clear hT e1 e2 e3
      obtain ⟨fa, fb, fc, rfl, ha⟩ := hF
      obtain ⟨o, i, r, cr, rfl, ho, hi', hr⟩ := hKi
      have hi2 : w1.heap[i]? = some (.cells #[.slice (some ⟨r, 0, none⟩) 3 cr] 91 (0, 0)) := hi'
      have hr2 : w1.heap[r]? = some (.cells #[.func (.func 103) #[] #[], .func (.func 52) #[] #[], .func (.func 52) #[] #[]] 34 (0, 0)) := hr
      have z0 : w1.cell? ⟨gk, 0, none⟩ = some (.int .u8 19) := (hb1.cell (p := ⟨gk, 0, none⟩) hgk).trans (hcell 0 _ rfl)
      have z1 : w1.cell? ⟨gk, 1, none⟩ = some (.int .u8 3) := (hb1.cell (p := ⟨gk, 1, none⟩) hgk).trans (hcell 1 _ rfl)
      have z2 : w1.cell? ⟨gk, 2, none⟩ = some (.int .u8 3) := (hb1.cell (p := ⟨gk, 2, none⟩) hgk).trans (hcell 2 _ rfl)
      have K1 := k_go K0 hb1
      have hA2 := hA1.go hb1
      clear hr hi'
      go_wp2_with (first | (go_at_call 85; with_reducible refine (c_fixed1 _ _ 3 _ 3 _ ha).mono ?_; rintro e w4 ⟨rfl, h4⟩; subst h4) | (go_at_call 91; with_reducible refine (c_kindsTWW o i r cr c gk _ ho hi2 hr2 z0 z1 z2).mono ?_; rintro e w4 ⟨rfl, h4⟩; subst h4) | (go_at_call 116; go_loud (with_reducible refine (ND 0 _ hA2).mono ?_); rintro e w5 ⟨rfl, hb5⟩; have K2 := k_go K1 hb5; have y0 := k_cv K2 0 rfl; have y1 := k_cv K2 1 rfl; have y2 := k_cv K2 2 rfl; have g0 := k_fr K2 0; have g1 := k_fr K2 1; have g2 := k_fr K2 2; have l2 := k_lt K2; simp only [List.getElem_toArray, List.getElem_cons_succ, List.getElem_cons_zero] at y0 y1 y2))
      all_goals
        refine bodyPost_ret (v := .tuple #[.agg #[.int .u8 (R).1, .int .u64 (R).2.1, .string (R).2.2.1], .int .i64 (R).2.2.2]) ?hr rfl ⟨rfl, ?hB⟩
        case hB => repeat (first | exact hbel | apply b_al | (refine b_st ?_ ?hg _; case hg => exact Nat.le_refl _) | (refine b_go ?_ (by assumption)))
        case hr =>
          have q := fun (y0 y1 y2 : Value) => set3 (w1 := w5) (g := w.heap.size) K2 y0 y1 y2
          have q0 := fun (y0 y1 y2 : Value) => (q y0 y1 y2).1
          have q1 := fun (y0 y1 y2 : Value) => (q y0 y1 y2).2.1
          have q2 := fun (y0 y1 y2 : Value) => (q y0 y1 y2).2.2
          clear q
          simp [results, Tryz.results13, go_sem, l2, q0, q1, q2]
          have hz := HZ.out
          grind
end Go.Proofs.YtflhndjpfiklaaaGreatDoor.H
