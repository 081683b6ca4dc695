/- Contract of Call at a function that turns a row round. Condition: the values lie in memory. -/
import Derived.Test.YtflhndjpfiklaaaGreatDoorHStdJ
import Derived.Test.YtflhndjpfiklaaaGreatDoorHStdK
namespace Go.Proofs.YtflhndjpfiklaaaGreatDoor.H
set_option linter.unusedVariables false
set_option linter.unusedSimpArgs false
open Go.RowKit Go.Proofs.YtflhndjpfiklaaaGreatDoor.Plain
set_option maxHeartbeats 3200000
set_option maxRecDepth 100000
attribute [local go_sem] ext_from ext_bits cell_isSome un_neg_float
/-- A value that may be. -/
def mayD (d : Val) : Bool := mayB d.1 d.2.1 d.2.2
/-- Bits of 64. -/
def OkV (d : Val) : Prop := 0 ≤ d.2.1 ∧ d.2.1 < 18446744073709551616
/-- What Call gives for a function that turns a row round. -/
def callOut (up : Bool) (v0 v1 : Val) : Int × Int × ByteArray × Int :=
  if mayD v0 = true ∧ mayD v1 = true ∧ isRow v0.1 = true ∧ isWhole v1.1 = true then rotOut up v0.1 v0.2.1 v0.2.2 v1.1 v1.2.1 v1.2.2 else (0, 0, ⟨#[]⟩, 8)
theorem c_callRot (j : Nat) (up : Bool) (hj : j = 25 ∧ up = true ∨ j = 26 ∧ up = false) (l cl : Nat) (v0 v1 : Val) (w : World) (hA : Args w l [v0, v1]) (hv0 : OkV v0) (hv1 : OkV v1) :
    Calls Tryz.prog 13 #[.int .i64 j, .slice (some ⟨l, 0, none⟩) 2 cl] w fun e w' => e = .returned (.tuple #[.agg #[.int .u8 (callOut up v0 v1).1, .int .u64 (callOut up v0 v1).2.1, .string (callOut up v0 v1).2.2.1], .int .i64 (callOut up v0 v1).2.2.2]) ∧ Below w.heap.size w w' := by
  obtain ⟨i0, hi, hz0, hz1, hz2⟩ := info_parts (show (Tryz.prog.info? 22).map (fun i => (i.zero, i.size, i.bytes)) = some (some (.int .u8 0), 1, 1) by kernel_rfl)
  obtain ⟨ds, hds⟩ : ∃ ds, [v0, v1] = ds := ⟨_, rfl⟩
  have hn : ds.length = 2 := by subst hds; rfl
  have hok : ∀ d ∈ ds, OkV d := by subst hds; intro d hd; simp at hd; rcases hd with rfl | rfl <;> assumption
  have hnot : (∃ d ∈ ds, mayD d = false) → callOut up v0 v1 = (0, 0, ⟨#[]⟩, 8) := by
    subst hds
    rintro ⟨d, hd, hm⟩
    unfold callOut
    refine if_neg (fun h => ?_)
    simp at hd
    rcases hd with rfl | rfl
    · rw [h.1] at hm; cases hm
    · rw [h.2.1] at hm; cases hm
  rw [hds] at hA
  have HDS := Lib.hid hds
  clear hds hv0 hv1
  go_enter Tryz.func13, Tryz.ntmps13
  go_wp2_with fail
  go_loopw [6, 16] (fun u i wr => ∃ k : Nat, k ≤ 2 ∧ i = .int .i64 k ∧ wr.ownsRow (w.heap.size + 1) 22 1 u k ((kindsOf ds).take k) ∧ Below (w.heap.size + 1) (w.alloc R0) wr ∧ ∀ i d, i < k → ds[i]? = some d → mayD d = true) (fun _ i _ => 2 - (intOf i).toNat)
  case atStart => exact ⟨0, by omega, rfl, World.ownsRow_nil _ _ _ _, Below.refl _ _, fun i d h => absurd h (by omega)⟩
  case round =>
    obtain ⟨k, hk, rfl, hown, hbeR, hmay⟩ := hrel
    have hbel : Below w.heap.size w wr := b_go (b_al (Below.refl _ _) _) (by rw [alloc_size]; exact hbeR)
    have K0 : wr.heap[w.heap.size]? = some R0 := k_go (k_new rfl) (by rw [alloc_size]; exact hbeR)
    by_cases hkn : k < 2
    · obtain ⟨d, hd⟩ : ∃ d, ds[k]? = some d := ⟨_, List.getElem?_eq_getElem (by omega)⟩
      obtain ⟨z0, z1, z2⟩ := (hA.go hbel).2 k d hd
      have hokd := hok d (List.mem_of_getElem? hd)
      rcases Bool.eq_false_or_eq_true (mayD d) with hm | hm
      · have N1 : ∀ W, Calls Tryz.prog 23 #[.agg #[.int .u8 d.1, .int .u64 d.2.1, .string d.2.2]] W fun e w' => e = .returned (.bool true) ∧ Below W.heap.size W w' := fun W => hm ▸ v_may d.1 d.2.1 d.2.2 hokd.1 hokd.2 W
        go_wp2_with (first | (go_at_call 23; with_reducible refine (N1 _).mono ?_; rintro e w1 ⟨rfl, hb1⟩; obtain ⟨hc1, hf1⟩ := bcell hb1) | (at_builtin; go_loud (refine wpList_append_own _ rfl _ _ 37 rfl (w.heap.size + 1) 22 i0 _ 1 1 Tryz.underlying37 hi hz0 hz1 hz2 rfl (by decide) _ _ _ rfl ((own_below (hown.alloc _) hb1).alloc _) ⟨w1.heap.size, 0, none⟩ 1 1 [.int .u8 d.1] rfl rfl ?c1 ?c2 ?c3 ?c4 ?c5 ?_)))
        case c1 =>
          intro j u hj
          rw [add_pl]
          exact (k_cell (k_new (by simp)) j).trans (by simpa using hj)
        case c2 => intro u hu; simp at hu; subst hu; rfl
        case c3 => unfold maxLen; omega
        case c4 => omega
        case c5 => have h1 := hbeR.size; have h2 := hb1.size; simp at h1 h2 ⊢; omega
        intro v' w3 hown' hgrow hnil
        have h9 : w.heap.size + 1 ≤ wr.heap.size := by have h1 := hbeR.size; simp at h1; omega
        have hbe1 : Below (w.heap.size + 1) (w.alloc R0) w1 := (hbeR.alloc h9 _).trans (hb1.mono (by simp; omega))
        have h10 := hb1.size
        simp at h10
        clear hc1 hf1
        go_wp2
        go_roundw
        case rel =>
          refine ⟨k + 1, by omega, by go_num, ?_, ?_, fun i d' hi' hd' => ?_⟩
          · rw [← kinds_step hd]; exact hown'
          · exact Below.grown (row := u6.ownBlock) (hbe1.alloc (by omega) _) hgrow (by simp; omega) (fun g hg => (hown.lt g hg).1)
          · rcases Nat.lt_or_ge i k with c | c
            · exact hmay i d' c hd'
            · obtain rfl : i = k := by omega
              rw [hd] at hd'
              cases hd'
              exact hm
        case measure => simp [intOf]; omega
      · have N1 : ∀ W, Calls Tryz.prog 23 #[.agg #[.int .u8 d.1, .int .u64 d.2.1, .string d.2.2]] W fun e w' => e = .returned (.bool false) ∧ Below W.heap.size W w' := fun W => hm ▸ v_may d.1 d.2.1 d.2.2 hokd.1 hokd.2 W
        have HR := Lib.hid (hnot ⟨d, List.mem_of_getElem? hd, hm⟩)
        go_wp2_with (first | (go_at_call 23; with_reducible refine (N1 _).mono ?_; rintro e w1 ⟨rfl, hb1⟩; have K2 := k_go (k_al K0 _) hb1; have y0 := k_cv K2 0 rfl; have y1 := k_cv K2 1 rfl; have y2 := k_cv K2 2 rfl; have g0 := k_fr K2 0; have g1 := k_fr K2 1; have g2 := k_fr K2 2; have l2 := k_lt K2; simp only [List.getElem_toArray, List.getElem_cons_succ, List.getElem_cons_zero] at y0 y1 y2))
        refine bodyPost_ret (v := .tuple #[.agg #[.int .u8 (callOut up v0 v1).1, .int .u64 (callOut up v0 v1).2.1, .string (callOut up v0 v1).2.2.1], .int .i64 (callOut up v0 v1).2.2.2]) ?hr rfl ⟨rfl, ?hB⟩
        case hB => repeat (first | exact hbel | apply b_al | (refine b_st ?_ ?hg _; case hg => exact Nat.le_refl _) | (refine b_go ?_ (by assumption)))
        case hr =>
          have q := fun (y0 y1 y2 : Value) => set3 (w1 := w1) (g := w.heap.size) K2 y0 y1 y2
          have q0 := fun (y0 y1 y2 : Value) => (q y0 y1 y2).1
          have q1 := fun (y0 y1 y2 : Value) => (q y0 y1 y2).2.1
          have q2 := fun (y0 y1 y2 : Value) => (q y0 y1 y2).2.2
          clear q
          simp [results, Tryz.results13, go_sem, l2, q0, q1, q2, HR.out]
    · obtain rfl : k = 2 := by omega
      have hds := HDS.out
      subst hds
      obtain ⟨a, c, rfl⟩ := own_shape hown
      obtain ⟨gk, rfl, hgk, hcell⟩ := kinds_own (ds := [v0, v1]) hown (by decide)
      have hA1 := hA.go hbel
      have hm0 := hmay 0 v0 (by decide) rfl
      have hm1 := hmay 1 v1 (by decide) rfl
      have he : ∀ (W : World) (A : Addr) (n c : Nat), (binOp .eql 53 (.slice (some A) n c) (.slice none 0 0)).run Tryz.prog W = .ok (.bool false) W := fun _ _ _ _ => rfl
      rcases hj with ⟨rfl, rfl⟩ | ⟨rfl, rfl⟩
      · go_wp2_with (first | (go_at_call 24; go_in))
        refine (c_functions _).mono ?_
        rintro e w1 ⟨v, xs, rfl, hT, hb1⟩
        obtain ⟨g, cap, rfl, hg, hgl⟩ := hT.owns.form (by decide)
        obtain ⟨p, gg, d, e1, e2, e3, hF, hKi, hR⟩ := hT.rol
        have hc1 := hT.at e1
        have hc2 := hT.at e2
        have hc3 := hT.at e3
        clear hT e1 e2 e3
        obtain ⟨fa, fb, fc, rfl, ha⟩ := hF
        obtain ⟨o, i, r, cr, rfl, ho, hi', hr⟩ := hKi
        obtain ⟨ra, rfl, hra⟩ := hR
        go_wp2_with (first | (go_at_call 85; with_reducible refine (c_fixed1 _ _ 2 _ 2 _ ha).mono ?_; rintro e w2 ⟨rfl, rfl⟩))
        have hi2 : w2.heap[i]? = some (.cells #[.slice (some ⟨r, 0, none⟩) 2 cr] 91 (0, 0)) := hi'
        have hr2 : w2.heap[r]? = some (.cells #[.func (.func 54) #[] #[], .func (.func 52) #[] #[]] 34 (0, 0)) := hr
        have z0 : w2.cell? ⟨gk, 0, none⟩ = some (.int .u8 v0.1) := (hb1.cell (p := ⟨gk, 0, none⟩) hgk).trans (hcell 0 v0 rfl)
        have z1 : w2.cell? ⟨gk, 1, none⟩ = some (.int .u8 v1.1) := (hb1.cell (p := ⟨gk, 1, none⟩) hgk).trans (hcell 1 v1 rfl)
        have K1 := k_go K0 hb1
        by_cases hrow : isRow v0.1 = true ∧ isWhole v1.1 = true
        · have hR : rowOut 2 v0.1 v1.1 = .tuple #[.int .u8 v0.1, .bool true] := by unfold rowOut; rw [if_pos ⟨rfl, hrow.1, hrow.2⟩]
          have hk : 10 ≤ v0.1 ∧ v0.1 ≤ 13 := by have := hrow.1; simpa [isRow] using this
          obtain ⟨hl2, hAc⟩ := hA1.go hb1
          obtain ⟨c0, c1, c2⟩ := hAc 0 v0 rfl
          obtain ⟨c3, c4, c5⟩ := hAc 1 v1 rfl
          have ho0 := hok v0 (by simp)
          have ho1 := hok v1 (by simp)
          have N1 := c_rotate true ra l cl v0.1 v0.2.1 v0.2.2 v1.1 v1.2.1 v1.2.2 w2 hra hl2 c0 c1 c2 c3 c4 c5 hk.1 hk.2 ho0.1 ho0.2 hm0 ho1.1 ho1.2
          obtain ⟨R, hRR⟩ : ∃ R, rotOut true v0.1 v0.2.1 v0.2.2 v1.1 v1.2.1 v1.2.2 = R := ⟨_, rfl⟩
          have hE : callOut true v0 v1 = R := by rw [← hRR]; exact if_pos ⟨hm0, hm1, hrow.1, hrow.2⟩
          have hz : R.2.2.2 ≠ 0 → R = (0, 0, ⟨#[]⟩, R.2.2.2) := by subst hRR; unfold rotOut; split <;> simp
          rw [hRR] at N1
          have HE := Lib.hid hE
          have HZ := Lib.hid hz
          have HRR := Lib.hid hR
          clear hE hz hR hRR hrow hk hok hmay hnot hm0 hm1
          go_wp2_with (first | (go_at_call 91; with_reducible refine (c_kindsRow o i r cr c 2 _ gk v0.1 v1.1 _ ho hi2 hr2 (fun _ => ⟨rfl, z0, z1⟩)).mono ?_; rintro e w4 ⟨rfl, rfl⟩; rw [HRR.out]) | (go_at_call 100; go_loud (with_reducible refine N1.mono ?_); rintro e w5 ⟨rfl, hb5⟩; have K2 := k_go K1 hb5; have y0 := k_cv K2 0 rfl; have y1 := k_cv K2 1 rfl; have y2 := k_cv K2 2 rfl; have g0 := k_fr K2 0; have g1 := k_fr K2 1; have g2 := k_fr K2 2; have l2 := k_lt K2; simp only [List.getElem_toArray, List.getElem_cons_succ, List.getElem_cons_zero] at y0 y1 y2))
          all_goals
            refine bodyPost_ret (v := .tuple #[.agg #[.int .u8 (callOut true v0 v1).1, .int .u64 (callOut true v0 v1).2.1, .string (callOut true v0 v1).2.2.1], .int .i64 (callOut true v0 v1).2.2.2]) ?hr rfl ⟨rfl, ?hB⟩
            case hB => repeat (first | exact hbel | apply b_al | (refine b_st ?_ ?hg _; case hg => exact Nat.le_refl _) | (refine b_go ?_ (by assumption)))
            case hr =>
              have q := fun (y0 y1 y2 : Value) => set3 (w1 := w5) (g := w.heap.size) K2 y0 y1 y2
              have q0 := fun (y0 y1 y2 : Value) => (q y0 y1 y2).1
              have q1 := fun (y0 y1 y2 : Value) => (q y0 y1 y2).2.1
              have q2 := fun (y0 y1 y2 : Value) => (q y0 y1 y2).2.2
              clear q
              simp [results, Tryz.results13, go_sem, l2, q0, q1, q2, HE.out]
              have hz := HZ.out
              grind
        · have hR : rowOut 2 v0.1 v1.1 = .tuple #[.int .u8 0, .bool false] := by unfold rowOut; rw [if_neg (fun h => hrow h.2)]
          have HE := Lib.hid (show callOut true v0 v1 = (0, 0, ⟨#[]⟩, 8) from if_neg (fun h => hrow h.2.2))
          have HRR := Lib.hid hR
          clear hR hrow hok hmay hnot hm0 hm1
          have K2 := K1; have y0 := k_cv K2 0 rfl; have y1 := k_cv K2 1 rfl; have y2 := k_cv K2 2 rfl; have g0 := k_fr K2 0; have g1 := k_fr K2 1; have g2 := k_fr K2 2; have l2 := k_lt K2; simp only [List.getElem_toArray, List.getElem_cons_succ, List.getElem_cons_zero] at y0 y1 y2
          go_wp2_with (first | (go_at_call 91; with_reducible refine (c_kindsRow o i r cr c 2 _ gk v0.1 v1.1 _ ho hi2 hr2 (fun _ => ⟨rfl, z0, z1⟩)).mono ?_; rintro e w4 ⟨rfl, rfl⟩; rw [HRR.out]))
          all_goals
            refine bodyPost_ret (v := .tuple #[.agg #[.int .u8 (callOut true v0 v1).1, .int .u64 (callOut true v0 v1).2.1, .string (callOut true v0 v1).2.2.1], .int .i64 (callOut true v0 v1).2.2.2]) ?hr rfl ⟨rfl, ?hB⟩
            case hB => repeat (first | exact hbel | apply b_al | (refine b_st ?_ ?hg _; case hg => exact Nat.le_refl _) | (refine b_go ?_ (by assumption)))
            case hr =>
              have q := fun (y0 y1 y2 : Value) => set3 (w1 := w4) (g := w.heap.size) K2 y0 y1 y2
              have q0 := fun (y0 y1 y2 : Value) => (q y0 y1 y2).1
              have q1 := fun (y0 y1 y2 : Value) => (q y0 y1 y2).2.1
              have q2 := fun (y0 y1 y2 : Value) => (q y0 y1 y2).2.2
              clear q
              simp [results, Tryz.results13, go_sem, l2, q0, q1, q2, HE.out]
      · go_wp2_with (first | (go_at_call 24; go_in))
        refine (c_functions _).mono ?_
        rintro e w1 ⟨v, xs, rfl, hT, hb1⟩
        obtain ⟨g, cap, rfl, hg, hgl⟩ := hT.owns.form (by decide)
        obtain ⟨p, gg, d, e1, e2, e3, hF, hKi, hR⟩ := hT.ror
        have hc1 := hT.at e1
        have hc2 := hT.at e2
        have hc3 := hT.at e3
        clear hT e1 e2 e3
        obtain ⟨fa, fb, fc, rfl, ha⟩ := hF
        obtain ⟨o, i, r, cr, rfl, ho, hi', hr⟩ := hKi
        obtain ⟨ra, rfl, hra⟩ := hR
        go_wp2_with (first | (go_at_call 85; with_reducible refine (c_fixed1 _ _ 2 _ 2 _ ha).mono ?_; rintro e w2 ⟨rfl, rfl⟩))
        have hi2 : w2.heap[i]? = some (.cells #[.slice (some ⟨r, 0, none⟩) 2 cr] 91 (0, 0)) := hi'
        have hr2 : w2.heap[r]? = some (.cells #[.func (.func 54) #[] #[], .func (.func 52) #[] #[]] 34 (0, 0)) := hr
        have z0 : w2.cell? ⟨gk, 0, none⟩ = some (.int .u8 v0.1) := (hb1.cell (p := ⟨gk, 0, none⟩) hgk).trans (hcell 0 v0 rfl)
        have z1 : w2.cell? ⟨gk, 1, none⟩ = some (.int .u8 v1.1) := (hb1.cell (p := ⟨gk, 1, none⟩) hgk).trans (hcell 1 v1 rfl)
        have K1 := k_go K0 hb1
        by_cases hrow : isRow v0.1 = true ∧ isWhole v1.1 = true
        · have hR : rowOut 2 v0.1 v1.1 = .tuple #[.int .u8 v0.1, .bool true] := by unfold rowOut; rw [if_pos ⟨rfl, hrow.1, hrow.2⟩]
          have hk : 10 ≤ v0.1 ∧ v0.1 ≤ 13 := by have := hrow.1; simpa [isRow] using this
          obtain ⟨hl2, hAc⟩ := hA1.go hb1
          obtain ⟨c0, c1, c2⟩ := hAc 0 v0 rfl
          obtain ⟨c3, c4, c5⟩ := hAc 1 v1 rfl
          have ho0 := hok v0 (by simp)
          have ho1 := hok v1 (by simp)
          have N1 := c_rotate false ra l cl v0.1 v0.2.1 v0.2.2 v1.1 v1.2.1 v1.2.2 w2 hra hl2 c0 c1 c2 c3 c4 c5 hk.1 hk.2 ho0.1 ho0.2 hm0 ho1.1 ho1.2
          obtain ⟨R, hRR⟩ : ∃ R, rotOut false v0.1 v0.2.1 v0.2.2 v1.1 v1.2.1 v1.2.2 = R := ⟨_, rfl⟩
          have hE : callOut false v0 v1 = R := by rw [← hRR]; exact if_pos ⟨hm0, hm1, hrow.1, hrow.2⟩
          have hz : R.2.2.2 ≠ 0 → R = (0, 0, ⟨#[]⟩, R.2.2.2) := by subst hRR; unfold rotOut; split <;> simp
          rw [hRR] at N1
          have HE := Lib.hid hE
          have HZ := Lib.hid hz
          have HRR := Lib.hid hR
          clear hE hz hR hRR hrow hk hok hmay hnot hm0 hm1
          go_wp2_with (first | (go_at_call 91; with_reducible refine (c_kindsRow o i r cr c 2 _ gk v0.1 v1.1 _ ho hi2 hr2 (fun _ => ⟨rfl, z0, z1⟩)).mono ?_; rintro e w4 ⟨rfl, rfl⟩; rw [HRR.out]) | (go_at_call 100; go_loud (with_reducible refine N1.mono ?_); rintro e w5 ⟨rfl, hb5⟩; have K2 := k_go K1 hb5; have y0 := k_cv K2 0 rfl; have y1 := k_cv K2 1 rfl; have y2 := k_cv K2 2 rfl; have g0 := k_fr K2 0; have g1 := k_fr K2 1; have g2 := k_fr K2 2; have l2 := k_lt K2; simp only [List.getElem_toArray, List.getElem_cons_succ, List.getElem_cons_zero] at y0 y1 y2))
          all_goals
            refine bodyPost_ret (v := .tuple #[.agg #[.int .u8 (callOut false v0 v1).1, .int .u64 (callOut false v0 v1).2.1, .string (callOut false v0 v1).2.2.1], .int .i64 (callOut false v0 v1).2.2.2]) ?hr rfl ⟨rfl, ?hB⟩
            case hB => repeat (first | exact hbel | apply b_al | (refine b_st ?_ ?hg _; case hg => exact Nat.le_refl _) | (refine b_go ?_ (by assumption)))
            case hr =>
              have q := fun (y0 y1 y2 : Value) => set3 (w1 := w5) (g := w.heap.size) K2 y0 y1 y2
              have q0 := fun (y0 y1 y2 : Value) => (q y0 y1 y2).1
              have q1 := fun (y0 y1 y2 : Value) => (q y0 y1 y2).2.1
              have q2 := fun (y0 y1 y2 : Value) => (q y0 y1 y2).2.2
              clear q
              simp [results, Tryz.results13, go_sem, l2, q0, q1, q2, HE.out]
              have hz := HZ.out
              grind
        · have hR : rowOut 2 v0.1 v1.1 = .tuple #[.int .u8 0, .bool false] := by unfold rowOut; rw [if_neg (fun h => hrow h.2)]
          have HE := Lib.hid (show callOut false v0 v1 = (0, 0, ⟨#[]⟩, 8) from if_neg (fun h => hrow h.2.2))
          have HRR := Lib.hid hR
          clear hR hrow hok hmay hnot hm0 hm1
          have K2 := K1; have y0 := k_cv K2 0 rfl; have y1 := k_cv K2 1 rfl; have y2 := k_cv K2 2 rfl; have g0 := k_fr K2 0; have g1 := k_fr K2 1; have g2 := k_fr K2 2; have l2 := k_lt K2; simp only [List.getElem_toArray, List.getElem_cons_succ, List.getElem_cons_zero] at y0 y1 y2
          go_wp2_with (first | (go_at_call 91; with_reducible refine (c_kindsRow o i r cr c 2 _ gk v0.1 v1.1 _ ho hi2 hr2 (fun _ => ⟨rfl, z0, z1⟩)).mono ?_; rintro e w4 ⟨rfl, rfl⟩; rw [HRR.out]))
          all_goals
            refine bodyPost_ret (v := .tuple #[.agg #[.int .u8 (callOut false v0 v1).1, .int .u64 (callOut false v0 v1).2.1, .string (callOut false v0 v1).2.2.1], .int .i64 (callOut false v0 v1).2.2.2]) ?hr rfl ⟨rfl, ?hB⟩
            case hB => repeat (first | exact hbel | apply b_al | (refine b_st ?_ ?hg _; case hg => exact Nat.le_refl _) | (refine b_go ?_ (by assumption)))
            case hr =>
              have q := fun (y0 y1 y2 : Value) => set3 (w1 := w4) (g := w.heap.size) K2 y0 y1 y2
              have q0 := fun (y0 y1 y2 : Value) => (q y0 y1 y2).1
              have q1 := fun (y0 y1 y2 : Value) => (q y0 y1 y2).2.1
              have q2 := fun (y0 y1 y2 : Value) => (q y0 y1 y2).2.2
              clear q
              simp [results, Tryz.results13, go_sem, l2, q0, q1, q2, HE.out]
end Go.Proofs.YtflhndjpfiklaaaGreatDoor.H
