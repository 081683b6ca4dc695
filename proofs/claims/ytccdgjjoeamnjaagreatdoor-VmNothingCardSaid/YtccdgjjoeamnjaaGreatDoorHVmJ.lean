/- Contracts for VmNothing: a step of the document's machine over one code that only returns. Conditions: as the machine lies in memory. -/
import Derived.Test.YtccdgjjoeamnjaaGreatDoorHVmI
namespace Go.Proofs.YtccdgjjoeamnjaaGreatDoor.H
set_option linter.unusedVariables false
set_option linter.unusedSimpArgs false
open Go.RowKit Go.Proofs.YtccdgjjoeamnjaaGreatDoor.Plain
set_option maxHeartbeats 3200000
set_option maxRecDepth 100000
attribute [local go_sem] ext_from ext_bits cell_isSome un_neg_float dn_size dn_alloc dn_set
abbrev flR (O : Nat) : Value := .agg #[.string ⟨#[]⟩, .int .i64 0, .int .i64 0, .int .i64 0, .int .i64 0, .int .i64 0, .slice (some ⟨O, 0, none⟩) 1 1, .slice none 0 0]
theorem r_uses (w : World) : Calls Tryz.prog 56 #[opR] w fun e w' => e = .returned (.slice none 0 0) ∧ Below w.heap.size w w' := by
  go_enter Tryz.func56, Tryz.ntmps56
  go_wp2
  go_ret
  exact ⟨rfl, by (repeat (first | exact Below.refl _ _ | apply b_al | (refine b_st ?_ ?hg _; case hg => omega) | (refine b_go ?_ (by assumption))))⟩
theorem r_gives (w : World) : Calls Tryz.prog 57 #[opR] w fun e w' => e = .returned (.int .i64 (-1)) ∧ Below w.heap.size w w' := by
  go_enter Tryz.func57, Tryz.ntmps57
  go_wp2
  go_ret
  exact ⟨rfl, by (repeat (first | exact Below.refl _ _ | apply b_al | (refine b_st ?_ ?hg _; case hg => omega) | (refine b_go ?_ (by assumption))))⟩
theorem r_right (O : Nat) (w : World) : Calls Tryz.prog 34 #[opR, flR O] w fun e w' => e = .returned (.bool true) ∧ Below w.heap.size w w' := by
  go_enter Tryz.func34, Tryz.ntmps34
  go_wp2_with fail
  refine (r_uses _).mono ?_
  rintro e w1 ⟨rfl, hb1⟩
  have hT1 : w1.heap[w.heap.size]? = some (.cells #[.int .i64 21, .int .i64 0, .int .i64 0, .int .i64 0, .int .i64 0, .int .i64 0, .int .i64 0, .int .u8 0, .int .u64 0, .string ⟨#[]⟩] 30 (0, 0)) := k_go (k_al (k_new rfl) _) hb1
  have t0 := k_cv hT1 0 rfl
  have t1 := k_cv hT1 1 rfl
  have t2 := k_cv hT1 2 rfl
  have t3 := k_cv hT1 3 rfl
  have t4 := k_cv hT1 4 rfl
  have t5 := k_cv hT1 5 rfl
  have t6 := k_cv hT1 6 rfl
  have t7 := k_cv hT1 7 rfl
  have t8 := k_cv hT1 8 rfl
  have t9 := k_cv hT1 9 rfl
  simp only [List.getElem_toArray, List.getElem_cons_succ, List.getElem_cons_zero] at t0 t1 t2 t3 t4 t5 t6 t7 t8 t9
  have l1 := k_lt hT1
  have HT1 := Lib.hid hT1
  clear hT1
  have bb1 : Below w.heap.size w w1 := by (repeat (first | exact Below.refl _ _ | apply b_al | (refine b_st ?_ ?hg _; case hg => omega) | (refine b_go ?_ (by assumption))))
  clear hb1
  go_wp2_with fail
  refine (r_gives _).mono ?_
  rintro e w2 ⟨rfl, hb2⟩
  have hT2 : w2.heap[w.heap.size]? = some (.cells #[.int .i64 21, .int .i64 0, .int .i64 0, .int .i64 0, .int .i64 0, .int .i64 0, .int .i64 0, .int .u8 0, .int .u64 0, .string ⟨#[]⟩] 30 (0, 0)) := k_go (k_al HT1.out _) hb2
  have u0 := k_cv hT2 0 rfl
  have u1 := k_cv hT2 1 rfl
  have u2 := k_cv hT2 2 rfl
  simp only [List.getElem_toArray, List.getElem_cons_succ, List.getElem_cons_zero] at u0 u1 u2
  have bb2 : Below w.heap.size w w2 := b_go (b_al bb1 _) hb2
  clear hT2 hb2 bb1
  go_wp2_with fail
  go_rounds 1
  go_ret
  exact ⟨rfl, bb2⟩
theorem r_more (M C G cap : Nat) (cells mem p : Value) (now cnt : Int) (w : World) (hM : w.heap[M]? = some (machR C cells mem (.slice (some ⟨G, 0, none⟩) 1 cap) now cnt false)) (hcap : 1 ≤ cap) :
    Calls Tryz.prog 37 #[.pointer (some ⟨M, 0, none⟩), p, opR] w fun e w' => e = .returned (.tuple #[]) ∧ w'.heap[M]? = some (machR C cells mem (.slice (some ⟨G, 0, none⟩) 0 cap) now cnt true) ∧ Bar [M] w w' := by
  have hM' : w.heap[M]? = some (.cells #[.slice (some ⟨C, 0, none⟩) 1 1, .int .i64 now, cells, mem, .slice (some ⟨G, 0, none⟩) 1 cap, .int .i64 cnt, .int .i64 0, .bool false] 58 (0, 0)) := hM
  have hlt := k_lt hM
  have m4 := k_cv hM' 4 rfl
  have m7 := k_cv hM' 7 rfl
  simp only [List.getElem_toArray, List.getElem_cons_succ, List.getElem_cons_zero] at m4 m7
  have f4 := k_fr hM' 4
  have f7 := k_fr hM' 7
  have HM := Lib.hid hM'
  clear hM hM'
  go_enter Tryz.func37, Tryz.ntmps37
  go_wp2_with fail
  go_region
  go_wp2
  go_end0
  exact ⟨rfl, k_dr (k_al (k_se (k_se HM.out)) _), ((((Bar.refl _ w).setCell (.inl (by simp)) _).setCell (.inl (by simp)) _).alloc _).drew⟩
theorem r_step (M C O G cap : Nat) (cells mem : Value) (cur : Array Value) (now : Int) (w : World) (hM : w.heap[M]? = some (machR C cells mem (.slice (some ⟨G, 0, none⟩) 1 cap) now 0 false)) (hcap : 1 ≤ cap)
    (hK : CodeAt w C O) (hG : w.heap[G]? = some (.cells cur 74 (0, 0))) (h0 : cur[0]? = some (.int .i64 0)) (h2 : cur[2]? = some (.int .i64 0))
    (n1 : M ≠ G) (n3 : M ≠ C) (n4 : M ≠ O) (n7 : G ≠ C) (n8 : G ≠ O) :
    Calls Tryz.prog 17 #[.pointer (some ⟨M, 0, none⟩), .int .i64 1] w fun e w' => e = .returned (.tuple #[]) ∧ w'.heap[M]? = some (machR C cells mem (.slice (some ⟨G, 0, none⟩) 0 cap) now 1 true) ∧ Bar [M, G] w w' := by
  have hM' : w.heap[M]? = some (.cells #[.slice (some ⟨C, 0, none⟩) 1 1, .int .i64 now, cells, mem, .slice (some ⟨G, 0, none⟩) 1 cap, .int .i64 0, .int .i64 0, .bool false] 58 (0, 0)) := hM
  have lM := k_lt hM
  have lC := k_lt hK.code
  have lO := k_lt hK.op
  have lG := k_lt hG
  have m0 := k_cv hM' 0 rfl
  have m4 := k_cv hM' 4 rfl
  have m5 := k_cv hM' 5 rfl
  have g5 := k_fr hM' 5
  have r0 := k_cv hG 0 h0
  have r2 := k_cv hG 2 h2
  have g2 := k_fr hG 2
  have c0 := k_cv hK.code 0 rfl
  have c1 := k_cv hK.code 1 rfl
  have c2 := k_cv hK.code 2 rfl
  have c3 := k_cv hK.code 3 rfl
  have c4 := k_cv hK.code 4 rfl
  have c5 := k_cv hK.code 5 rfl
  have c6 := k_cv hK.code 6 rfl
  have c7 := k_cv hK.code 7 rfl
  have o0 := k_cv hK.op 0 rfl
  have o1 := k_cv hK.op 1 rfl
  have o2 := k_cv hK.op 2 rfl
  have o3 := k_cv hK.op 3 rfl
  have o4 := k_cv hK.op 4 rfl
  have o5 := k_cv hK.op 5 rfl
  have o6 := k_cv hK.op 6 rfl
  have o7 := k_cv hK.op 7 rfl
  have o8 := k_cv hK.op 8 rfl
  have o9 := k_cv hK.op 9 rfl
  simp only [List.getElem_toArray, List.getElem_cons_succ, List.getElem_cons_zero] at m0 m4 m5 c0 c1 c2 c3 c4 c5 c6 c7 o0 o1 o2 o3 o4 o5 o6 o7 o8 o9
  have HM := Lib.hid hM'
  have HG := Lib.hid hG
  have H2 := Lib.hid h2
  clear hM hM' hK hG h0 h2
  go_enter Tryz.func17, Tryz.ntmps17
  go_wp2_with fail
  go_quiet (fail)
  go_wp2_with fail
  go_region
  go_wp2_with fail
  go_quiet (fail)
  go_wp2_with fail
  go_region
  go_wp2_with fail
  refine (r_right _ _).mono ?_
  rintro e w3 ⟨rfl, hb3⟩
  have hM3 : w3.heap[M]? = some (machR C cells mem (.slice (some ⟨G, 0, none⟩) 1 cap) now 1 false) := k_go (k_dn (k_al (k_al (k_se HM.out) _) _)) hb3
  have hG3 : w3.heap[G]? = some (.cells cur 74 (0, 0)) := k_go (k_dn (k_al (k_al (k_ot HG.out (Ne.symm n1)) _) _)) hb3
  have hT3 : w3.heap[w.heap.size + 1]? = some (.cells #[.int .i64 21, .int .i64 0, .int .i64 0, .int .i64 0, .int .i64 0, .int .i64 0, .int .i64 0, .int .u8 0, .int .u64 0, .string ⟨#[]⟩] 30 (0, 0)) := k_go (k_dn (k_new (by simp))) hb3
  have hbar : Bar [M, G] w w3 := (((((Bar.refl _ w).setCell (.inl (by simp)) _).alloc _).alloc _).dn _).go hb3
  have x2 := k_cv hG3 2 H2.out
  have y2 := k_fr hG3 2
  have t0 := k_cv hT3 0 rfl
  have t1 := k_cv hT3 1 rfl
  have t2 := k_cv hT3 2 rfl
  have t3 := k_cv hT3 3 rfl
  have t4 := k_cv hT3 4 rfl
  have t5 := k_cv hT3 5 rfl
  have t6 := k_cv hT3 6 rfl
  have t7 := k_cv hT3 7 rfl
  have t8 := k_cv hT3 8 rfl
  have t9 := k_cv hT3 9 rfl
  simp only [List.getElem_toArray, List.getElem_cons_succ, List.getElem_cons_zero] at t0 t1 t2 t3 t4 t5 t6 t7 t8 t9
  have l3 := k_lt hT3
  have lG3 := k_lt hG3
  have HM3 := Lib.hid hM3
  clear hM3 hG3 hT3 hb3 m0 m4 m5 g5 r0 r2 g2 c0 c1 c2 c3 c4 c5 c6 c7 o0 o1 o2 o3 o4 o5 o6 o7 o8 o9
  go_wp2_with fail
  refine (r_more M C G cap cells mem _ now 1 _ (k_ot HM3.out n1) hcap).mono ?_
  rintro e w5 ⟨rfl, hM5, hB5⟩
  have HM5 := Lib.hid hM5
  clear hM5
  go_wp2_with fail
  go_end0
  exact ⟨rfl, HM5.out, (hbar.setCell (.inl (by simp)) _).trans (hB5.mono (by simp))⟩
end Go.Proofs.YtccdgjjoeamnjaaGreatDoor.H
