/- Contracts for VmNothing: a machine's step over one code that only returns, the run to its end, and vm.Run. Conditions: as the machine lies in memory; sizes lie within reach. -/
import Derived.Test.YtccdgjjoeamnjaaGreatDoorHVmE
import Derived.Recover
import Derived.Defers
namespace Go.Proofs.YtccdgjjoeamnjaaGreatDoor.H
set_option linter.unusedVariables false
set_option linter.unusedSimpArgs false
open Go.RowKit Go.Proofs.YtccdgjjoeamnjaaGreatDoor.Plain
set_option maxHeartbeats 3200000
set_option maxRecDepth 100000
attribute [local go_sem] ext_from ext_bits cell_isSome un_neg_float
theorem dn_size (w : World) (n : Nat) : (w.drewN n).heap.size = w.heap.size := rfl
theorem dn_alloc (w : World) (n : Nat) (o : Obj) : (w.drewN n).alloc o = (w.alloc o).drewN n := rfl
theorem dn_set (w : World) (n : Nat) (a : Addr) (v : Value) : (w.drewN n).setCell a v = (w.setCell a v).drewN n := rfl
theorem dn_dr (w : World) (n : Nat) : (w.drewN n).drew = (w.drew).drewN n := by unfold World.drewN World.drew; simp [Nat.add_right_comm]
theorem k_dn {w : World} {g n : Nat} {o : Obj} (h : w.heap[g]? = some o) : (w.drewN n).heap[g]? = some o := h
theorem Bar.dn {S : List Nat} {a w : World} (h : Bar S a w) (n : Nat) : Bar S a (w.drewN n) := ⟨h.os, h.tape, h.output, h.size, h.block⟩
attribute [local go_sem] dn_size dn_alloc dn_set
/-- The instruction that returns. -/
abbrev opR : Value := .agg #[.int .i64 21, .int .i64 0, .int .i64 0, .int .i64 0, .int .i64 0, .int .i64 0, .int .i64 0, .int .u8 0, .int .u64 0, .string ⟨#[]⟩]
theorem Bar.mono {S T : List Nat} {a w : World} (h : Bar S a w) (hs : S ⊆ T) : Bar T a w := ⟨h.os, h.tape, h.output, h.size, fun k hk hn => h.block k hk (fun e => hn (hs e))⟩
theorem v_need2 (f : Int) (w : World) : Calls Tryz.prog 45 #[.bool true, .int .i64 f] w fun e w' => e = .returned (.tuple #[]) ∧ w' = w := (v_need f w).mono fun _ _ ⟨h1, h2⟩ => ⟨h1, h2.symm⟩
theorem v_back (M C F cap : Nat) (cells mem does p : Value) (now cnt : Int) (w : World) (hM : w.heap[M]? = some (mach C cells mem (.slice (some ⟨F, 0, none⟩) 1 cap) does now cnt)) (hcap : 1 ≤ cap) :
    Calls Tryz.prog 30 #[.pointer (some ⟨M, 0, none⟩), p, opR] w fun e w' => e = .returned (.tuple #[]) ∧ w'.heap[M]? = some (mach C cells mem (.slice (some ⟨F, 0, none⟩) 0 cap) does now cnt) ∧ Bar [M] w w' := by
  have hM' : w.heap[M]? = some (.cells #[.slice (some ⟨C, 0, none⟩) 1 1, cells, mem, .int .i64 now, .int .i64 1, .int .i64 cnt, .slice (some ⟨F, 0, none⟩) 1 cap, does] 52 (0, 0)) := hM
  have hlt := k_lt hM
  have m6 := k_cv hM' 6 rfl
  have f6 := k_fr hM' 6
  have HM := Lib.hid hM'
  clear hM hM'
  go_enter Tryz.func30, Tryz.ntmps30
  go_wp2_with fail
  go_region
  go_wp2
  go_end0
  exact ⟨rfl, k_dr (k_al (k_se HM.out) _), ((Bar.setCell (Bar.refl _ _) (.inl (by simp)) _).alloc _).drew⟩
theorem run_neq_nilFunc (W : World) : (binOp .neq 62 (.func (.func 30) #[] #[]) .nilFunc).run Tryz.prog W = .ok (.bool true) W := by
  first | rfl | (simp [binOp, Tryz.underlying62, go_sem]; done) | kernel_rfl
theorem v_step (M C O D F Fr cap r s : Nat) (cells mem : Value) (cs cur : Array Value) (now base : Int) (w : World) (hM : w.heap[M]? = some (mach C cells mem (.slice (some ⟨F, 0, none⟩) 1 cap) (.slice (some ⟨D, 0, none⟩) 24 24) now 0)) (hcap : 1 ≤ cap)
    (hK : CodeAt w C O) (hF : w.heap[F]? = some (.cells cur 64 (0, 0))) (hF0 : cur[0]? = some (.pointer (some ⟨Fr, 0, none⟩))) (hFr : w.heap[Fr]? = some (frm base 0 r s))
    (hD : w.heap[D]? = some (.cells cs 62 (0, 0))) (hD1 : cs[21]? = some (.func (.func 30) #[] #[]))
    (n1 : M ≠ Fr) (n2 : M ≠ F) (n3 : M ≠ C) (n4 : M ≠ O) (n5 : M ≠ D) (n6 : Fr ≠ F) (n7 : Fr ≠ C) (n8 : Fr ≠ O) (n9 : Fr ≠ D) :
    Calls Tryz.prog 329 #[.pointer (some ⟨M, 0, none⟩)] w fun e w' => e = .returned (.bool false) ∧ w'.heap[M]? = some (mach C cells mem (.slice (some ⟨F, 0, none⟩) 0 cap) (.slice (some ⟨D, 0, none⟩) 24 24) now 1) ∧ Bar [M, Fr] w w' := by
  have hM' : w.heap[M]? = some (.cells #[.slice (some ⟨C, 0, none⟩) 1 1, cells, mem, .int .i64 now, .int .i64 1, .int .i64 0, .slice (some ⟨F, 0, none⟩) 1 cap, .slice (some ⟨D, 0, none⟩) 24 24] 52 (0, 0)) := hM
  have hFr' : w.heap[Fr]? = some (.cells #[.int .i64 0, .int .i64 base, .int .i64 0, .slice (some ⟨r, 0, none⟩) 0 0, .slice (some ⟨s, 0, none⟩) 0 0, .slice none 0 0] 66 (0, 0)) := hFr
  have lM := k_lt hM
  have lC := k_lt hK.code
  have lO := k_lt hK.op
  have lD := k_lt hD
  have lF := k_lt hF
  have lFr := k_lt hFr
  have m0 := k_cv hM' 0 rfl
  have m4 := k_cv hM' 4 rfl
  have m5 := k_cv hM' 5 rfl
  have m6 := k_cv hM' 6 rfl
  have m7 := k_cv hM' 7 rfl
  have g5 := k_fr hM' 5
  have f0 := k_cv hF 0 hF0
  have r0 := k_cv hFr' 0 rfl
  have r2 := k_cv hFr' 2 rfl
  have r3 := k_cv hFr' 3 rfl
  have g2 := k_fr hFr' 2
  have c6 := k_cv hK.code 6 rfl
  have o0 := k_cv hK.op 0 rfl
  have o1 := k_cv hK.op 1 rfl
  have o2 := k_cv hK.op 2 rfl
  have o3 := k_cv hK.op 3 rfl
  have o4 := k_cv hK.op 4 rfl
  have o5 := k_cv hK.op 5 rfl
  have o6 := k_cv hK.op 6 rfl
  have o7 := k_cv hK.op 7 rfl
  have o8 := k_cv hK.op 8 rfl
  have o9 := k_cv hK.op 9 rfl
  have d21 := k_cv hD 21 hD1
  simp only [List.getElem_toArray, List.getElem_cons_succ, List.getElem_cons_zero] at m0 m4 m5 m6 m7 r0 r2 r3 c6 o0 o1 o2 o3 o4 o5 o6 o7 o8 o9
  have hnf : ∀ W, (binOp .neq 62 (.func (.func 30) #[] #[]) .nilFunc).run Tryz.prog W = .ok (.bool true) W := fun W => run_neq_nilFunc W
  have HM := Lib.hid hM'
  have HFr := Lib.hid hFr'
  have HD := Lib.hid hD
  have hD1 := Lib.hid hD1
  clear hM hM' hFr hFr' hK hF hF0 hD
  go_enter Tryz.func329, Tryz.ntmps329
  go_wp2_with fail
  go_quiet (fail)
  go_wp2_with fail
  go_quiet (first | (go_at_call 45; refine (v_need2 _ _).mono ?_; rintro e w2 ⟨rfl, rfl⟩; exact ⟨rfl, _, rfl⟩))
  go_wp2_with fail
  go_quiet (fail)
  go_wp2_with (first | (go_at_call 45; with_reducible refine (v_need _ _).mono ?_; rintro e w' ⟨rfl, rfl⟩))
  go_quiet (first | (go_at_call 45; refine (v_need2 _ _).mono ?_; rintro e w2 ⟨rfl, rfl⟩; exact ⟨rfl, _, rfl⟩))
  go_wp2_with (first | (go_at_call 330; with_reducible refine (v_named _ _).mono ?_; rintro e w3 ⟨rfl, hb3⟩))
  have hM3 : w3.heap[M]? = some (.cells #[.slice (some ⟨C, 0, none⟩) 1 1, cells, mem, .int .i64 now, .int .i64 1, .int .i64 1, .slice (some ⟨F, 0, none⟩) 1 cap, .slice (some ⟨D, 0, none⟩) 24 24] 52 (0, 0)) := k_go (k_dn (k_al (k_ot (k_se HM.out) n1) _)) hb3
  have hT3 : w3.heap[w.heap.size]? = some (.cells #[.int .i64 21, .int .i64 0, .int .i64 0, .int .i64 0, .int .i64 0, .int .i64 0, .int .i64 0, .int .u8 0, .int .u64 0, .string ⟨#[]⟩] 30 (0, 0)) := k_go (k_dn (k_new (by simp))) hb3
  have hD3 : w3.heap[D]? = some (.cells cs 62 (0, 0)) := k_go (k_dn (k_al (k_ot (k_ot HD.out (Ne.symm n5)) (Ne.symm n9)) _)) hb3
  have hbar : Bar [M, Fr] w w3 := (((((Bar.refl _ w).setCell (.inl (by simp)) _).setCell (.inl (by simp)) _).alloc _).dn _).go hb3
  have l3 : w.heap.size < w3.heap.size := k_lt hT3
  have hMd : w3.drew.heap[M]? = some (mach C cells mem (.slice (some ⟨F, 0, none⟩) 1 cap) (.slice (some ⟨D, 0, none⟩) 24 24) now 1) := hM3
  have HM3 := Lib.hid hMd
  clear hMd
  have HT3 := Lib.hid hT3
  have HDD := Lib.hid hD3
  have y7w3 : w3.cell? ⟨M, 7, none⟩ = some (.slice (some ⟨D, 0, none⟩) 24 24) := k_cv hM3 7 rfl
  have t0w3 : w3.cell? ⟨w.heap.size, 0, none⟩ = some (.int .i64 21) := k_cv hT3 0 rfl
  have t1w3 : w3.cell? ⟨w.heap.size, 1, none⟩ = some (.int .i64 0) := k_cv hT3 1 rfl
  have t2w3 : w3.cell? ⟨w.heap.size, 2, none⟩ = some (.int .i64 0) := k_cv hT3 2 rfl
  have t3w3 : w3.cell? ⟨w.heap.size, 3, none⟩ = some (.int .i64 0) := k_cv hT3 3 rfl
  have t4w3 : w3.cell? ⟨w.heap.size, 4, none⟩ = some (.int .i64 0) := k_cv hT3 4 rfl
  have t5w3 : w3.cell? ⟨w.heap.size, 5, none⟩ = some (.int .i64 0) := k_cv hT3 5 rfl
  have t6w3 : w3.cell? ⟨w.heap.size, 6, none⟩ = some (.int .i64 0) := k_cv hT3 6 rfl
  have t7w3 : w3.cell? ⟨w.heap.size, 7, none⟩ = some (.int .u8 0) := k_cv hT3 7 rfl
  have t8w3 : w3.cell? ⟨w.heap.size, 8, none⟩ = some (.int .u64 0) := k_cv hT3 8 rfl
  have t9w3 : w3.cell? ⟨w.heap.size, 9, none⟩ = some (.string ⟨#[]⟩) := k_cv hT3 9 rfl
  have e21w3 : w3.cell? ⟨D, 21, none⟩ = some (.func (.func 30) #[] #[]) := k_cv hD3 21 hD1.out
  clear hb3 hM3 hT3 hD3 m0 m4 m5 m6 m7 g5 f0 r0 r2 r3 g2 c6 o0 o1 o2 o3 o4 o5 o6 o7 o8 o9 d21 lC lO
  have NB := fun W (h : W.heap[M]? = some (mach C cells mem (.slice (some ⟨F, 0, none⟩) 1 cap) (.slice (some ⟨D, 0, none⟩) 24 24) now 1)) => v_back M C F cap cells mem (.slice (some ⟨D, 0, none⟩) 24 24) (.pointer (some ⟨Fr, 0, none⟩)) now 1 W h hcap
  go_region_held3 (fun w' => w'.cell? ⟨M, 7, none⟩ = some (.slice (some ⟨D, 0, none⟩) 24 24) ∧ w'.cell? ⟨w.heap.size, 0, none⟩ = some (.int .i64 21) ∧ w'.cell? ⟨w.heap.size, 1, none⟩ = some (.int .i64 0) ∧ w'.cell? ⟨w.heap.size, 2, none⟩ = some (.int .i64 0) ∧ w'.cell? ⟨w.heap.size, 3, none⟩ = some (.int .i64 0) ∧ w'.cell? ⟨w.heap.size, 4, none⟩ = some (.int .i64 0) ∧ w'.cell? ⟨w.heap.size, 5, none⟩ = some (.int .i64 0) ∧ w'.cell? ⟨w.heap.size, 6, none⟩ = some (.int .i64 0) ∧ w'.cell? ⟨w.heap.size, 7, none⟩ = some (.int .u8 0) ∧ w'.cell? ⟨w.heap.size, 8, none⟩ = some (.int .u64 0) ∧ w'.cell? ⟨w.heap.size, 9, none⟩ = some (.string ⟨#[]⟩) ∧ w'.cell? ⟨D, 21, none⟩ = some (.func (.func 30) #[] #[])) (first | exact ⟨by assumption, by assumption, by assumption, by assumption, by assumption, by assumption, by assumption, by assumption, by assumption, by assumption, by assumption, by assumption⟩ | go_keep) (first | (go_at_call 30; with_reducible refine (NB _ HM3.out).mono ?_; rintro e w5 ⟨rfl, hM5, hB5⟩; have hT5 := hB5.keep HT3.out (by simp; omega); have hD5 := hB5.keep HDD.out (by simp; omega); have HM5 := Lib.hid hM5; have HB5 := Lib.hid hB5; have y7w5 : w5.cell? ⟨M, 7, none⟩ = some (.slice (some ⟨D, 0, none⟩) 24 24) := k_cv hM5 7 rfl; have t0w5 : w5.cell? ⟨w.heap.size, 0, none⟩ = some (.int .i64 21) := k_cv hT5 0 rfl; have t1w5 : w5.cell? ⟨w.heap.size, 1, none⟩ = some (.int .i64 0) := k_cv hT5 1 rfl; have t2w5 : w5.cell? ⟨w.heap.size, 2, none⟩ = some (.int .i64 0) := k_cv hT5 2 rfl; have t3w5 : w5.cell? ⟨w.heap.size, 3, none⟩ = some (.int .i64 0) := k_cv hT5 3 rfl; have t4w5 : w5.cell? ⟨w.heap.size, 4, none⟩ = some (.int .i64 0) := k_cv hT5 4 rfl; have t5w5 : w5.cell? ⟨w.heap.size, 5, none⟩ = some (.int .i64 0) := k_cv hT5 5 rfl; have t6w5 : w5.cell? ⟨w.heap.size, 6, none⟩ = some (.int .i64 0) := k_cv hT5 6 rfl; have t7w5 : w5.cell? ⟨w.heap.size, 7, none⟩ = some (.int .u8 0) := k_cv hT5 7 rfl; have t8w5 : w5.cell? ⟨w.heap.size, 8, none⟩ = some (.int .u64 0) := k_cv hT5 8 rfl; have t9w5 : w5.cell? ⟨w.heap.size, 9, none⟩ = some (.string ⟨#[]⟩) := k_cv hT5 9 rfl; have e21w5 : w5.cell? ⟨D, 21, none⟩ = some (.func (.func 30) #[] #[]) := k_cv hD5 21 hD1.out; clear hM5 hT5 hD5 hB5))
  have hB5 := HB5.out
  have hM5 := HM5.out
  have m6 : w5.cell? ⟨M, 6, none⟩ = some (.slice (some ⟨F, 0, none⟩) 0 cap) := k_cv hM5 6 rfl
  clear hB5 hM5
  go_wp2_with fail
  go_ret
  exact ⟨rfl, HM5.out, hbar.drew.trans (HB5.out.mono (by simp))⟩
end Go.Proofs.YtccdgjjoeamnjaaGreatDoor.H
