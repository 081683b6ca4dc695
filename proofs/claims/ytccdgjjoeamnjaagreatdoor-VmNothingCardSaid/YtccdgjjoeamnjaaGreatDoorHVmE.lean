/- Contracts for VmNothing: the machine of one code that only returns: its table, how an invocation begins and ends. Conditions: as the machine lies in memory. -/
import Derived.Test.YtccdgjjoeamnjaaGreatDoorHVmD
import Derived.Test.YtccdgjjoeamnjaaGreatDoorHVmL
import Derived.Laws.EntriesVeiled
import Derived.Deep.AppendLies
import Derived.Deep.RegionLaw
import Derived.BigRegion
import Derived.Deep.RegionHeldLaw
namespace Go.Proofs.YtccdgjjoeamnjaaGreatDoor.H
set_option linter.unusedVariables false
set_option linter.unusedSimpArgs false
open Go.RowKit Go.Proofs.YtccdgjjoeamnjaaGreatDoor.Plain
set_option maxHeartbeats 3200000
set_option maxRecDepth 100000
attribute [local go_sem] ext_from ext_bits cell_isSome un_neg_float
theorem v_need (f : Int) (w : World) : Calls Tryz.prog 45 #[.bool true, .int .i64 f] w fun e w' => e = .returned (.tuple #[]) ∧ w = w' := by
  go_enter Tryz.func45, Tryz.ntmps45
  go_wp2
  go_end0
  exact ⟨rfl, rfl⟩
theorem mc24 : madeCells Value.nilFunc.cells 24 = #[.nilFunc, .nilFunc, .nilFunc, .nilFunc, .nilFunc, .nilFunc, .nilFunc, .nilFunc, .nilFunc, .nilFunc, .nilFunc, .nilFunc, .nilFunc, .nilFunc, .nilFunc, .nilFunc, .nilFunc, .nilFunc, .nilFunc, .nilFunc, .nilFunc, .nilFunc, .nilFunc, .nilFunc] := by kernel_rfl
theorem mk24 (W : World) : (Instr.makeSlice 48 (.int .i64 24) (.int .i64 24)).run Tryz.prog W = .ok (.slice (some ⟨W.heap.size, 0, none⟩) 24 24) (W.alloc (.cells #[.nilFunc, .nilFunc, .nilFunc, .nilFunc, .nilFunc, .nilFunc, .nilFunc, .nilFunc, .nilFunc, .nilFunc, .nilFunc, .nilFunc, .nilFunc, .nilFunc, .nilFunc, .nilFunc, .nilFunc, .nilFunc, .nilFunc, .nilFunc, .nilFunc, .nilFunc, .nilFunc, .nilFunc] 62)) := by
  obtain ⟨i0, hi, hz0, hz1, hz2⟩ := info_parts (show (Tryz.prog.info? 62).map (fun i => (i.zero, i.size, i.bytes)) = some (some .nilFunc, 1, 8) by kernel_rfl)
  have h := run_make (P := Tryz.prog) W 48 62 i0 .nilFunc Tryz.underlying48 hi hz0 .i64 .i64 24 24 (by decide) (by decide) (by rw [hz2]; decide) (by decide)
  rw [hz1] at h
  have e : Int.toNat 24 * 1 = 24 := rfl
  rw [e, mc24] at h
  exact h
theorem mc0 (z : Array Value) : madeCells z 0 = #[] := Array.eq_empty_of_size_eq_zero (by simp [madeCells])
theorem mk0v (W : World) : (Instr.makeSlice 23 (.int .i64 0) (.int .i64 0)).run Tryz.prog W = .ok (.slice (some ⟨W.heap.size, 0, none⟩) 0 0) (W.alloc (.cells #[] 28)) := by
  obtain ⟨i0, hi, hz0, hz1, hz2⟩ := info_parts (show (Tryz.prog.info? 28).map (fun i => (i.zero, i.size, i.bytes)) = some (some (.agg #[.int .u8 0, .int .u64 0, .string ⟨#[]⟩]), 3, 32) by kernel_rfl)
  have h := run_make (P := Tryz.prog) W 23 28 i0 _ Tryz.underlying23 hi hz0 .i64 .i64 0 0 (by decide) (by decide) (by rw [hz2]; decide) (by decide)
  rw [hz1] at h
  have e : Int.toNat 0 * 3 = 0 := rfl
  rw [e, mc0] at h
  exact h
attribute [local go_sem] mk24 mk0v
theorem v_table (w : World) : Calls Tryz.prog 13 #[] w fun e w' => e = .returned (.slice (some ⟨w.heap.size, 0, none⟩) 24 24) ∧ (∃ cs, w'.heap[w.heap.size]? = some (.cells cs 62 (0, 0)) ∧ cs[21]? = some (.func (.func 30) #[] #[])) ∧ Below w.heap.size w w' := by
  go_enter Tryz.func13, Tryz.ntmps13
  go_wp2
  go_ret
  exact ⟨rfl, ⟨_, k_new rfl, rfl⟩, by (repeat (first | exact Below.refl _ _ | apply b_al | (refine b_st ?_ ?hg _; case hg => omega) | (refine b_go ?_ (by assumption))))⟩
theorem u_uses (w : World) : Calls Tryz.prog 331 #[.agg #[.int .i64 21, .int .i64 0, .int .i64 0, .int .i64 0, .int .i64 0, .int .i64 0, .int .i64 0, .int .u8 0, .int .u64 0, .string ⟨#[]⟩]] w fun e w' => e = .returned (.slice none 0 0) ∧ Below w.heap.size w w' := by
  go_enter Tryz.func331, Tryz.ntmps331
  go_wp2
  go_ret
  exact ⟨rfl, by (repeat (first | exact Below.refl _ _ | apply b_al | (refine b_st ?_ ?hg _; case hg => omega) | (refine b_go ?_ (by assumption))))⟩
theorem v_named (p : Value) (w : World) : Calls Tryz.prog 330 #[p, .agg #[.int .i64 21, .int .i64 0, .int .i64 0, .int .i64 0, .int .i64 0, .int .i64 0, .int .i64 0, .int .u8 0, .int .u64 0, .string ⟨#[]⟩]] w fun e w' => e = .returned (.tuple #[]) ∧ Below w.heap.size w w' := by
  go_enter Tryz.func330, Tryz.ntmps330
  go_wp2_with (first | (go_at_call 331; with_reducible refine (u_uses _).mono ?_; rintro e w1 ⟨rfl, hb1⟩; obtain ⟨hc1, hf1⟩ := bcell hb1))
  go_rounds 1
  go_end0
  exact ⟨rfl, by (repeat (first | exact Below.refl _ _ | apply b_al | (refine b_st ?_ ?hg _; case hg => omega) | (refine b_go ?_ (by assumption))))⟩
theorem k_gr {w w' : World} {g : Nat} {o : Obj} (hg : w.grownBy w' none) (h : w.heap[g]? = some o) : w'.heap[g]? = some o := (hg.block g (k_lt h) (by simp)).trans h
theorem own_one {w : World} {B g cap : Nat} {T : TypeId} {x : Value} (h : w.ownsRow B T 1 (.slice (some ⟨g, 0, none⟩) (0 + 1) cap) (0 + 1) ([] ++ [x])) : ∃ cur, w.heap[g]? = some (.cells cur T (0, 0)) ∧ cur[0]? = some x ∧ 1 ≤ cap := by
  obtain ⟨_, h2 | ⟨g2, cap2, cur, e1, _, e3, e4, _, e6, e7⟩⟩ := h
  · cases h2.1
  · simp only [Value.slice.injEq, Option.some.injEq, Addr.mk.injEq] at e1
    obtain ⟨⟨rfl, _, _⟩, _, rfl⟩ := e1
    refine ⟨cur, e3, ?_, e4⟩
    have e7' : (cur.toList.take 1)[0]? = some x := by
      have : cur.toList.take 1 = [x] := e7
      rw [this]; rfl
    rw [List.getElem?_take] at e7'
    simpa using e7'
theorem Bar.of_grown {S : List Nat} {w w' : World} (h : w.grownBy w' none) : Bar S w w' := ⟨h.os, h.tape, h.output, h.size, fun k hk _ => h.block k hk (by simp)⟩
/-- The machine in memory: its frames, its count. -/
def mach (C : Nat) (cells mem frames does : Value) (now cnt : Int) : Obj := .cells #[.slice (some ⟨C, 0, none⟩) 1 1, cells, mem, .int .i64 now, .int .i64 1, .int .i64 cnt, frames, does] 52 (0, 0)
/-- An invocation in memory. -/
def frm (base at_ : Int) (r s : Nat) : Obj := .cells #[.int .i64 0, .int .i64 base, .int .i64 at_, .slice (some ⟨r, 0, none⟩) 0 0, .slice (some ⟨s, 0, none⟩) 0 0, .slice none 0 0] 66 (0, 0)
/-- What a begun machine looks like. -/
def Begun (w' : World) (B M C : Nat) (cells mem does : Value) (now base : Int) : Prop :=
  ∃ F Fr cap r s cur, w'.heap[M]? = some (mach C cells mem (.slice (some ⟨F, 0, none⟩) 1 cap) does now 0) ∧ w'.heap[F]? = some (.cells cur 64 (0, 0)) ∧ cur[0]? = some (.pointer (some ⟨Fr, 0, none⟩)) ∧ 1 ≤ cap ∧ w'.heap[Fr]? = some (frm base 0 r s) ∧ B ≤ F ∧ B ≤ Fr ∧ F ≠ Fr
theorem v_enter (M C O : Nat) (base now : Int) (cells mem does : Value) (w : World) (hM : w.heap[M]? = some (mach C cells mem (.slice none 0 0) does now 0)) (hK : CodeAt w C O) (hMC : M ≠ C) :
    Calls Tryz.prog 14 #[.pointer (some ⟨M, 0, none⟩), .int .i64 0, .int .i64 base] w fun e w' => e = .returned (.tuple #[]) ∧ Begun w' w.heap.size M C cells mem does now base ∧ Bar [M] w w' := by
  obtain ⟨i0, hi, hz0, hz1, hz2⟩ := info_parts (show (Tryz.prog.info? 64).map (fun i => (i.zero, i.size, i.bytes)) = some (some (.pointer none), 1, 8) by kernel_rfl)
  have hM' : w.heap[M]? = some (.cells #[.slice (some ⟨C, 0, none⟩) 1 1, cells, mem, .int .i64 now, .int .i64 1, .int .i64 0, .slice none 0 0, does] 52 (0, 0)) := hM
  have hlt := k_lt hM
  have hcl := k_lt hK.code
  have k0 := k_cv hK.code 0 rfl
  have k1 := k_cv hK.code 1 rfl
  have k2 := k_cv hK.code 2 rfl
  have k3 := k_cv hK.code 3 rfl
  have k4 := k_cv hK.code 4 rfl
  have k5 := k_cv hK.code 5 rfl
  have k6 := k_cv hK.code 6 rfl
  have k7 := k_cv hK.code 7 rfl
  have m0 := k_cv hM' 0 rfl
  have m6 := k_cv hM' 6 rfl
  have HM := Lib.hid hM'
  clear hM hM' hK
  go_enter Tryz.func14, Tryz.ntmps14
  go_wp2_with fail
  go_outline
  refine wp_region_late (fun w' => w'.heap[M]? = some (.cells #[.slice (some ⟨C, 0, none⟩) 1 1, cells, mem, .int .i64 now, .int .i64 1, .int .i64 0, .slice none 0 0, does] 52 (0, 0)) ∧ w'.heap[w.heap.size]? = some (.cells #[.string ⟨#[]⟩, .int .i64 0, .int .i64 0, .int .i64 0, .int .i64 0, .int .i64 0, .slice (some ⟨O, 0, none⟩) 1 1, .slice none 0 0] 34 (0, 0))) 23 (by kernel_rfl) ?_
  have hSS : (w.alloc (.cells #[.string ⟨#[]⟩, .int .i64 0, .int .i64 0, .int .i64 0, .int .i64 0, .int .i64 0, .slice (some ⟨O, 0, none⟩) 1 1, .slice none 0 0] 34 (0, 0))).drew.heap[M]? = some (.cells #[.slice (some ⟨C, 0, none⟩) 1 1, cells, mem, .int .i64 now, .int .i64 1, .int .i64 0, .slice none 0 0, does] 52 (0, 0)) ∧ (w.alloc (.cells #[.string ⟨#[]⟩, .int .i64 0, .int .i64 0, .int .i64 0, .int .i64 0, .int .i64 0, .slice (some ⟨O, 0, none⟩) 1 1, .slice none 0 0] 34 (0, 0))).drew.heap[w.heap.size]? = some (.cells #[.string ⟨#[]⟩, .int .i64 0, .int .i64 0, .int .i64 0, .int .i64 0, .int .i64 0, .slice (some ⟨O, 0, none⟩) 1 1, .slice none 0 0] 34 (0, 0)) := ⟨k_dr (k_al HM.out _), k_dr (k_new rfl)⟩
  refine wpAnyL_take (i := 0) (v := .pointer (some ⟨M, 0, none⟩)) rfl (by kernel_rfl) (by kernel_rfl) (by kernel_rfl) (by kernel_rfl) (fun _ _ _ h => h) (Or.inl ⟨by rfl, ?_⟩) hSS ?_
  · intro wz hz
    have y4 := k_cv hz.2 4 rfl; have y5 := k_cv hz.2 5 rfl; have y6 := k_cv hz.1 6 rfl; clear hz; go_simp
    try with_reducible rfl
  (try simp only [Act.put, List.setIfInBounds_toArray, List.set_cons_zero, List.set_cons_succ])
  refine wpAnyL_take (i := 1) (v := .pointer (some ⟨M, 0, none⟩)) rfl (by kernel_rfl) (by kernel_rfl) (by kernel_rfl) (by kernel_rfl) (fun _ _ _ h => h) (Or.inl ⟨by rfl, ?_⟩) hSS ?_
  · intro wz hz
    have y4 := k_cv hz.2 4 rfl; have y5 := k_cv hz.2 5 rfl; have y6 := k_cv hz.1 6 rfl; clear hz; go_simp
    try with_reducible rfl
  (try simp only [Act.put, List.setIfInBounds_toArray, List.set_cons_zero, List.set_cons_succ])
  refine wpAnyL_take (i := 2) (v := .pointer (some ⟨M, 0, none⟩)) rfl (by kernel_rfl) (by kernel_rfl) (by kernel_rfl) (by kernel_rfl) (fun _ _ _ h => h) (Or.inl ⟨by rfl, ?_⟩) hSS ?_
  · intro wz hz
    have y4 := k_cv hz.2 4 rfl; have y5 := k_cv hz.2 5 rfl; have y6 := k_cv hz.1 6 rfl; clear hz; go_simp
    try with_reducible rfl
  (try simp only [Act.put, List.setIfInBounds_toArray, List.set_cons_zero, List.set_cons_succ])
  refine wpAnyL_take (i := 3) (v := .pointer (some ⟨M, 6, none⟩)) rfl (by kernel_rfl) (by kernel_rfl) (by kernel_rfl) (by kernel_rfl) (fun _ _ _ h => h) (Or.inl ⟨by rfl, ?_⟩) hSS ?_
  · intro wz hz
    have y4 := k_cv hz.2 4 rfl; have y5 := k_cv hz.2 5 rfl; have y6 := k_cv hz.1 6 rfl; clear hz; go_simp
    try with_reducible rfl
  (try simp only [Act.put, List.setIfInBounds_toArray, List.set_cons_zero, List.set_cons_succ])
  refine wpAnyL_take (i := 4) (v := .slice none 0 0) rfl (by kernel_rfl) (by kernel_rfl) (by kernel_rfl) (by kernel_rfl) (fun _ _ _ h => h) (Or.inl ⟨by rfl, ?_⟩) hSS ?_
  · intro wz hz
    have y4 := k_cv hz.2 4 rfl; have y5 := k_cv hz.2 5 rfl; have y6 := k_cv hz.1 6 rfl; clear hz; go_simp
    try with_reducible rfl
  (try simp only [Act.put, List.setIfInBounds_toArray, List.set_cons_zero, List.set_cons_succ])
  refine wpAnyL_take (i := 5) (v := .int .i64 0) rfl (by kernel_rfl) (by kernel_rfl) (by kernel_rfl) (by kernel_rfl) (fun _ _ _ h => h) (Or.inl ⟨by rfl, ?_⟩) hSS ?_
  · intro wz hz
    have y4 := k_cv hz.2 4 rfl; have y5 := k_cv hz.2 5 rfl; have y6 := k_cv hz.1 6 rfl; clear hz; go_simp
    try with_reducible rfl
  (try simp only [Act.put, List.setIfInBounds_toArray, List.set_cons_zero, List.set_cons_succ])
  refine wpAnyL_take (i := 6) (v := .int .i64 base) rfl (by kernel_rfl) (by kernel_rfl) (by kernel_rfl) (by kernel_rfl) (fun _ _ _ h => h) (Or.inl ⟨by rfl, ?_⟩) hSS ?_
  · intro wz hz
    have y4 := k_cv hz.2 4 rfl; have y5 := k_cv hz.2 5 rfl; have y6 := k_cv hz.1 6 rfl; clear hz; go_simp
    try with_reducible rfl
  (try simp only [Act.put, List.setIfInBounds_toArray, List.set_cons_zero, List.set_cons_succ])
  refine wpAnyL_take (i := 7) (v := .pointer (some ⟨w.heap.size, 4, none⟩)) rfl (by kernel_rfl) (by kernel_rfl) (by kernel_rfl) (by kernel_rfl) (fun _ _ _ h => h) (Or.inl ⟨by rfl, ?_⟩) hSS ?_
  · intro wz hz
    have y4 := k_cv hz.2 4 rfl; have y5 := k_cv hz.2 5 rfl; have y6 := k_cv hz.1 6 rfl; clear hz; go_simp
    try with_reducible rfl
  (try simp only [Act.put, List.setIfInBounds_toArray, List.set_cons_zero, List.set_cons_succ])
  refine wpAnyL_take (i := 8) (v := .int .i64 0) rfl (by kernel_rfl) (by kernel_rfl) (by kernel_rfl) (by kernel_rfl) (fun _ _ _ h => h) (Or.inl ⟨by rfl, ?_⟩) hSS ?_
  · intro wz hz
    have y4 := k_cv hz.2 4 rfl; have y5 := k_cv hz.2 5 rfl; have y6 := k_cv hz.1 6 rfl; clear hz; go_simp
    try with_reducible rfl
  (try simp only [Act.put, List.setIfInBounds_toArray, List.set_cons_zero, List.set_cons_succ])
  refine wpAnyL_take (i := 9) (v := .int .i64 0) rfl (by kernel_rfl) (by kernel_rfl) (by kernel_rfl) (by kernel_rfl) (fun _ _ _ h => h) (Or.inl ⟨by rfl, ?_⟩) hSS ?_
  · intro wz hz
    have y4 := k_cv hz.2 4 rfl; have y5 := k_cv hz.2 5 rfl; have y6 := k_cv hz.1 6 rfl; clear hz; go_simp
    try with_reducible rfl
  (try simp only [Act.put, List.setIfInBounds_toArray, List.set_cons_zero, List.set_cons_succ])
  refine wpAnyL_take (i := 10) (v := .int .i64 0) rfl (by kernel_rfl) (by kernel_rfl) (by kernel_rfl) (by kernel_rfl) (fun _ _ _ h => h) (Or.inl ⟨by rfl, ?_⟩) hSS ?_
  · intro wz hz
    have y4 := k_cv hz.2 4 rfl; have y5 := k_cv hz.2 5 rfl; have y6 := k_cv hz.1 6 rfl; clear hz; go_simp
    try with_reducible rfl
  (try simp only [Act.put, List.setIfInBounds_toArray, List.set_cons_zero, List.set_cons_succ])
  refine wpAnyL_take (i := 12) (v := .pointer (some ⟨w.heap.size, 5, none⟩)) rfl (by kernel_rfl) (by kernel_rfl) (by kernel_rfl) (by kernel_rfl) (fun _ _ _ h => h) (Or.inl ⟨by rfl, ?_⟩) hSS ?_
  · intro wz hz
    have y4 := k_cv hz.2 4 rfl; have y5 := k_cv hz.2 5 rfl; have y6 := k_cv hz.1 6 rfl; clear hz; go_simp
    try with_reducible rfl
  (try simp only [Act.put, List.setIfInBounds_toArray, List.set_cons_zero, List.set_cons_succ])
  refine wpAnyL_take (i := 13) (v := .int .i64 0) rfl (by kernel_rfl) (by kernel_rfl) (by kernel_rfl) (by kernel_rfl) (fun _ _ _ h => h) (Or.inl ⟨by rfl, ?_⟩) hSS ?_
  · intro wz hz
    have y4 := k_cv hz.2 4 rfl; have y5 := k_cv hz.2 5 rfl; have y6 := k_cv hz.1 6 rfl; clear hz; go_simp
    try with_reducible rfl
  (try simp only [Act.put, List.setIfInBounds_toArray, List.set_cons_zero, List.set_cons_succ])
  refine wpAnyL_take (i := 14) (v := .int .i64 0) rfl (by kernel_rfl) (by kernel_rfl) (by kernel_rfl) (by kernel_rfl) (fun _ _ _ h => h) (Or.inl ⟨by rfl, ?_⟩) hSS ?_
  · intro wz hz
    have y4 := k_cv hz.2 4 rfl; have y5 := k_cv hz.2 5 rfl; have y6 := k_cv hz.1 6 rfl; clear hz; go_simp
    try with_reducible rfl
  (try simp only [Act.put, List.setIfInBounds_toArray, List.set_cons_zero, List.set_cons_succ])
  refine wpAnyL_take (i := 15) (v := .int .i64 0) rfl (by kernel_rfl) (by kernel_rfl) (by kernel_rfl) (by kernel_rfl) (fun _ _ _ h => h) (Or.inl ⟨by rfl, ?_⟩) hSS ?_
  · intro wz hz
    have y4 := k_cv hz.2 4 rfl; have y5 := k_cv hz.2 5 rfl; have y6 := k_cv hz.1 6 rfl; clear hz; go_simp
    try with_reducible rfl
  (try simp only [Act.put, List.setIfInBounds_toArray, List.set_cons_zero, List.set_cons_succ])
  refine wpAnyL_two (i := 11) (j := 16) (by kernel_rfl) rfl rfl (fun K hK => ?_) (fun K hK => ?_)
  · go_simp
    refine hK.out _ _ ⟨by repeat (first | exact hSS.1 | with_reducible apply k_al | with_reducible apply k_dr), by repeat (first | exact hSS.2 | with_reducible apply k_al | with_reducible apply k_dr)⟩ (fun hSn => ?_)
    clear hK K hSS
    have hSS := hSn
    clear hSn
    (try simp only [Act.put, List.setIfInBounds_toArray, List.set_cons_zero, List.set_cons_succ])
    refine wpAnyL_one (i := 16) (by kernel_rfl) rfl (fun K hK => ?_)
    go_simp
    refine hK.out _ _ ⟨by repeat (first | exact hSS.1 | with_reducible apply k_al | with_reducible apply k_dr), by repeat (first | exact hSS.2 | with_reducible apply k_al | with_reducible apply k_dr)⟩ (fun hSn => ?_)
    clear hK K hSS
    have hSS := hSn
    clear hSn
    (try simp only [Act.put, List.setIfInBounds_toArray, List.set_cons_zero, List.set_cons_succ])
    refine wpAnyL_take (i := 17) (v := .agg #[.int .i64 0, .int .i64 base, .int .i64 0, .slice (some ⟨w.heap.size + 1, 0, none⟩) 0 0, .slice (some ⟨w.heap.size + 1 + 1, 0, none⟩) 0 0, .slice none 0 0]) rfl (by kernel_rfl) (by kernel_rfl) (by kernel_rfl) (by kernel_rfl) (fun _ _ _ h => h) (Or.inl ⟨by rfl, ?_⟩) hSS ?_
    · intro wz hz
      go_simp
      try with_reducible rfl
    (try simp only [Act.put, List.setIfInBounds_toArray, List.set_cons_zero, List.set_cons_succ])
    refine wpAnyL_one (i := 18) (by kernel_rfl) rfl (fun K hK => ?_)
    go_simp
    refine hK.out _ _ ⟨by repeat (first | exact hSS.1 | with_reducible apply k_al | with_reducible apply k_dr), by repeat (first | exact hSS.2 | with_reducible apply k_al | with_reducible apply k_dr)⟩ (fun hSn => ?_)
    clear hK K hSS
    have hSS := hSn
    clear hSn
    (try simp only [Act.put, List.setIfInBounds_toArray, List.set_cons_zero, List.set_cons_succ])
    refine wpAnyL_one (i := 19) (by kernel_rfl) rfl (fun K hK => ?_)
    go_simp
    refine hK.out _ _ ⟨by repeat (first | exact hSS.1 | with_reducible apply k_al | with_reducible apply k_dr), by repeat (first | exact hSS.2 | with_reducible apply k_al | with_reducible apply k_dr)⟩ (fun hSn => ?_)
    clear hK K hSS
    have hSS := hSn
    clear hSn
    (try simp only [Act.put, List.setIfInBounds_toArray, List.set_cons_zero, List.set_cons_succ])
    refine wpAnyL_one (i := 20) (by kernel_rfl) rfl (fun K hK => ?_)
    refine step_append_lies _ rfl (.tmp 18) (.tmp 33) 50 rfl w.heap.size 64 i0 (.pointer none) 1 8 Tryz.underlying50 hi hz0 hz1 hz2 rfl (by decide) (.slice none 0 0) 0 [] (by simp [Act.eval, Act.put]) (World.ownsRow_nil _ _ _ _) ⟨w.heap.size + 1 + 1 + 1 + 1, 0, none⟩ 1 1 [.pointer (some ⟨w.heap.size + 1 + 1 + 1, 0, none⟩)] (by simp [Act.eval, Act.put]) rfl (World.news_of_block (cs := #[.pointer (some ⟨w.heap.size + 1 + 1 + 1, 0, none⟩)]) (t := 64) (fr := (0, 0)) (k_new (by simp))) (by intro u hu; simp at hu; subst hu; rfl) (by decide) (by decide) (by decide) (by simp; omega) _ rfl ?_
    intro g cap w1 hown hgrow hat hlt1
    have hFr : w1.heap[w.heap.size + 1 + 1 + 1]? = some (frm base 0 (w.heap.size + 1) (w.heap.size + 1 + 1)) := k_gr hgrow (by repeat (first | (refine k_new ?_; simp; done) | with_reducible apply k_al | with_reducible apply k_dr))
    have hbel : Bar [M] w w1 := by
      refine Bar.trans (b := _) ?_ (Bar.of_grown hgrow)
      repeat (first | exact Bar.refl _ _ | with_reducible apply Bar.alloc | with_reducible apply Bar.drew)
    refine hK.out _ _ ⟨k_gr hgrow (by repeat (first | exact hSS.1 | with_reducible apply k_al | with_reducible apply k_dr)), k_gr hgrow (by repeat (first | exact hSS.2 | with_reducible apply k_al | with_reducible apply k_dr))⟩ (fun hSn => ?_)
    clear hK K hSS
    have hSS := hSn
    clear hSn
    (try simp only [Act.put, List.setIfInBounds_toArray, List.set_cons_zero, List.set_cons_succ])
    refine wpAnyL_one (i := 21) (by kernel_rfl) rfl (fun K hK => ?_)
    go_simp
    refine hK.out _ _ ⟨by repeat (first | exact hSS.1 | with_reducible apply k_al | with_reducible apply k_dr), by repeat (first | exact hSS.2 | with_reducible apply k_al | with_reducible apply k_dr)⟩ (fun hSn => ?_)
    clear hK K hSS
    have hSS := hSn
    clear hSn
    (try simp only [Act.put, List.setIfInBounds_toArray, List.set_cons_zero, List.set_cons_succ])
    refine wpAnyL_take (i := 22) (v := .pointer (some ⟨M, 6, none⟩)) rfl (by kernel_rfl) (by kernel_rfl) (by kernel_rfl) (by kernel_rfl) (fun _ _ _ h => h) (Or.inl ⟨by rfl, ?_⟩) hSS ?_
    · intro wz hz
      go_simp
      try with_reducible rfl
    (try simp only [Act.put, List.setIfInBounds_toArray, List.set_cons_zero, List.set_cons_succ])
    refine wpAnyL_last (by kernel_rfl) (by kernel_rfl) rfl (fun K hK => ?_)
    have p6 := k_cv hSS.1 6 rfl
    have f6 := k_fr hSS.1 6
    go_simp
    refine hK.out _ _ ?_
    clear hK K p6 f6
    have hMn := k_se (i := 6) (u := .slice (some ⟨g, 0, none⟩) 1 cap) hSS.1
    obtain ⟨cur, hrow, hc0, hcap⟩ := own_one hown
    have hg1 : w.heap.size + 5 ≤ g := by
      rcases hat with h | h
      · cases h
      · subst h; simp
    clear hSS hgrow hown hat
    go_wp2
    go_end0
    refine ⟨rfl, ⟨g, w.heap.size + 1 + 1 + 1, cap, w.heap.size + 1, w.heap.size + 1 + 1, cur, hMn, k_ot hrow (by omega), hc0, hcap, k_ot hFr (by omega), by omega, by omega, by omega⟩, hbel.setCell (.inl (by simp)) _⟩
  · go_simp
    refine hK.out _ _ ⟨by repeat (first | exact hSS.1 | with_reducible apply k_al | with_reducible apply k_dr), by repeat (first | exact hSS.2 | with_reducible apply k_al | with_reducible apply k_dr)⟩ (fun hSn => ?_)
    clear hK K hSS
    have hSS := hSn
    clear hSn
    (try simp only [Act.put, List.setIfInBounds_toArray, List.set_cons_zero, List.set_cons_succ])
    refine wpAnyL_one (i := 11) (by kernel_rfl) rfl (fun K hK => ?_)
    go_simp
    refine hK.out _ _ ⟨by repeat (first | exact hSS.1 | with_reducible apply k_al | with_reducible apply k_dr), by repeat (first | exact hSS.2 | with_reducible apply k_al | with_reducible apply k_dr)⟩ (fun hSn => ?_)
    clear hK K hSS
    have hSS := hSn
    clear hSn
    (try simp only [Act.put, List.setIfInBounds_toArray, List.set_cons_zero, List.set_cons_succ])
    refine wpAnyL_take (i := 17) (v := .agg #[.int .i64 0, .int .i64 base, .int .i64 0, .slice (some ⟨w.heap.size + 1 + 1, 0, none⟩) 0 0, .slice (some ⟨w.heap.size + 1, 0, none⟩) 0 0, .slice none 0 0]) rfl (by kernel_rfl) (by kernel_rfl) (by kernel_rfl) (by kernel_rfl) (fun _ _ _ h => h) (Or.inl ⟨by rfl, ?_⟩) hSS ?_
    · intro wz hz
      go_simp
      try with_reducible rfl
    (try simp only [Act.put, List.setIfInBounds_toArray, List.set_cons_zero, List.set_cons_succ])
    refine wpAnyL_one (i := 18) (by kernel_rfl) rfl (fun K hK => ?_)
    go_simp
    refine hK.out _ _ ⟨by repeat (first | exact hSS.1 | with_reducible apply k_al | with_reducible apply k_dr), by repeat (first | exact hSS.2 | with_reducible apply k_al | with_reducible apply k_dr)⟩ (fun hSn => ?_)
    clear hK K hSS
    have hSS := hSn
    clear hSn
    (try simp only [Act.put, List.setIfInBounds_toArray, List.set_cons_zero, List.set_cons_succ])
    refine wpAnyL_one (i := 19) (by kernel_rfl) rfl (fun K hK => ?_)
    go_simp
    refine hK.out _ _ ⟨by repeat (first | exact hSS.1 | with_reducible apply k_al | with_reducible apply k_dr), by repeat (first | exact hSS.2 | with_reducible apply k_al | with_reducible apply k_dr)⟩ (fun hSn => ?_)
    clear hK K hSS
    have hSS := hSn
    clear hSn
    (try simp only [Act.put, List.setIfInBounds_toArray, List.set_cons_zero, List.set_cons_succ])
    refine wpAnyL_one (i := 20) (by kernel_rfl) rfl (fun K hK => ?_)
    refine step_append_lies _ rfl (.tmp 18) (.tmp 33) 50 rfl w.heap.size 64 i0 (.pointer none) 1 8 Tryz.underlying50 hi hz0 hz1 hz2 rfl (by decide) (.slice none 0 0) 0 [] (by simp [Act.eval, Act.put]) (World.ownsRow_nil _ _ _ _) ⟨w.heap.size + 1 + 1 + 1 + 1, 0, none⟩ 1 1 [.pointer (some ⟨w.heap.size + 1 + 1 + 1, 0, none⟩)] (by simp [Act.eval, Act.put]) rfl (World.news_of_block (cs := #[.pointer (some ⟨w.heap.size + 1 + 1 + 1, 0, none⟩)]) (t := 64) (fr := (0, 0)) (k_new (by simp))) (by intro u hu; simp at hu; subst hu; rfl) (by decide) (by decide) (by decide) (by simp; omega) _ rfl ?_
    intro g cap w1 hown hgrow hat hlt1
    have hFr : w1.heap[w.heap.size + 1 + 1 + 1]? = some (frm base 0 (w.heap.size + 1 + 1) (w.heap.size + 1)) := k_gr hgrow (by repeat (first | (refine k_new ?_; simp; done) | with_reducible apply k_al | with_reducible apply k_dr))
    have hbel : Bar [M] w w1 := by
      refine Bar.trans (b := _) ?_ (Bar.of_grown hgrow)
      repeat (first | exact Bar.refl _ _ | with_reducible apply Bar.alloc | with_reducible apply Bar.drew)
    refine hK.out _ _ ⟨k_gr hgrow (by repeat (first | exact hSS.1 | with_reducible apply k_al | with_reducible apply k_dr)), k_gr hgrow (by repeat (first | exact hSS.2 | with_reducible apply k_al | with_reducible apply k_dr))⟩ (fun hSn => ?_)
    clear hK K hSS
    have hSS := hSn
    clear hSn
    (try simp only [Act.put, List.setIfInBounds_toArray, List.set_cons_zero, List.set_cons_succ])
    refine wpAnyL_one (i := 21) (by kernel_rfl) rfl (fun K hK => ?_)
    go_simp
    refine hK.out _ _ ⟨by repeat (first | exact hSS.1 | with_reducible apply k_al | with_reducible apply k_dr), by repeat (first | exact hSS.2 | with_reducible apply k_al | with_reducible apply k_dr)⟩ (fun hSn => ?_)
    clear hK K hSS
    have hSS := hSn
    clear hSn
    (try simp only [Act.put, List.setIfInBounds_toArray, List.set_cons_zero, List.set_cons_succ])
    refine wpAnyL_take (i := 22) (v := .pointer (some ⟨M, 6, none⟩)) rfl (by kernel_rfl) (by kernel_rfl) (by kernel_rfl) (by kernel_rfl) (fun _ _ _ h => h) (Or.inl ⟨by rfl, ?_⟩) hSS ?_
    · intro wz hz
      go_simp
      try with_reducible rfl
    (try simp only [Act.put, List.setIfInBounds_toArray, List.set_cons_zero, List.set_cons_succ])
    refine wpAnyL_last (by kernel_rfl) (by kernel_rfl) rfl (fun K hK => ?_)
    have p6 := k_cv hSS.1 6 rfl
    have f6 := k_fr hSS.1 6
    go_simp
    refine hK.out _ _ ?_
    clear hK K p6 f6
    have hMn := k_se (i := 6) (u := .slice (some ⟨g, 0, none⟩) 1 cap) hSS.1
    obtain ⟨cur, hrow, hc0, hcap⟩ := own_one hown
    have hg1 : w.heap.size + 5 ≤ g := by
      rcases hat with h | h
      · cases h
      · subst h; simp
    clear hSS hgrow hown hat
    go_wp2
    go_end0
    refine ⟨rfl, ⟨g, w.heap.size + 1 + 1 + 1, cap, w.heap.size + 1 + 1, w.heap.size + 1, cur, hMn, k_ot hrow (by omega), hc0, hcap, k_ot hFr (by omega), by omega, by omega, by omega⟩, hbel.setCell (.inl (by simp)) _⟩
end Go.Proofs.YtccdgjjoeamnjaaGreatDoor.H
