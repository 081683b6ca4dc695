/- Contracts for VmNothing: the document's machine of one code that only returns: how an invocation begins, a step. Conditions: as the machine lies in memory. -/
import Derived.Test.YtccdgjjoeamnjaaGreatDoorHVmH
namespace Go.Proofs.YtccdgjjoeamnjaaGreatDoor.H
set_option linter.unusedVariables false
set_option linter.unusedSimpArgs false
open Go.RowKit Go.Proofs.YtccdgjjoeamnjaaGreatDoor.Plain
set_option maxHeartbeats 3200000
set_option maxRecDepth 100000
attribute [local go_sem] ext_from ext_bits cell_isSome un_neg_float dn_size dn_alloc dn_set mk0v
/-- The document's machine in memory. -/
def machR (C : Nat) (cells mem calls : Value) (now cnt : Int) (ended : Bool) : Obj := .cells #[.slice (some ⟨C, 0, none⟩) 1 1, .int .i64 now, cells, mem, calls, .int .i64 cnt, .int .i64 0, .bool ended] 58 (0, 0)
/-- A begun one. -/
def BegunR (w' : World) (B M C : Nat) (cells mem : Value) (now base : Int) : Prop :=
  ∃ G cap cur, w'.heap[M]? = some (machR C cells mem (.slice (some ⟨G, 0, none⟩) 1 cap) now 0 false) ∧ w'.heap[G]? = some (.cells cur 74 (0, 0)) ∧ cur[0]? = some (.int .i64 0) ∧ cur[2]? = some (.int .i64 0) ∧ 1 ≤ cap ∧ B ≤ G
theorem own_row {w : World} {B g cap size : Nat} {T : TypeId} {xs : List Value} (h : w.ownsRow B T size (.slice (some ⟨g, 0, none⟩) (0 + 1) cap) (0 + 1) ([] ++ xs)) : ∃ cur, w.heap[g]? = some (.cells cur T (0, 0)) ∧ (∀ (j : Nat) (x : Value), xs[j]? = some x → cur[j]? = some x) ∧ 1 ≤ cap := by
  obtain ⟨_, h2 | ⟨g2, cap2, cur, e1, _, e3, e4, _, e6, e7⟩⟩ := h
  · cases h2.1
  · simp only [Value.slice.injEq, Option.some.injEq, Addr.mk.injEq] at e1
    obtain ⟨⟨rfl, _, _⟩, _, rfl⟩ := e1
    refine ⟨cur, e3, fun j x hx => ?_, e4⟩
    rw [List.nil_append] at e7
    rw [← e7, List.getElem?_take] at hx
    split at hx
    · simpa using hx
    · cases hx
theorem r_begin (M C O : Nat) (base now : Int) (cells mem : Value) (w : World) (hM : w.heap[M]? = some (machR C cells mem (.slice none 0 0) now 0 false)) (hK : CodeAt w C O) (hMC : M ≠ C) :
    Calls Tryz.prog 16 #[.pointer (some ⟨M, 0, none⟩), .int .i64 0, .int .i64 base] w fun e w' => e = .returned (.tuple #[]) ∧ BegunR w' w.heap.size M C cells mem now base ∧ Bar [M] w w' := by
  obtain ⟨i0, hi, hz0, hz1, hz2⟩ := info_parts (show (Tryz.prog.info? 74).map (fun i => (i.zero, i.size, i.bytes)) = some (some (.agg #[.int .i64 0, .int .i64 0, .int .i64 0, .slice none 0 0, .slice none 0 0, .slice none 0 0]), 6, 96) by kernel_rfl)
  have hM' : w.heap[M]? = some (.cells #[.slice (some ⟨C, 0, none⟩) 1 1, .int .i64 now, cells, mem, .slice none 0 0, .int .i64 0, .int .i64 0, .bool false] 58 (0, 0)) := hM
  have hlt := k_lt hM
  have hcl := k_lt hK.code
  have k0 := k_cv hK.code 0 rfl
  have k1 := k_cv hK.code 1 rfl
  have k2 := k_cv hK.code 2 rfl
  have k3 := k_cv hK.code 3 rfl
  have k4 := k_cv hK.code 4 rfl
  have k5 := k_cv hK.code 5 rfl
  have k6 := k_cv hK.code 6 rfl
  have k7 := k_cv hK.code 7 rfl
  have m0 := k_cv hM' 0 rfl
  simp only [List.getElem_toArray, List.getElem_cons_succ, List.getElem_cons_zero] at m0 k0 k1 k2 k3 k4 k5 k6 k7
  have HM := Lib.hid hM'
  clear hM hM' hK
  go_enter Tryz.func16, Tryz.ntmps16
  go_wp2_with fail
  refine wp_region_late (fun w' => w'.heap[M]? = some (.cells #[.slice (some ⟨C, 0, none⟩) 1 1, .int .i64 now, cells, mem, .slice none 0 0, .int .i64 0, .int .i64 0, .bool false] 58 (0, 0)) ∧ w'.heap[w.heap.size]? = some (.cells #[.string ⟨#[]⟩, .int .i64 0, .int .i64 0, .int .i64 0, .int .i64 0, .int .i64 0, .slice (some ⟨O, 0, none⟩) 1 1, .slice none 0 0] 34 (0, 0))) 20 (by kernel_rfl) ?_
  have hSS : (w.alloc (.cells #[.string ⟨#[]⟩, .int .i64 0, .int .i64 0, .int .i64 0, .int .i64 0, .int .i64 0, .slice (some ⟨O, 0, none⟩) 1 1, .slice none 0 0] 34 (0, 0))).drew.heap[M]? = some (.cells #[.slice (some ⟨C, 0, none⟩) 1 1, .int .i64 now, cells, mem, .slice none 0 0, .int .i64 0, .int .i64 0, .bool false] 58 (0, 0)) ∧ (w.alloc (.cells #[.string ⟨#[]⟩, .int .i64 0, .int .i64 0, .int .i64 0, .int .i64 0, .int .i64 0, .slice (some ⟨O, 0, none⟩) 1 1, .slice none 0 0] 34 (0, 0))).drew.heap[w.heap.size]? = some (.cells #[.string ⟨#[]⟩, .int .i64 0, .int .i64 0, .int .i64 0, .int .i64 0, .int .i64 0, .slice (some ⟨O, 0, none⟩) 1 1, .slice none 0 0] 34 (0, 0)) := ⟨k_dr (k_al HM.out _), k_dr (k_new rfl)⟩
  refine wpAnyL_take (i := 0) (v := .pointer (some ⟨M, 0, none⟩)) rfl (by kernel_rfl) (by kernel_rfl) (by kernel_rfl) (by kernel_rfl) (fun _ _ _ h => h) (Or.inl ⟨by rfl, ?_⟩) hSS ?_
  · intro wz hz
    have y4 := k_cv hz.2 4 rfl; have y5 := k_cv hz.2 5 rfl; have y6 := k_cv hz.1 4 rfl; clear hz; go_simp
    try with_reducible rfl
  (try simp only [Act.put, List.setIfInBounds_toArray, List.set_cons_zero, List.set_cons_succ])
  refine wpAnyL_take (i := 1) (v := .pointer (some ⟨M, 0, none⟩)) rfl (by kernel_rfl) (by kernel_rfl) (by kernel_rfl) (by kernel_rfl) (fun _ _ _ h => h) (Or.inl ⟨by rfl, ?_⟩) hSS ?_
  · intro wz hz
    have y4 := k_cv hz.2 4 rfl; have y5 := k_cv hz.2 5 rfl; have y6 := k_cv hz.1 4 rfl; clear hz; go_simp
    try with_reducible rfl
  (try simp only [Act.put, List.setIfInBounds_toArray, List.set_cons_zero, List.set_cons_succ])
  refine wpAnyL_take (i := 2) (v := .pointer (some ⟨M, 0, none⟩)) rfl (by kernel_rfl) (by kernel_rfl) (by kernel_rfl) (by kernel_rfl) (fun _ _ _ h => h) (Or.inl ⟨by rfl, ?_⟩) hSS ?_
  · intro wz hz
    have y4 := k_cv hz.2 4 rfl; have y5 := k_cv hz.2 5 rfl; have y6 := k_cv hz.1 4 rfl; clear hz; go_simp
    try with_reducible rfl
  (try simp only [Act.put, List.setIfInBounds_toArray, List.set_cons_zero, List.set_cons_succ])
  refine wpAnyL_take (i := 3) (v := .pointer (some ⟨M, 4, none⟩)) rfl (by kernel_rfl) (by kernel_rfl) (by kernel_rfl) (by kernel_rfl) (fun _ _ _ h => h) (Or.inl ⟨by rfl, ?_⟩) hSS ?_
  · intro wz hz
    have y4 := k_cv hz.2 4 rfl; have y5 := k_cv hz.2 5 rfl; have y6 := k_cv hz.1 4 rfl; clear hz; go_simp
    try with_reducible rfl
  (try simp only [Act.put, List.setIfInBounds_toArray, List.set_cons_zero, List.set_cons_succ])
  refine wpAnyL_take (i := 4) (v := .slice none 0 0) rfl (by kernel_rfl) (by kernel_rfl) (by kernel_rfl) (by kernel_rfl) (fun _ _ _ h => h) (Or.inl ⟨by rfl, ?_⟩) hSS ?_
  · intro wz hz
    have y4 := k_cv hz.2 4 rfl; have y5 := k_cv hz.2 5 rfl; have y6 := k_cv hz.1 4 rfl; clear hz; go_simp
    try with_reducible rfl
  (try simp only [Act.put, List.setIfInBounds_toArray, List.set_cons_zero, List.set_cons_succ])
  refine wpAnyL_take (i := 5) (v := .int .i64 0) rfl (by kernel_rfl) (by kernel_rfl) (by kernel_rfl) (by kernel_rfl) (fun _ _ _ h => h) (Or.inl ⟨by rfl, ?_⟩) hSS ?_
  · intro wz hz
    have y4 := k_cv hz.2 4 rfl; have y5 := k_cv hz.2 5 rfl; have y6 := k_cv hz.1 4 rfl; clear hz; go_simp
    try with_reducible rfl
  (try simp only [Act.put, List.setIfInBounds_toArray, List.set_cons_zero, List.set_cons_succ])
  refine wpAnyL_take (i := 6) (v := .int .i64 base) rfl (by kernel_rfl) (by kernel_rfl) (by kernel_rfl) (by kernel_rfl) (fun _ _ _ h => h) (Or.inl ⟨by rfl, ?_⟩) hSS ?_
  · intro wz hz
    have y4 := k_cv hz.2 4 rfl; have y5 := k_cv hz.2 5 rfl; have y6 := k_cv hz.1 4 rfl; clear hz; go_simp
    try with_reducible rfl
  (try simp only [Act.put, List.setIfInBounds_toArray, List.set_cons_zero, List.set_cons_succ])
  refine wpAnyL_take (i := 7) (v := .pointer (some ⟨w.heap.size, 4, none⟩)) rfl (by kernel_rfl) (by kernel_rfl) (by kernel_rfl) (by kernel_rfl) (fun _ _ _ h => h) (Or.inl ⟨by rfl, ?_⟩) hSS ?_
  · intro wz hz
    have y4 := k_cv hz.2 4 rfl; have y5 := k_cv hz.2 5 rfl; have y6 := k_cv hz.1 4 rfl; clear hz; go_simp
    try with_reducible rfl
  (try simp only [Act.put, List.setIfInBounds_toArray, List.set_cons_zero, List.set_cons_succ])
  refine wpAnyL_take (i := 8) (v := .int .i64 0) rfl (by kernel_rfl) (by kernel_rfl) (by kernel_rfl) (by kernel_rfl) (fun _ _ _ h => h) (Or.inl ⟨by rfl, ?_⟩) hSS ?_
  · intro wz hz
    have y4 := k_cv hz.2 4 rfl; have y5 := k_cv hz.2 5 rfl; have y6 := k_cv hz.1 4 rfl; clear hz; go_simp
    try with_reducible rfl
  (try simp only [Act.put, List.setIfInBounds_toArray, List.set_cons_zero, List.set_cons_succ])
  refine wpAnyL_take (i := 9) (v := .int .i64 0) rfl (by kernel_rfl) (by kernel_rfl) (by kernel_rfl) (by kernel_rfl) (fun _ _ _ h => h) (Or.inl ⟨by rfl, ?_⟩) hSS ?_
  · intro wz hz
    have y4 := k_cv hz.2 4 rfl; have y5 := k_cv hz.2 5 rfl; have y6 := k_cv hz.1 4 rfl; clear hz; go_simp
    try with_reducible rfl
  (try simp only [Act.put, List.setIfInBounds_toArray, List.set_cons_zero, List.set_cons_succ])
  refine wpAnyL_take (i := 11) (v := .pointer (some ⟨w.heap.size, 5, none⟩)) rfl (by kernel_rfl) (by kernel_rfl) (by kernel_rfl) (by kernel_rfl) (fun _ _ _ h => h) (Or.inl ⟨by rfl, ?_⟩) hSS ?_
  · intro wz hz
    have y4 := k_cv hz.2 4 rfl; have y5 := k_cv hz.2 5 rfl; have y6 := k_cv hz.1 4 rfl; clear hz; go_simp
    try with_reducible rfl
  (try simp only [Act.put, List.setIfInBounds_toArray, List.set_cons_zero, List.set_cons_succ])
  refine wpAnyL_take (i := 12) (v := .int .i64 0) rfl (by kernel_rfl) (by kernel_rfl) (by kernel_rfl) (by kernel_rfl) (fun _ _ _ h => h) (Or.inl ⟨by rfl, ?_⟩) hSS ?_
  · intro wz hz
    have y4 := k_cv hz.2 4 rfl; have y5 := k_cv hz.2 5 rfl; have y6 := k_cv hz.1 4 rfl; clear hz; go_simp
    try with_reducible rfl
  (try simp only [Act.put, List.setIfInBounds_toArray, List.set_cons_zero, List.set_cons_succ])
  refine wpAnyL_take (i := 13) (v := .int .i64 0) rfl (by kernel_rfl) (by kernel_rfl) (by kernel_rfl) (by kernel_rfl) (fun _ _ _ h => h) (Or.inl ⟨by rfl, ?_⟩) hSS ?_
  · intro wz hz
    have y4 := k_cv hz.2 4 rfl; have y5 := k_cv hz.2 5 rfl; have y6 := k_cv hz.1 4 rfl; clear hz; go_simp
    try with_reducible rfl
  (try simp only [Act.put, List.setIfInBounds_toArray, List.set_cons_zero, List.set_cons_succ])
  refine wpAnyL_two (i := 10) (j := 14) (by kernel_rfl) rfl rfl (fun K hK => ?_) (fun K hK => ?_)
  · go_simp
    refine hK.out _ _ ⟨by repeat (first | exact hSS.1 | with_reducible apply k_al | with_reducible apply k_dr), by repeat (first | exact hSS.2 | with_reducible apply k_al | with_reducible apply k_dr)⟩ (fun hSn => ?_)
    clear hK K hSS
    have hSS := hSn
    clear hSn
    (try simp only [Act.put, List.setIfInBounds_toArray, List.set_cons_zero, List.set_cons_succ])
    refine wpAnyL_one (i := 14) (by kernel_rfl) rfl (fun K hK => ?_)
    go_simp
    refine hK.out _ _ ⟨by repeat (first | exact hSS.1 | with_reducible apply k_al | with_reducible apply k_dr), by repeat (first | exact hSS.2 | with_reducible apply k_al | with_reducible apply k_dr)⟩ (fun hSn => ?_)
    clear hK K hSS
    have hSS := hSn
    clear hSn
    (try simp only [Act.put, List.setIfInBounds_toArray, List.set_cons_zero, List.set_cons_succ])
    refine wpAnyL_take (i := 15) (v := .agg #[.int .i64 0, .int .i64 base, .int .i64 0, .slice (some ⟨w.heap.size + 1, 0, none⟩) 0 0, .slice (some ⟨w.heap.size + 1 + 1, 0, none⟩) 0 0, .slice none 0 0]) rfl (by kernel_rfl) (by kernel_rfl) (by kernel_rfl) (by kernel_rfl) (fun _ _ _ h => h) (Or.inl ⟨by rfl, ?_⟩) hSS ?_
    · intro wz hz
      go_simp
      try with_reducible rfl
    (try simp only [Act.put, List.setIfInBounds_toArray, List.set_cons_zero, List.set_cons_succ])
    refine wpAnyL_one (i := 16) (by kernel_rfl) rfl (fun K hK => ?_)
    go_simp
    refine hK.out _ _ ⟨by repeat (first | exact hSS.1 | with_reducible apply k_al | with_reducible apply k_dr), by repeat (first | exact hSS.2 | with_reducible apply k_al | with_reducible apply k_dr)⟩ (fun hSn => ?_)
    clear hK K hSS
    have hSS := hSn
    clear hSn
    (try simp only [Act.put, List.setIfInBounds_toArray, List.set_cons_zero, List.set_cons_succ])
    refine wpAnyL_one (i := 17) (by kernel_rfl) rfl (fun K hK => ?_)
    refine step_append_lies _ rfl (.tmp 18) (.tmp 30) 56 rfl w.heap.size 74 i0 (.agg #[.int .i64 0, .int .i64 0, .int .i64 0, .slice none 0 0, .slice none 0 0, .slice none 0 0]) 6 96 Tryz.underlying56 hi hz0 hz1 hz2 rfl (by decide) (.slice none 0 0) 0 [] (by simp [Act.eval, Act.put]) (World.ownsRow_nil _ _ _ _) ⟨w.heap.size + 1 + 1 + 1, 0, none⟩ 1 1 [.int .i64 0, .int .i64 base, .int .i64 0, .slice (some ⟨w.heap.size + 1, 0, none⟩) 0 0, .slice (some ⟨w.heap.size + 1 + 1, 0, none⟩) 0 0, .slice none 0 0] (by simp [Act.eval, Act.put]) rfl (World.news_of_block (cs := #[.int .i64 0, .int .i64 base, .int .i64 0, .slice (some ⟨w.heap.size + 1, 0, none⟩) 0 0, .slice (some ⟨w.heap.size + 1 + 1, 0, none⟩) 0 0, .slice none 0 0]) (t := 74) (fr := (0, 0)) (k_new (by simp))) (by intro u hu; simp at hu; rcases hu with rfl | rfl | rfl | rfl | rfl | rfl <;> rfl) (by decide) (by decide) (by decide) (by simp; omega) _ rfl ?_
    intro g cap w1 hown hgrow hat hlt1
    have hbel : Bar [M] w w1 := by
      refine Bar.trans (b := _) ?_ (Bar.of_grown hgrow)
      repeat (first | exact Bar.refl _ _ | with_reducible apply Bar.alloc | with_reducible apply Bar.drew)
    refine hK.out _ _ ⟨k_gr hgrow (by repeat (first | exact hSS.1 | with_reducible apply k_al | with_reducible apply k_dr)), k_gr hgrow (by repeat (first | exact hSS.2 | with_reducible apply k_al | with_reducible apply k_dr))⟩ (fun hSn => ?_)
    clear hK K hSS
    have hSS := hSn
    clear hSn
    (try simp only [Act.put, List.setIfInBounds_toArray, List.set_cons_zero, List.set_cons_succ])
    refine wpAnyL_one (i := 18) (by kernel_rfl) rfl (fun K hK => ?_)
    go_simp
    refine hK.out _ _ ⟨by repeat (first | exact hSS.1 | with_reducible apply k_al | with_reducible apply k_dr), by repeat (first | exact hSS.2 | with_reducible apply k_al | with_reducible apply k_dr)⟩ (fun hSn => ?_)
    clear hK K hSS
    have hSS := hSn
    clear hSn
    (try simp only [Act.put, List.setIfInBounds_toArray, List.set_cons_zero, List.set_cons_succ])
    refine wpAnyL_take (i := 19) (v := .pointer (some ⟨M, 4, none⟩)) rfl (by kernel_rfl) (by kernel_rfl) (by kernel_rfl) (by kernel_rfl) (fun _ _ _ h => h) (Or.inl ⟨by rfl, ?_⟩) hSS ?_
    · intro wz hz
      go_simp
      try with_reducible rfl
    (try simp only [Act.put, List.setIfInBounds_toArray, List.set_cons_zero, List.set_cons_succ])
    refine wpAnyL_last (by kernel_rfl) (by kernel_rfl) rfl (fun K hK => ?_)
    have p6 := k_cv hSS.1 4 rfl
    have f6 := k_fr hSS.1 4
    go_simp
    refine hK.out _ _ ?_
    clear hK K p6 f6
    have hMn := k_se (i := 4) (u := .slice (some ⟨g, 0, none⟩) 1 cap) hSS.1
    obtain ⟨cur, hrow, hc0, hcap⟩ := own_row hown
    have hg1 : w.heap.size + 4 ≤ g := by
      rcases hat with h | h
      · cases h
      · subst h; simp
    have d0 := hc0 0 _ rfl
    have d2 := hc0 2 _ rfl
    clear hSS hgrow hown hat hc0
    go_wp2
    go_end0
    exact ⟨rfl, ⟨g, cap, cur, hMn, k_ot hrow (by omega), d0, d2, hcap, by omega⟩, hbel.setCell (.inl (by simp)) _⟩
  · go_simp
    refine hK.out _ _ ⟨by repeat (first | exact hSS.1 | with_reducible apply k_al | with_reducible apply k_dr), by repeat (first | exact hSS.2 | with_reducible apply k_al | with_reducible apply k_dr)⟩ (fun hSn => ?_)
    clear hK K hSS
    have hSS := hSn
    clear hSn
    (try simp only [Act.put, List.setIfInBounds_toArray, List.set_cons_zero, List.set_cons_succ])
    refine wpAnyL_one (i := 10) (by kernel_rfl) rfl (fun K hK => ?_)
    go_simp
    refine hK.out _ _ ⟨by repeat (first | exact hSS.1 | with_reducible apply k_al | with_reducible apply k_dr), by repeat (first | exact hSS.2 | with_reducible apply k_al | with_reducible apply k_dr)⟩ (fun hSn => ?_)
    clear hK K hSS
    have hSS := hSn
    clear hSn
    (try simp only [Act.put, List.setIfInBounds_toArray, List.set_cons_zero, List.set_cons_succ])
    refine wpAnyL_take (i := 15) (v := .agg #[.int .i64 0, .int .i64 base, .int .i64 0, .slice (some ⟨w.heap.size + 1 + 1, 0, none⟩) 0 0, .slice (some ⟨w.heap.size + 1, 0, none⟩) 0 0, .slice none 0 0]) rfl (by kernel_rfl) (by kernel_rfl) (by kernel_rfl) (by kernel_rfl) (fun _ _ _ h => h) (Or.inl ⟨by rfl, ?_⟩) hSS ?_
    · intro wz hz
      go_simp
      try with_reducible rfl
    (try simp only [Act.put, List.setIfInBounds_toArray, List.set_cons_zero, List.set_cons_succ])
    refine wpAnyL_one (i := 16) (by kernel_rfl) rfl (fun K hK => ?_)
    go_simp
    refine hK.out _ _ ⟨by repeat (first | exact hSS.1 | with_reducible apply k_al | with_reducible apply k_dr), by repeat (first | exact hSS.2 | with_reducible apply k_al | with_reducible apply k_dr)⟩ (fun hSn => ?_)
    clear hK K hSS
    have hSS := hSn
    clear hSn
    (try simp only [Act.put, List.setIfInBounds_toArray, List.set_cons_zero, List.set_cons_succ])
    refine wpAnyL_one (i := 17) (by kernel_rfl) rfl (fun K hK => ?_)
    refine step_append_lies _ rfl (.tmp 18) (.tmp 30) 56 rfl w.heap.size 74 i0 (.agg #[.int .i64 0, .int .i64 0, .int .i64 0, .slice none 0 0, .slice none 0 0, .slice none 0 0]) 6 96 Tryz.underlying56 hi hz0 hz1 hz2 rfl (by decide) (.slice none 0 0) 0 [] (by simp [Act.eval, Act.put]) (World.ownsRow_nil _ _ _ _) ⟨w.heap.size + 1 + 1 + 1, 0, none⟩ 1 1 [.int .i64 0, .int .i64 base, .int .i64 0, .slice (some ⟨w.heap.size + 1 + 1, 0, none⟩) 0 0, .slice (some ⟨w.heap.size + 1, 0, none⟩) 0 0, .slice none 0 0] (by simp [Act.eval, Act.put]) rfl (World.news_of_block (cs := #[.int .i64 0, .int .i64 base, .int .i64 0, .slice (some ⟨w.heap.size + 1 + 1, 0, none⟩) 0 0, .slice (some ⟨w.heap.size + 1, 0, none⟩) 0 0, .slice none 0 0]) (t := 74) (fr := (0, 0)) (k_new (by simp))) (by intro u hu; simp at hu; rcases hu with rfl | rfl | rfl | rfl | rfl | rfl <;> rfl) (by decide) (by decide) (by decide) (by simp; omega) _ rfl ?_
    intro g cap w1 hown hgrow hat hlt1
    have hbel : Bar [M] w w1 := by
      refine Bar.trans (b := _) ?_ (Bar.of_grown hgrow)
      repeat (first | exact Bar.refl _ _ | with_reducible apply Bar.alloc | with_reducible apply Bar.drew)
    refine hK.out _ _ ⟨k_gr hgrow (by repeat (first | exact hSS.1 | with_reducible apply k_al | with_reducible apply k_dr)), k_gr hgrow (by repeat (first | exact hSS.2 | with_reducible apply k_al | with_reducible apply k_dr))⟩ (fun hSn => ?_)
    clear hK K hSS
    have hSS := hSn
    clear hSn
    (try simp only [Act.put, List.setIfInBounds_toArray, List.set_cons_zero, List.set_cons_succ])
    refine wpAnyL_one (i := 18) (by kernel_rfl) rfl (fun K hK => ?_)
    go_simp
    refine hK.out _ _ ⟨by repeat (first | exact hSS.1 | with_reducible apply k_al | with_reducible apply k_dr), by repeat (first | exact hSS.2 | with_reducible apply k_al | with_reducible apply k_dr)⟩ (fun hSn => ?_)
    clear hK K hSS
    have hSS := hSn
    clear hSn
    (try simp only [Act.put, List.setIfInBounds_toArray, List.set_cons_zero, List.set_cons_succ])
    refine wpAnyL_take (i := 19) (v := .pointer (some ⟨M, 4, none⟩)) rfl (by kernel_rfl) (by kernel_rfl) (by kernel_rfl) (by kernel_rfl) (fun _ _ _ h => h) (Or.inl ⟨by rfl, ?_⟩) hSS ?_
    · intro wz hz
      go_simp
      try with_reducible rfl
    (try simp only [Act.put, List.setIfInBounds_toArray, List.set_cons_zero, List.set_cons_succ])
    refine wpAnyL_last (by kernel_rfl) (by kernel_rfl) rfl (fun K hK => ?_)
    have p6 := k_cv hSS.1 4 rfl
    have f6 := k_fr hSS.1 4
    go_simp
    refine hK.out _ _ ?_
    clear hK K p6 f6
    have hMn := k_se (i := 4) (u := .slice (some ⟨g, 0, none⟩) 1 cap) hSS.1
    obtain ⟨cur, hrow, hc0, hcap⟩ := own_row hown
    have hg1 : w.heap.size + 4 ≤ g := by
      rcases hat with h | h
      · cases h
      · subst h; simp
    have d0 := hc0 0 _ rfl
    have d2 := hc0 2 _ rfl
    clear hSS hgrow hown hat hc0
    go_wp2
    go_end0
    exact ⟨rfl, ⟨g, cap, cur, hMn, k_ot hrow (by omega), d0, d2, hcap, by omega⟩, hbel.setCell (.inl (by simp)) _⟩
end Go.Proofs.YtccdgjjoeamnjaaGreatDoor.H
