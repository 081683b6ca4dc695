/- Contract of the closure that adds a function over texts to the table. Condition: the table is the call's own. -/
import Derived.Test.YtflhndjpfiklaaaGreatDoorHStdC
import Derived.Test.YtflhndjpfiklaaaGreatDoorHVmL
import Derived.Deep.AppendLies
namespace Go.Proofs.YtflhndjpfiklaaaGreatDoor.H
set_option linter.unusedVariables false
set_option linter.unusedSimpArgs false
open Go.RowKit Go.Proofs.YtflhndjpfiklaaaGreatDoor.Plain
set_option maxHeartbeats 3200000
set_option maxRecDepth 100000
attribute [local go_sem] ext_from ext_bits cell_isSome un_neg_float
theorem k_dr {w : World} {g : Nat} {o : Obj} (h : w.heap[g]? = some o) : w.drew.heap[g]? = some o := h
theorem c_fixed (s : Option Addr) (n c : Nat) (w : World) : Calls Tryz.prog 29 #[.slice s n c] w fun e w' => e = .returned (.func (.func 85) #[] #[.pointer (some ⟨w.heap.size, 0, none⟩)]) ∧ w' = w.alloc (.cells #[.slice s n c] 53 (0, 0)) := by
  have hmf : ∀ (fn : Fn) (first cap : Array Value) (w : World), (Instr.makeFunc fn first cap).run Tryz.prog w = .ok (.func fn first cap) w := fun _ _ _ _ => rfl
  go_enter Tryz.func29, Tryz.ntmps29
  go_wp2
  go_ret
  exact ⟨rfl, rfl⟩
theorem c_addT (B L k : Nat) (xs : List Value) (nm : ByteArray) (s : Option Addr) (n c : Nat) (gf df : Fn) (ga gc da dc : Array Value) (w : World) (hT : Tab w B L k xs) (hk : k ≤ 1000) (hB : B ≤ w.heap.size) :
    Calls Tryz.prog 102 #[.string nm, .slice s n c, .func gf ga gc, .func df da dc, .pointer (some ⟨L, 0, none⟩)] w fun e w' => e = .returned (.tuple #[]) ∧ (∃ a, Tab w' B L (k + 1) (xs ++ [.string nm, .func (.func 85) #[] #[.pointer (some ⟨a, 0, none⟩)], .func gf ga gc, .func df da dc]) ∧ w'.heap[a]? = some (.cells #[.slice s n c] 53 (0, 0))) ∧ Kp L w w' ∧ Below B w w' := by
  obtain ⟨i0, hi, hz0, hz1, hz2⟩ := info_parts (show (Tryz.prog.info? 52).map (fun i => (i.zero, i.size, i.bytes)) = some (some (.agg #[.string ⟨#[]⟩, .nilFunc, .nilFunc, .nilFunc]), 4, 40) by kernel_rfl)
  obtain ⟨hBL, v, hL, hown⟩ := hT
  obtain ⟨a, c0, rfl⟩ := own_shape hown
  have lL := k_lt hL
  have HL := Lib.hid hL
  clear hL
  go_enter Tryz.func102, Tryz.ntmps102
  go_wp2_with fail
  refine wp_region_late (fun w' => w'.heap[L]? = some (.cells #[.slice a k c0] 46 (0, 0))) 9 (by kernel_rfl) ?_
  have hSS : w.drew.heap[L]? = some (.cells #[.slice a k c0] 46 (0, 0)) := k_dr HL.out
  refine wpAnyL_take (i := 0) (v := .slice a k c0) rfl (by kernel_rfl) (by kernel_rfl) (by kernel_rfl) (by kernel_rfl) (fun _ _ _ h => h) (Or.inl ⟨by rfl, ?_⟩) hSS ?_
  · intro wz hz
    have y0 := k_cv hz 0 rfl; clear hz; go_simp
    try with_reducible rfl
  (try simp only [Act.put, List.setIfInBounds_toArray, List.set_cons_zero, List.set_cons_succ])
  refine wpAnyL_take (i := 1) (v := .string nm) rfl (by kernel_rfl) (by kernel_rfl) (by kernel_rfl) (by kernel_rfl) (fun _ _ _ h => h) (Or.inl ⟨by rfl, ?_⟩) hSS ?_
  · intro wz hz
    have y0 := k_cv hz 0 rfl; clear hz; go_simp
    try with_reducible rfl
  (try simp only [Act.put, List.setIfInBounds_toArray, List.set_cons_zero, List.set_cons_succ])
  refine wpAnyL_take (i := 2) (v := .slice s n c) rfl (by kernel_rfl) (by kernel_rfl) (by kernel_rfl) (by kernel_rfl) (fun _ _ _ h => h) (Or.inl ⟨by rfl, ?_⟩) hSS ?_
  · intro wz hz
    have y0 := k_cv hz 0 rfl; clear hz; go_simp
    try with_reducible rfl
  (try simp only [Act.put, List.setIfInBounds_toArray, List.set_cons_zero, List.set_cons_succ])
  refine wpAnyL_take (i := 4) (v := .func gf ga gc) rfl (by kernel_rfl) (by kernel_rfl) (by kernel_rfl) (by kernel_rfl) (fun _ _ _ h => h) (Or.inl ⟨by rfl, ?_⟩) hSS ?_
  · intro wz hz
    have y0 := k_cv hz 0 rfl; clear hz; go_simp
    try with_reducible rfl
  (try simp only [Act.put, List.setIfInBounds_toArray, List.set_cons_zero, List.set_cons_succ])
  refine wpAnyL_take (i := 5) (v := .func df da dc) rfl (by kernel_rfl) (by kernel_rfl) (by kernel_rfl) (by kernel_rfl) (fun _ _ _ h => h) (Or.inl ⟨by rfl, ?_⟩) hSS ?_
  · intro wz hz
    have y0 := k_cv hz 0 rfl; clear hz; go_simp
    try with_reducible rfl
  (try simp only [Act.put, List.setIfInBounds_toArray, List.set_cons_zero, List.set_cons_succ])
  refine wpAnyL_one (i := 3) (by kernel_rfl) rfl (fun K hK => ?_)
  go_simp
  go_wp2_with (go_at_call 29; with_reducible refine (c_fixed _ _ _ _).mono ?_; rintro e w' ⟨rfl, rfl⟩)
  refine hK.out _ _ (by repeat (first | exact hSS | with_reducible apply k_al | with_reducible apply k_dr)) (fun hSn => ?_)
  clear hK K hSS
  have hSS := hSn
  clear hSn
  (try simp only [Act.put, List.setIfInBounds_toArray, List.set_cons_zero, List.set_cons_succ])
  refine wpAnyL_take (i := 6) (v := .agg #[.string nm, .func (.func 85) #[] #[.pointer (some ⟨w.heap.size, 0, none⟩)], .func gf ga gc, .func df da dc]) rfl (by kernel_rfl) (by kernel_rfl) (by kernel_rfl) (by kernel_rfl) (fun _ _ _ h => h) (Or.inl ⟨by rfl, ?_⟩) hSS ?_
  · intro wz hz
    have y0 := k_cv hz 0 rfl; clear hz; go_simp
    try with_reducible rfl
  (try simp only [Act.put, List.setIfInBounds_toArray, List.set_cons_zero, List.set_cons_succ])
  refine wpAnyL_one (i := 7) (by kernel_rfl) rfl (fun K hK => ?_)
  go_simp
  refine hK.out _ _ (by repeat (first | exact hSS | with_reducible apply k_al | with_reducible apply k_dr)) (fun hSn => ?_)
  clear hK K hSS
  have hSS := hSn
  clear hSn
  (try simp only [Act.put, List.setIfInBounds_toArray, List.set_cons_zero, List.set_cons_succ])
  refine wpAnyL_one (i := 8) (by kernel_rfl) rfl (fun K hK => ?_)
  refine step_append_lies _ rfl (.tmp 9) (.tmp 16) 46 rfl B 52 i0 (.agg #[.string ⟨#[]⟩, .nilFunc, .nilFunc, .nilFunc]) 4 40 Tryz.underlying46 hi hz0 hz1 hz2 rfl (by decide) (.slice a k c0) k xs (by simp [Act.eval, Act.put]) (own_below hown (by repeat (first | exact Below.refl _ _ | with_reducible apply b_al | with_reducible apply b_dr))) ⟨w.heap.size + 1, 0, none⟩ 1 1 [.string nm, .func (.func 85) #[] #[.pointer (some ⟨w.heap.size, 0, none⟩)], .func gf ga gc, .func df da dc] (by simp [Act.eval, Act.put]) rfl (World.news_of_block (cs := #[.string nm, .func (.func 85) #[] #[.pointer (some ⟨w.heap.size, 0, none⟩)], .func gf ga gc, .func df da dc]) (t := 52) (fr := (0, 0)) (k_new (by simp))) (by intro u hu; simp at hu; rcases hu with rfl | rfl | rfl | rfl <;> rfl) (by decide) (by unfold maxLen; omega) (by omega) (by simp; omega) _ rfl ?_
  intro g cap w1 hown' hgrow hat hlt1
  have hB1 : Below B w w1 := Below.grown (by repeat (first | exact Below.refl _ _ | refine Below.drew ?_ | refine Below.alloc ?_ (by first | exact hB | (simp; done) | (simp; omega)) _)) hgrow (by simp; omega) (fun q hq => (hown.lt q hq).1)
  obtain ⟨hL1, hTab, hKp⟩ := tab_grown hBL hSS (own_below hown (by repeat (first | exact Below.refl _ _ | with_reducible apply b_al | with_reducible apply b_dr))) hgrow hown'
  have hKw : Kp L w _ := (Kp.of_below (by repeat (first | exact Below.refl _ _ | with_reducible apply b_al | with_reducible apply b_dr))).trans hKp
  have hA := hKp.keep (g := w.heap.size) (cs := #[.slice s n c]) (t := 53) (fr := (0, 0)) (by repeat (first | (refine k_new ?_; simp; done) | with_reducible apply k_al | with_reducible apply k_dr)) (by omega) (by decide)
  refine hK.out _ _ hL1 (fun hSn => ?_)
  clear hK K hSS
  have hSS := hSn
  clear hSn hKp
  (try simp only [Act.put, List.setIfInBounds_toArray, List.set_cons_zero, List.set_cons_succ])
  refine wpAnyL_last (by kernel_rfl) (by kernel_rfl) rfl (fun K hK => ?_)
  have p0 := k_cv hSS 0 rfl
  have g0 := k_fr hSS 0
  have HT := Lib.hid hTab
  have HK := Lib.hid hKw
  have HA := Lib.hid hA
  clear hTab hKw hA hgrow hown hown'
  go_simp
  refine hK.out _ _ ?_
  clear hK K p0 g0
  go_wp2
  go_end0
  exact ⟨rfl, ⟨_, HT.out, HA.out⟩, HK.out, hB1.setCell hBL _⟩
end Go.Proofs.YtflhndjpfiklaaaGreatDoor.H
