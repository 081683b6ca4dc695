/- Contract for VmNothing: vm.Run over one code that only returns: a fault, or the cells as they were in one step. Conditions: bits are 64; sizes lie within reach. -/
import Derived.Test.YtccdgjjoeamnjaaGreatDoorHVmG
namespace Go.Proofs.YtccdgjjoeamnjaaGreatDoor.H
set_option linter.unusedVariables false
set_option linter.unusedSimpArgs false
open Go.RowKit Go.Proofs.YtccdgjjoeamnjaaGreatDoor.Plain
set_option maxHeartbeats 3200000
set_option maxRecDepth 100000
attribute [local go_sem] ext_from ext_bits cell_isSome un_neg_float dn_size dn_alloc dn_set
/-- What a run answers: a fault and nothing, or the cells' first values, and one step. -/
def RunP (now base : Int) (ds : List CellD) (e : Ending) (w : World) : Prop :=
  (faultV now base ds ≠ 0 ∧ e = .returned (.tuple #[.slice none 0 0, .int .i64 0, .int .i64 (faultV now base ds)])) ∨ (faultV now base ds = 0 ∧ ∃ v, e = .returned (.tuple #[v, .int .i64 1, .int .i64 0]) ∧ Vals w v (ds.map initV))
theorem runP_bad {now base : Int} {ds : List CellD} {w : World} {F : Int} (hF : faultV now base ds = F) (h : F ≠ 0) : RunP now base ds (.returned (.tuple #[.slice none 0 0, .int .i64 0, .int .i64 F])) w := .inl ⟨by rw [hF]; exact h, by rw [hF]⟩
theorem runP_good {now base : Int} {ds : List CellD} {w : World} {v : Value} (hF : faultV now base ds = 0) (h : Vals w v (ds.map initV)) : RunP now base ds (.returned (.tuple #[v, .int .i64 1, .int .i64 0])) w := .inr ⟨hF, v, rfl, h⟩
theorem CodeAt.bar {S : List Nat} {w w' : World} {C O : Nat} (h : CodeAt w C O) (hb : Bar S w w') (h1 : C ∉ S) (h2 : O ∉ S) : CodeAt w' C O := ⟨hb.keep h.code h1, hb.keep h.op h2⟩
theorem below_lo {B : Nat} {w w' : World} (h : Below w.heap.size w w') (hB : B ≤ w.heap.size) : Below B w w' := h.mono hB
theorem v_Run (ao : Option Addr) (n c C O : Nat) (ds : List CellD) (now base : Int) (v : Value) (w : World) (hC : Cells w ao n ds) (hV : Vals w v (ds.map initV)) (hK : CodeAt w C O) (hok : ∀ d ∈ ds, OkD d) (hbig : n * 96 ≤ 140737488355328) :
    Calls Tryz.prog 5 #[.slice (some ⟨C, 0, none⟩) 1 1, .int .i64 0, .int .i64 base, .int .i64 now, .slice ao n c, v, .int .i64 1] w fun e w' => RunP now base ds e w' ∧ Below w.heap.size w w' := by
  obtain ⟨F, hF⟩ : ∃ F, faultV now base ds = F := ⟨_, rfl⟩
  have NF : Calls Tryz.prog 12 #[.slice (some ⟨C, 0, none⟩) 1 1, .int .i64 0, .int .i64 base, .int .i64 now, .slice ao n c, v, .int .i64 1] w fun e w' => e = .returned (.int .i64 F) ∧ Below w.heap.size w w' := hF ▸ v_faulty ao n c C O ds now base v w hC hV hK hok hbig
  have hl : (ds.map initV).length = n := by rw [List.length_map]; exact hC.1
  by_cases h0 : F = 0
  · subst h0
    rcases hV.2 with ⟨rfl, hn0⟩ | ⟨g, cap0, cur0, hv, _, e3, e4⟩
    · have hvs : ds.map initV = [] := List.eq_nil_of_length_eq_zero hn0
      go_enter Tryz.func5, Tryz.ntmps5
      go_wp2_with fail
      refine NF.mono ?_
      rintro e w2 ⟨rfl, hb1⟩
      have hV2 := hV.go hb1
      clear NF
      have b02 : Below w.heap.size w w2 := hb1
      have hK2 := hK.go b02
      have s02 := b02.size
      go_wp2_with fail
      refine (v_table _).mono ?_
      rintro e w3 ⟨rfl, ⟨cs, hD3, hD1⟩, hb3⟩
      have s23 := hb3.size
      have hK3 := hK2.go hb3
      have lC := k_lt hK.code
      have lO := k_lt hK.op
      go_wp2_with fail
      refine (v_enter w3.heap.size C O base now (.slice ao n c) (.slice none 0 0) (.slice (some ⟨w2.heap.size, 0, none⟩) 24 24) _ (k_new rfl) (hK3.go ((Below.refl _ _).alloc (Nat.le_refl _) _)) (by omega)).mono ?_
      rintro e w4 ⟨rfl, ⟨F, Fr, cap, r, s, cur, hM4, hF4, hF0, hcap, hFr4, g1, g2, g3⟩, hB4⟩
      have lD := k_lt hD3
      have g1' : w3.heap.size + 1 ≤ F := by simpa using g1
      have g2' : w3.heap.size + 1 ≤ Fr := by simpa using g2
      have hK4 : CodeAt w4 C O := (hK3.go ((Below.refl _ _).alloc (Nat.le_refl _) _)).bar hB4 (by simp; omega) (by simp; omega)
      have hD4 := hB4.keep (k_al hD3 _) (by simp; omega)
      have HM4 := Lib.hid hM4
      have HX4 := Lib.hid (And.intro hF4 (And.intro hFr4 hD4))
      clear hM4 hF4 hFr4 hD4 hD3 g1 g2
      go_wp2_with fail
      refine (v_drive w3.heap.size C O w2.heap.size F Fr cap r s (.slice ao n c) (.slice none 0 0) cs cur now base _ HM4.out hcap hK4 HX4.out.1 hF0 HX4.out.2.1 HX4.out.2.2 hD1 (by omega) (by omega) (by omega) (by omega) (by omega) (by omega) (by omega) (by omega) (by omega)).mono ?_
      rintro e w5 ⟨rfl, hM5, hB5⟩
      have hM5' : w5.heap[w3.heap.size]? = some (.cells #[.slice (some ⟨C, 0, none⟩) 1 1, .slice ao n c, (.slice none 0 0), .int .i64 now, .int .i64 1, .int .i64 1, .slice (some ⟨F, 0, none⟩) 0 cap, .slice (some ⟨w2.heap.size, 0, none⟩) 24 24] 52 (0, 0)) := hM5
      have y2 : w5.cell? ⟨w3.heap.size, 2, none⟩ = some ((.slice none 0 0)) := k_cv hM5' 2 rfl
      have y5 : w5.cell? ⟨w3.heap.size, 5, none⟩ = some (.int .i64 1) := k_cv hM5' 5 rfl
      have b25 : Below w2.heap.size w2 w5 := ((hb3.alloc s23 _).trans (hB4.below (by simp; omega) (by simp; omega))).trans (hB5.below (by have := hB4.size; simp at this; omega) (by simp; omega))
      have hV5 := Vals.go hV2 b25
      have b05 : Below w.heap.size w w5 := b_go b02 b25
      clear hM5 hM5' hB4 hB5 HM4 HX4 hb3 hK hK2 hK3 hK4 b25 b02
      go_wp2_with fail
      go_quiet (fail)
      go_wp2_with fail
      exact bodyPost_ret (v := .tuple #[(.slice none 0 0), .int .i64 1, .int .i64 0]) (by simp [results, Tryz.results5, go_sem]) rfl ⟨runP_good hF (hV5.go (below_drewN (Below.refl _ _) _)), below_drewN b05 _⟩
    · obtain ⟨i0, hi, hz0, hz1, hz2⟩ := info_parts (show (Tryz.prog.info? 28).map (fun i => (i.zero, i.size, i.bytes)) = some (some (.agg #[.int .u8 0, .int .u64 0, .string ⟨#[]⟩]), 3, 32) by kernel_rfl)
      rw [hl] at hv
      subst hv
      have hfl := flat_len (ds.map initV)
      rw [hl] at hfl
      have O1 := Lib.hid (flat_one_cell (ds.map initV))
      go_enter Tryz.func5, Tryz.ntmps5
      go_wp2_with fail
      refine NF.mono ?_
      rintro e w1 ⟨rfl, hb1⟩
      have hV1 := hV.go hb1
      have hA1 : ∀ j u, (flat (ds.map initV))[j]? = some u → w1.cell? ⟨g, j, none⟩ = some u := by
        obtain ⟨ao2, c2, e1, _, hA⟩ := vals_form hV1
        obtain rfl : ao2 = some ⟨g, 0, none⟩ := by simp at e1; exact e1.1.symm
        obtain ⟨g3, e5, e6, e7⟩ := hA _ rfl
        obtain rfl : g = g3 := by simpa using e5
        exact e7
      have A := Lib.hid hA1
      clear NF hA1 e3 e4
      go_wp2_with (at_builtin; go_loud (refine wpList_append_own _ rfl _ _ 23 rfl w1.heap.size 28 i0 _ 3 32 Tryz.underlying23 hi hz0 hz1 hz2 rfl (by decide) (.slice none 0 0) 0 [] rfl (World.ownsRow_nil _ _ _ _) ⟨g, 0, none⟩ n cap0 (flat (ds.map initV)) rfl hfl (fun j u hj => by rw [add_pl]; exact A.out j u hj) O1.out (by unfold maxLen; omega) (by omega) (Nat.le_refl _) ?_); intro v2 w2 hown hgrow hnil)
      rw [List.nil_append, Nat.zero_add] at hown
      have hV2 : Vals w2 v2 (ds.map initV) := vals_own hown hl
      have hgr : Below w1.heap.size w1 w2 := (Below.refl _ _).grown hgrow (Nat.le_refl _) (fun k hk => by cases hk)
      clear hown hgrow hnil
      obtain ⟨av2, cv2, e2v, _, _⟩ := vals_form hV2
      rw [hl] at e2v
      subst e2v
      have b02 : Below w.heap.size w w2 := b_go hb1 hgr
      have hK2 := hK.go b02
      have s02 := b02.size
      go_wp2_with fail
      refine (v_table _).mono ?_
      rintro e w3 ⟨rfl, ⟨cs, hD3, hD1⟩, hb3⟩
      have s23 := hb3.size
      have hK3 := hK2.go hb3
      have lC := k_lt hK.code
      have lO := k_lt hK.op
      go_wp2_with fail
      refine (v_enter w3.heap.size C O base now (.slice ao n c) (.slice av2 n cv2) (.slice (some ⟨w2.heap.size, 0, none⟩) 24 24) _ (k_new rfl) (hK3.go ((Below.refl _ _).alloc (Nat.le_refl _) _)) (by omega)).mono ?_
      rintro e w4 ⟨rfl, ⟨F, Fr, cap, r, s, cur, hM4, hF4, hF0, hcap, hFr4, g1, g2, g3⟩, hB4⟩
      have lD := k_lt hD3
      have g1' : w3.heap.size + 1 ≤ F := by simpa using g1
      have g2' : w3.heap.size + 1 ≤ Fr := by simpa using g2
      have hK4 : CodeAt w4 C O := (hK3.go ((Below.refl _ _).alloc (Nat.le_refl _) _)).bar hB4 (by simp; omega) (by simp; omega)
      have hD4 := hB4.keep (k_al hD3 _) (by simp; omega)
      have HM4 := Lib.hid hM4
      have HX4 := Lib.hid (And.intro hF4 (And.intro hFr4 hD4))
      clear hM4 hF4 hFr4 hD4 hD3 g1 g2
      go_wp2_with fail
      refine (v_drive w3.heap.size C O w2.heap.size F Fr cap r s (.slice ao n c) (.slice av2 n cv2) cs cur now base _ HM4.out hcap hK4 HX4.out.1 hF0 HX4.out.2.1 HX4.out.2.2 hD1 (by omega) (by omega) (by omega) (by omega) (by omega) (by omega) (by omega) (by omega) (by omega)).mono ?_
      rintro e w5 ⟨rfl, hM5, hB5⟩
      have hM5' : w5.heap[w3.heap.size]? = some (.cells #[.slice (some ⟨C, 0, none⟩) 1 1, .slice ao n c, (.slice av2 n cv2), .int .i64 now, .int .i64 1, .int .i64 1, .slice (some ⟨F, 0, none⟩) 0 cap, .slice (some ⟨w2.heap.size, 0, none⟩) 24 24] 52 (0, 0)) := hM5
      have y2 : w5.cell? ⟨w3.heap.size, 2, none⟩ = some ((.slice av2 n cv2)) := k_cv hM5' 2 rfl
      have y5 : w5.cell? ⟨w3.heap.size, 5, none⟩ = some (.int .i64 1) := k_cv hM5' 5 rfl
      have b25 : Below w2.heap.size w2 w5 := ((hb3.alloc s23 _).trans (hB4.below (by simp; omega) (by simp; omega))).trans (hB5.below (by have := hB4.size; simp at this; omega) (by simp; omega))
      have hV5 := Vals.go hV2 b25
      have b05 : Below w.heap.size w w5 := b_go b02 b25
      clear hM5 hM5' hB4 hB5 HM4 HX4 hb3 hK hK2 hK3 hK4 b25 b02
      go_wp2_with fail
      go_quiet (fail)
      go_wp2_with fail
      exact bodyPost_ret (v := .tuple #[(.slice av2 n cv2), .int .i64 1, .int .i64 0]) (by simp [results, Tryz.results5, go_sem]) rfl ⟨runP_good hF (hV5.go (below_drewN (Below.refl _ _) _)), below_drewN b05 _⟩
  · have hb0 : (F == 0) = false := by simpa using h0
    go_enter Tryz.func5, Tryz.ntmps5
    go_wp2_with fail
    refine NF.mono ?_
    rintro e w1 ⟨rfl, hb1⟩
    clear NF
    have h0' := Lib.hid h0
    clear h0
    go_wp2
    exact bodyPost_ret (v := .tuple #[.slice none 0 0, .int .i64 0, .int .i64 F]) (by simp [results, Tryz.results5, go_sem]) rfl ⟨runP_bad hF h0'.out, hb1⟩
end Go.Proofs.YtccdgjjoeamnjaaGreatDoor.H
