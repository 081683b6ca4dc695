/- The law VmNothing, walked: of cells that may be, at any base and time, it returns true. Conditions: bits are 64; sizes lie within reach. -/
import Derived.Test.YtccdgjjoeamnjaaGreatDoorHVmK
namespace Go.Proofs.YtccdgjjoeamnjaaGreatDoor.H
set_option linter.unusedVariables false
set_option linter.unusedSimpArgs false
open Go.RowKit Go.Proofs.YtccdgjjoeamnjaaGreatDoor.Plain
set_option maxHeartbeats 3200000
set_option maxRecDepth 100000
attribute [local go_sem] ext_from ext_bits cell_isSome un_neg_float dn_size dn_alloc dn_set
theorem vals_nil (w : World) : Vals w (.slice none 0 0) [] := World.ownsRow_nil _ _ _ _
theorem vals_shape {w : World} {v : Value} {vs : List Val} (h : Vals w v vs) : ∃ a c, v = .slice a vs.length c := own_shape h
theorem law_Nothing (ao : Option Addr) (n c : Nat) (ds : List CellD) (base now : Int) (w : World) (hC : Cells w ao n ds) (hok : ∀ d ∈ ds, OkD d) (hbig : n * 96 ≤ 140737488355328) :
    Calls Tryz.prog 3 #[.slice ao n c, .int .i64 base, .int .i64 now] w fun e w' => e = .returned (.bool true) ∧ Below w.heap.size w w' := by
  have hml : (ds.map initV).length = n := by rw [List.length_map]; exact hC.1
  obtain ⟨F, hF⟩ : ∃ F, faultV now base ds = F := ⟨_, rfl⟩
  go_enter Tryz.func3, Tryz.ntmps3
  go_wp2_with fail
  refine (r_Start ao n c ds _ hC.1 hC.2.1 hC.2.2 hok hbig).mono ?_
  rintro e w1 ⟨v, rfl, hown, hb1⟩
  have hV1 : Vals w1 v (ds.map initV) := vals_own hown hml
  clear hown
  obtain ⟨av, cv, rfl⟩ := vals_shape hV1
  rw [hml] at hV1 ⊢
  go_wp2_with fail
  have hK : CodeAt ((w1.alloc (.cells #[.int .i64 21, .int .i64 0, .int .i64 0, .int .i64 0, .int .i64 0, .int .i64 0, .int .i64 0, .int .u8 0, .int .u64 0, .string ⟨#[]⟩] 30 (0, 0))).alloc (.cells #[.string ⟨#[]⟩, .int .i64 0, .int .i64 0, .int .i64 0, .int .i64 0, .int .i64 0, .slice (some ⟨w1.heap.size, 0, none⟩) 1 1, .slice none 0 0] 34 (0, 0))) (w1.heap.size + 1) w1.heap.size := ⟨k_new (by simp), k_al (k_new rfl) _⟩
  have b12 := b_al (b_al (Below.refl _ w1) (.cells #[.int .i64 21, .int .i64 0, .int .i64 0, .int .i64 0, .int .i64 0, .int .i64 0, .int .i64 0, .int .u8 0, .int .u64 0, .string ⟨#[]⟩] 30 (0, 0))) (.cells #[.string ⟨#[]⟩, .int .i64 0, .int .i64 0, .int .i64 0, .int .i64 0, .int .i64 0, .slice (some ⟨w1.heap.size, 0, none⟩) 1 1, .slice none 0 0] 34 (0, 0))
  refine (c_cloneC ao n c ds _ (hC.go (b_go hb1 b12)) hbig).mono ?_
  rintro e w2 ⟨⟨ao', c', rfl, hC2⟩, hb2⟩
  have hK2 := hK.go hb2
  have hV2 := (hV1.go b12).go hb2
  have b2 : Below w.heap.size w w2 := b_go (b_go hb1 b12) hb2
  clear hK hb2 hV1 hb1
  go_wp2_with fail
  refine (c_cloneV _ (ds.map initV) _ hV2 (by rw [hml]; omega)).mono ?_
  rintro e w3 ⟨⟨v3, rfl, hV3⟩, hb3⟩
  obtain ⟨av3, cv3, rfl⟩ := vals_shape hV3
  rw [hml] at hV3 ⊢
  have hK3 := hK2.go hb3
  have b3 := b_go b2 hb3
  have hV3m := hV2.go hb3
  have hC3 := hC2.go hb3
  clear hb3 hK2 hV2 hC2 b2
  go_wp2_with fail
  refine (v_Run ao' n c' _ _ ds now base _ _ hC3 hV3 hK3 hok hbig).mono ?_
  rintro e w4 ⟨hR, hb4⟩
  have hK4 := hK3.go hb4
  have hV4 := hV3m.go hb4
  have b4 := b_go b3 hb4
  have hC4 := hC.go b4
  clear hK3 hV3m hC3 b3 hV3 hb4
  rcases hR with ⟨hne, rfl⟩ | ⟨he, v4, rfl, hVr⟩
  · rw [hF] at hne ⊢
    have b0 : (F == 0) = false := by simpa using hne
    have HN := Lib.hid hne
    clear hne
    go_wp2_with fail
    refine (r_Run ao n c _ _ ds now base _ _ hC4 hV4 hK4 hok hbig).mono ?_
    rintro e w5 ⟨hR5, hb5⟩
    have b5 := b_go b4 hb5
    rcases hR5 with ⟨_, rfl⟩ | ⟨he5, _⟩
    · rw [hF]
      clear hK4 hV4 hC4 b4 hb5 hC
      go_wp2_with (first | (go_at_call 9; with_reducible refine (e_Equal _ _ [] _ (vals_nil _) (vals_nil _) (by simp)).mono ?_; rintro e w6 ⟨rfl, hb6⟩))
      go_ret
      exact ⟨rfl, b_go b5 hb6⟩
    · exact absurd (hF.symm.trans he5) HN.out
  · have hF0 : F = 0 := hF.symm.trans he
    obtain ⟨av4, cv4, rfl⟩ := vals_shape hVr
    rw [hml] at hVr ⊢
    go_wp2_with fail
    refine (r_Run ao n c _ _ ds now base _ _ hC4 hV4 hK4 hok hbig).mono ?_
    rintro e w5 ⟨hR5, hb5⟩
    have b5 := b_go b4 hb5
    rcases hR5 with ⟨hne, _⟩ | ⟨_, v5, rfl, hV5⟩
    · exact absurd he hne
    · obtain ⟨av5, cv5, rfl⟩ := vals_shape hV5
      rw [hml] at hV5 ⊢
      have hVr5 := hVr.go hb5
      have hVm5 := hV4.go hb5
      clear hK4 hV4 hC4 b4 hb5 hC hVr he hF hF0
      have hlen : (ds.map initV).length * 32 ≤ 140737488355328 := by rw [hml]; omega
      go_wp2_with fail
      refine (e_Equal _ _ (ds.map initV) _ hVr5 hV5 hlen).mono ?_
      rintro e w6 ⟨rfl, hb6⟩
      have hV6 := hVr5.go hb6
      have hVm6 := hVm5.go hb6
      have b6 := b_go b5 hb6
      clear hVr5 hV5 hVm5 b5 hb6
      go_wp2_with fail
      refine (e_Equal _ _ (ds.map initV) _ hV6 hVm6 hlen).mono ?_
      rintro e w7 ⟨rfl, hb7⟩
      have b7 := b_go b6 hb7
      go_wp2_with fail
      go_ret
      exact ⟨rfl, b7⟩
end Go.Proofs.YtccdgjjoeamnjaaGreatDoor.H
