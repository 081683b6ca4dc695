/- The exact world behind value.sized. No condition. -/
import Derived.Test.YtlmmkaddlflepaaGreatDoorHConv
import Derived.Deep.RegionWith
namespace Go.Proofs.YtlmmkaddlflepaaGreatDoor.H
open Go.RowKit Go.Proofs.YtlmmkaddlflepaaGreatDoor.Plain
set_option maxHeartbeats 3200000
set_option maxRecDepth 100000
attribute [local go_sem] ext_from ext_bits cell_isSome un_neg_float
theorem v_sizedX (k b : Int) (t : ByteArray) (w : World) : Calls Tryz.prog 27 #[.agg #[.int .u8 k, .int .u64 b, .string t]] w fun e w' => e = .returned (.agg #[.bool (szV k b).1, .int .u64 (szV k b).2]) ∧ w' = (w.alloc (.cells #[.int .u8 k, .int .u64 b, .string t] 25 (0, 0))).alloc (.cells #[.bool (szV k b).1, .int .u64 (szV k b).2] 38 (0, 0)) := by
  rcases Bool.eq_false_or_eq_true (unB k) with c1 | c1 <;> rcases Int.lt_or_le (wrap64 b) 0 with c2 | c2
  all_goals
    have E := Lib.hid (show szV k b = _ from by first | (refine if_pos ?_; simp [c1, c2]; done) | (refine if_neg ?_; simp [c1]; omega))
    go_enter Tryz.func27, Tryz.ntmps27
    go_wp2_with (first | (go_at_call 37; refine (v_unsigned _ _).mono ?_; rintro e w' ⟨rfl, rfl⟩))
    exact bodyPost_ret (v := .agg #[.bool (szV k b).1, .int .u64 (szV k b).2]) (by simp [results, Tryz.results27, go_sem, E.out, wrap_u64]) rfl ⟨rfl, by rw [E.out]; try rw [wrap_u64]⟩
end Go.Proofs.YtlmmkaddlflepaaGreatDoor.H
