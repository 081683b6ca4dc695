-- by mkprint.py, a program of this session's own
import Derived.Test.YtlmmkaddlflepaaPOrd0
import Derived.Test.YtlmmkaddlflepaaPOrd1
import Derived.Test.YtlmmkaddlflepaaPOrd2
namespace Go.Proofs.Ytlmmkaddlflepaa.POrd
open Go.RowKit Go.Proofs.YtlmmkaddlflepaaW.PrintWords Go.Proofs.YtlmmkaddlflepaaW.PrintLast Go.Proofs.YtlmmkaddlflepaaW.PrintMore
attribute [local go_sem] max2_int min2_int max_two min_two max_three min_three max_four min_four   -- for this text's walks alone
set_option linter.unusedVariables false
set_option linter.unusedSimpArgs false

attribute [local go_sem] cell_isSome un_neg_float str_gtr str_leq str_geq ext34 ext52
/-! ### value_May: function 9 -/
def value_May.f (k : Nat) (a0_0 : Int) (a0_1 : Int) (a0_2 : ByteArray) : Option (Bool) := if a0_0 = 19 then (if a0_1 = 0 then (some (decide ((a0_2.size : Int) ≤ 254))) else (some false)) else (if a0_2.toList = ([] : List UInt8) then (if a0_0 = 18 then ((math_IsNaN.f ((a0_1).toNat)).bind fun t115 => (if t115 = true then (some (a0_1 == 9221120237041090561)) else (some true))) else ((value_known.f a0_0).bind fun t116 => (if t116 = true then ((value_fits.f k a0_0 a0_1).bind fun t117 => (some t117)) else (some false)))) else (some false))
theorem value_May.mono : ∀ a0 a1 a2 k, LeO (value_May.f k a0 a1 a2) (value_May.f (k + 1) a0 a1 a2) := by
 intro a0 a1 a2 k
 unfold value_May.f
 repeat' first
   | (with_reducible exact value_fits.mono _ _ _)
   | (with_reducible exact LeO.refl _)
   | (with_reducible exact LeO.none _)
   | (with_reducible refine LeO.ite ?_ ?_)
   | (with_reducible refine LeO.bind ?_ (fun _ => ?_))
   | exact value_fits.mono _ _ _
   | exact LeO.none _
   | refine LeO.ite ?_ ?_
   | refine LeO.bind ?_ (fun _ => ?_)
set_option maxHeartbeats 8000000 in
set_option maxRecDepth 100000 in
theorem value_May.calls (k : Nat) (a0_0 : Int) (a0_1 : Int) (a0_2 : ByteArray) (r : Bool) (w : World) (h : value_May.f k a0_0 a0_1 a0_2 = some r) :
  Calls Try.prog 9 #[.agg #[.int .u8 a0_0, .int .u64 a0_1, .string a0_2]] w fun e w' => e = .returned (.bool r) ∧ Below w.heap.size w w' := by
 have hu27 := Try.underlying27
 have HB := Aside0.mk (Below.refl w.heap.size w)
 have H : (if a0_0 = 19 then (if a0_1 = 0 then (some (decide ((a0_2.size : Int) ≤ 254))) else (some false)) else (if a0_2.toList = ([] : List UInt8) then (if a0_0 = 18 then ((math_IsNaN.f ((a0_1).toNat)).bind fun t115 => (if t115 = true then (some (a0_1 == 9221120237041090561)) else (some true))) else ((value_known.f a0_0).bind fun t116 => (if t116 = true then ((value_fits.f k a0_0 a0_1).bind fun t117 => (some t117)) else (some false)))) else (some false))) = some r := h
 clear h
 by_cases c2 : a0_0 = 19
 ·rw [if_pos c2] at H
  have c2b0 : (a0_0 == 19) = true := beq_iff_eq.mpr c2
  have c2b1 : (a0_0 != 19) = false := bne_eq_false_iff_eq.mpr c2
  clear c2
  by_cases c3 : a0_1 = 0
  ·rw [if_pos c3] at H
   have c3b0 : (a0_1 == 0) = true := beq_iff_eq.mpr c3
   have c3b1 : (a0_1 != 0) = false := bne_eq_false_iff_eq.mpr c3
   clear c3
   obtain rfl := Option.some.inj H
   go_enter Try.func9, Try.ntmps9
   go_wp2_with (first | ((with_reducible refine gate_dst (N := 1) rfl ?_); (try (refine gate_guard (by rfl) ?_; dsimp only)); refine box_event ?hg (N := 1) ?hd (cs := #[.int .u8 a0_0, .int .u64 a0_1, .string a0_2]) (t := 27) ?hr ?_; (case hd => rfl); (case hg => rfl); (case hr => first | (go_simp; done) | (go_simp; rfl)); intro gb114 hg w4 hbox hb; have n0_ := bt HB hb; have n1_ := Aside0.mk (hbox); have n2_ := gs hg HB; have n3_ := gs hg HB; clear HB; have HB := n0_; have BK114 := n1_; have GW114 := n2_; have GE114 := n3_; clear n0_ n1_ n2_ n3_; clear hb hbox hg; have hcz5_0 : w4.cell? ⟨gb114, 0, none⟩ = some (.int .u8 a0_0) := bc BK114 0; have hcz5_1 : w4.cell? ⟨gb114, 1, none⟩ = some (.int .u64 a0_1) := bc BK114 1; have hcz5_2 : w4.cell? ⟨gb114, 2, none⟩ = some (.string a0_2) := bc BK114 2; have hfz5_0 := blk_frozen BK114.out 0; have hfz5_1 := blk_frozen BK114.out 1; have hfz5_2 := blk_frozen BK114.out 2))
   go_ret
   exact ⟨by first | rfl | (simp [errW_none, errW_some] <;> rfl) | (simp [*, errW_none, errW_some] <;> rfl), bs HB⟩
  ·rw [if_neg c3] at H
   have c3b0 : (a0_1 == 0) = false := beq_eq_false_iff_ne.mpr c3
   have c3b1 : (a0_1 != 0) = true := bne_iff_ne.mpr c3
   obtain rfl := Option.some.inj H
   go_enter Try.func9, Try.ntmps9
   go_wp2_with (first | ((with_reducible refine gate_dst (N := 1) rfl ?_); (try (refine gate_guard (by rfl) ?_; dsimp only)); refine box_event ?hg (N := 1) ?hd (cs := #[.int .u8 a0_0, .int .u64 a0_1, .string a0_2]) (t := 27) ?hr ?_; (case hd => rfl); (case hg => rfl); (case hr => first | (go_simp; done) | (go_simp; rfl)); intro gb114 hg w6 hbox hb; have n0_ := bt HB hb; have n1_ := Aside0.mk (hbox); have n2_ := gs hg HB; have n3_ := gs hg HB; clear HB; have HB := n0_; have BK114 := n1_; have GW114 := n2_; have GE114 := n3_; clear n0_ n1_ n2_ n3_; clear hb hbox hg; have hcz7_0 : w6.cell? ⟨gb114, 0, none⟩ = some (.int .u8 a0_0) := bc BK114 0; have hcz7_1 : w6.cell? ⟨gb114, 1, none⟩ = some (.int .u64 a0_1) := bc BK114 1; have hcz7_2 : w6.cell? ⟨gb114, 2, none⟩ = some (.string a0_2) := bc BK114 2; have hfz7_0 := blk_frozen BK114.out 0; have hfz7_1 := blk_frozen BK114.out 1; have hfz7_2 := blk_frozen BK114.out 2))
   go_ret
   exact ⟨by first | rfl | (simp [errW_none, errW_some] <;> rfl) | (simp [*, errW_none, errW_some] <;> rfl), bs HB⟩
 ·rw [if_neg c2] at H
  have c2b0 : (a0_0 == 19) = false := beq_eq_false_iff_ne.mpr c2
  have c2b1 : (a0_0 != 19) = true := bne_iff_ne.mpr c2
  by_cases c8 : a0_2.toList = ([] : List UInt8)
  ·rw [if_pos c8] at H
   have c8b0 : (a0_2.toList == ([] : List UInt8)) = true := beq_iff_eq.mpr c8
   have c8b1 : (a0_2.toList != ([] : List UInt8)) = false := bne_eq_false_iff_eq.mpr c8
   clear c8
   by_cases c9 : a0_0 = 18
   ·rw [if_pos c9] at H
    have c9b0 : (a0_0 == 18) = true := beq_iff_eq.mpr c9
    have c9b1 : (a0_0 != 18) = false := bne_eq_false_iff_eq.mpr c9
    clear c9
    replace H := Option.bind_eq_some_iff.mp H
    obtain ⟨t115, A100, H⟩ := H
    replace H : (if t115 = true then (some (a0_1 == 9221120237041090561)) else (some true)) = some r := H
    have A10 := Aside0.mk A100
    clear A100
    by_cases c11 : t115 = true
    ·subst c11
     have H1 : (some (a0_1 == 9221120237041090561)) = some r := by rw [if_pos rfl] at H; exact H
     clear H
     have H := H1
     clear H1
     obtain rfl := Option.some.inj H
     go_enter Try.func9, Try.ntmps9
     go_wp2_with (first | ((with_reducible refine gate_dst (N := 1) rfl ?_); (try (refine gate_guard (by rfl) ?_; dsimp only)); refine box_event ?hg (N := 1) ?hd (cs := #[.int .u8 a0_0, .int .u64 a0_1, .string a0_2]) (t := 27) ?hr ?_; (case hd => rfl); (case hg => rfl); (case hr => first | (go_simp; done) | (go_simp; rfl)); intro gb114 hg w12 hbox hb; have n0_ := bt HB hb; have n1_ := Aside0.mk (hbox); have n2_ := gs hg HB; have n3_ := gs hg HB; clear HB; have HB := n0_; have BK114 := n1_; have GW114 := n2_; have GE114 := n3_; clear n0_ n1_ n2_ n3_; clear hb hbox hg; have hcz13_0 : w12.cell? ⟨gb114, 0, none⟩ = some (.int .u8 a0_0) := bc BK114 0; have hcz13_1 : w12.cell? ⟨gb114, 1, none⟩ = some (.int .u64 a0_1) := bc BK114 1; have hcz13_2 : w12.cell? ⟨gb114, 2, none⟩ = some (.string a0_2) := bc BK114 2; have hfz13_0 := blk_frozen BK114.out 0; have hfz13_1 := blk_frozen BK114.out 1; have hfz13_2 := blk_frozen BK114.out 2) | ((with_reducible refine gate_callee (f := 33) rfl ?_); refine goesL_ (some 27) rfl rfl Try.func33 (by kernel_rfl) rfl #[.float .f64 ((a0_1).toNat)] rfl (by (try simp only [List.map_toArray, List.map_cons, List.map_nil]); first | done | rfl | (simp only [List.length_drop, List.length_take]; rfl)) ?_; (with_reducible refine (math_IsNaN.calls ((a0_1).toNat) true _ A10.out).mono ?_); rintro e w' ⟨rfl, ⟨nd, rfl⟩⟩; refine ⟨_, rfl, ?_⟩))
     go_ret
     exact ⟨by first | rfl | (simp [errW_none, errW_some] <;> rfl) | (simp [*, errW_none, errW_some] <;> rfl), bs HB⟩
    ·replace c11 := Bool.eq_false_iff.mpr c11
     subst c11
     have H1 : (some true) = some r := by rw [if_neg (show ¬ (false = true) by decide)] at H; exact H
     clear H
     have H := H1
     clear H1
     obtain rfl := Option.some.inj H
     go_enter Try.func9, Try.ntmps9
     go_wp2_with (first | ((with_reducible refine gate_dst (N := 1) rfl ?_); (try (refine gate_guard (by rfl) ?_; dsimp only)); refine box_event ?hg (N := 1) ?hd (cs := #[.int .u8 a0_0, .int .u64 a0_1, .string a0_2]) (t := 27) ?hr ?_; (case hd => rfl); (case hg => rfl); (case hr => first | (go_simp; done) | (go_simp; rfl)); intro gb114 hg w14 hbox hb; have n0_ := bt HB hb; have n1_ := Aside0.mk (hbox); have n2_ := gs hg HB; have n3_ := gs hg HB; clear HB; have HB := n0_; have BK114 := n1_; have GW114 := n2_; have GE114 := n3_; clear n0_ n1_ n2_ n3_; clear hb hbox hg; have hcz15_0 : w14.cell? ⟨gb114, 0, none⟩ = some (.int .u8 a0_0) := bc BK114 0; have hcz15_1 : w14.cell? ⟨gb114, 1, none⟩ = some (.int .u64 a0_1) := bc BK114 1; have hcz15_2 : w14.cell? ⟨gb114, 2, none⟩ = some (.string a0_2) := bc BK114 2; have hfz15_0 := blk_frozen BK114.out 0; have hfz15_1 := blk_frozen BK114.out 1; have hfz15_2 := blk_frozen BK114.out 2) | ((with_reducible refine gate_callee (f := 33) rfl ?_); refine goesL_ (some 27) rfl rfl Try.func33 (by kernel_rfl) rfl #[.float .f64 ((a0_1).toNat)] rfl (by (try simp only [List.map_toArray, List.map_cons, List.map_nil]); first | done | rfl | (simp only [List.length_drop, List.length_take]; rfl)) ?_; (with_reducible refine (math_IsNaN.calls ((a0_1).toNat) false _ A10.out).mono ?_); rintro e w' ⟨rfl, ⟨nd, rfl⟩⟩; refine ⟨_, rfl, ?_⟩))
     go_ret
     exact ⟨by first | rfl | (simp [errW_none, errW_some] <;> rfl) | (simp [*, errW_none, errW_some] <;> rfl), bs HB⟩
   ·rw [if_neg c9] at H
    have c9b0 : (a0_0 == 18) = false := beq_eq_false_iff_ne.mpr c9
    have c9b1 : (a0_0 != 18) = true := bne_iff_ne.mpr c9
    replace H := Option.bind_eq_some_iff.mp H
    obtain ⟨t116, A160, H⟩ := H
    replace H : (if t116 = true then ((value_fits.f k a0_0 a0_1).bind fun t117 => (some t117)) else (some false)) = some r := H
    have A16 := Aside0.mk A160
    clear A160
    by_cases c17 : t116 = true
    ·subst c17
     have H1 : ((value_fits.f k a0_0 a0_1).bind fun t117 => (some t117)) = some r := by rw [if_pos rfl] at H; exact H
     clear H
     have H := H1
     clear H1
     replace H := Option.bind_eq_some_iff.mp H
     obtain ⟨t117, A180, H⟩ := H
     replace H : (some t117) = some r := H
     have A18 := Aside0.mk A180
     clear A180
     obtain rfl := Option.some.inj H
     go_enter Try.func9, Try.ntmps9
     go_wp2_with (first | ((with_reducible refine gate_dst (N := 1) rfl ?_); (try (refine gate_guard (by rfl) ?_; dsimp only)); refine box_event ?hg (N := 1) ?hd (cs := #[.int .u8 a0_0, .int .u64 a0_1, .string a0_2]) (t := 27) ?hr ?_; (case hd => rfl); (case hg => rfl); (case hr => first | (go_simp; done) | (go_simp; rfl)); intro gb114 hg w19 hbox hb; have n0_ := bt HB hb; have n1_ := Aside0.mk (hbox); have n2_ := gs hg HB; have n3_ := gs hg HB; clear HB; have HB := n0_; have BK114 := n1_; have GW114 := n2_; have GE114 := n3_; clear n0_ n1_ n2_ n3_; clear hb hbox hg; have hcz20_0 : w19.cell? ⟨gb114, 0, none⟩ = some (.int .u8 a0_0) := bc BK114 0; have hcz20_1 : w19.cell? ⟨gb114, 1, none⟩ = some (.int .u64 a0_1) := bc BK114 1; have hcz20_2 : w19.cell? ⟨gb114, 2, none⟩ = some (.string a0_2) := bc BK114 2; have hfz20_0 := blk_frozen BK114.out 0; have hfz20_1 := blk_frozen BK114.out 1; have hfz20_2 := blk_frozen BK114.out 2) | ((with_reducible refine gate_callee (f := 35) rfl ?_); refine goesL_ (some 36) rfl rfl Try.func35 (by kernel_rfl) rfl #[.int .u8 a0_0] rfl (by (try simp only [List.map_toArray, List.map_cons, List.map_nil]); first | done | rfl | (simp only [List.length_drop, List.length_take]; rfl)) ?_; (with_reducible refine (value_known.calls a0_0 true _ A16.out).mono ?_); rintro e w' ⟨rfl, ⟨nd, rfl⟩⟩; refine ⟨_, rfl, ?_⟩) | (go_at_call 36; (with_reducible refine (value_fits.calls k a0_0 a0_1 t117 _ A18.out).mono ?_); rintro e w' ⟨rfl, ⟨nd, rfl⟩⟩))
     go_ret
     exact ⟨by first | rfl | (simp [errW_none, errW_some] <;> rfl) | (simp [*, errW_none, errW_some] <;> rfl), bs HB⟩
    ·replace c17 := Bool.eq_false_iff.mpr c17
     subst c17
     have H1 : (some false) = some r := by rw [if_neg (show ¬ (false = true) by decide)] at H; exact H
     clear H
     have H := H1
     clear H1
     obtain rfl := Option.some.inj H
     go_enter Try.func9, Try.ntmps9
     go_wp2_with (first | ((with_reducible refine gate_dst (N := 1) rfl ?_); (try (refine gate_guard (by rfl) ?_; dsimp only)); refine box_event ?hg (N := 1) ?hd (cs := #[.int .u8 a0_0, .int .u64 a0_1, .string a0_2]) (t := 27) ?hr ?_; (case hd => rfl); (case hg => rfl); (case hr => first | (go_simp; done) | (go_simp; rfl)); intro gb114 hg w21 hbox hb; have n0_ := bt HB hb; have n1_ := Aside0.mk (hbox); have n2_ := gs hg HB; have n3_ := gs hg HB; clear HB; have HB := n0_; have BK114 := n1_; have GW114 := n2_; have GE114 := n3_; clear n0_ n1_ n2_ n3_; clear hb hbox hg; have hcz22_0 : w21.cell? ⟨gb114, 0, none⟩ = some (.int .u8 a0_0) := bc BK114 0; have hcz22_1 : w21.cell? ⟨gb114, 1, none⟩ = some (.int .u64 a0_1) := bc BK114 1; have hcz22_2 : w21.cell? ⟨gb114, 2, none⟩ = some (.string a0_2) := bc BK114 2; have hfz22_0 := blk_frozen BK114.out 0; have hfz22_1 := blk_frozen BK114.out 1; have hfz22_2 := blk_frozen BK114.out 2) | ((with_reducible refine gate_callee (f := 35) rfl ?_); refine goesL_ (some 36) rfl rfl Try.func35 (by kernel_rfl) rfl #[.int .u8 a0_0] rfl (by (try simp only [List.map_toArray, List.map_cons, List.map_nil]); first | done | rfl | (simp only [List.length_drop, List.length_take]; rfl)) ?_; (with_reducible refine (value_known.calls a0_0 false _ A16.out).mono ?_); rintro e w' ⟨rfl, ⟨nd, rfl⟩⟩; refine ⟨_, rfl, ?_⟩))
     go_ret
     exact ⟨by first | rfl | (simp [errW_none, errW_some] <;> rfl) | (simp [*, errW_none, errW_some] <;> rfl), bs HB⟩
  ·rw [if_neg c8] at H
   have c8b0 : (a0_2.toList == ([] : List UInt8)) = false := beq_eq_false_iff_ne.mpr c8
   have c8b1 : (a0_2.toList != ([] : List UInt8)) = true := bne_iff_ne.mpr c8
   obtain rfl := Option.some.inj H
   go_enter Try.func9, Try.ntmps9
   go_wp2_with (first | ((with_reducible refine gate_dst (N := 1) rfl ?_); (try (refine gate_guard (by rfl) ?_; dsimp only)); refine box_event ?hg (N := 1) ?hd (cs := #[.int .u8 a0_0, .int .u64 a0_1, .string a0_2]) (t := 27) ?hr ?_; (case hd => rfl); (case hg => rfl); (case hr => first | (go_simp; done) | (go_simp; rfl)); intro gb114 hg w23 hbox hb; have n0_ := bt HB hb; have n1_ := Aside0.mk (hbox); have n2_ := gs hg HB; have n3_ := gs hg HB; clear HB; have HB := n0_; have BK114 := n1_; have GW114 := n2_; have GE114 := n3_; clear n0_ n1_ n2_ n3_; clear hb hbox hg; have hcz24_0 : w23.cell? ⟨gb114, 0, none⟩ = some (.int .u8 a0_0) := bc BK114 0; have hcz24_1 : w23.cell? ⟨gb114, 1, none⟩ = some (.int .u64 a0_1) := bc BK114 1; have hcz24_2 : w23.cell? ⟨gb114, 2, none⟩ = some (.string a0_2) := bc BK114 2; have hfz24_0 := blk_frozen BK114.out 0; have hfz24_1 := blk_frozen BK114.out 1; have hfz24_2 := blk_frozen BK114.out 2))
   go_ret
   exact ⟨by first | rfl | (simp [errW_none, errW_some] <;> rfl) | (simp [*, errW_none, errW_some] <;> rfl), bs HB⟩

/-! ### value_whole: function 38 -/
def value_whole.f (a0 : Int) : Option (Bool) := (value_signed.f a0).bind fun t118 => (if t118 = true then (some true) else ((value_unsigned.f a0).bind fun t119 => (some t119)))
set_option maxHeartbeats 8000000 in
set_option maxRecDepth 100000 in
theorem value_whole.calls (a0 : Int) (r : Bool) (w : World) (h : value_whole.f a0 = some r) :
  Calls Try.prog 38 #[.int .u8 a0] w fun e w' => e = .returned (.bool r) ∧ Drawn0 w w' := by
 have H : ((value_signed.f a0).bind fun t118 => (if t118 = true then (some true) else ((value_unsigned.f a0).bind fun t119 => (some t119)))) = some r := h
 clear h
 replace H := Option.bind_eq_some_iff.mp H
 obtain ⟨t118, A20, H⟩ := H
 replace H : (if t118 = true then (some true) else ((value_unsigned.f a0).bind fun t119 => (some t119))) = some r := H
 have A2 := Aside0.mk A20
 clear A20
 by_cases c3 : t118 = true
 ·subst c3
  have H1 : (some true) = some r := by rw [if_pos rfl] at H; exact H
  clear H
  have H := H1
  clear H1
  obtain rfl := Option.some.inj H
  go_enter Try.func38, Try.ntmps38
  go_wp2_with (first | ((with_reducible refine gate_callee (f := 40) rfl ?_); refine goesL_ (some 4) rfl rfl Try.func40 (by kernel_rfl) rfl #[.int .u8 a0] rfl (by (try simp only [List.map_toArray, List.map_cons, List.map_nil]); first | done | rfl | (simp only [List.length_drop, List.length_take]; rfl)) ?_; (with_reducible refine (value_signed.calls a0 true _ A2.out).mono ?_); rintro e w' ⟨rfl, ⟨nd, rfl⟩⟩; refine ⟨_, rfl, ?_⟩))
  go_ret
  exact ⟨by first | rfl | (simp; done) | (simp [*]; done), by repeat (first | exact Drawn0.refl _ | apply Drawn0.step)⟩
 ·replace c3 := Bool.eq_false_iff.mpr c3
  subst c3
  have H1 : ((value_unsigned.f a0).bind fun t119 => (some t119)) = some r := by rw [if_neg (show ¬ (false = true) by decide)] at H; exact H
  clear H
  have H := H1
  clear H1
  replace H := Option.bind_eq_some_iff.mp H
  obtain ⟨t119, A40, H⟩ := H
  replace H : (some t119) = some r := H
  have A4 := Aside0.mk A40
  clear A40
  obtain rfl := Option.some.inj H
  go_enter Try.func38, Try.ntmps38
  go_wp2_with (first | ((with_reducible refine gate_callee (f := 40) rfl ?_); refine goesL_ (some 4) rfl rfl Try.func40 (by kernel_rfl) rfl #[.int .u8 a0] rfl (by (try simp only [List.map_toArray, List.map_cons, List.map_nil]); first | done | rfl | (simp only [List.length_drop, List.length_take]; rfl)) ?_; (with_reducible refine (value_signed.calls a0 false _ A2.out).mono ?_); rintro e w' ⟨rfl, ⟨nd, rfl⟩⟩; refine ⟨_, rfl, ?_⟩) | (go_at_call 49; (with_reducible refine (value_unsigned.calls a0 t119 _ A4.out).mono ?_); rintro e w' ⟨rfl, ⟨nd, rfl⟩⟩))
  go_ret
  exact ⟨by first | rfl | (simp; done) | (simp [*]; done), by repeat (first | exact Drawn0.refl _ | apply Drawn0.step)⟩

/-! ### value_Bool: function 28 -/
def value_Bool.f (a0 : Bool) : Option (Int × Int × ByteArray) := if a0 = true then (some (1, 1, (⟨#[]⟩ : ByteArray))) else (some (1, 0, (⟨#[]⟩ : ByteArray)))
set_option maxHeartbeats 8000000 in
set_option maxRecDepth 100000 in
theorem value_Bool.calls (a0 : Bool) (r1 : Int) (r2 : Int) (r3 : ByteArray) (w : World) (h : value_Bool.f a0 = some (r1, r2, r3)) :
  Calls Try.prog 28 #[.bool a0] w fun e w' => e = .returned (.agg #[.int .u8 r1, .int .u64 r2, .string r3]) ∧ Below w.heap.size w w' := by
 have hu27 := Try.underlying27
 have HB := Aside0.mk (Below.refl w.heap.size w)
 have H : (if a0 = true then (some (1, 1, (⟨#[]⟩ : ByteArray))) else (some (1, 0, (⟨#[]⟩ : ByteArray)))) = some (r1, r2, r3) := h
 clear h
 by_cases c2 : a0 = true
 ·subst c2
  have H1 : (some (1, 1, (⟨#[]⟩ : ByteArray))) = some (r1, r2, r3) := by rw [if_pos rfl] at H; exact H
  clear H
  have H := H1
  clear H1
  simp only [Option.some.injEq, Prod.mk.injEq] at H
  obtain ⟨rfl, rfl, rfl⟩ := H
  go_enter Try.func28, Try.ntmps28
  go_wp2_with (first | ((with_reducible refine gate_dst (N := 2) rfl ?_); refine box_event ?hg (N := 2) ?hd (cs := #[.int .u8 0, .int .u64 0, .string (⟨#[]⟩ : ByteArray)]) (t := 27) ?hr ?_; (case hd => rfl); (case hg => rfl); (case hr => first | (go_simp; done) | (go_simp; rfl)); intro gb120 hg w3 hbox hb; have n0_ := bt HB hb; have n1_ := Aside0.mk (hbox); have n2_ := gs hg HB; have n3_ := gs hg HB; clear HB; have HB := n0_; have BK120 := n1_; have GW120 := n2_; have GE120 := n3_; clear n0_ n1_ n2_ n3_; clear hb hbox hg) | ((with_reducible refine gate_dst (N := 3) rfl ?_); refine box_event ?hg (N := 3) ?hd (cs := #[.int .u8 0, .int .u64 0, .string (⟨#[]⟩ : ByteArray)]) (t := 27) ?hr ?_; (case hd => rfl); (case hg => rfl); (case hr => first | (go_simp; done) | (go_simp; rfl)); intro gb121 hg w4 hbox hb; have n0_ := kb BK120 hb; have n1_ := bt HB hb; have n2_ := Aside0.mk (hbox); have n3_ := gs hg HB; have n4_ := gs hg HB; have n5_ := nl hg BK120; have n6_ := ng hg BK120; clear BK120; clear HB; have BK120 := n0_; have HB := n1_; have BK121 := n2_; have GW121 := n3_; have GE121 := n4_; have NB120_121 := n5_; have NB121_120 := n6_; clear n0_ n1_ n2_ n3_ n4_ n5_ n6_; clear hb hbox hg; have hnb5 := NB121_120.out; have hnc5 := NB120_121.out; have hcz6_0 : w4.cell? ⟨gb121, 0, none⟩ = some (.int .u8 0) := bc BK121 0; have hcz6_1 : w4.cell? ⟨gb121, 1, none⟩ = some (.int .u64 0) := bc BK121 1; have hcz6_2 : w4.cell? ⟨gb121, 2, none⟩ = some (.string (⟨#[]⟩ : ByteArray)) := bc BK121 2; have hfz6_0 := blk_frozen BK121.out 0; have hfz6_1 := blk_frozen BK121.out 1; have hfz6_2 := blk_frozen BK121.out 2; have hcz7_0 : w4.cell? ⟨gb120, 0, none⟩ = some (.int .u8 0) := bc BK120 0; have hcz7_1 : w4.cell? ⟨gb120, 1, none⟩ = some (.int .u64 0) := bc BK120 1; have hcz7_2 : w4.cell? ⟨gb120, 2, none⟩ = some (.string (⟨#[]⟩ : ByteArray)) := bc BK120 2; have hfz7_0 := blk_frozen BK120.out 0; have hfz7_1 := blk_frozen BK120.out 1; have hfz7_2 := blk_frozen BK120.out 2))
  refine bodyPost_ret (results_cell_row rfl _ _ gb120 27 #[.int .u8 1, .int .u64 1, .string (⟨#[]⟩ : ByteArray)] (0, 0) _ rfl (by (with_reducible repeat (first | refine blk_drewN ?_ _ | refine blk_drew ?_ | refine blk_alloc ?_ _)); refine blk_put (cs := #[.int .u8 1, .int .u64 1, .string (⟨#[]⟩ : ByteArray)]) ?_ 2 _ rfl; (with_reducible repeat (first | refine blk_drewN ?_ _ | refine blk_drew ?_ | refine blk_alloc ?_ _)); refine blk_put (cs := #[.int .u8 1, .int .u64 0, .string (⟨#[]⟩ : ByteArray)]) ?_ 1 _ rfl; (with_reducible repeat (first | refine blk_drewN ?_ _ | refine blk_drew ?_ | refine blk_alloc ?_ _)); refine blk_put (cs := #[.int .u8 0, .int .u64 0, .string (⟨#[]⟩ : ByteArray)]) ?_ 0 _ rfl; (with_reducible repeat (first | refine blk_drewN ?_ _ | refine blk_drew ?_ | refine blk_alloc ?_ _)); refine blk_far ?_ NB120_121.out _; (with_reducible repeat (first | refine blk_drewN ?_ _ | refine blk_drew ?_ | refine blk_alloc ?_ _)); refine blk_far ?_ NB120_121.out _; (with_reducible repeat (first | refine blk_drewN ?_ _ | refine blk_drew ?_ | refine blk_alloc ?_ _)); refine blk_far ?_ NB120_121.out _; (with_reducible repeat (first | refine blk_drewN ?_ _ | refine blk_drew ?_ | refine blk_alloc ?_ _)); refine blk_far ?_ NB120_121.out _; (with_reducible repeat (first | refine blk_drewN ?_ _ | refine blk_drew ?_ | refine blk_alloc ?_ _)); exact BK120.out) Try.underlying27 rfl (by kernel_rfl)) rfl ?_
  exact ⟨by first | rfl | (simp [errW_none, errW_some] <;> rfl) | (simp [*, errW_none, errW_some] <;> rfl), bs HB⟩
 ·replace c2 := Bool.eq_false_iff.mpr c2
  subst c2
  have H1 : (some (1, 0, (⟨#[]⟩ : ByteArray))) = some (r1, r2, r3) := by rw [if_neg (show ¬ (false = true) by decide)] at H; exact H
  clear H
  have H := H1
  clear H1
  simp only [Option.some.injEq, Prod.mk.injEq] at H
  obtain ⟨rfl, rfl, rfl⟩ := H
  go_enter Try.func28, Try.ntmps28
  go_wp2_with (first | ((with_reducible refine gate_dst (N := 2) rfl ?_); refine box_event ?hg (N := 2) ?hd (cs := #[.int .u8 0, .int .u64 0, .string (⟨#[]⟩ : ByteArray)]) (t := 27) ?hr ?_; (case hd => rfl); (case hg => rfl); (case hr => first | (go_simp; done) | (go_simp; rfl)); intro gb120 hg w8 hbox hb; have n0_ := bt HB hb; have n1_ := Aside0.mk (hbox); have n2_ := gs hg HB; have n3_ := gs hg HB; clear HB; have HB := n0_; have BK120 := n1_; have GW120 := n2_; have GE120 := n3_; clear n0_ n1_ n2_ n3_; clear hb hbox hg) | ((with_reducible refine gate_dst (N := 3) rfl ?_); refine box_event ?hg (N := 3) ?hd (cs := #[.int .u8 0, .int .u64 0, .string (⟨#[]⟩ : ByteArray)]) (t := 27) ?hr ?_; (case hd => rfl); (case hg => rfl); (case hr => first | (go_simp; done) | (go_simp; rfl)); intro gb121 hg w9 hbox hb; have n0_ := kb BK120 hb; have n1_ := bt HB hb; have n2_ := Aside0.mk (hbox); have n3_ := gs hg HB; have n4_ := gs hg HB; have n5_ := nl hg BK120; have n6_ := ng hg BK120; clear BK120; clear HB; have BK120 := n0_; have HB := n1_; have BK121 := n2_; have GW121 := n3_; have GE121 := n4_; have NB120_121 := n5_; have NB121_120 := n6_; clear n0_ n1_ n2_ n3_ n4_ n5_ n6_; clear hb hbox hg; have hnb10 := NB121_120.out; have hnc10 := NB120_121.out; have hcz11_0 : w9.cell? ⟨gb121, 0, none⟩ = some (.int .u8 0) := bc BK121 0; have hcz11_1 : w9.cell? ⟨gb121, 1, none⟩ = some (.int .u64 0) := bc BK121 1; have hcz11_2 : w9.cell? ⟨gb121, 2, none⟩ = some (.string (⟨#[]⟩ : ByteArray)) := bc BK121 2; have hfz11_0 := blk_frozen BK121.out 0; have hfz11_1 := blk_frozen BK121.out 1; have hfz11_2 := blk_frozen BK121.out 2; have hcz12_0 : w9.cell? ⟨gb120, 0, none⟩ = some (.int .u8 0) := bc BK120 0; have hcz12_1 : w9.cell? ⟨gb120, 1, none⟩ = some (.int .u64 0) := bc BK120 1; have hcz12_2 : w9.cell? ⟨gb120, 2, none⟩ = some (.string (⟨#[]⟩ : ByteArray)) := bc BK120 2; have hfz12_0 := blk_frozen BK120.out 0; have hfz12_1 := blk_frozen BK120.out 1; have hfz12_2 := blk_frozen BK120.out 2))
  refine bodyPost_ret (results_cell_row rfl _ _ gb120 27 #[.int .u8 1, .int .u64 0, .string (⟨#[]⟩ : ByteArray)] (0, 0) _ rfl (by (with_reducible repeat (first | refine blk_drewN ?_ _ | refine blk_drew ?_ | refine blk_alloc ?_ _)); refine blk_put (cs := #[.int .u8 1, .int .u64 0, .string (⟨#[]⟩ : ByteArray)]) ?_ 2 _ rfl; (with_reducible repeat (first | refine blk_drewN ?_ _ | refine blk_drew ?_ | refine blk_alloc ?_ _)); refine blk_put (cs := #[.int .u8 1, .int .u64 0, .string (⟨#[]⟩ : ByteArray)]) ?_ 1 _ rfl; (with_reducible repeat (first | refine blk_drewN ?_ _ | refine blk_drew ?_ | refine blk_alloc ?_ _)); refine blk_put (cs := #[.int .u8 0, .int .u64 0, .string (⟨#[]⟩ : ByteArray)]) ?_ 0 _ rfl; (with_reducible repeat (first | refine blk_drewN ?_ _ | refine blk_drew ?_ | refine blk_alloc ?_ _)); refine blk_far ?_ NB120_121.out _; (with_reducible repeat (first | refine blk_drewN ?_ _ | refine blk_drew ?_ | refine blk_alloc ?_ _)); refine blk_far ?_ NB120_121.out _; (with_reducible repeat (first | refine blk_drewN ?_ _ | refine blk_drew ?_ | refine blk_alloc ?_ _)); refine blk_far ?_ NB120_121.out _; (with_reducible repeat (first | refine blk_drewN ?_ _ | refine blk_drew ?_ | refine blk_alloc ?_ _)); exact BK120.out) Try.underlying27 rfl (by kernel_rfl)) rfl ?_
  exact ⟨by first | rfl | (simp [errW_none, errW_some] <;> rfl) | (simp [*, errW_none, errW_some] <;> rfl), bs HB⟩

/-! ### value_floatsCompared: function 66 -/
def value_floatsCompared.f (a0 : Int) (a1 : Nat) (a2 : Nat) : Option (Int × Int × ByteArray) := if a0 = 9 then ((value_Bool.f (FloatKind.f64.format.order a1 a2 == some Ordering.eq)).bind fun bt123 => (some (bt123.1, bt123.2.1, bt123.2.2))) else (if a0 = 10 then ((value_Bool.f (FloatKind.f64.format.order a1 a2 != some Ordering.eq)).bind fun bt126 => (some (bt126.1, bt126.2.1, bt126.2.2))) else (if a0 = 11 then ((value_Bool.f (FloatKind.f64.format.order a1 a2 == some Ordering.lt)).bind fun bt129 => (some (bt129.1, bt129.2.1, bt129.2.2))) else (if a0 = 12 then ((value_Bool.f (FloatKind.f64.format.order a1 a2 == some Ordering.lt || FloatKind.f64.format.order a1 a2 == some Ordering.eq)).bind fun bt132 => (some (bt132.1, bt132.2.1, bt132.2.2))) else (if a0 = 13 then ((value_Bool.f (FloatKind.f64.format.order a1 a2 == some Ordering.gt)).bind fun bt135 => (some (bt135.1, bt135.2.1, bt135.2.2))) else ((value_Bool.f (FloatKind.f64.format.order a1 a2 == some Ordering.gt || FloatKind.f64.format.order a1 a2 == some Ordering.eq)).bind fun bt138 => (some (bt138.1, bt138.2.1, bt138.2.2)))))))
set_option maxHeartbeats 8000000 in
set_option maxRecDepth 100000 in
theorem value_floatsCompared.calls (a0 : Int) (a1 : Nat) (a2 : Nat) (r1 : Int) (r2 : Int) (r3 : ByteArray) (w : World) (h : value_floatsCompared.f a0 a1 a2 = some (r1, r2, r3)) :
  Calls Try.prog 66 #[.int .i64 a0, .float .f64 a1, .float .f64 a2] w fun e w' => e = .returned (.agg #[.int .u8 r1, .int .u64 r2, .string r3]) ∧ Below w.heap.size w w' := by
 have hu27 := Try.underlying27
 have HB := Aside0.mk (Below.refl w.heap.size w)
 have H : (if a0 = 9 then ((value_Bool.f (FloatKind.f64.format.order a1 a2 == some Ordering.eq)).bind fun bt123 => (some (bt123.1, bt123.2.1, bt123.2.2))) else (if a0 = 10 then ((value_Bool.f (FloatKind.f64.format.order a1 a2 != some Ordering.eq)).bind fun bt126 => (some (bt126.1, bt126.2.1, bt126.2.2))) else (if a0 = 11 then ((value_Bool.f (FloatKind.f64.format.order a1 a2 == some Ordering.lt)).bind fun bt129 => (some (bt129.1, bt129.2.1, bt129.2.2))) else (if a0 = 12 then ((value_Bool.f (FloatKind.f64.format.order a1 a2 == some Ordering.lt || FloatKind.f64.format.order a1 a2 == some Ordering.eq)).bind fun bt132 => (some (bt132.1, bt132.2.1, bt132.2.2))) else (if a0 = 13 then ((value_Bool.f (FloatKind.f64.format.order a1 a2 == some Ordering.gt)).bind fun bt135 => (some (bt135.1, bt135.2.1, bt135.2.2))) else ((value_Bool.f (FloatKind.f64.format.order a1 a2 == some Ordering.gt || FloatKind.f64.format.order a1 a2 == some Ordering.eq)).bind fun bt138 => (some (bt138.1, bt138.2.1, bt138.2.2)))))))) = some (r1, r2, r3) := h
 clear h
 by_cases c4 : a0 = 9
 ·rw [if_pos c4] at H
  have c4b0 : (a0 == 9) = true := beq_iff_eq.mpr c4
  have c4b1 : (a0 != 9) = false := bne_eq_false_iff_eq.mpr c4
  clear c4
  replace H := Option.bind_eq_some_iff.mp H
  obtain ⟨⟨t123, t124, t125⟩, A50, H⟩ := H
  replace H : (some (t123, t124, t125)) = some (r1, r2, r3) := H
  have A5 := Aside0.mk A50
  clear A50
  simp only [Option.some.injEq, Prod.mk.injEq] at H
  obtain ⟨rfl, rfl, rfl⟩ := H
  go_enter Try.func66, Try.ntmps66
  go_wp2_with (first | ((with_reducible refine gate_dst (N := 6) rfl ?_); refine box_event ?hg (N := 6) ?hd (cs := #[.int .u8 0, .int .u64 0, .string (⟨#[]⟩ : ByteArray)]) (t := 27) ?hr ?_; (case hd => rfl); (case hg => rfl); (case hr => first | (go_simp; done) | (go_simp; rfl)); intro gb122 hg w6 hbox hb; have n0_ := bt HB hb; have n1_ := Aside0.mk (hbox); have n2_ := gs hg HB; have n3_ := gs hg HB; clear HB; have HB := n0_; have BK122 := n1_; have GW122 := n2_; have GE122 := n3_; clear n0_ n1_ n2_ n3_; clear hb hbox hg) | ((with_reducible refine gate_callee (f := 28) rfl ?_); refine goesL_ (some 13) rfl rfl Try.func28 (by kernel_rfl) rfl #[.bool (FloatKind.f64.format.order a1 a2 == some Ordering.eq)] rfl (by (try simp only [List.map_toArray, List.map_cons, List.map_nil]); first | done | rfl | (simp only [List.length_drop, List.length_take]; rfl)) ?_; (with_reducible refine (value_Bool.calls (FloatKind.f64.format.order a1 a2 == some Ordering.eq) t123 t124 t125 _ A5.out).mono ?_); rintro e w7 ⟨rfl, hb⟩; refine ⟨_, rfl, ?_⟩; have n0_ := kb BK122 hb; have n1_ := bt HB hb; clear BK122; clear HB; have BK122 := n0_; have HB := n1_; clear n0_ n1_; (try clear hb); (try clear hb2); (try clear hk); (try clear hi); have hcz8_0 : w7.cell? ⟨gb122, 0, none⟩ = some (.int .u8 0) := bc BK122 0; have hcz8_1 : w7.cell? ⟨gb122, 1, none⟩ = some (.int .u64 0) := bc BK122 1; have hcz8_2 : w7.cell? ⟨gb122, 2, none⟩ = some (.string (⟨#[]⟩ : ByteArray)) := bc BK122 2; have hfz8_0 := blk_frozen BK122.out 0; have hfz8_1 := blk_frozen BK122.out 1; have hfz8_2 := blk_frozen BK122.out 2))
  refine bodyPost_ret (results_cell_row rfl _ _ gb122 27 #[.int .u8 t123, .int .u64 t124, .string t125] (0, 0) _ rfl (by (with_reducible repeat (first | refine blk_drewN ?_ _ | refine blk_drew ?_ | refine blk_alloc ?_ _)); refine blk_put (cs := #[.int .u8 t123, .int .u64 t124, .string (⟨#[]⟩ : ByteArray)]) ?_ 2 _ rfl; (with_reducible repeat (first | refine blk_drewN ?_ _ | refine blk_drew ?_ | refine blk_alloc ?_ _)); refine blk_put (cs := #[.int .u8 t123, .int .u64 0, .string (⟨#[]⟩ : ByteArray)]) ?_ 1 _ rfl; (with_reducible repeat (first | refine blk_drewN ?_ _ | refine blk_drew ?_ | refine blk_alloc ?_ _)); refine blk_put (cs := #[.int .u8 0, .int .u64 0, .string (⟨#[]⟩ : ByteArray)]) ?_ 0 _ rfl; (with_reducible repeat (first | refine blk_drewN ?_ _ | refine blk_drew ?_ | refine blk_alloc ?_ _)); exact BK122.out) Try.underlying27 rfl (by kernel_rfl)) rfl ?_
  exact ⟨by first | rfl | (simp [errW_none, errW_some] <;> rfl) | (simp [*, errW_none, errW_some] <;> rfl), bs HB⟩
 ·rw [if_neg c4] at H
  have c4b0 : (a0 == 9) = false := beq_eq_false_iff_ne.mpr c4
  have c4b1 : (a0 != 9) = true := bne_iff_ne.mpr c4
  by_cases c9 : a0 = 10
  ·rw [if_pos c9] at H
   have c9b0 : (a0 == 10) = true := beq_iff_eq.mpr c9
   have c9b1 : (a0 != 10) = false := bne_eq_false_iff_eq.mpr c9
   clear c9
   replace H := Option.bind_eq_some_iff.mp H
   obtain ⟨⟨t126, t127, t128⟩, A100, H⟩ := H
   replace H : (some (t126, t127, t128)) = some (r1, r2, r3) := H
   have A10 := Aside0.mk A100
   clear A100
   simp only [Option.some.injEq, Prod.mk.injEq] at H
   obtain ⟨rfl, rfl, rfl⟩ := H
   go_enter Try.func66, Try.ntmps66
   go_wp2_with (first | ((with_reducible refine gate_dst (N := 6) rfl ?_); refine box_event ?hg (N := 6) ?hd (cs := #[.int .u8 0, .int .u64 0, .string (⟨#[]⟩ : ByteArray)]) (t := 27) ?hr ?_; (case hd => rfl); (case hg => rfl); (case hr => first | (go_simp; done) | (go_simp; rfl)); intro gb122 hg w11 hbox hb; have n0_ := bt HB hb; have n1_ := Aside0.mk (hbox); have n2_ := gs hg HB; have n3_ := gs hg HB; clear HB; have HB := n0_; have BK122 := n1_; have GW122 := n2_; have GE122 := n3_; clear n0_ n1_ n2_ n3_; clear hb hbox hg) | ((with_reducible refine gate_callee (f := 28) rfl ?_); refine goesL_ (some 19) rfl rfl Try.func28 (by kernel_rfl) rfl #[.bool (FloatKind.f64.format.order a1 a2 != some Ordering.eq)] rfl (by (try simp only [List.map_toArray, List.map_cons, List.map_nil]); first | done | rfl | (simp only [List.length_drop, List.length_take]; rfl)) ?_; (with_reducible refine (value_Bool.calls (FloatKind.f64.format.order a1 a2 != some Ordering.eq) t126 t127 t128 _ A10.out).mono ?_); rintro e w12 ⟨rfl, hb⟩; refine ⟨_, rfl, ?_⟩; have n0_ := kb BK122 hb; have n1_ := bt HB hb; clear BK122; clear HB; have BK122 := n0_; have HB := n1_; clear n0_ n1_; (try clear hb); (try clear hb2); (try clear hk); (try clear hi); have hcz13_0 : w12.cell? ⟨gb122, 0, none⟩ = some (.int .u8 0) := bc BK122 0; have hcz13_1 : w12.cell? ⟨gb122, 1, none⟩ = some (.int .u64 0) := bc BK122 1; have hcz13_2 : w12.cell? ⟨gb122, 2, none⟩ = some (.string (⟨#[]⟩ : ByteArray)) := bc BK122 2; have hfz13_0 := blk_frozen BK122.out 0; have hfz13_1 := blk_frozen BK122.out 1; have hfz13_2 := blk_frozen BK122.out 2))
   refine bodyPost_ret (results_cell_row rfl _ _ gb122 27 #[.int .u8 t126, .int .u64 t127, .string t128] (0, 0) _ rfl (by (with_reducible repeat (first | refine blk_drewN ?_ _ | refine blk_drew ?_ | refine blk_alloc ?_ _)); refine blk_put (cs := #[.int .u8 t126, .int .u64 t127, .string (⟨#[]⟩ : ByteArray)]) ?_ 2 _ rfl; (with_reducible repeat (first | refine blk_drewN ?_ _ | refine blk_drew ?_ | refine blk_alloc ?_ _)); refine blk_put (cs := #[.int .u8 t126, .int .u64 0, .string (⟨#[]⟩ : ByteArray)]) ?_ 1 _ rfl; (with_reducible repeat (first | refine blk_drewN ?_ _ | refine blk_drew ?_ | refine blk_alloc ?_ _)); refine blk_put (cs := #[.int .u8 0, .int .u64 0, .string (⟨#[]⟩ : ByteArray)]) ?_ 0 _ rfl; (with_reducible repeat (first | refine blk_drewN ?_ _ | refine blk_drew ?_ | refine blk_alloc ?_ _)); exact BK122.out) Try.underlying27 rfl (by kernel_rfl)) rfl ?_
   exact ⟨by first | rfl | (simp [errW_none, errW_some] <;> rfl) | (simp [*, errW_none, errW_some] <;> rfl), bs HB⟩
  ·rw [if_neg c9] at H
   have c9b0 : (a0 == 10) = false := beq_eq_false_iff_ne.mpr c9
   have c9b1 : (a0 != 10) = true := bne_iff_ne.mpr c9
   by_cases c14 : a0 = 11
   ·rw [if_pos c14] at H
    have c14b0 : (a0 == 11) = true := beq_iff_eq.mpr c14
    have c14b1 : (a0 != 11) = false := bne_eq_false_iff_eq.mpr c14
    clear c14
    replace H := Option.bind_eq_some_iff.mp H
    obtain ⟨⟨t129, t130, t131⟩, A150, H⟩ := H
    replace H : (some (t129, t130, t131)) = some (r1, r2, r3) := H
    have A15 := Aside0.mk A150
    clear A150
    simp only [Option.some.injEq, Prod.mk.injEq] at H
    obtain ⟨rfl, rfl, rfl⟩ := H
    go_enter Try.func66, Try.ntmps66
    go_wp2_with (first | ((with_reducible refine gate_dst (N := 6) rfl ?_); refine box_event ?hg (N := 6) ?hd (cs := #[.int .u8 0, .int .u64 0, .string (⟨#[]⟩ : ByteArray)]) (t := 27) ?hr ?_; (case hd => rfl); (case hg => rfl); (case hr => first | (go_simp; done) | (go_simp; rfl)); intro gb122 hg w16 hbox hb; have n0_ := bt HB hb; have n1_ := Aside0.mk (hbox); have n2_ := gs hg HB; have n3_ := gs hg HB; clear HB; have HB := n0_; have BK122 := n1_; have GW122 := n2_; have GE122 := n3_; clear n0_ n1_ n2_ n3_; clear hb hbox hg) | ((with_reducible refine gate_callee (f := 28) rfl ?_); refine goesL_ (some 25) rfl rfl Try.func28 (by kernel_rfl) rfl #[.bool (FloatKind.f64.format.order a1 a2 == some Ordering.lt)] rfl (by (try simp only [List.map_toArray, List.map_cons, List.map_nil]); first | done | rfl | (simp only [List.length_drop, List.length_take]; rfl)) ?_; (with_reducible refine (value_Bool.calls (FloatKind.f64.format.order a1 a2 == some Ordering.lt) t129 t130 t131 _ A15.out).mono ?_); rintro e w17 ⟨rfl, hb⟩; refine ⟨_, rfl, ?_⟩; have n0_ := kb BK122 hb; have n1_ := bt HB hb; clear BK122; clear HB; have BK122 := n0_; have HB := n1_; clear n0_ n1_; (try clear hb); (try clear hb2); (try clear hk); (try clear hi); have hcz18_0 : w17.cell? ⟨gb122, 0, none⟩ = some (.int .u8 0) := bc BK122 0; have hcz18_1 : w17.cell? ⟨gb122, 1, none⟩ = some (.int .u64 0) := bc BK122 1; have hcz18_2 : w17.cell? ⟨gb122, 2, none⟩ = some (.string (⟨#[]⟩ : ByteArray)) := bc BK122 2; have hfz18_0 := blk_frozen BK122.out 0; have hfz18_1 := blk_frozen BK122.out 1; have hfz18_2 := blk_frozen BK122.out 2))
    refine bodyPost_ret (results_cell_row rfl _ _ gb122 27 #[.int .u8 t129, .int .u64 t130, .string t131] (0, 0) _ rfl (by (with_reducible repeat (first | refine blk_drewN ?_ _ | refine blk_drew ?_ | refine blk_alloc ?_ _)); refine blk_put (cs := #[.int .u8 t129, .int .u64 t130, .string (⟨#[]⟩ : ByteArray)]) ?_ 2 _ rfl; (with_reducible repeat (first | refine blk_drewN ?_ _ | refine blk_drew ?_ | refine blk_alloc ?_ _)); refine blk_put (cs := #[.int .u8 t129, .int .u64 0, .string (⟨#[]⟩ : ByteArray)]) ?_ 1 _ rfl; (with_reducible repeat (first | refine blk_drewN ?_ _ | refine blk_drew ?_ | refine blk_alloc ?_ _)); refine blk_put (cs := #[.int .u8 0, .int .u64 0, .string (⟨#[]⟩ : ByteArray)]) ?_ 0 _ rfl; (with_reducible repeat (first | refine blk_drewN ?_ _ | refine blk_drew ?_ | refine blk_alloc ?_ _)); exact BK122.out) Try.underlying27 rfl (by kernel_rfl)) rfl ?_
    exact ⟨by first | rfl | (simp [errW_none, errW_some] <;> rfl) | (simp [*, errW_none, errW_some] <;> rfl), bs HB⟩
   ·rw [if_neg c14] at H
    have c14b0 : (a0 == 11) = false := beq_eq_false_iff_ne.mpr c14
    have c14b1 : (a0 != 11) = true := bne_iff_ne.mpr c14
    by_cases c19 : a0 = 12
    ·rw [if_pos c19] at H
     have c19b0 : (a0 == 12) = true := beq_iff_eq.mpr c19
     have c19b1 : (a0 != 12) = false := bne_eq_false_iff_eq.mpr c19
     clear c19
     replace H := Option.bind_eq_some_iff.mp H
     obtain ⟨⟨t132, t133, t134⟩, A200, H⟩ := H
     replace H : (some (t132, t133, t134)) = some (r1, r2, r3) := H
     have A20 := Aside0.mk A200
     clear A200
     simp only [Option.some.injEq, Prod.mk.injEq] at H
     obtain ⟨rfl, rfl, rfl⟩ := H
     go_enter Try.func66, Try.ntmps66
     go_wp2_with (first | ((with_reducible refine gate_dst (N := 6) rfl ?_); refine box_event ?hg (N := 6) ?hd (cs := #[.int .u8 0, .int .u64 0, .string (⟨#[]⟩ : ByteArray)]) (t := 27) ?hr ?_; (case hd => rfl); (case hg => rfl); (case hr => first | (go_simp; done) | (go_simp; rfl)); intro gb122 hg w21 hbox hb; have n0_ := bt HB hb; have n1_ := Aside0.mk (hbox); have n2_ := gs hg HB; have n3_ := gs hg HB; clear HB; have HB := n0_; have BK122 := n1_; have GW122 := n2_; have GE122 := n3_; clear n0_ n1_ n2_ n3_; clear hb hbox hg) | ((with_reducible refine gate_callee (f := 28) rfl ?_); refine goesL_ (some 31) rfl rfl Try.func28 (by kernel_rfl) rfl #[.bool (FloatKind.f64.format.order a1 a2 == some Ordering.lt || FloatKind.f64.format.order a1 a2 == some Ordering.eq)] rfl (by (try simp only [List.map_toArray, List.map_cons, List.map_nil]); first | done | rfl | (simp only [List.length_drop, List.length_take]; rfl)) ?_; (with_reducible refine (value_Bool.calls (FloatKind.f64.format.order a1 a2 == some Ordering.lt || FloatKind.f64.format.order a1 a2 == some Ordering.eq) t132 t133 t134 _ A20.out).mono ?_); rintro e w22 ⟨rfl, hb⟩; refine ⟨_, rfl, ?_⟩; have n0_ := kb BK122 hb; have n1_ := bt HB hb; clear BK122; clear HB; have BK122 := n0_; have HB := n1_; clear n0_ n1_; (try clear hb); (try clear hb2); (try clear hk); (try clear hi); have hcz23_0 : w22.cell? ⟨gb122, 0, none⟩ = some (.int .u8 0) := bc BK122 0; have hcz23_1 : w22.cell? ⟨gb122, 1, none⟩ = some (.int .u64 0) := bc BK122 1; have hcz23_2 : w22.cell? ⟨gb122, 2, none⟩ = some (.string (⟨#[]⟩ : ByteArray)) := bc BK122 2; have hfz23_0 := blk_frozen BK122.out 0; have hfz23_1 := blk_frozen BK122.out 1; have hfz23_2 := blk_frozen BK122.out 2))
     refine bodyPost_ret (results_cell_row rfl _ _ gb122 27 #[.int .u8 t132, .int .u64 t133, .string t134] (0, 0) _ rfl (by (with_reducible repeat (first | refine blk_drewN ?_ _ | refine blk_drew ?_ | refine blk_alloc ?_ _)); refine blk_put (cs := #[.int .u8 t132, .int .u64 t133, .string (⟨#[]⟩ : ByteArray)]) ?_ 2 _ rfl; (with_reducible repeat (first | refine blk_drewN ?_ _ | refine blk_drew ?_ | refine blk_alloc ?_ _)); refine blk_put (cs := #[.int .u8 t132, .int .u64 0, .string (⟨#[]⟩ : ByteArray)]) ?_ 1 _ rfl; (with_reducible repeat (first | refine blk_drewN ?_ _ | refine blk_drew ?_ | refine blk_alloc ?_ _)); refine blk_put (cs := #[.int .u8 0, .int .u64 0, .string (⟨#[]⟩ : ByteArray)]) ?_ 0 _ rfl; (with_reducible repeat (first | refine blk_drewN ?_ _ | refine blk_drew ?_ | refine blk_alloc ?_ _)); exact BK122.out) Try.underlying27 rfl (by kernel_rfl)) rfl ?_
     exact ⟨by first | rfl | (simp [errW_none, errW_some] <;> rfl) | (simp [*, errW_none, errW_some] <;> rfl), bs HB⟩
    ·rw [if_neg c19] at H
     have c19b0 : (a0 == 12) = false := beq_eq_false_iff_ne.mpr c19
     have c19b1 : (a0 != 12) = true := bne_iff_ne.mpr c19
     by_cases c24 : a0 = 13
     ·rw [if_pos c24] at H
      have c24b0 : (a0 == 13) = true := beq_iff_eq.mpr c24
      have c24b1 : (a0 != 13) = false := bne_eq_false_iff_eq.mpr c24
      clear c24
      replace H := Option.bind_eq_some_iff.mp H
      obtain ⟨⟨t135, t136, t137⟩, A250, H⟩ := H
      replace H : (some (t135, t136, t137)) = some (r1, r2, r3) := H
      have A25 := Aside0.mk A250
      clear A250
      simp only [Option.some.injEq, Prod.mk.injEq] at H
      obtain ⟨rfl, rfl, rfl⟩ := H
      go_enter Try.func66, Try.ntmps66
      go_wp2_with (first | ((with_reducible refine gate_dst (N := 6) rfl ?_); refine box_event ?hg (N := 6) ?hd (cs := #[.int .u8 0, .int .u64 0, .string (⟨#[]⟩ : ByteArray)]) (t := 27) ?hr ?_; (case hd => rfl); (case hg => rfl); (case hr => first | (go_simp; done) | (go_simp; rfl)); intro gb122 hg w26 hbox hb; have n0_ := bt HB hb; have n1_ := Aside0.mk (hbox); have n2_ := gs hg HB; have n3_ := gs hg HB; clear HB; have HB := n0_; have BK122 := n1_; have GW122 := n2_; have GE122 := n3_; clear n0_ n1_ n2_ n3_; clear hb hbox hg) | ((with_reducible refine gate_callee (f := 28) rfl ?_); refine goesL_ (some 37) rfl rfl Try.func28 (by kernel_rfl) rfl #[.bool (FloatKind.f64.format.order a1 a2 == some Ordering.gt)] rfl (by (try simp only [List.map_toArray, List.map_cons, List.map_nil]); first | done | rfl | (simp only [List.length_drop, List.length_take]; rfl)) ?_; (with_reducible refine (value_Bool.calls (FloatKind.f64.format.order a1 a2 == some Ordering.gt) t135 t136 t137 _ A25.out).mono ?_); rintro e w27 ⟨rfl, hb⟩; refine ⟨_, rfl, ?_⟩; have n0_ := kb BK122 hb; have n1_ := bt HB hb; clear BK122; clear HB; have BK122 := n0_; have HB := n1_; clear n0_ n1_; (try clear hb); (try clear hb2); (try clear hk); (try clear hi); have hcz28_0 : w27.cell? ⟨gb122, 0, none⟩ = some (.int .u8 0) := bc BK122 0; have hcz28_1 : w27.cell? ⟨gb122, 1, none⟩ = some (.int .u64 0) := bc BK122 1; have hcz28_2 : w27.cell? ⟨gb122, 2, none⟩ = some (.string (⟨#[]⟩ : ByteArray)) := bc BK122 2; have hfz28_0 := blk_frozen BK122.out 0; have hfz28_1 := blk_frozen BK122.out 1; have hfz28_2 := blk_frozen BK122.out 2))
      refine bodyPost_ret (results_cell_row rfl _ _ gb122 27 #[.int .u8 t135, .int .u64 t136, .string t137] (0, 0) _ rfl (by (with_reducible repeat (first | refine blk_drewN ?_ _ | refine blk_drew ?_ | refine blk_alloc ?_ _)); refine blk_put (cs := #[.int .u8 t135, .int .u64 t136, .string (⟨#[]⟩ : ByteArray)]) ?_ 2 _ rfl; (with_reducible repeat (first | refine blk_drewN ?_ _ | refine blk_drew ?_ | refine blk_alloc ?_ _)); refine blk_put (cs := #[.int .u8 t135, .int .u64 0, .string (⟨#[]⟩ : ByteArray)]) ?_ 1 _ rfl; (with_reducible repeat (first | refine blk_drewN ?_ _ | refine blk_drew ?_ | refine blk_alloc ?_ _)); refine blk_put (cs := #[.int .u8 0, .int .u64 0, .string (⟨#[]⟩ : ByteArray)]) ?_ 0 _ rfl; (with_reducible repeat (first | refine blk_drewN ?_ _ | refine blk_drew ?_ | refine blk_alloc ?_ _)); exact BK122.out) Try.underlying27 rfl (by kernel_rfl)) rfl ?_
      exact ⟨by first | rfl | (simp [errW_none, errW_some] <;> rfl) | (simp [*, errW_none, errW_some] <;> rfl), bs HB⟩
     ·rw [if_neg c24] at H
      have c24b0 : (a0 == 13) = false := beq_eq_false_iff_ne.mpr c24
      have c24b1 : (a0 != 13) = true := bne_iff_ne.mpr c24
      replace H := Option.bind_eq_some_iff.mp H
      obtain ⟨⟨t138, t139, t140⟩, A290, H⟩ := H
      replace H : (some (t138, t139, t140)) = some (r1, r2, r3) := H
      have A29 := Aside0.mk A290
      clear A290
      simp only [Option.some.injEq, Prod.mk.injEq] at H
      obtain ⟨rfl, rfl, rfl⟩ := H
      go_enter Try.func66, Try.ntmps66
      go_wp2_with (first | ((with_reducible refine gate_dst (N := 6) rfl ?_); refine box_event ?hg (N := 6) ?hd (cs := #[.int .u8 0, .int .u64 0, .string (⟨#[]⟩ : ByteArray)]) (t := 27) ?hr ?_; (case hd => rfl); (case hg => rfl); (case hr => first | (go_simp; done) | (go_simp; rfl)); intro gb122 hg w30 hbox hb; have n0_ := bt HB hb; have n1_ := Aside0.mk (hbox); have n2_ := gs hg HB; have n3_ := gs hg HB; clear HB; have HB := n0_; have BK122 := n1_; have GW122 := n2_; have GE122 := n3_; clear n0_ n1_ n2_ n3_; clear hb hbox hg) | ((with_reducible refine gate_callee (f := 28) rfl ?_); refine goesL_ (some 41) rfl rfl Try.func28 (by kernel_rfl) rfl #[.bool (FloatKind.f64.format.order a1 a2 == some Ordering.gt || FloatKind.f64.format.order a1 a2 == some Ordering.eq)] rfl (by (try simp only [List.map_toArray, List.map_cons, List.map_nil]); first | done | rfl | (simp only [List.length_drop, List.length_take]; rfl)) ?_; (with_reducible refine (value_Bool.calls (FloatKind.f64.format.order a1 a2 == some Ordering.gt || FloatKind.f64.format.order a1 a2 == some Ordering.eq) t138 t139 t140 _ A29.out).mono ?_); rintro e w31 ⟨rfl, hb⟩; refine ⟨_, rfl, ?_⟩; have n0_ := kb BK122 hb; have n1_ := bt HB hb; clear BK122; clear HB; have BK122 := n0_; have HB := n1_; clear n0_ n1_; (try clear hb); (try clear hb2); (try clear hk); (try clear hi); have hcz32_0 : w31.cell? ⟨gb122, 0, none⟩ = some (.int .u8 0) := bc BK122 0; have hcz32_1 : w31.cell? ⟨gb122, 1, none⟩ = some (.int .u64 0) := bc BK122 1; have hcz32_2 : w31.cell? ⟨gb122, 2, none⟩ = some (.string (⟨#[]⟩ : ByteArray)) := bc BK122 2; have hfz32_0 := blk_frozen BK122.out 0; have hfz32_1 := blk_frozen BK122.out 1; have hfz32_2 := blk_frozen BK122.out 2))
      refine bodyPost_ret (results_cell_row rfl _ _ gb122 27 #[.int .u8 t138, .int .u64 t139, .string t140] (0, 0) _ rfl (by (with_reducible repeat (first | refine blk_drewN ?_ _ | refine blk_drew ?_ | refine blk_alloc ?_ _)); refine blk_put (cs := #[.int .u8 t138, .int .u64 t139, .string (⟨#[]⟩ : ByteArray)]) ?_ 2 _ rfl; (with_reducible repeat (first | refine blk_drewN ?_ _ | refine blk_drew ?_ | refine blk_alloc ?_ _)); refine blk_put (cs := #[.int .u8 t138, .int .u64 0, .string (⟨#[]⟩ : ByteArray)]) ?_ 1 _ rfl; (with_reducible repeat (first | refine blk_drewN ?_ _ | refine blk_drew ?_ | refine blk_alloc ?_ _)); refine blk_put (cs := #[.int .u8 0, .int .u64 0, .string (⟨#[]⟩ : ByteArray)]) ?_ 0 _ rfl; (with_reducible repeat (first | refine blk_drewN ?_ _ | refine blk_drew ?_ | refine blk_alloc ?_ _)); exact BK122.out) Try.underlying27 rfl (by kernel_rfl)) rfl ?_
      exact ⟨by first | rfl | (simp [errW_none, errW_some] <;> rfl) | (simp [*, errW_none, errW_some] <;> rfl), bs HB⟩

/-! ### value_order: function 67 -/
def value_order.j0 : Nat → Bool → Option (Int)
 | 0, _ => none
 | k + 1, x5 => if x5 = true then (some (-1)) else (some 1)
def value_order.f (k : Nat) (a0_0 : Int) (a0_1 : Int) (a0_2 : ByteArray) (a1_0 : Int) (a1_1 : Int) (a1_2 : ByteArray) : Option (Int) := if a0_0 = 19 then (if a0_2.toList = a1_2.toList then (some 0) else (value_order.j0 k (Op.bytesLess a0_2.toList a1_2.toList))) else (if a0_1 = a1_1 then (some 0) else ((value_signed.f a0_0).bind fun t143 => (if t143 = true then (value_order.j0 k (decide ((wrap64 (a0_1)) < (wrap64 (a1_1))))) else (if a0_0 = 14 then (value_order.j0 k (decide ((wrap64 (a0_1)) < (wrap64 (a1_1))))) else (value_order.j0 k (decide (a0_1 < a1_1)))))))
theorem value_order.mono_l : ∀ k, (∀ y0, LeO (value_order.j0 k y0) (value_order.j0 (k + 1) y0))
 | 0 => fun _ r h => by simp [value_order.j0] at h
 | k + 1 => by
  have ih0 := value_order.mono_l k
  ·intro y0
   unfold value_order.j0
   repeat' first
   | (with_reducible exact ih0 _)
   | (with_reducible exact LeO.refl _)
   | (with_reducible exact LeO.none _)
   | (with_reducible refine LeO.ite ?_ ?_)
   | (with_reducible refine LeO.bind ?_ (fun _ => ?_))
   | exact ih0 _
   | exact LeO.none _
   | refine LeO.ite ?_ ?_
   | refine LeO.bind ?_ (fun _ => ?_)
theorem value_order.mono : ∀ a0 a1 a2 a3 a4 a5 k, LeO (value_order.f k a0 a1 a2 a3 a4 a5) (value_order.f (k + 1) a0 a1 a2 a3 a4 a5) := by
 intro a0 a1 a2 a3 a4 a5 k
 have ih0 := value_order.mono_l k
 unfold value_order.f
 repeat' first
   | (with_reducible exact ih0 _)
   | (with_reducible exact LeO.refl _)
   | (with_reducible exact LeO.none _)
   | (with_reducible refine LeO.ite ?_ ?_)
   | (with_reducible refine LeO.bind ?_ (fun _ => ?_))
   | exact ih0 _
   | exact LeO.none _
   | refine LeO.ite ?_ ?_
   | refine LeO.bind ?_ (fun _ => ?_)
set_option maxHeartbeats 8000000 in
set_option maxRecDepth 100000 in
theorem value_order.calls (k : Nat) (a0_0 : Int) (a0_1 : Int) (a0_2 : ByteArray) (a1_0 : Int) (a1_1 : Int) (a1_2 : ByteArray) (r : Int) (w : World) (h : value_order.f k a0_0 a0_1 a0_2 a1_0 a1_1 a1_2 = some r) :
  Calls Try.prog 67 #[.agg #[.int .u8 a0_0, .int .u64 a0_1, .string a0_2], .agg #[.int .u8 a1_0, .int .u64 a1_1, .string a1_2]] w fun e w' => e = .returned (.int .i64 r) ∧ Below w.heap.size w w' := by
 have hu27 := Try.underlying27
 have HB := Aside0.mk (Below.refl w.heap.size w)
 have H : (if a0_0 = 19 then (if a0_2.toList = a1_2.toList then (some 0) else (value_order.j0 k (Op.bytesLess a0_2.toList a1_2.toList))) else (if a0_1 = a1_1 then (some 0) else ((value_signed.f a0_0).bind fun t143 => (if t143 = true then (value_order.j0 k (decide ((wrap64 (a0_1)) < (wrap64 (a1_1))))) else (if a0_0 = 14 then (value_order.j0 k (decide ((wrap64 (a0_1)) < (wrap64 (a1_1))))) else (value_order.j0 k (decide (a0_1 < a1_1)))))))) = some r := h
 clear h
 have HC3 := Aside0.mk H
 clear H
 go_enter Try.func67, Try.ntmps67
 go_upto_block 0 with (first | ((with_reducible refine gate_dst (N := 2) rfl ?_); refine box_event ?hg (N := 2) ?hd (cs := #[.int .u8 a0_0, .int .u64 a0_1, .string a0_2]) (t := 27) ?hr ?_; (case hd => rfl); (case hg => rfl); (case hr => first | (go_simp; done) | (go_simp; rfl)); intro gb141 hg w4 hbox hb; have n0_ := bt HB hb; have n1_ := Aside0.mk (hbox); have n2_ := gs hg HB; have n3_ := gs hg HB; clear HB; have HB := n0_; have BK141 := n1_; have GW141 := n2_; have GE141 := n3_; clear n0_ n1_ n2_ n3_; clear hb hbox hg) | ((with_reducible refine gate_dst (N := 3) rfl ?_); refine box_event ?hg (N := 3) ?hd (cs := #[.int .u8 a1_0, .int .u64 a1_1, .string a1_2]) (t := 27) ?hr ?_; (case hd => rfl); (case hg => rfl); (case hr => first | (go_simp; done) | (go_simp; rfl)); intro gb142 hg w5 hbox hb; have n0_ := kb BK141 hb; have n1_ := bt HB hb; have n2_ := Aside0.mk (hbox); have n3_ := gs hg HB; have n4_ := gs hg HB; have n5_ := nl hg BK141; have n6_ := ng hg BK141; clear BK141; clear HB; have BK141 := n0_; have HB := n1_; have BK142 := n2_; have GW142 := n3_; have GE142 := n4_; have NB141_142 := n5_; have NB142_141 := n6_; clear n0_ n1_ n2_ n3_ n4_ n5_ n6_; clear hb hbox hg; have hnb6 := NB141_142.out; have hnc6 := NB142_141.out; have hcz7_0 : w5.cell? ⟨gb141, 0, none⟩ = some (.int .u8 a0_0) := bc BK141 0; have hcz7_1 : w5.cell? ⟨gb141, 1, none⟩ = some (.int .u64 a0_1) := bc BK141 1; have hcz7_2 : w5.cell? ⟨gb141, 2, none⟩ = some (.string a0_2) := bc BK141 2; have hfz7_0 := blk_frozen BK141.out 0; have hfz7_1 := blk_frozen BK141.out 1; have hfz7_2 := blk_frozen BK141.out 2; have hcz8_0 : w5.cell? ⟨gb142, 0, none⟩ = some (.int .u8 a1_0) := bc BK142 0; have hcz8_1 : w5.cell? ⟨gb142, 1, none⟩ = some (.int .u64 a1_1) := bc BK142 1; have hcz8_2 : w5.cell? ⟨gb142, 2, none⟩ = some (.string a1_2) := bc BK142 2; have hfz8_0 := blk_frozen BK142.out 0; have hfz8_1 := blk_frozen BK142.out 1; have hfz8_2 := blk_frozen BK142.out 2))
 (try simp only [Act.put, List.setIfInBounds_toArray, List.set_cons_zero, List.set_cons_succ])
 go_cut [5] (fun v5 wc => ∃ (kq : Nat) (x5_2 : Bool), v5 = .bool x5_2 ∧ Aside0 (value_order.j0 kq x5_2 = some r) ∧ Aside0 (kq ≤ k) ∧ Aside0 (wc.heap[gb141]? = some (.cells #[.int .u8 a0_0, .int .u64 a0_1, .string a0_2] 27 (0, 0))) ∧ Aside0 (wc.heap[gb142]? = some (.cells #[.int .u8 a1_0, .int .u64 a1_1, .string a1_2] 27 (0, 0))) ∧ Aside0 (Below w.heap.size w wc))
 case first =>
  have H := HC3.out
  clear HC3
  by_cases c9 : a0_0 = 19
  ·rw [if_pos c9] at H
   have c9b0 : (a0_0 == 19) = true := beq_iff_eq.mpr c9
   have c9b1 : (a0_0 != 19) = false := bne_eq_false_iff_eq.mpr c9
   clear c9
   (first | rw [c9b0] | (simp only [i64_w, i32_w]; rw [c9b0]) | skip)
   by_cases c10 : a0_2.toList = a1_2.toList
   ·rw [if_pos c10] at H
    have c10b0 : (a0_2.toList == a1_2.toList) = true := beq_iff_eq.mpr c10
    have c10b1 : (a0_2.toList != a1_2.toList) = false := bne_eq_false_iff_eq.mpr c10
    clear c10
    obtain rfl := Option.some.inj H
    have hnb11 := NB141_142.out
    have hnc11 := NB142_141.out
    have hcz12_0 : w5.cell? ⟨gb141, 0, none⟩ = some (.int .u8 a0_0) := bc BK141 0
    have hcz12_1 : w5.cell? ⟨gb141, 1, none⟩ = some (.int .u64 a0_1) := bc BK141 1
    have hcz12_2 : w5.cell? ⟨gb141, 2, none⟩ = some (.string a0_2) := bc BK141 2
    have hfz12_0 := blk_frozen BK141.out 0
    have hfz12_1 := blk_frozen BK141.out 1
    have hfz12_2 := blk_frozen BK141.out 2
    have hcz13_0 : w5.cell? ⟨gb142, 0, none⟩ = some (.int .u8 a1_0) := bc BK142 0
    have hcz13_1 : w5.cell? ⟨gb142, 1, none⟩ = some (.int .u64 a1_1) := bc BK142 1
    have hcz13_2 : w5.cell? ⟨gb142, 2, none⟩ = some (.string a1_2) := bc BK142 2
    have hfz13_0 := blk_frozen BK142.out 0
    have hfz13_1 := blk_frozen BK142.out 1
    have hfz13_2 := blk_frozen BK142.out 2
    go_wp2
    go_ret
    exact ⟨by first | rfl | (simp [errW_none, errW_some] <;> rfl) | (simp [*, errW_none, errW_some] <;> rfl), bs HB⟩
   ·rw [if_neg c10] at H
    have c10b0 : (a0_2.toList == a1_2.toList) = false := beq_eq_false_iff_ne.mpr c10
    have c10b1 : (a0_2.toList != a1_2.toList) = true := bne_iff_ne.mpr c10
    have H' := Aside0.mk H
    clear H
    have hnb14 := NB141_142.out
    have hnc14 := NB142_141.out
    have hcz15_0 : w5.cell? ⟨gb141, 0, none⟩ = some (.int .u8 a0_0) := bc BK141 0
    have hcz15_1 : w5.cell? ⟨gb141, 1, none⟩ = some (.int .u64 a0_1) := bc BK141 1
    have hcz15_2 : w5.cell? ⟨gb141, 2, none⟩ = some (.string a0_2) := bc BK141 2
    have hfz15_0 := blk_frozen BK141.out 0
    have hfz15_1 := blk_frozen BK141.out 1
    have hfz15_2 := blk_frozen BK141.out 2
    have hcz16_0 : w5.cell? ⟨gb142, 0, none⟩ = some (.int .u8 a1_0) := bc BK142 0
    have hcz16_1 : w5.cell? ⟨gb142, 1, none⟩ = some (.int .u64 a1_1) := bc BK142 1
    have hcz16_2 : w5.cell? ⟨gb142, 2, none⟩ = some (.string a1_2) := bc BK142 2
    have hfz16_0 := blk_frozen BK142.out 0
    have hfz16_1 := blk_frozen BK142.out 1
    have hfz16_2 := blk_frozen BK142.out 2
    go_wp2
    go_meet
    case rel => exact ⟨_, ((Op.bytesLess a0_2.toList a1_2.toList)), (by first | rfl | (simp; done) | (simp [*]; done)), H', ⟨by first | omega | exact Nat.le_refl _⟩, ⟨by (with_reducible repeat (first | refine blk_drewN ?_ _ | refine blk_drew ?_ | refine blk_alloc ?_ _)); exact BK141.out⟩, ⟨by (with_reducible repeat (first | refine blk_drewN ?_ _ | refine blk_drew ?_ | refine blk_alloc ?_ _)); exact BK142.out⟩, ⟨bs HB⟩⟩
  ·rw [if_neg c9] at H
   have c9b0 : (a0_0 == 19) = false := beq_eq_false_iff_ne.mpr c9
   have c9b1 : (a0_0 != 19) = true := bne_iff_ne.mpr c9
   (first | rw [c9b0] | (simp only [i64_w, i32_w]; rw [c9b0]) | skip)
   by_cases c17 : a0_1 = a1_1
   ·rw [if_pos c17] at H
    have c17b0 : (a0_1 == a1_1) = true := beq_iff_eq.mpr c17
    have c17b1 : (a0_1 != a1_1) = false := bne_eq_false_iff_eq.mpr c17
    clear c17
    obtain rfl := Option.some.inj H
    have hnb18 := NB141_142.out
    have hnc18 := NB142_141.out
    have hcz19_0 : w5.cell? ⟨gb141, 0, none⟩ = some (.int .u8 a0_0) := bc BK141 0
    have hcz19_1 : w5.cell? ⟨gb141, 1, none⟩ = some (.int .u64 a0_1) := bc BK141 1
    have hcz19_2 : w5.cell? ⟨gb141, 2, none⟩ = some (.string a0_2) := bc BK141 2
    have hfz19_0 := blk_frozen BK141.out 0
    have hfz19_1 := blk_frozen BK141.out 1
    have hfz19_2 := blk_frozen BK141.out 2
    have hcz20_0 : w5.cell? ⟨gb142, 0, none⟩ = some (.int .u8 a1_0) := bc BK142 0
    have hcz20_1 : w5.cell? ⟨gb142, 1, none⟩ = some (.int .u64 a1_1) := bc BK142 1
    have hcz20_2 : w5.cell? ⟨gb142, 2, none⟩ = some (.string a1_2) := bc BK142 2
    have hfz20_0 := blk_frozen BK142.out 0
    have hfz20_1 := blk_frozen BK142.out 1
    have hfz20_2 := blk_frozen BK142.out 2
    go_wp2
    go_ret
    exact ⟨by first | rfl | (simp [errW_none, errW_some] <;> rfl) | (simp [*, errW_none, errW_some] <;> rfl), bs HB⟩
   ·rw [if_neg c17] at H
    have c17b0 : (a0_1 == a1_1) = false := beq_eq_false_iff_ne.mpr c17
    have c17b1 : (a0_1 != a1_1) = true := bne_iff_ne.mpr c17
    replace H := Option.bind_eq_some_iff.mp H
    obtain ⟨t143, A210, H⟩ := H
    replace H : (if t143 = true then (value_order.j0 k (decide ((wrap64 (a0_1)) < (wrap64 (a1_1))))) else (if a0_0 = 14 then (value_order.j0 k (decide ((wrap64 (a0_1)) < (wrap64 (a1_1))))) else (value_order.j0 k (decide (a0_1 < a1_1))))) = some r := H
    have A21 := Aside0.mk A210
    clear A210
    by_cases c22 : t143 = true
    ·subst c22
     have H1 : (value_order.j0 k (decide ((wrap64 (a0_1)) < (wrap64 (a1_1))))) = some r := by rw [if_pos rfl] at H; exact H
     clear H
     have H := H1
     clear H1
     have H' := Aside0.mk H
     clear H
     have hnb23 := NB141_142.out
     have hnc23 := NB142_141.out
     have hcz24_0 : w5.cell? ⟨gb141, 0, none⟩ = some (.int .u8 a0_0) := bc BK141 0
     have hcz24_1 : w5.cell? ⟨gb141, 1, none⟩ = some (.int .u64 a0_1) := bc BK141 1
     have hcz24_2 : w5.cell? ⟨gb141, 2, none⟩ = some (.string a0_2) := bc BK141 2
     have hfz24_0 := blk_frozen BK141.out 0
     have hfz24_1 := blk_frozen BK141.out 1
     have hfz24_2 := blk_frozen BK141.out 2
     have hcz25_0 : w5.cell? ⟨gb142, 0, none⟩ = some (.int .u8 a1_0) := bc BK142 0
     have hcz25_1 : w5.cell? ⟨gb142, 1, none⟩ = some (.int .u64 a1_1) := bc BK142 1
     have hcz25_2 : w5.cell? ⟨gb142, 2, none⟩ = some (.string a1_2) := bc BK142 2
     have hfz25_0 := blk_frozen BK142.out 0
     have hfz25_1 := blk_frozen BK142.out 1
     have hfz25_2 := blk_frozen BK142.out 2
     go_wp2_with (first | ((with_reducible refine gate_callee (f := 40) rfl ?_); refine goesL_ (some 34) rfl rfl Try.func40 (by kernel_rfl) rfl #[.int .u8 a0_0] rfl (by (try simp only [List.map_toArray, List.map_cons, List.map_nil]); first | done | rfl | (simp only [List.length_drop, List.length_take]; rfl)) ?_; (with_reducible refine (value_signed.calls a0_0 true _ A21.out).mono ?_); rintro e w' ⟨rfl, ⟨nd, rfl⟩⟩; refine ⟨_, rfl, ?_⟩))
     go_meet
     case rel => exact ⟨_, (decide ((wrap64 (a0_1)) < (wrap64 (a1_1)))), (by first | rfl | (simp; done) | (simp [*]; done)), H', ⟨by first | omega | exact Nat.le_refl _⟩, ⟨by (with_reducible repeat (first | refine blk_drewN ?_ _ | refine blk_drew ?_ | refine blk_alloc ?_ _)); exact BK141.out⟩, ⟨by (with_reducible repeat (first | refine blk_drewN ?_ _ | refine blk_drew ?_ | refine blk_alloc ?_ _)); exact BK142.out⟩, ⟨bs HB⟩⟩
    ·replace c22 := Bool.eq_false_iff.mpr c22
     subst c22
     have H1 : (if a0_0 = 14 then (value_order.j0 k (decide ((wrap64 (a0_1)) < (wrap64 (a1_1))))) else (value_order.j0 k (decide (a0_1 < a1_1)))) = some r := by rw [if_neg (show ¬ (false = true) by decide)] at H; exact H
     clear H
     have H := H1
     clear H1
     by_cases c26 : a0_0 = 14
     ·rw [if_pos c26] at H
      have c26b0 : (a0_0 == 14) = true := beq_iff_eq.mpr c26
      have c26b1 : (a0_0 != 14) = false := bne_eq_false_iff_eq.mpr c26
      clear c26
      have H' := Aside0.mk H
      clear H
      have hnb27 := NB141_142.out
      have hnc27 := NB142_141.out
      have hcz28_0 : w5.cell? ⟨gb141, 0, none⟩ = some (.int .u8 a0_0) := bc BK141 0
      have hcz28_1 : w5.cell? ⟨gb141, 1, none⟩ = some (.int .u64 a0_1) := bc BK141 1
      have hcz28_2 : w5.cell? ⟨gb141, 2, none⟩ = some (.string a0_2) := bc BK141 2
      have hfz28_0 := blk_frozen BK141.out 0
      have hfz28_1 := blk_frozen BK141.out 1
      have hfz28_2 := blk_frozen BK141.out 2
      have hcz29_0 : w5.cell? ⟨gb142, 0, none⟩ = some (.int .u8 a1_0) := bc BK142 0
      have hcz29_1 : w5.cell? ⟨gb142, 1, none⟩ = some (.int .u64 a1_1) := bc BK142 1
      have hcz29_2 : w5.cell? ⟨gb142, 2, none⟩ = some (.string a1_2) := bc BK142 2
      have hfz29_0 := blk_frozen BK142.out 0
      have hfz29_1 := blk_frozen BK142.out 1
      have hfz29_2 := blk_frozen BK142.out 2
      go_wp2_with (first | ((with_reducible refine gate_callee (f := 40) rfl ?_); refine goesL_ (some 34) rfl rfl Try.func40 (by kernel_rfl) rfl #[.int .u8 a0_0] rfl (by (try simp only [List.map_toArray, List.map_cons, List.map_nil]); first | done | rfl | (simp only [List.length_drop, List.length_take]; rfl)) ?_; (with_reducible refine (value_signed.calls a0_0 false _ A21.out).mono ?_); rintro e w' ⟨rfl, ⟨nd, rfl⟩⟩; refine ⟨_, rfl, ?_⟩))
      go_meet
      case rel => exact ⟨_, (decide ((wrap64 (a0_1)) < (wrap64 (a1_1)))), (by first | rfl | (simp; done) | (simp [*]; done)), H', ⟨by first | omega | exact Nat.le_refl _⟩, ⟨by (with_reducible repeat (first | refine blk_drewN ?_ _ | refine blk_drew ?_ | refine blk_alloc ?_ _)); exact BK141.out⟩, ⟨by (with_reducible repeat (first | refine blk_drewN ?_ _ | refine blk_drew ?_ | refine blk_alloc ?_ _)); exact BK142.out⟩, ⟨bs HB⟩⟩
     ·rw [if_neg c26] at H
      have c26b0 : (a0_0 == 14) = false := beq_eq_false_iff_ne.mpr c26
      have c26b1 : (a0_0 != 14) = true := bne_iff_ne.mpr c26
      have H' := Aside0.mk H
      clear H
      have hnb30 := NB141_142.out
      have hnc30 := NB142_141.out
      have hcz31_0 : w5.cell? ⟨gb141, 0, none⟩ = some (.int .u8 a0_0) := bc BK141 0
      have hcz31_1 : w5.cell? ⟨gb141, 1, none⟩ = some (.int .u64 a0_1) := bc BK141 1
      have hcz31_2 : w5.cell? ⟨gb141, 2, none⟩ = some (.string a0_2) := bc BK141 2
      have hfz31_0 := blk_frozen BK141.out 0
      have hfz31_1 := blk_frozen BK141.out 1
      have hfz31_2 := blk_frozen BK141.out 2
      have hcz32_0 : w5.cell? ⟨gb142, 0, none⟩ = some (.int .u8 a1_0) := bc BK142 0
      have hcz32_1 : w5.cell? ⟨gb142, 1, none⟩ = some (.int .u64 a1_1) := bc BK142 1
      have hcz32_2 : w5.cell? ⟨gb142, 2, none⟩ = some (.string a1_2) := bc BK142 2
      have hfz32_0 := blk_frozen BK142.out 0
      have hfz32_1 := blk_frozen BK142.out 1
      have hfz32_2 := blk_frozen BK142.out 2
      go_wp2_with (first | ((with_reducible refine gate_callee (f := 40) rfl ?_); refine goesL_ (some 34) rfl rfl Try.func40 (by kernel_rfl) rfl #[.int .u8 a0_0] rfl (by (try simp only [List.map_toArray, List.map_cons, List.map_nil]); first | done | rfl | (simp only [List.length_drop, List.length_take]; rfl)) ?_; (with_reducible refine (value_signed.calls a0_0 false _ A21.out).mono ?_); rintro e w' ⟨rfl, ⟨nd, rfl⟩⟩; refine ⟨_, rfl, ?_⟩))
      go_meet
      case rel => exact ⟨_, (decide (a0_1 < a1_1)), (by first | rfl | (simp; done) | (simp [*]; done)), H', ⟨by first | omega | exact Nat.le_refl _⟩, ⟨by (with_reducible repeat (first | refine blk_drewN ?_ _ | refine blk_drew ?_ | refine blk_alloc ?_ _)); exact BK141.out⟩, ⟨by (with_reducible repeat (first | refine blk_drewN ?_ _ | refine blk_drew ?_ | refine blk_alloc ?_ _)); exact BK142.out⟩, ⟨bs HB⟩⟩
 case rest =>
  clear HC3
  (try clear c1);(try clear c2);(try clear p2);(try clear c3);(try clear c4);(try clear c6);(try clear p6);(try clear c9);(try clear c9b0);(try clear c9b1);(try clear c10);(try clear c10b0);(try clear c10b1);(try clear c11);(try clear c14);(try clear c17);(try clear c17b0);(try clear c17b1);(try clear c18);(try clear c22);(try clear c23);(try clear c26);(try clear c26b0);(try clear c26b1);(try clear c27);(try clear c30);(try clear hcz12_0);(try clear hcz12_1);(try clear hcz12_2);(try clear hcz13_0);(try clear hcz13_1);(try clear hcz13_2);(try clear hcz15_0);(try clear hcz15_1);(try clear hcz15_2);(try clear hcz16_0);(try clear hcz16_1);(try clear hcz16_2);(try clear hcz19_0);(try clear hcz19_1);(try clear hcz19_2);(try clear hcz20_0);(try clear hcz20_1);(try clear hcz20_2);(try clear hcz24_0);(try clear hcz24_1);(try clear hcz24_2);(try clear hcz25_0);(try clear hcz25_1);(try clear hcz25_2);(try clear hcz28_0);(try clear hcz28_1);(try clear hcz28_2);(try clear hcz29_0);(try clear hcz29_1);(try clear hcz29_2);(try clear hcz31_0);(try clear hcz31_1);(try clear hcz31_2);(try clear hcz32_0);(try clear hcz32_1);(try clear hcz32_2);(try clear hcz7_0);(try clear hcz7_1);(try clear hcz7_2);(try clear hcz8_0);(try clear hcz8_1);(try clear hcz8_2);(try clear hfz12_0);(try clear hfz12_1);(try clear hfz12_2);(try clear hfz13_0);(try clear hfz13_1);(try clear hfz13_2);(try clear hfz15_0);(try clear hfz15_1);(try clear hfz15_2);(try clear hfz16_0);(try clear hfz16_1);(try clear hfz16_2);(try clear hfz19_0);(try clear hfz19_1);(try clear hfz19_2);(try clear hfz20_0);(try clear hfz20_1);(try clear hfz20_2);(try clear hfz24_0);(try clear hfz24_1);(try clear hfz24_2);(try clear hfz25_0);(try clear hfz25_1);(try clear hfz25_2);(try clear hfz28_0);(try clear hfz28_1);(try clear hfz28_2);(try clear hfz29_0);(try clear hfz29_1);(try clear hfz29_2);(try clear hfz31_0);(try clear hfz31_1);(try clear hfz31_2);(try clear hfz32_0);(try clear hfz32_1);(try clear hfz32_2);(try clear hfz7_0);(try clear hfz7_1);(try clear hfz7_2);(try clear hfz8_0);(try clear hfz8_1);(try clear hfz8_2)
  obtain ⟨kq, x5_2, rfl, HA, HJ2, BK141, BK142, HB⟩ := hcut
  cases kq with
  | zero => exact absurd HA.out (by simp [value_order.j0])
  | succ kj2 =>
   have H := HA.out
   clear HA
   simp only [value_order.j0] at H
   by_cases c33 : x5_2 = true
   ·subst c33
    have H1 : (some (-1)) = some r := by rw [if_pos rfl] at H; exact H
    clear H
    have H := H1
    clear H1
    obtain rfl := Option.some.inj H
    go_wp2
    go_ret
    exact ⟨by first | rfl | (simp [errW_none, errW_some] <;> rfl) | (simp [*, errW_none, errW_some] <;> rfl), bs HB⟩
   ·replace c33 := Bool.eq_false_iff.mpr c33
    subst c33
    have H1 : (some 1) = some r := by rw [if_neg (show ¬ (false = true) by decide)] at H; exact H
    clear H
    have H := H1
    clear H1
    obtain rfl := Option.some.inj H
    go_wp2
    go_ret
    exact ⟨by first | rfl | (simp [errW_none, errW_some] <;> rfl) | (simp [*, errW_none, errW_some] <;> rfl), bs HB⟩

end Go.Proofs.Ytlmmkaddlflepaa.POrd
