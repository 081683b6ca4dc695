-- by mkprint.py, a program of this session's own
import Derived.Test.YtlmmkaddlflepaaPReck0
import Derived.Test.YtlmmkaddlflepaaPReck2
import Derived.Test.YtlmmkaddlflepaaPReck9
import Derived.Test.YtlmmkaddlflepaaPReck10
import Derived.Test.YtlmmkaddlflepaaPReck11
import Derived.Test.YtlmmkaddlflepaaPReck12
import Derived.Test.YtlmmkaddlflepaaPReck13
import Derived.Test.YtlmmkaddlflepaaPReck14
import Derived.Test.YtlmmkaddlflepaaPReck15
namespace Go.Proofs.Ytlmmkaddlflepaa.PReck
open Go.RowKit Go.Proofs.YtlmmkaddlflepaaW.PrintWords Go.Proofs.YtlmmkaddlflepaaW.PrintLast Go.Proofs.YtlmmkaddlflepaaW.PrintMore
attribute [local go_sem] max2_int min2_int max_two min_two max_three min_three max_four min_four   -- for this text's walks alone
set_option linter.unusedVariables false
set_option linter.unusedSimpArgs false

attribute [local go_sem] cell_isSome un_neg_float str_gtr str_leq str_geq ext34 ext52
/-! ### relayref01_Reckon: function 31 -/
def relayref01_Reckon.j0 : Nat → Int → Int → Bool → Int → Int → ByteArray → Int → Int → ByteArray → Option (Int × Int × ByteArray × Int)
 | 0, _, _, _, _, _, _, _, _, _ => none
 | k + 1, x0, x8, x30, x297000, x297001, x297002, x298000, x298001, x298002 => if x30 = true then (some (0, 0, (⟨#[]⟩ : ByteArray), 8)) else (if x0 ≥ 9 then ((relayref01_compare.f x0 x297000 x297001 x297002 x298000 x298001 x298002).bind fun bt302 => (some (bt302.1, bt302.2.1, bt302.2.2, 0))) else (if x0 = 6 then (some (x8, Go.bits .and .u64 x297001 x298001, (⟨#[]⟩ : ByteArray), 0)) else (if x0 = 7 then (some (x8, Go.bits .or .u64 x297001 x298001, (⟨#[]⟩ : ByteArray), 0)) else (if x0 = 8 then (some (x8, Go.bits .xor .u64 x297001 x298001, (⟨#[]⟩ : ByteArray), 0)) else (if x8 = 18 then ((relayref01_real.f x0 ((x297001).toNat) ((x298001).toNat)).bind fun bt305 => (some (bt305.1, bt305.2.1, bt305.2.2, 0))) else ((relayref01_Unsigned.f x8).bind fun t308 => (if t308 = true then ((relayref01_unsigned.f k x0 x297001 x298001).bind fun bt309 => (if bt309.2 = 0 then ((relayref01_made.f k x8 bt309.1 1).bind fun bt311 => (some (bt311.1, bt311.2.1, bt311.2.2.1, bt311.2.2.2))) else (some (0, 0, (⟨#[]⟩ : ByteArray), bt309.2)))) else ((relayref01_signed.f k x0 (wrap64 (x297001)) (wrap64 (x298001))).bind fun bt315 => (if bt315.2 = 0 then ((relayref01_made.f k x8 (IntKind.u64.wrap (bt315.1)) 1).bind fun bt317 => (some (bt317.1, bt317.2.1, bt317.2.2.1, bt317.2.2.2))) else (some (0, 0, (⟨#[]⟩ : ByteArray), bt315.2)))))))))))
def relayref01_Reckon.f (k : Nat) (a0 : Int) (a1_0 : Int) (a1_1 : Int) (a1_2 : ByteArray) (a2_0 : Int) (a2_1 : Int) (a2_2 : ByteArray) : Option (Int × Int × ByteArray × Int) := (relayref01_Result.f k a0 a1_0 a2_0).bind fun t299 => ((relayref01_May.f k a1_0 a1_1 a1_2).bind fun t300 => (if t300 = true then ((relayref01_May.f k a2_0 a2_1 a2_2).bind fun t301 => (if t301 = true then (relayref01_Reckon.j0 k a0 t299 (t299 == 0) a1_0 a1_1 a1_2 a2_0 a2_1 a2_2) else (relayref01_Reckon.j0 k a0 t299 true a1_0 a1_1 a1_2 a2_0 a2_1 a2_2))) else (relayref01_Reckon.j0 k a0 t299 true a1_0 a1_1 a1_2 a2_0 a2_1 a2_2)))
theorem relayref01_Reckon.mono_l : ∀ k, (∀ y0 y1 y2 y3 y4 y5 y6 y7 y8, LeO (relayref01_Reckon.j0 k y0 y1 y2 y3 y4 y5 y6 y7 y8) (relayref01_Reckon.j0 (k + 1) y0 y1 y2 y3 y4 y5 y6 y7 y8))
 | 0 => fun _ _ _ _ _ _ _ _ _ r h => by simp [relayref01_Reckon.j0] at h
 | k + 1 => by
  have ih0 := relayref01_Reckon.mono_l k
  ·intro y0 y1 y2 y3 y4 y5 y6 y7 y8
   unfold relayref01_Reckon.j0
   repeat' first
   | (with_reducible exact ih0 _ _ _ _ _ _ _ _ _)
   | (with_reducible exact relayref01_May.mono _ _ _ _)
   | (with_reducible exact relayref01_Result.mono _ _ _ _)
   | (with_reducible exact relayref01_made.mono _ _ _ _)
   | (with_reducible exact relayref01_signed.mono _ _ _ _)
   | (with_reducible exact relayref01_unsigned.mono _ _ _ _)
   | (with_reducible exact LeO.refl _)
   | (with_reducible exact LeO.none _)
   | (with_reducible refine LeO.ite ?_ ?_)
   | (with_reducible refine LeO.bind ?_ (fun _ => ?_))
   | exact ih0 _ _ _ _ _ _ _ _ _
   | exact relayref01_May.mono _ _ _ _
   | exact relayref01_Result.mono _ _ _ _
   | exact relayref01_made.mono _ _ _ _
   | exact relayref01_signed.mono _ _ _ _
   | exact relayref01_unsigned.mono _ _ _ _
   | exact LeO.none _
   | refine LeO.ite ?_ ?_
   | refine LeO.bind ?_ (fun _ => ?_)
theorem relayref01_Reckon.mono : ∀ a0 a1 a2 a3 a4 a5 a6 k, LeO (relayref01_Reckon.f k a0 a1 a2 a3 a4 a5 a6) (relayref01_Reckon.f (k + 1) a0 a1 a2 a3 a4 a5 a6) := by
 intro a0 a1 a2 a3 a4 a5 a6 k
 have ih0 := relayref01_Reckon.mono_l k
 unfold relayref01_Reckon.f
 repeat' first
   | (with_reducible exact ih0 _ _ _ _ _ _ _ _ _)
   | (with_reducible exact relayref01_May.mono _ _ _ _)
   | (with_reducible exact relayref01_Result.mono _ _ _ _)
   | (with_reducible exact relayref01_made.mono _ _ _ _)
   | (with_reducible exact relayref01_signed.mono _ _ _ _)
   | (with_reducible exact relayref01_unsigned.mono _ _ _ _)
   | (with_reducible exact LeO.refl _)
   | (with_reducible exact LeO.none _)
   | (with_reducible refine LeO.ite ?_ ?_)
   | (with_reducible refine LeO.bind ?_ (fun _ => ?_))
   | exact ih0 _ _ _ _ _ _ _ _ _
   | exact relayref01_May.mono _ _ _ _
   | exact relayref01_Result.mono _ _ _ _
   | exact relayref01_made.mono _ _ _ _
   | exact relayref01_signed.mono _ _ _ _
   | exact relayref01_unsigned.mono _ _ _ _
   | exact LeO.none _
   | refine LeO.ite ?_ ?_
   | refine LeO.bind ?_ (fun _ => ?_)
def relayref01_Reckon.T13 : Bool × List (List Nat × List Nat) := (true, [([], []), ([], []), ([1], [1]), ([2], [2]), ([], []), ([4], [4]), ([5, 3], [5]), ([0, 3, 6, 6], [0, 3, 6]), ([7, 7, 0, 1, 2, 3, 4, 5, 6, 7], [7]), ([8, 0, 1, 2, 3, 4, 5, 6, 7, 8], [])])
def relayref01_Reckon.B13 : List Nat := [0, 0, 2, 6, 0, 16, 62, 127, 255, 511]
theorem relayref01_Reckon.tab13 : rtab .any (opsOf Try.f31 13) = relayref01_Reckon.T13 := by kernel_rfl
theorem relayref01_Reckon.bits13 : waitsOk relayref01_Reckon.T13.2 relayref01_Reckon.B13 = true := by kernel_rfl
set_option maxHeartbeats 8000000 in
set_option maxRecDepth 100000 in
theorem relayref01_Reckon.calls (k : Nat) (a0 : Int) (a1_0 : Int) (a1_1 : Int) (a1_2 : ByteArray) (a2_0 : Int) (a2_1 : Int) (a2_2 : ByteArray) (r1 : Int) (r2 : Int) (r3 : ByteArray) (r4 : Int) (w : World) (h : relayref01_Reckon.f k a0 a1_0 a1_1 a1_2 a2_0 a2_1 a2_2 = some (r1, r2, r3, r4)) :
  Calls Try.prog 31 #[.int .i64 a0, .agg #[.int .u8 a1_0, .int .u64 a1_1, .string a1_2], .agg #[.int .u8 a2_0, .int .u64 a2_1, .string a2_2]] w fun e w' => e = .returned (.tuple #[.agg #[.int .u8 r1, .int .u64 r2, .string r3], .int .i64 r4]) ∧ Below w.heap.size w w' := by
 have hu27 := Try.underlying27
 have HB := Aside0.mk (Below.refl w.heap.size w)
 have H : ((relayref01_Result.f k a0 a1_0 a2_0).bind fun t299 => ((relayref01_May.f k a1_0 a1_1 a1_2).bind fun t300 => (if t300 = true then ((relayref01_May.f k a2_0 a2_1 a2_2).bind fun t301 => (if t301 = true then (relayref01_Reckon.j0 k a0 t299 (t299 == 0) a1_0 a1_1 a1_2 a2_0 a2_1 a2_2) else (relayref01_Reckon.j0 k a0 t299 true a1_0 a1_1 a1_2 a2_0 a2_1 a2_2))) else (relayref01_Reckon.j0 k a0 t299 true a1_0 a1_1 a1_2 a2_0 a2_1 a2_2)))) = some (r1, r2, r3, r4) := h
 clear h
 replace H := Option.bind_eq_some_iff.mp H
 obtain ⟨t299, A40, H⟩ := H
 replace H : ((relayref01_May.f k a1_0 a1_1 a1_2).bind fun t300 => (if t300 = true then ((relayref01_May.f k a2_0 a2_1 a2_2).bind fun t301 => (if t301 = true then (relayref01_Reckon.j0 k a0 t299 (t299 == 0) a1_0 a1_1 a1_2 a2_0 a2_1 a2_2) else (relayref01_Reckon.j0 k a0 t299 true a1_0 a1_1 a1_2 a2_0 a2_1 a2_2))) else (relayref01_Reckon.j0 k a0 t299 true a1_0 a1_1 a1_2 a2_0 a2_1 a2_2))) = some (r1, r2, r3, r4) := H
 have A4 := Aside0.mk A40
 clear A40
 have HC5 := Aside0.mk H
 clear H
 go_enter Try.func31, Try.ntmps31
 go_upto_region 2 with (first | ((with_reducible refine gate_dst (N := 4) rfl ?_); refine box_event ?hg (N := 4) ?hd (cs := #[.int .u8 a1_0, .int .u64 a1_1, .string a1_2]) (t := 27) ?hr ?_; (case hd => rfl); (case hg => rfl); (case hr => first | (go_simp; done) | (go_simp; rfl)); intro gb296 hg w6 hbox hb; have n0_ := bt HB hb; have n1_ := Aside0.mk (hbox); have n2_ := gs hg HB; have n3_ := gs hg HB; clear HB; have HB := n0_; have BK296 := n1_; have GW296 := n2_; have GE296 := n3_; clear n0_ n1_ n2_ n3_; clear hb hbox hg) | ((with_reducible refine gate_dst (N := 5) rfl ?_); refine box_event ?hg (N := 5) ?hd (cs := #[.int .u8 a2_0, .int .u64 a2_1, .string a2_2]) (t := 27) ?hr ?_; (case hd => rfl); (case hg => rfl); (case hr => first | (go_simp; done) | (go_simp; rfl)); intro gb297 hg w7 hbox hb; have n0_ := kb BK296 hb; have n1_ := bt HB hb; have n2_ := Aside0.mk (hbox); have n3_ := gs hg HB; have n4_ := gs hg HB; have n5_ := nl hg BK296; have n6_ := ng hg BK296; clear BK296; clear HB; have BK296 := n0_; have HB := n1_; have BK297 := n2_; have GW297 := n3_; have GE297 := n4_; have NB296_297 := n5_; have NB297_296 := n6_; clear n0_ n1_ n2_ n3_ n4_ n5_ n6_; clear hb hbox hg) | ((with_reducible refine gate_dst (N := 6) rfl ?_); refine box_event ?hg (N := 6) ?hd (cs := #[.int .u8 0, .int .u64 0, .string (⟨#[]⟩ : ByteArray)]) (t := 27) ?hr ?_; (case hd => rfl); (case hg => rfl); (case hr => first | (go_simp; done) | (go_simp; rfl)); intro gb298 hg w8 hbox hb; have n0_ := kb BK296 hb; have n1_ := kb BK297 hb; have n2_ := bt HB hb; have n3_ := Aside0.mk (hbox); have n4_ := gs hg HB; have n5_ := gs hg HB; have n6_ := nl hg BK296; have n7_ := ng hg BK296; have n8_ := nl hg BK297; have n9_ := ng hg BK297; clear BK296; clear BK297; clear HB; have BK296 := n0_; have BK297 := n1_; have HB := n2_; have BK298 := n3_; have GW298 := n4_; have GE298 := n5_; have NB296_298 := n6_; have NB298_296 := n7_; have NB297_298 := n8_; have NB298_297 := n9_; clear n0_ n1_ n2_ n3_ n4_ n5_ n6_ n7_ n8_ n9_; clear hb hbox hg; have hnb9 := NB296_297.out; have hnc9 := NB297_296.out; have hnb10 := NB296_298.out; have hnc10 := NB298_296.out; have hcz11_0 : w8.cell? ⟨gb296, 0, none⟩ = some (.int .u8 a1_0) := bc BK296 0; have hcz11_1 : w8.cell? ⟨gb296, 1, none⟩ = some (.int .u64 a1_1) := bc BK296 1; have hcz11_2 : w8.cell? ⟨gb296, 2, none⟩ = some (.string a1_2) := bc BK296 2; have hfz11_0 := blk_frozen BK296.out 0; have hfz11_1 := blk_frozen BK296.out 1; have hfz11_2 := blk_frozen BK296.out 2; have hnb12 := NB297_298.out; have hnc12 := NB298_297.out; have hcz13_0 : w8.cell? ⟨gb297, 0, none⟩ = some (.int .u8 a2_0) := bc BK297 0; have hcz13_1 : w8.cell? ⟨gb297, 1, none⟩ = some (.int .u64 a2_1) := bc BK297 1; have hcz13_2 : w8.cell? ⟨gb297, 2, none⟩ = some (.string a2_2) := bc BK297 2; have hfz13_0 := blk_frozen BK297.out 0; have hfz13_1 := blk_frozen BK297.out 1; have hfz13_2 := blk_frozen BK297.out 2) | ((with_reducible refine gate_callee (f := 60) rfl ?_); refine goesL_ (some 18) rfl rfl Try.func60 (by kernel_rfl) rfl #[.int .i64 a0, .int .u8 a1_0, .int .u8 a2_0] rfl (by (try simp only [List.map_toArray, List.map_cons, List.map_nil]); first | done | rfl | (simp only [List.length_drop, List.length_take]; rfl)) ?_; (with_reducible refine (relayref01_Result.calls k a0 a1_0 a2_0 t299 _ A4.out).mono ?_); rintro e w' ⟨rfl, ⟨nd, rfl⟩⟩; refine ⟨_, rfl, ?_⟩))
 (try simp only [Act.put, List.setIfInBounds_toArray, List.set_cons_zero, List.set_cons_succ])
 go_cut [30] (fun v30 wc => ∃ (kq : Nat) (x30_4 : Bool), v30 = .bool x30_4 ∧ Aside0 (relayref01_Reckon.j0 kq a0 t299 x30_4 a1_0 a1_1 a1_2 a2_0 a2_1 a2_2 = some (r1, r2, r3, r4)) ∧ Aside0 (kq ≤ k) ∧ Aside0 (wc.heap[gb296]? = some (.cells #[.int .u8 a1_0, .int .u64 a1_1, .string a1_2] 27 (0, 0))) ∧ Aside0 (wc.heap[gb297]? = some (.cells #[.int .u8 a2_0, .int .u64 a2_1, .string a2_2] 27 (0, 0))) ∧ Aside0 (wc.heap[gb298]? = some (.cells #[.int .u8 0, .int .u64 0, .string (⟨#[]⟩ : ByteArray)] 27 (0, 0))) ∧ Aside0 (Below w.heap.size w wc))
 case first =>
  have H := HC5.out
  clear HC5
  replace H := Option.bind_eq_some_iff.mp H
  obtain ⟨t300, A140, H⟩ := H
  replace H : (if t300 = true then ((relayref01_May.f k a2_0 a2_1 a2_2).bind fun t301 => (if t301 = true then (relayref01_Reckon.j0 k a0 t299 (t299 == 0) a1_0 a1_1 a1_2 a2_0 a2_1 a2_2) else (relayref01_Reckon.j0 k a0 t299 true a1_0 a1_1 a1_2 a2_0 a2_1 a2_2))) else (relayref01_Reckon.j0 k a0 t299 true a1_0 a1_1 a1_2 a2_0 a2_1 a2_2)) = some (r1, r2, r3, r4) := H
  have A14 := Aside0.mk A140
  clear A140
  by_cases c15 : t300 = true
  ·subst c15
   have H1 : ((relayref01_May.f k a2_0 a2_1 a2_2).bind fun t301 => (if t301 = true then (relayref01_Reckon.j0 k a0 t299 (t299 == 0) a1_0 a1_1 a1_2 a2_0 a2_1 a2_2) else (relayref01_Reckon.j0 k a0 t299 true a1_0 a1_1 a1_2 a2_0 a2_1 a2_2))) = some (r1, r2, r3, r4) := by rw [if_pos rfl] at H; exact H
   clear H
   have H := H1
   clear H1
   replace H := Option.bind_eq_some_iff.mp H
   obtain ⟨t301, A160, H⟩ := H
   replace H : (if t301 = true then (relayref01_Reckon.j0 k a0 t299 (t299 == 0) a1_0 a1_1 a1_2 a2_0 a2_1 a2_2) else (relayref01_Reckon.j0 k a0 t299 true a1_0 a1_1 a1_2 a2_0 a2_1 a2_2)) = some (r1, r2, r3, r4) := H
   have A16 := Aside0.mk A160
   clear A160
   by_cases c17 : t301 = true
   ·subst c17
    have H1 : (relayref01_Reckon.j0 k a0 t299 (t299 == 0) a1_0 a1_1 a1_2 a2_0 a2_1 a2_2) = some (r1, r2, r3, r4) := by rw [if_pos rfl] at H; exact H
    clear H
    have H := H1
    clear H1
    have H' := Aside0.mk H
    clear H
    have hnb18 := NB296_297.out
    have hnc18 := NB297_296.out
    have hnb19 := NB296_298.out
    have hnc19 := NB298_296.out
    have hcz20_0 : w8.cell? ⟨gb296, 0, none⟩ = some (.int .u8 a1_0) := bc BK296 0
    have hcz20_1 : w8.cell? ⟨gb296, 1, none⟩ = some (.int .u64 a1_1) := bc BK296 1
    have hcz20_2 : w8.cell? ⟨gb296, 2, none⟩ = some (.string a1_2) := bc BK296 2
    have hfz20_0 := blk_frozen BK296.out 0
    have hfz20_1 := blk_frozen BK296.out 1
    have hfz20_2 := blk_frozen BK296.out 2
    go_wp2_with (first | ((with_reducible refine gate_callee (f := 10) rfl ?_); refine goesL_ (some 20) rfl rfl Try.func10 (by kernel_rfl) rfl #[.agg #[.int .u8 a1_0, .int .u64 a1_1, .string a1_2]] rfl (by (try simp only [List.map_toArray, List.map_cons, List.map_nil]); first | done | rfl | (simp only [List.length_drop, List.length_take]; rfl)) ?_; (with_reducible refine (relayref01_May.calls k a1_0 a1_1 a1_2 true _ A14.out).mono ?_); rintro e w21 ⟨rfl, hb⟩; refine ⟨_, rfl, ?_⟩; have n0_ := kb BK296 hb; have n1_ := kb BK297 hb; have n2_ := kb BK298 hb; have n3_ := bt HB hb; clear BK296; clear BK297; clear BK298; clear HB; have BK296 := n0_; have BK297 := n1_; have BK298 := n2_; have HB := n3_; clear n0_ n1_ n2_ n3_; (try clear hb); (try clear hb2); (try clear hk); (try clear hi); have hnb22 := NB297_298.out; have hnc22 := NB298_297.out; have hcz23_0 : w21.cell? ⟨gb297, 0, none⟩ = some (.int .u8 a2_0) := bc BK297 0; have hcz23_1 : w21.cell? ⟨gb297, 1, none⟩ = some (.int .u64 a2_1) := bc BK297 1; have hcz23_2 : w21.cell? ⟨gb297, 2, none⟩ = some (.string a2_2) := bc BK297 2; have hfz23_0 := blk_frozen BK297.out 0; have hfz23_1 := blk_frozen BK297.out 1; have hfz23_2 := blk_frozen BK297.out 2) | (go_at_call 10; (with_reducible refine (relayref01_May.calls k a2_0 a2_1 a2_2 true _ A16.out).mono ?_); rintro e w24 ⟨rfl, hb⟩; have n0_ := kb BK296 hb; have n1_ := kb BK297 hb; have n2_ := kb BK298 hb; have n3_ := bt HB hb; clear BK296; clear BK297; clear BK298; clear HB; have BK296 := n0_; have BK297 := n1_; have BK298 := n2_; have HB := n3_; clear n0_ n1_ n2_ n3_; (try clear hb); (try clear hb2); (try clear hk); (try clear hi)))
    go_meet
    case rel => exact ⟨_, ((t299 == 0)), (by first | rfl | (simp; done) | (simp [*]; done)), H', ⟨by first | omega | exact Nat.le_refl _⟩, ⟨by (with_reducible repeat (first | refine blk_drewN ?_ _ | refine blk_drew ?_ | refine blk_alloc ?_ _)); exact BK296.out⟩, ⟨by (with_reducible repeat (first | refine blk_drewN ?_ _ | refine blk_drew ?_ | refine blk_alloc ?_ _)); exact BK297.out⟩, ⟨by (with_reducible repeat (first | refine blk_drewN ?_ _ | refine blk_drew ?_ | refine blk_alloc ?_ _)); exact BK298.out⟩, ⟨bs HB⟩⟩
   ·replace c17 := Bool.eq_false_iff.mpr c17
    subst c17
    have H1 : (relayref01_Reckon.j0 k a0 t299 true a1_0 a1_1 a1_2 a2_0 a2_1 a2_2) = some (r1, r2, r3, r4) := by rw [if_neg (show ¬ (false = true) by decide)] at H; exact H
    clear H
    have H := H1
    clear H1
    have H' := Aside0.mk H
    clear H
    have hnb25 := NB296_297.out
    have hnc25 := NB297_296.out
    have hnb26 := NB296_298.out
    have hnc26 := NB298_296.out
    have hcz27_0 : w8.cell? ⟨gb296, 0, none⟩ = some (.int .u8 a1_0) := bc BK296 0
    have hcz27_1 : w8.cell? ⟨gb296, 1, none⟩ = some (.int .u64 a1_1) := bc BK296 1
    have hcz27_2 : w8.cell? ⟨gb296, 2, none⟩ = some (.string a1_2) := bc BK296 2
    have hfz27_0 := blk_frozen BK296.out 0
    have hfz27_1 := blk_frozen BK296.out 1
    have hfz27_2 := blk_frozen BK296.out 2
    go_wp2_with (first | ((with_reducible refine gate_callee (f := 10) rfl ?_); refine goesL_ (some 20) rfl rfl Try.func10 (by kernel_rfl) rfl #[.agg #[.int .u8 a1_0, .int .u64 a1_1, .string a1_2]] rfl (by (try simp only [List.map_toArray, List.map_cons, List.map_nil]); first | done | rfl | (simp only [List.length_drop, List.length_take]; rfl)) ?_; (with_reducible refine (relayref01_May.calls k a1_0 a1_1 a1_2 true _ A14.out).mono ?_); rintro e w28 ⟨rfl, hb⟩; refine ⟨_, rfl, ?_⟩; have n0_ := kb BK296 hb; have n1_ := kb BK297 hb; have n2_ := kb BK298 hb; have n3_ := bt HB hb; clear BK296; clear BK297; clear BK298; clear HB; have BK296 := n0_; have BK297 := n1_; have BK298 := n2_; have HB := n3_; clear n0_ n1_ n2_ n3_; (try clear hb); (try clear hb2); (try clear hk); (try clear hi); have hnb29 := NB297_298.out; have hnc29 := NB298_297.out; have hcz30_0 : w28.cell? ⟨gb297, 0, none⟩ = some (.int .u8 a2_0) := bc BK297 0; have hcz30_1 : w28.cell? ⟨gb297, 1, none⟩ = some (.int .u64 a2_1) := bc BK297 1; have hcz30_2 : w28.cell? ⟨gb297, 2, none⟩ = some (.string a2_2) := bc BK297 2; have hfz30_0 := blk_frozen BK297.out 0; have hfz30_1 := blk_frozen BK297.out 1; have hfz30_2 := blk_frozen BK297.out 2) | (go_at_call 10; (with_reducible refine (relayref01_May.calls k a2_0 a2_1 a2_2 false _ A16.out).mono ?_); rintro e w31 ⟨rfl, hb⟩; have n0_ := kb BK296 hb; have n1_ := kb BK297 hb; have n2_ := kb BK298 hb; have n3_ := bt HB hb; clear BK296; clear BK297; clear BK298; clear HB; have BK296 := n0_; have BK297 := n1_; have BK298 := n2_; have HB := n3_; clear n0_ n1_ n2_ n3_; (try clear hb); (try clear hb2); (try clear hk); (try clear hi)))
    go_meet
    case rel => exact ⟨_, (true), (by first | rfl | (simp; done) | (simp [*]; done)), H', ⟨by first | omega | exact Nat.le_refl _⟩, ⟨by (with_reducible repeat (first | refine blk_drewN ?_ _ | refine blk_drew ?_ | refine blk_alloc ?_ _)); exact BK296.out⟩, ⟨by (with_reducible repeat (first | refine blk_drewN ?_ _ | refine blk_drew ?_ | refine blk_alloc ?_ _)); exact BK297.out⟩, ⟨by (with_reducible repeat (first | refine blk_drewN ?_ _ | refine blk_drew ?_ | refine blk_alloc ?_ _)); exact BK298.out⟩, ⟨bs HB⟩⟩
  ·replace c15 := Bool.eq_false_iff.mpr c15
   subst c15
   have H1 : (relayref01_Reckon.j0 k a0 t299 true a1_0 a1_1 a1_2 a2_0 a2_1 a2_2) = some (r1, r2, r3, r4) := by rw [if_neg (show ¬ (false = true) by decide)] at H; exact H
   clear H
   have H := H1
   clear H1
   have H' := Aside0.mk H
   clear H
   have hnb32 := NB296_297.out
   have hnc32 := NB297_296.out
   have hnb33 := NB296_298.out
   have hnc33 := NB298_296.out
   have hcz34_0 : w8.cell? ⟨gb296, 0, none⟩ = some (.int .u8 a1_0) := bc BK296 0
   have hcz34_1 : w8.cell? ⟨gb296, 1, none⟩ = some (.int .u64 a1_1) := bc BK296 1
   have hcz34_2 : w8.cell? ⟨gb296, 2, none⟩ = some (.string a1_2) := bc BK296 2
   have hfz34_0 := blk_frozen BK296.out 0
   have hfz34_1 := blk_frozen BK296.out 1
   have hfz34_2 := blk_frozen BK296.out 2
   go_wp2_with (first | ((with_reducible refine gate_callee (f := 10) rfl ?_); refine goesL_ (some 20) rfl rfl Try.func10 (by kernel_rfl) rfl #[.agg #[.int .u8 a1_0, .int .u64 a1_1, .string a1_2]] rfl (by (try simp only [List.map_toArray, List.map_cons, List.map_nil]); first | done | rfl | (simp only [List.length_drop, List.length_take]; rfl)) ?_; (with_reducible refine (relayref01_May.calls k a1_0 a1_1 a1_2 false _ A14.out).mono ?_); rintro e w35 ⟨rfl, hb⟩; refine ⟨_, rfl, ?_⟩; have n0_ := kb BK296 hb; have n1_ := kb BK297 hb; have n2_ := kb BK298 hb; have n3_ := bt HB hb; clear BK296; clear BK297; clear BK298; clear HB; have BK296 := n0_; have BK297 := n1_; have BK298 := n2_; have HB := n3_; clear n0_ n1_ n2_ n3_; (try clear hb); (try clear hb2); (try clear hk); (try clear hi)))
   go_meet
   case rel => exact ⟨_, (true), (by first | rfl | (simp; done) | (simp [*]; done)), H', ⟨by first | omega | exact Nat.le_refl _⟩, ⟨by (with_reducible repeat (first | refine blk_drewN ?_ _ | refine blk_drew ?_ | refine blk_alloc ?_ _)); exact BK296.out⟩, ⟨by (with_reducible repeat (first | refine blk_drewN ?_ _ | refine blk_drew ?_ | refine blk_alloc ?_ _)); exact BK297.out⟩, ⟨by (with_reducible repeat (first | refine blk_drewN ?_ _ | refine blk_drew ?_ | refine blk_alloc ?_ _)); exact BK298.out⟩, ⟨bs HB⟩⟩
 case rest =>
  clear HC5
  (try clear c1);(try clear c2);(try clear p2);(try clear c3);(try clear c6);(try clear c9);(try clear c10);(try clear c12);(try clear c15);(try clear c17);(try clear c18);(try clear c19);(try clear c22);(try clear c25);(try clear c26);(try clear c29);(try clear c31);(try clear c32);(try clear c33);(try clear hcz11_0);(try clear hcz11_1);(try clear hcz11_2);(try clear hcz13_0);(try clear hcz13_1);(try clear hcz13_2);(try clear hcz20_0);(try clear hcz20_1);(try clear hcz20_2);(try clear hcz23_0);(try clear hcz23_1);(try clear hcz23_2);(try clear hcz27_0);(try clear hcz27_1);(try clear hcz27_2);(try clear hcz30_0);(try clear hcz30_1);(try clear hcz30_2);(try clear hcz34_0);(try clear hcz34_1);(try clear hcz34_2);(try clear hfz11_0);(try clear hfz11_1);(try clear hfz11_2);(try clear hfz13_0);(try clear hfz13_1);(try clear hfz13_2);(try clear hfz20_0);(try clear hfz20_1);(try clear hfz20_2);(try clear hfz23_0);(try clear hfz23_1);(try clear hfz23_2);(try clear hfz27_0);(try clear hfz27_1);(try clear hfz27_2);(try clear hfz30_0);(try clear hfz30_1);(try clear hfz30_2);(try clear hfz34_0);(try clear hfz34_1);(try clear hfz34_2)
  obtain ⟨kq, x30_4, rfl, HA, HJ4, BK296, BK297, BK298, HB⟩ := hcut
  cases kq with
  | zero => exact absurd HA.out (by simp [relayref01_Reckon.j0])
  | succ kj4 =>
   have H := HA.out
   clear HA
   simp only [relayref01_Reckon.j0] at H
   by_cases c36 : x30_4 = true
   ·subst c36
    have H1 : (some (0, 0, (⟨#[]⟩ : ByteArray), 8)) = some (r1, r2, r3, r4) := by rw [if_pos rfl] at H; exact H
    clear H
    have H := H1
    clear H1
    simp only [Option.some.injEq, Prod.mk.injEq] at H
    obtain ⟨rfl, rfl, rfl, rfl⟩ := H
    have hnb37 := NB298_296.out
    have hnc37 := NB296_298.out
    have hnb38 := NB298_297.out
    have hnc38 := NB297_298.out
    have hcz39_0 : wc.cell? ⟨gb298, 0, none⟩ = some (.int .u8 0) := bc BK298 0
    have hcz39_1 : wc.cell? ⟨gb298, 1, none⟩ = some (.int .u64 0) := bc BK298 1
    have hcz39_2 : wc.cell? ⟨gb298, 2, none⟩ = some (.string (⟨#[]⟩ : ByteArray)) := bc BK298 2
    have hfz39_0 := blk_frozen BK298.out 0
    have hfz39_1 := blk_frozen BK298.out 1
    have hfz39_2 := blk_frozen BK298.out 2
    go_wp2
    refine bodyPost_ret (results_ct rfl _ _ gb298 27 #[.int .u8 0, .int .u64 0, .string (⟨#[]⟩ : ByteArray)] (0, 0) _ rfl (by (with_reducible repeat (first | refine blk_drewN ?_ _ | refine blk_drew ?_ | refine blk_alloc ?_ _)); refine blk_put (cs := #[.int .u8 0, .int .u64 0, .string (⟨#[]⟩ : ByteArray)]) ?_ 2 _ rfl; (with_reducible repeat (first | refine blk_drewN ?_ _ | refine blk_drew ?_ | refine blk_alloc ?_ _)); refine blk_put (cs := #[.int .u8 0, .int .u64 0, .string (⟨#[]⟩ : ByteArray)]) ?_ 1 _ rfl; (with_reducible repeat (first | refine blk_drewN ?_ _ | refine blk_drew ?_ | refine blk_alloc ?_ _)); refine blk_put (cs := #[.int .u8 0, .int .u64 0, .string (⟨#[]⟩ : ByteArray)]) ?_ 0 _ rfl; (with_reducible repeat (first | refine blk_drewN ?_ _ | refine blk_drew ?_ | refine blk_alloc ?_ _)); exact BK298.out) Try.underlying27 rfl (by kernel_rfl)) rfl ?_
    exact ⟨by first | rfl | (simp [errW_none, errW_some] <;> rfl) | (simp [*, errW_none, errW_some] <;> rfl), bs HB⟩
   ·replace c36 := Bool.eq_false_iff.mpr c36
    subst c36
    have H1 : (if a0 ≥ 9 then ((relayref01_compare.f a0 a1_0 a1_1 a1_2 a2_0 a2_1 a2_2).bind fun bt302 => (some (bt302.1, bt302.2.1, bt302.2.2, 0))) else (if a0 = 6 then (some (t299, Go.bits .and .u64 a1_1 a2_1, (⟨#[]⟩ : ByteArray), 0)) else (if a0 = 7 then (some (t299, Go.bits .or .u64 a1_1 a2_1, (⟨#[]⟩ : ByteArray), 0)) else (if a0 = 8 then (some (t299, Go.bits .xor .u64 a1_1 a2_1, (⟨#[]⟩ : ByteArray), 0)) else (if t299 = 18 then ((relayref01_real.f a0 ((a1_1).toNat) ((a2_1).toNat)).bind fun bt305 => (some (bt305.1, bt305.2.1, bt305.2.2, 0))) else ((relayref01_Unsigned.f t299).bind fun t308 => (if t308 = true then ((relayref01_unsigned.f kj4 a0 a1_1 a2_1).bind fun bt309 => (if bt309.2 = 0 then ((relayref01_made.f kj4 t299 bt309.1 1).bind fun bt311 => (some (bt311.1, bt311.2.1, bt311.2.2.1, bt311.2.2.2))) else (some (0, 0, (⟨#[]⟩ : ByteArray), bt309.2)))) else ((relayref01_signed.f kj4 a0 (wrap64 (a1_1)) (wrap64 (a2_1))).bind fun bt315 => (if bt315.2 = 0 then ((relayref01_made.f kj4 t299 (IntKind.u64.wrap (bt315.1)) 1).bind fun bt317 => (some (bt317.1, bt317.2.1, bt317.2.2.1, bt317.2.2.2))) else (some (0, 0, (⟨#[]⟩ : ByteArray), bt315.2))))))))))) = some (r1, r2, r3, r4) := by rw [if_neg (show ¬ (false = true) by decide)] at H; exact H
    clear H
    have H := H1
    clear H1
    by_cases c40 : a0 ≥ 9
    ·rw [if_pos c40] at H
     have c40b0 : decide (9 ≤ a0) = true := decide_eq_true c40
     clear c40
     replace H := Option.bind_eq_some_iff.mp H
     obtain ⟨⟨t302, t303, t304⟩, A410, H⟩ := H
     replace H : (some (t302, t303, t304, 0)) = some (r1, r2, r3, r4) := H
     have A41 := Aside0.mk A410
     clear A410
     simp only [Option.some.injEq, Prod.mk.injEq] at H
     obtain ⟨rfl, rfl, rfl, rfl⟩ := H
     have hnb42 := NB296_297.out
     have hnc42 := NB297_296.out
     have hnb43 := NB296_298.out
     have hnc43 := NB298_296.out
     have hcz44_0 : wc.cell? ⟨gb296, 0, none⟩ = some (.int .u8 a1_0) := bc BK296 0
     have hcz44_1 : wc.cell? ⟨gb296, 1, none⟩ = some (.int .u64 a1_1) := bc BK296 1
     have hcz44_2 : wc.cell? ⟨gb296, 2, none⟩ = some (.string a1_2) := bc BK296 2
     have hfz44_0 := blk_frozen BK296.out 0
     have hfz44_1 := blk_frozen BK296.out 1
     have hfz44_2 := blk_frozen BK296.out 2
     have hnb45 := NB297_298.out
     have hnc45 := NB298_297.out
     have hcz46_0 : wc.cell? ⟨gb297, 0, none⟩ = some (.int .u8 a2_0) := bc BK297 0
     have hcz46_1 : wc.cell? ⟨gb297, 1, none⟩ = some (.int .u64 a2_1) := bc BK297 1
     have hcz46_2 : wc.cell? ⟨gb297, 2, none⟩ = some (.string a2_2) := bc BK297 2
     have hfz46_0 := blk_frozen BK297.out 0
     have hfz46_1 := blk_frozen BK297.out 1
     have hfz46_2 := blk_frozen BK297.out 2
     go_wp2_with (first | ((with_reducible refine gate_callee (f := 61) rfl ?_); refine goesL_ (some 38) rfl rfl Try.func61 (by kernel_rfl) rfl #[.int .i64 a0, .agg #[.int .u8 a1_0, .int .u64 a1_1, .string a1_2], .agg #[.int .u8 a2_0, .int .u64 a2_1, .string a2_2]] rfl (by (try simp only [List.map_toArray, List.map_cons, List.map_nil]); first | done | rfl | (simp only [List.length_drop, List.length_take]; rfl)) ?_; (with_reducible refine (relayref01_compare.calls a0 a1_0 a1_1 a1_2 a2_0 a2_1 a2_2 t302 t303 t304 _ A41.out).mono ?_); rintro e w47 ⟨rfl, hb⟩; refine ⟨_, rfl, ?_⟩; have n0_ := kb BK296 hb; have n1_ := kb BK297 hb; have n2_ := kb BK298 hb; have n3_ := bt HB hb; clear BK296; clear BK297; clear BK298; clear HB; have BK296 := n0_; have BK297 := n1_; have BK298 := n2_; have HB := n3_; clear n0_ n1_ n2_ n3_; (try clear hb); (try clear hb2); (try clear hk); (try clear hi); have hcz48_0 : w47.cell? ⟨gb298, 0, none⟩ = some (.int .u8 0) := bc BK298 0; have hcz48_1 : w47.cell? ⟨gb298, 1, none⟩ = some (.int .u64 0) := bc BK298 1; have hcz48_2 : w47.cell? ⟨gb298, 2, none⟩ = some (.string (⟨#[]⟩ : ByteArray)) := bc BK298 2; have hfz48_0 := blk_frozen BK298.out 0; have hfz48_1 := blk_frozen BK298.out 1; have hfz48_2 := blk_frozen BK298.out 2))
     refine bodyPost_ret (results_ct rfl _ _ gb298 27 #[.int .u8 t302, .int .u64 t303, .string t304] (0, 0) _ rfl (by (with_reducible repeat (first | refine blk_drewN ?_ _ | refine blk_drew ?_ | refine blk_alloc ?_ _)); refine blk_put (cs := #[.int .u8 t302, .int .u64 t303, .string (⟨#[]⟩ : ByteArray)]) ?_ 2 _ rfl; (with_reducible repeat (first | refine blk_drewN ?_ _ | refine blk_drew ?_ | refine blk_alloc ?_ _)); refine blk_put (cs := #[.int .u8 t302, .int .u64 0, .string (⟨#[]⟩ : ByteArray)]) ?_ 1 _ rfl; (with_reducible repeat (first | refine blk_drewN ?_ _ | refine blk_drew ?_ | refine blk_alloc ?_ _)); refine blk_put (cs := #[.int .u8 0, .int .u64 0, .string (⟨#[]⟩ : ByteArray)]) ?_ 0 _ rfl; (with_reducible repeat (first | refine blk_drewN ?_ _ | refine blk_drew ?_ | refine blk_alloc ?_ _)); exact BK298.out) Try.underlying27 rfl (by kernel_rfl)) rfl ?_
     exact ⟨by first | rfl | (simp [errW_none, errW_some] <;> rfl) | (simp [*, errW_none, errW_some] <;> rfl), bs HB⟩
    ·rw [if_neg c40] at H
     have c40b0 : decide (9 ≤ a0) = false := decide_eq_false c40
     clear c40
     by_cases c49 : a0 = 6
     ·rw [if_pos c49] at H
      have c49b0 : (a0 == 6) = true := beq_iff_eq.mpr c49
      have c49b1 : (a0 != 6) = false := bne_eq_false_iff_eq.mpr c49
      clear c49
      simp only [Option.some.injEq, Prod.mk.injEq] at H
      obtain ⟨rfl, rfl, rfl, rfl⟩ := H
      have hnb50 := NB296_297.out
      have hnc50 := NB297_296.out
      have hnb51 := NB296_298.out
      have hnc51 := NB298_296.out
      have hcz52_0 : wc.cell? ⟨gb296, 0, none⟩ = some (.int .u8 a1_0) := bc BK296 0
      have hcz52_1 : wc.cell? ⟨gb296, 1, none⟩ = some (.int .u64 a1_1) := bc BK296 1
      have hcz52_2 : wc.cell? ⟨gb296, 2, none⟩ = some (.string a1_2) := bc BK296 2
      have hfz52_0 := blk_frozen BK296.out 0
      have hfz52_1 := blk_frozen BK296.out 1
      have hfz52_2 := blk_frozen BK296.out 2
      have hnb53 := NB297_298.out
      have hnc53 := NB298_297.out
      have hcz54_0 : wc.cell? ⟨gb297, 0, none⟩ = some (.int .u8 a2_0) := bc BK297 0
      have hcz54_1 : wc.cell? ⟨gb297, 1, none⟩ = some (.int .u64 a2_1) := bc BK297 1
      have hcz54_2 : wc.cell? ⟨gb297, 2, none⟩ = some (.string a2_2) := bc BK297 2
      have hfz54_0 := blk_frozen BK297.out 0
      have hfz54_1 := blk_frozen BK297.out 1
      have hfz54_2 := blk_frozen BK297.out 2
      have hcz55_0 : wc.cell? ⟨gb298, 0, none⟩ = some (.int .u8 0) := bc BK298 0
      have hcz55_1 : wc.cell? ⟨gb298, 1, none⟩ = some (.int .u64 0) := bc BK298 1
      have hcz55_2 : wc.cell? ⟨gb298, 2, none⟩ = some (.string (⟨#[]⟩ : ByteArray)) := bc BK298 2
      have hfz55_0 := blk_frozen BK298.out 0
      have hfz55_1 := blk_frozen BK298.out 1
      have hfz55_2 := blk_frozen BK298.out 2
      go_wp2
      refine bodyPost_ret (results_ct rfl _ _ gb298 27 #[.int .u8 t299, .int .u64 (Go.bits .and .u64 a1_1 a2_1), .string (⟨#[]⟩ : ByteArray)] (0, 0) _ rfl (by (with_reducible repeat (first | refine blk_drewN ?_ _ | refine blk_drew ?_ | refine blk_alloc ?_ _)); refine blk_put (cs := #[.int .u8 t299, .int .u64 (Go.bits .and .u64 a1_1 a2_1), .string (⟨#[]⟩ : ByteArray)]) ?_ 2 _ rfl; (with_reducible repeat (first | refine blk_drewN ?_ _ | refine blk_drew ?_ | refine blk_alloc ?_ _)); refine blk_put (cs := #[.int .u8 t299, .int .u64 0, .string (⟨#[]⟩ : ByteArray)]) ?_ 1 _ rfl; (with_reducible repeat (first | refine blk_drewN ?_ _ | refine blk_drew ?_ | refine blk_alloc ?_ _)); refine blk_put (cs := #[.int .u8 0, .int .u64 0, .string (⟨#[]⟩ : ByteArray)]) ?_ 0 _ rfl; (with_reducible repeat (first | refine blk_drewN ?_ _ | refine blk_drew ?_ | refine blk_alloc ?_ _)); exact BK298.out) Try.underlying27 rfl (by kernel_rfl)) rfl ?_
      exact ⟨by first | rfl | (simp [errW_none, errW_some] <;> rfl) | (simp [*, errW_none, errW_some] <;> rfl), bs HB⟩
     ·rw [if_neg c49] at H
      have c49b0 : (a0 == 6) = false := beq_eq_false_iff_ne.mpr c49
      have c49b1 : (a0 != 6) = true := bne_iff_ne.mpr c49
      by_cases c56 : a0 = 7
      ·rw [if_pos c56] at H
       have c56b0 : (a0 == 7) = true := beq_iff_eq.mpr c56
       have c56b1 : (a0 != 7) = false := bne_eq_false_iff_eq.mpr c56
       clear c56
       simp only [Option.some.injEq, Prod.mk.injEq] at H
       obtain ⟨rfl, rfl, rfl, rfl⟩ := H
       have hnb57 := NB296_297.out
       have hnc57 := NB297_296.out
       have hnb58 := NB296_298.out
       have hnc58 := NB298_296.out
       have hcz59_0 : wc.cell? ⟨gb296, 0, none⟩ = some (.int .u8 a1_0) := bc BK296 0
       have hcz59_1 : wc.cell? ⟨gb296, 1, none⟩ = some (.int .u64 a1_1) := bc BK296 1
       have hcz59_2 : wc.cell? ⟨gb296, 2, none⟩ = some (.string a1_2) := bc BK296 2
       have hfz59_0 := blk_frozen BK296.out 0
       have hfz59_1 := blk_frozen BK296.out 1
       have hfz59_2 := blk_frozen BK296.out 2
       have hnb60 := NB297_298.out
       have hnc60 := NB298_297.out
       have hcz61_0 : wc.cell? ⟨gb297, 0, none⟩ = some (.int .u8 a2_0) := bc BK297 0
       have hcz61_1 : wc.cell? ⟨gb297, 1, none⟩ = some (.int .u64 a2_1) := bc BK297 1
       have hcz61_2 : wc.cell? ⟨gb297, 2, none⟩ = some (.string a2_2) := bc BK297 2
       have hfz61_0 := blk_frozen BK297.out 0
       have hfz61_1 := blk_frozen BK297.out 1
       have hfz61_2 := blk_frozen BK297.out 2
       have hcz62_0 : wc.cell? ⟨gb298, 0, none⟩ = some (.int .u8 0) := bc BK298 0
       have hcz62_1 : wc.cell? ⟨gb298, 1, none⟩ = some (.int .u64 0) := bc BK298 1
       have hcz62_2 : wc.cell? ⟨gb298, 2, none⟩ = some (.string (⟨#[]⟩ : ByteArray)) := bc BK298 2
       have hfz62_0 := blk_frozen BK298.out 0
       have hfz62_1 := blk_frozen BK298.out 1
       have hfz62_2 := blk_frozen BK298.out 2
       go_wp2
       refine bodyPost_ret (results_ct rfl _ _ gb298 27 #[.int .u8 t299, .int .u64 (Go.bits .or .u64 a1_1 a2_1), .string (⟨#[]⟩ : ByteArray)] (0, 0) _ rfl (by (with_reducible repeat (first | refine blk_drewN ?_ _ | refine blk_drew ?_ | refine blk_alloc ?_ _)); refine blk_put (cs := #[.int .u8 t299, .int .u64 (Go.bits .or .u64 a1_1 a2_1), .string (⟨#[]⟩ : ByteArray)]) ?_ 2 _ rfl; (with_reducible repeat (first | refine blk_drewN ?_ _ | refine blk_drew ?_ | refine blk_alloc ?_ _)); refine blk_put (cs := #[.int .u8 t299, .int .u64 0, .string (⟨#[]⟩ : ByteArray)]) ?_ 1 _ rfl; (with_reducible repeat (first | refine blk_drewN ?_ _ | refine blk_drew ?_ | refine blk_alloc ?_ _)); refine blk_put (cs := #[.int .u8 0, .int .u64 0, .string (⟨#[]⟩ : ByteArray)]) ?_ 0 _ rfl; (with_reducible repeat (first | refine blk_drewN ?_ _ | refine blk_drew ?_ | refine blk_alloc ?_ _)); exact BK298.out) Try.underlying27 rfl (by kernel_rfl)) rfl ?_
       exact ⟨by first | rfl | (simp [errW_none, errW_some] <;> rfl) | (simp [*, errW_none, errW_some] <;> rfl), bs HB⟩
      ·rw [if_neg c56] at H
       have c56b0 : (a0 == 7) = false := beq_eq_false_iff_ne.mpr c56
       have c56b1 : (a0 != 7) = true := bne_iff_ne.mpr c56
       by_cases c63 : a0 = 8
       ·rw [if_pos c63] at H
        have c63b0 : (a0 == 8) = true := beq_iff_eq.mpr c63
        have c63b1 : (a0 != 8) = false := bne_eq_false_iff_eq.mpr c63
        clear c63
        simp only [Option.some.injEq, Prod.mk.injEq] at H
        obtain ⟨rfl, rfl, rfl, rfl⟩ := H
        have hnb64 := NB296_297.out
        have hnc64 := NB297_296.out
        have hnb65 := NB296_298.out
        have hnc65 := NB298_296.out
        have hcz66_0 : wc.cell? ⟨gb296, 0, none⟩ = some (.int .u8 a1_0) := bc BK296 0
        have hcz66_1 : wc.cell? ⟨gb296, 1, none⟩ = some (.int .u64 a1_1) := bc BK296 1
        have hcz66_2 : wc.cell? ⟨gb296, 2, none⟩ = some (.string a1_2) := bc BK296 2
        have hfz66_0 := blk_frozen BK296.out 0
        have hfz66_1 := blk_frozen BK296.out 1
        have hfz66_2 := blk_frozen BK296.out 2
        have hnb67 := NB297_298.out
        have hnc67 := NB298_297.out
        have hcz68_0 : wc.cell? ⟨gb297, 0, none⟩ = some (.int .u8 a2_0) := bc BK297 0
        have hcz68_1 : wc.cell? ⟨gb297, 1, none⟩ = some (.int .u64 a2_1) := bc BK297 1
        have hcz68_2 : wc.cell? ⟨gb297, 2, none⟩ = some (.string a2_2) := bc BK297 2
        have hfz68_0 := blk_frozen BK297.out 0
        have hfz68_1 := blk_frozen BK297.out 1
        have hfz68_2 := blk_frozen BK297.out 2
        have hcz69_0 : wc.cell? ⟨gb298, 0, none⟩ = some (.int .u8 0) := bc BK298 0
        have hcz69_1 : wc.cell? ⟨gb298, 1, none⟩ = some (.int .u64 0) := bc BK298 1
        have hcz69_2 : wc.cell? ⟨gb298, 2, none⟩ = some (.string (⟨#[]⟩ : ByteArray)) := bc BK298 2
        have hfz69_0 := blk_frozen BK298.out 0
        have hfz69_1 := blk_frozen BK298.out 1
        have hfz69_2 := blk_frozen BK298.out 2
        go_wp2
        refine bodyPost_ret (results_ct rfl _ _ gb298 27 #[.int .u8 t299, .int .u64 (Go.bits .xor .u64 a1_1 a2_1), .string (⟨#[]⟩ : ByteArray)] (0, 0) _ rfl (by (with_reducible repeat (first | refine blk_drewN ?_ _ | refine blk_drew ?_ | refine blk_alloc ?_ _)); refine blk_put (cs := #[.int .u8 t299, .int .u64 (Go.bits .xor .u64 a1_1 a2_1), .string (⟨#[]⟩ : ByteArray)]) ?_ 2 _ rfl; (with_reducible repeat (first | refine blk_drewN ?_ _ | refine blk_drew ?_ | refine blk_alloc ?_ _)); refine blk_put (cs := #[.int .u8 t299, .int .u64 0, .string (⟨#[]⟩ : ByteArray)]) ?_ 1 _ rfl; (with_reducible repeat (first | refine blk_drewN ?_ _ | refine blk_drew ?_ | refine blk_alloc ?_ _)); refine blk_put (cs := #[.int .u8 0, .int .u64 0, .string (⟨#[]⟩ : ByteArray)]) ?_ 0 _ rfl; (with_reducible repeat (first | refine blk_drewN ?_ _ | refine blk_drew ?_ | refine blk_alloc ?_ _)); exact BK298.out) Try.underlying27 rfl (by kernel_rfl)) rfl ?_
        exact ⟨by first | rfl | (simp [errW_none, errW_some] <;> rfl) | (simp [*, errW_none, errW_some] <;> rfl), bs HB⟩
       ·rw [if_neg c63] at H
        have c63b0 : (a0 == 8) = false := beq_eq_false_iff_ne.mpr c63
        have c63b1 : (a0 != 8) = true := bne_iff_ne.mpr c63
        by_cases c70 : t299 = 18
        ·rw [if_pos c70] at H
         have c70b0 : (t299 == 18) = true := beq_iff_eq.mpr c70
         have c70b1 : (t299 != 18) = false := bne_eq_false_iff_eq.mpr c70
         clear c70
         replace H := Option.bind_eq_some_iff.mp H
         obtain ⟨⟨t305, t306, t307⟩, A710, H⟩ := H
         replace H : (some (t305, t306, t307, 0)) = some (r1, r2, r3, r4) := H
         have A71 := Aside0.mk A710
         clear A710
         simp only [Option.some.injEq, Prod.mk.injEq] at H
         obtain ⟨rfl, rfl, rfl, rfl⟩ := H
         try go_wp2
         have n0_ := Aside0.mk (blk_drew BK296.out)
         have n1_ := Aside0.mk (blk_drew BK297.out)
         have n2_ := Aside0.mk (blk_drew BK298.out)
         have n3_ := Aside0.mk (below_drew1 HB.out)
         clear BK296
         clear BK297
         clear BK298
         clear HB
         have BK296 := n0_
         have BK297 := n1_
         have BK298 := n2_
         have HB := n3_
         clear n0_ n1_ n2_ n3_
         refine start_ (n := 10) (S := fun w' => w'.cell? ⟨gb296, 0, none⟩ = some (.int .u8 a1_0) ∧ w'.cell? ⟨gb296, 1, none⟩ = some (.int .u64 a1_1) ∧ w'.cell? ⟨gb296, 2, none⟩ = some (.string a1_2) ∧ w'.cell? ⟨gb297, 0, none⟩ = some (.int .u8 a2_0) ∧ w'.cell? ⟨gb297, 1, none⟩ = some (.int .u64 a2_1) ∧ w'.cell? ⟨gb297, 2, none⟩ = some (.string a2_2)) (ds := []) #[false, false, false, false, false, false, false, false, false, false] (by kernel_rfl) rfl rfl ⟨bc BK296 0, bc BK296 1, bc BK296 2, bc BK297 0, bc BK297 1, bc BK297 2⟩ (fun hHeld => ?_); refine with_tabW relayref01_Reckon.tab13 relayref01_Reckon.bits13 (fun HT_ HW_ => ?_)
         generalize wc.drew = w72 at BK296 BK297 BK298 HB hHeld ⊢
         refine pure_ (i := 0) (N := some 72) (v := ?_) (a' := ?_) #[true, false, false, false, false, false, false, false, false, false] rfl rfl (any_of HT_.out (by kernel_rfl)) (fun _ _ _ h => h) (Or.inl ⟨by rfl, ?_⟩) ?_ ?_
         rotate_left
         ·intro w'
          go_simp
          with_reducible rfl
         rotate_left
         ·simp only [Act.put, List.setIfInBounds_toArray, List.set_cons_zero, List.set_cons_succ, i64_w, i32_w]
          rfl
         refine pure_ (i := 1) (N := some 73) (v := ?_) (a' := ?_) #[true, true, false, false, false, false, false, false, false, false] rfl rfl (any_of HT_.out (by kernel_rfl)) (fun _ _ _ h => h) (Or.inl ⟨by rfl, ?_⟩) ?_ ?_
         rotate_left
         ·intro w'
          go_simp
          with_reducible rfl
         rotate_left
         ·simp only [Act.put, List.setIfInBounds_toArray, List.set_cons_zero, List.set_cons_succ, i64_w, i32_w]
          rfl
         refine pure_ (i := 4) (N := some 76) (v := ?_) (a' := ?_) #[true, true, false, false, true, false, false, false, false, false] rfl rfl (any_of HT_.out (by kernel_rfl)) (fun _ _ _ h => h) (Or.inl ⟨by rfl, ?_⟩) ?_ ?_
         rotate_left
         ·intro w'
          go_simp
          with_reducible rfl
         rotate_left
         ·simp only [Act.put, List.setIfInBounds_toArray, List.set_cons_zero, List.set_cons_succ, i64_w, i32_w]
          rfl
         refine take_ (i := 2) (N := some 74) (v := ?_) (a' := ?_) #[true, true, true, false, true, false, false, false, false, false] rfl rfl (take_ofW HT_.out HW_.out (by kernel_rfl)) (fun _ _ _ h => h) (Or.inl ⟨by rfl, ?_⟩) hHeld ?_ ?_
         rotate_left
         ·rintro w' ⟨s0, s1, s2, s3, s4, s5⟩
          go_simp
          with_reducible rfl
         rotate_left
         ·simp only [Act.put, List.setIfInBounds_toArray, List.set_cons_zero, List.set_cons_succ, i64_w, i32_w]
          rfl
         refine pure_ (i := 3) (N := some 75) (v := ?_) (a' := ?_) #[true, true, true, true, true, false, false, false, false, false] rfl rfl (any_of HT_.out (by kernel_rfl)) (fun _ _ _ h => h) (Or.inl ⟨by rfl, ?_⟩) ?_ ?_
         rotate_left
         ·intro w'
          go_simp
          with_reducible rfl
         rotate_left
         ·simp only [Act.put, List.setIfInBounds_toArray, List.set_cons_zero, List.set_cons_succ, i64_w, i32_w]
          rfl
         refine take_ (i := 5) (N := some 77) (v := ?_) (a' := ?_) #[true, true, true, true, true, true, false, false, false, false] rfl rfl (take_ofW HT_.out HW_.out (by kernel_rfl)) (fun _ _ _ h => h) (Or.inl ⟨by rfl, ?_⟩) hHeld ?_ ?_
         rotate_left
         ·rintro w' ⟨s0, s1, s2, s3, s4, s5⟩
          go_simp
          with_reducible rfl
         rotate_left
         ·simp only [Act.put, List.setIfInBounds_toArray, List.set_cons_zero, List.set_cons_succ, i64_w, i32_w]
          rfl
         refine pure_ (i := 6) (N := some 78) (v := ?_) (a' := ?_) #[true, true, true, true, true, true, true, false, false, false] rfl rfl (any_of HT_.out (by kernel_rfl)) (fun _ _ _ h => h) (Or.inl ⟨by rfl, ?_⟩) ?_ ?_
         rotate_left
         ·intro w'
          go_simp
          with_reducible rfl
         rotate_left
         ·simp only [Act.put, List.setIfInBounds_toArray, List.set_cons_zero, List.set_cons_succ, i64_w, i32_w]
          rfl
         refine one_ (i := 7) (N := some 79) #[true, true, true, true, true, true, true, true, false, false] rfl rfl (one_of HT_.out (by kernel_rfl)) (by decide) (fun K hK => ?_)
         refine goes_ Try.func62 (by kernel_rfl) rfl #[.int .i64 a0, .float .f64 ((a1_1).toNat), .float .f64 ((a2_1).toNat)] (by rfl) rfl rfl (by (try simp only [List.map_toArray, List.map_cons, List.map_nil]); first | done | rfl | (simp only [List.length_drop, List.length_take]; rfl)) ?_
         with_reducible refine (relayref01_real.calls a0 ((a1_1).toNat) ((a2_1).toNat) t305 t306 t307 _ A71.out).mono ?_
         rintro e w73 ⟨rfl, hb⟩
         refine ⟨_, rfl, ?_⟩
         have n0_ := kb BK296 hb
         have n1_ := kb BK297 hb
         have n2_ := kb BK298 hb
         have n3_ := bt HB hb
         clear BK296
         clear BK297
         clear BK298
         clear HB
         have BK296 := n0_
         have BK297 := n1_
         have BK298 := n2_
         have HB := n3_
         clear n0_ n1_ n2_ n3_
         (try clear hb)
         (try clear hb2)
         (try clear hk)
         (try clear hi)
         refine hK.out _ _ ⟨bc BK296 0, bc BK296 1, bc BK296 2, bc BK297 0, bc BK297 1, bc BK297 2⟩ (fun hHeld => ?_)
         clear hK K
         refine norm_ (a' := ?_) ?_ ?_
         rotate_left
         ·show Act.put _ (some 79) _ = _
          simp only [Act.put, List.setIfInBounds_toArray, List.set_cons_zero, List.set_cons_succ, i64_w, i32_w]
          rfl
         refine one_ (i := 8) (N := none) #[true, true, true, true, true, true, true, true, true, false] rfl rfl (one_of HT_.out (by kernel_rfl)) (by decide) (fun K hK => ?_)
         have hs74 : w73.cell? ⟨gb298, 0, none⟩ = some (.int .u8 0) := bc BK298 0
         have hfs74 := blk_frozen BK298.out 0
         have hns74_0 := NB296_298.out
         have hns74_1 := NB297_298.out
         have hms74_0 := NB298_296.out
         have hms74_1 := NB298_297.out
         have hs75 : w73.cell? ⟨gb298, 1, none⟩ = some (.int .u64 0) := bc BK298 1
         have hfs75 := blk_frozen BK298.out 1
         have hns75_0 := NB296_298.out
         have hns75_1 := NB297_298.out
         have hms75_0 := NB298_296.out
         have hms75_1 := NB298_297.out
         have hs76 : w73.cell? ⟨gb298, 2, none⟩ = some (.string (⟨#[]⟩ : ByteArray)) := bc BK298 2
         have hfs76 := blk_frozen BK298.out 2
         have hns76_0 := NB296_298.out
         have hns76_1 := NB297_298.out
         have hms76_0 := NB298_296.out
         have hms76_1 := NB298_297.out
         refine skip_ (w1 := ?_) (by rfl) rfl ?_ ?_
         rotate_left
         ·go_simp
          rfl
         refine hK.out _ _ ⟨((cell_far (p := ⟨gb298, _, none⟩) NB296_298.out _).trans (((cell_far (p := ⟨gb298, _, none⟩) NB296_298.out _).trans (((cell_far (p := ⟨gb298, _, none⟩) NB296_298.out _).trans (hHeld.1)))))), ((cell_far (p := ⟨gb298, _, none⟩) NB296_298.out _).trans (((cell_far (p := ⟨gb298, _, none⟩) NB296_298.out _).trans (((cell_far (p := ⟨gb298, _, none⟩) NB296_298.out _).trans (hHeld.2.1)))))), ((cell_far (p := ⟨gb298, _, none⟩) NB296_298.out _).trans (((cell_far (p := ⟨gb298, _, none⟩) NB296_298.out _).trans (((cell_far (p := ⟨gb298, _, none⟩) NB296_298.out _).trans (hHeld.2.2.1)))))), ((cell_far (p := ⟨gb298, _, none⟩) NB297_298.out _).trans (((cell_far (p := ⟨gb298, _, none⟩) NB297_298.out _).trans (((cell_far (p := ⟨gb298, _, none⟩) NB297_298.out _).trans (hHeld.2.2.2.1)))))), ((cell_far (p := ⟨gb298, _, none⟩) NB297_298.out _).trans (((cell_far (p := ⟨gb298, _, none⟩) NB297_298.out _).trans (((cell_far (p := ⟨gb298, _, none⟩) NB297_298.out _).trans (hHeld.2.2.2.2.1)))))), ((cell_far (p := ⟨gb298, _, none⟩) NB297_298.out _).trans (((cell_far (p := ⟨gb298, _, none⟩) NB297_298.out _).trans (((cell_far (p := ⟨gb298, _, none⟩) NB297_298.out _).trans (hHeld.2.2.2.2.2))))))⟩ (fun hHeld => ?_)
         clear hK K
         refine pure_ (i := 9) (N := some 7) (v := ?_) (a' := ?_) #[true, true, true, true, true, true, true, true, true, true] rfl rfl (any_of HT_.out (by kernel_rfl)) (fun _ _ _ h => h) (Or.inl ⟨by rfl, ?_⟩) ?_ ?_
         rotate_left
         ·intro w'
          go_simp
          with_reducible rfl
         rotate_left
         ·simp only [Act.put, List.setIfInBounds_toArray, List.set_cons_zero, List.set_cons_succ, i64_w, i32_w]
          rfl
         refine done_ (done_of HT_.out (by kernel_rfl)) ?_
         try go_wp2
         refine bodyPost_ret (results_ct rfl _ _ gb298 27 #[.int .u8 t305, .int .u64 t306, .string t307] (0, 0) _ rfl (by (with_reducible repeat (first | refine blk_drewN ?_ _ | refine blk_drew ?_ | refine blk_alloc ?_ _)); refine blk_put (cs := #[.int .u8 t305, .int .u64 t306, .string (⟨#[]⟩ : ByteArray)]) ?_ 2 _ rfl; (with_reducible repeat (first | refine blk_drewN ?_ _ | refine blk_drew ?_ | refine blk_alloc ?_ _)); refine blk_put (cs := #[.int .u8 t305, .int .u64 0, .string (⟨#[]⟩ : ByteArray)]) ?_ 1 _ rfl; (with_reducible repeat (first | refine blk_drewN ?_ _ | refine blk_drew ?_ | refine blk_alloc ?_ _)); refine blk_put (cs := #[.int .u8 0, .int .u64 0, .string (⟨#[]⟩ : ByteArray)]) ?_ 0 _ rfl; (with_reducible repeat (first | refine blk_drewN ?_ _ | refine blk_drew ?_ | refine blk_alloc ?_ _)); exact BK298.out) Try.underlying27 rfl (by kernel_rfl)) rfl ?_
         exact ⟨by first | rfl | (simp [errW_none, errW_some] <;> rfl) | (simp [*, errW_none, errW_some] <;> rfl), bs HB⟩
        ·rw [if_neg c70] at H
         have c70b0 : (t299 == 18) = false := beq_eq_false_iff_ne.mpr c70
         have c70b1 : (t299 != 18) = true := bne_iff_ne.mpr c70
         replace H := Option.bind_eq_some_iff.mp H
         obtain ⟨t308, A770, H⟩ := H
         replace H : (if t308 = true then ((relayref01_unsigned.f kj4 a0 a1_1 a2_1).bind fun bt309 => (if bt309.2 = 0 then ((relayref01_made.f kj4 t299 bt309.1 1).bind fun bt311 => (some (bt311.1, bt311.2.1, bt311.2.2.1, bt311.2.2.2))) else (some (0, 0, (⟨#[]⟩ : ByteArray), bt309.2)))) else ((relayref01_signed.f kj4 a0 (wrap64 (a1_1)) (wrap64 (a2_1))).bind fun bt315 => (if bt315.2 = 0 then ((relayref01_made.f kj4 t299 (IntKind.u64.wrap (bt315.1)) 1).bind fun bt317 => (some (bt317.1, bt317.2.1, bt317.2.2.1, bt317.2.2.2))) else (some (0, 0, (⟨#[]⟩ : ByteArray), bt315.2))))) = some (r1, r2, r3, r4) := H
         have A77 := Aside0.mk A770
         clear A770
         by_cases c78 : t308 = true
         ·subst c78
          have H1 : ((relayref01_unsigned.f kj4 a0 a1_1 a2_1).bind fun bt309 => (if bt309.2 = 0 then ((relayref01_made.f kj4 t299 bt309.1 1).bind fun bt311 => (some (bt311.1, bt311.2.1, bt311.2.2.1, bt311.2.2.2))) else (some (0, 0, (⟨#[]⟩ : ByteArray), bt309.2)))) = some (r1, r2, r3, r4) := by rw [if_pos rfl] at H; exact H
          clear H
          have H := H1
          clear H1
          replace H := Option.bind_eq_some_iff.mp H
          obtain ⟨⟨t309, t310⟩, A790, H⟩ := H
          replace H : (if t310 = 0 then ((relayref01_made.f kj4 t299 t309 1).bind fun bt311 => (some (bt311.1, bt311.2.1, bt311.2.2.1, bt311.2.2.2))) else (some (0, 0, (⟨#[]⟩ : ByteArray), t310))) = some (r1, r2, r3, r4) := H
          have A79 := Aside0.mk A790
          clear A790
          by_cases c80 : t310 = 0
          ·rw [if_pos c80] at H
           have c80b0 : (t310 == 0) = true := beq_iff_eq.mpr c80
           have c80b1 : (t310 != 0) = false := bne_eq_false_iff_eq.mpr c80
           clear c80
           replace H := Option.bind_eq_some_iff.mp H
           obtain ⟨⟨t311, t312, t313, t314⟩, A810, H⟩ := H
           replace H : (some (t311, t312, t313, t314)) = some (r1, r2, r3, r4) := H
           have A81 := Aside0.mk A810
           clear A810
           simp only [Option.some.injEq, Prod.mk.injEq] at H
           obtain ⟨rfl, rfl, rfl, rfl⟩ := H
           go_wp2_with (first | ((with_reducible refine gate_callee (f := 54) rfl ?_); refine goesL_ (some 82) rfl rfl Try.func54 (by kernel_rfl) rfl #[.int .u8 t299] rfl (by (try simp only [List.map_toArray, List.map_cons, List.map_nil]); first | done | rfl | (simp only [List.length_drop, List.length_take]; rfl)) ?_; (with_reducible refine (relayref01_Unsigned.calls t299 true _ A77.out).mono ?_); rintro e w' ⟨rfl, ⟨nd, rfl⟩⟩; refine ⟨_, rfl, ?_⟩; (try (rw [drewN_self wc]; generalize hq_ : World.drewN wc _ = wc; have n0_ : Aside0 (wc.heap[gb296]? = some (.cells #[.int .u8 a1_0, .int .u64 a1_1, .string a1_2] 27 (0, 0))) := ⟨by rw [← hq_]; exact (pb BK296)⟩; have n1_ : Aside0 (wc.heap[gb297]? = some (.cells #[.int .u8 a2_0, .int .u64 a2_1, .string a2_2] 27 (0, 0))) := ⟨by rw [← hq_]; exact (pb BK297)⟩; have n2_ : Aside0 (wc.heap[gb298]? = some (.cells #[.int .u8 0, .int .u64 0, .string (⟨#[]⟩ : ByteArray)] 27 (0, 0))) := ⟨by rw [← hq_]; exact (pb BK298)⟩; have n3_ : Aside0 (Below w.heap.size w wc) := ⟨by rw [← hq_]; exact (bs HB)⟩; clear BK296 BK297 BK298 HB hq_; have BK296 := n0_; have BK297 := n1_; have BK298 := n2_; have HB := n3_; clear n0_ n1_ n2_ n3_)); have hnb82 := NB296_297.out; have hnc82 := NB297_296.out; have hnb83 := NB296_298.out; have hnc83 := NB298_296.out; have hcz84_0 : wc.cell? ⟨gb296, 0, none⟩ = some (.int .u8 a1_0) := bc BK296 0; have hcz84_1 : wc.cell? ⟨gb296, 1, none⟩ = some (.int .u64 a1_1) := bc BK296 1; have hcz84_2 : wc.cell? ⟨gb296, 2, none⟩ = some (.string a1_2) := bc BK296 2; have hfz84_0 := blk_frozen BK296.out 0; have hfz84_1 := blk_frozen BK296.out 1; have hfz84_2 := blk_frozen BK296.out 2; have hnb85 := NB297_298.out; have hnc85 := NB298_297.out; have hcz86_0 : wc.cell? ⟨gb297, 0, none⟩ = some (.int .u8 a2_0) := bc BK297 0; have hcz86_1 : wc.cell? ⟨gb297, 1, none⟩ = some (.int .u64 a2_1) := bc BK297 1; have hcz86_2 : wc.cell? ⟨gb297, 2, none⟩ = some (.string a2_2) := bc BK297 2; have hfz86_0 := blk_frozen BK297.out 0; have hfz86_1 := blk_frozen BK297.out 1; have hfz86_2 := blk_frozen BK297.out 2) | ((with_reducible refine gate_callee (f := 63) rfl ?_); refine goesL_ (some 89) rfl rfl Try.func63 (by kernel_rfl) rfl #[.int .i64 a0, .int .u64 a1_1, .int .u64 a2_1] rfl (by (try simp only [List.map_toArray, List.map_cons, List.map_nil]); first | done | rfl | (simp only [List.length_drop, List.length_take]; rfl)) ?_; (with_reducible refine (relayref01_unsigned.calls kj4 a0 a1_1 a2_1 t309 t310 _ A79.out).mono ?_); rintro e w' ⟨rfl, ⟨nd, rfl⟩⟩; refine ⟨_, rfl, ?_⟩; (try (rw [drewN_self wc]; generalize hq_ : World.drewN wc _ = wc; have n0_ : Aside0 (wc.heap[gb296]? = some (.cells #[.int .u8 a1_0, .int .u64 a1_1, .string a1_2] 27 (0, 0))) := ⟨by rw [← hq_]; exact (pb BK296)⟩; have n1_ : Aside0 (wc.heap[gb297]? = some (.cells #[.int .u8 a2_0, .int .u64 a2_1, .string a2_2] 27 (0, 0))) := ⟨by rw [← hq_]; exact (pb BK297)⟩; have n2_ : Aside0 (wc.heap[gb298]? = some (.cells #[.int .u8 0, .int .u64 0, .string (⟨#[]⟩ : ByteArray)] 27 (0, 0))) := ⟨by rw [← hq_]; exact (pb BK298)⟩; have n3_ : Aside0 (Below w.heap.size w wc) := ⟨by rw [← hq_]; exact (bs HB)⟩; clear BK296 BK297 BK298 HB hq_; have BK296 := n0_; have BK297 := n1_; have BK298 := n2_; have HB := n3_; clear n0_ n1_ n2_ n3_; have hcu296_0 : wc.cell? ⟨gb296, 0, none⟩ = some (.int .u8 a1_0) := bc BK296 0; have hfu296_0 := blk_frozen BK296.out 0; have hcu296_1 : wc.cell? ⟨gb296, 1, none⟩ = some (.int .u64 a1_1) := bc BK296 1; have hfu296_1 := blk_frozen BK296.out 1; have hcu296_2 : wc.cell? ⟨gb296, 2, none⟩ = some (.string a1_2) := bc BK296 2; have hfu296_2 := blk_frozen BK296.out 2; have hcu297_0 : wc.cell? ⟨gb297, 0, none⟩ = some (.int .u8 a2_0) := bc BK297 0; have hfu297_0 := blk_frozen BK297.out 0; have hcu297_1 : wc.cell? ⟨gb297, 1, none⟩ = some (.int .u64 a2_1) := bc BK297 1; have hfu297_1 := blk_frozen BK297.out 1; have hcu297_2 : wc.cell? ⟨gb297, 2, none⟩ = some (.string a2_2) := bc BK297 2; have hfu297_2 := blk_frozen BK297.out 2))) | ((with_reducible refine gate_callee (f := 46) rfl ?_); refine goesL_ (some 98) rfl rfl Try.func46 (by kernel_rfl) rfl #[.int .u8 t299, .int .u64 t309, .int .i64 1] rfl (by (try simp only [List.map_toArray, List.map_cons, List.map_nil]); first | done | rfl | (simp only [List.length_drop, List.length_take]; rfl)) ?_; (with_reducible refine (relayref01_made.calls kj4 t299 t309 1 t311 t312 t313 t314 _ A81.out).mono ?_); rintro e w87 ⟨rfl, hb⟩; refine ⟨_, rfl, ?_⟩; have n0_ := kb BK296 hb; have n1_ := kb BK297 hb; have n2_ := kb BK298 hb; have n3_ := bt HB hb; clear BK296; clear BK297; clear BK298; clear HB; have BK296 := n0_; have BK297 := n1_; have BK298 := n2_; have HB := n3_; clear n0_ n1_ n2_ n3_; (try clear hb); (try clear hb2); (try clear hk); (try clear hi); have hcz88_0 : w87.cell? ⟨gb298, 0, none⟩ = some (.int .u8 0) := bc BK298 0; have hcz88_1 : w87.cell? ⟨gb298, 1, none⟩ = some (.int .u64 0) := bc BK298 1; have hcz88_2 : w87.cell? ⟨gb298, 2, none⟩ = some (.string (⟨#[]⟩ : ByteArray)) := bc BK298 2; have hfz88_0 := blk_frozen BK298.out 0; have hfz88_1 := blk_frozen BK298.out 1; have hfz88_2 := blk_frozen BK298.out 2))
           refine bodyPost_ret (results_ct rfl _ _ gb298 27 #[.int .u8 t311, .int .u64 t312, .string t313] (0, 0) _ rfl (by (with_reducible repeat (first | refine blk_drewN ?_ _ | refine blk_drew ?_ | refine blk_alloc ?_ _)); refine blk_put (cs := #[.int .u8 t311, .int .u64 t312, .string (⟨#[]⟩ : ByteArray)]) ?_ 2 _ rfl; (with_reducible repeat (first | refine blk_drewN ?_ _ | refine blk_drew ?_ | refine blk_alloc ?_ _)); refine blk_put (cs := #[.int .u8 t311, .int .u64 0, .string (⟨#[]⟩ : ByteArray)]) ?_ 1 _ rfl; (with_reducible repeat (first | refine blk_drewN ?_ _ | refine blk_drew ?_ | refine blk_alloc ?_ _)); refine blk_put (cs := #[.int .u8 0, .int .u64 0, .string (⟨#[]⟩ : ByteArray)]) ?_ 0 _ rfl; (with_reducible repeat (first | refine blk_drewN ?_ _ | refine blk_drew ?_ | refine blk_alloc ?_ _)); exact BK298.out) Try.underlying27 rfl (by kernel_rfl)) rfl ?_
           exact ⟨by first | rfl | (simp [errW_none, errW_some] <;> rfl) | (simp [*, errW_none, errW_some] <;> rfl), bs HB⟩
          ·rw [if_neg c80] at H
           have c80b0 : (t310 == 0) = false := beq_eq_false_iff_ne.mpr c80
           have c80b1 : (t310 != 0) = true := bne_iff_ne.mpr c80
           simp only [Option.some.injEq, Prod.mk.injEq] at H
           obtain ⟨rfl, rfl, rfl, rfl⟩ := H
           go_wp2_with (first | ((with_reducible refine gate_callee (f := 54) rfl ?_); refine goesL_ (some 82) rfl rfl Try.func54 (by kernel_rfl) rfl #[.int .u8 t299] rfl (by (try simp only [List.map_toArray, List.map_cons, List.map_nil]); first | done | rfl | (simp only [List.length_drop, List.length_take]; rfl)) ?_; (with_reducible refine (relayref01_Unsigned.calls t299 true _ A77.out).mono ?_); rintro e w' ⟨rfl, ⟨nd, rfl⟩⟩; refine ⟨_, rfl, ?_⟩; (try (rw [drewN_self wc]; generalize hq_ : World.drewN wc _ = wc; have n0_ : Aside0 (wc.heap[gb296]? = some (.cells #[.int .u8 a1_0, .int .u64 a1_1, .string a1_2] 27 (0, 0))) := ⟨by rw [← hq_]; exact (pb BK296)⟩; have n1_ : Aside0 (wc.heap[gb297]? = some (.cells #[.int .u8 a2_0, .int .u64 a2_1, .string a2_2] 27 (0, 0))) := ⟨by rw [← hq_]; exact (pb BK297)⟩; have n2_ : Aside0 (wc.heap[gb298]? = some (.cells #[.int .u8 0, .int .u64 0, .string (⟨#[]⟩ : ByteArray)] 27 (0, 0))) := ⟨by rw [← hq_]; exact (pb BK298)⟩; have n3_ : Aside0 (Below w.heap.size w wc) := ⟨by rw [← hq_]; exact (bs HB)⟩; clear BK296 BK297 BK298 HB hq_; have BK296 := n0_; have BK297 := n1_; have BK298 := n2_; have HB := n3_; clear n0_ n1_ n2_ n3_)); have hnb89 := NB296_297.out; have hnc89 := NB297_296.out; have hnb90 := NB296_298.out; have hnc90 := NB298_296.out; have hcz91_0 : wc.cell? ⟨gb296, 0, none⟩ = some (.int .u8 a1_0) := bc BK296 0; have hcz91_1 : wc.cell? ⟨gb296, 1, none⟩ = some (.int .u64 a1_1) := bc BK296 1; have hcz91_2 : wc.cell? ⟨gb296, 2, none⟩ = some (.string a1_2) := bc BK296 2; have hfz91_0 := blk_frozen BK296.out 0; have hfz91_1 := blk_frozen BK296.out 1; have hfz91_2 := blk_frozen BK296.out 2; have hnb92 := NB297_298.out; have hnc92 := NB298_297.out; have hcz93_0 : wc.cell? ⟨gb297, 0, none⟩ = some (.int .u8 a2_0) := bc BK297 0; have hcz93_1 : wc.cell? ⟨gb297, 1, none⟩ = some (.int .u64 a2_1) := bc BK297 1; have hcz93_2 : wc.cell? ⟨gb297, 2, none⟩ = some (.string a2_2) := bc BK297 2; have hfz93_0 := blk_frozen BK297.out 0; have hfz93_1 := blk_frozen BK297.out 1; have hfz93_2 := blk_frozen BK297.out 2) | ((with_reducible refine gate_callee (f := 63) rfl ?_); refine goesL_ (some 89) rfl rfl Try.func63 (by kernel_rfl) rfl #[.int .i64 a0, .int .u64 a1_1, .int .u64 a2_1] rfl (by (try simp only [List.map_toArray, List.map_cons, List.map_nil]); first | done | rfl | (simp only [List.length_drop, List.length_take]; rfl)) ?_; (with_reducible refine (relayref01_unsigned.calls kj4 a0 a1_1 a2_1 t309 t310 _ A79.out).mono ?_); rintro e w' ⟨rfl, ⟨nd, rfl⟩⟩; refine ⟨_, rfl, ?_⟩; (try (rw [drewN_self wc]; generalize hq_ : World.drewN wc _ = wc; have n0_ : Aside0 (wc.heap[gb296]? = some (.cells #[.int .u8 a1_0, .int .u64 a1_1, .string a1_2] 27 (0, 0))) := ⟨by rw [← hq_]; exact (pb BK296)⟩; have n1_ : Aside0 (wc.heap[gb297]? = some (.cells #[.int .u8 a2_0, .int .u64 a2_1, .string a2_2] 27 (0, 0))) := ⟨by rw [← hq_]; exact (pb BK297)⟩; have n2_ : Aside0 (wc.heap[gb298]? = some (.cells #[.int .u8 0, .int .u64 0, .string (⟨#[]⟩ : ByteArray)] 27 (0, 0))) := ⟨by rw [← hq_]; exact (pb BK298)⟩; have n3_ : Aside0 (Below w.heap.size w wc) := ⟨by rw [← hq_]; exact (bs HB)⟩; clear BK296 BK297 BK298 HB hq_; have BK296 := n0_; have BK297 := n1_; have BK298 := n2_; have HB := n3_; clear n0_ n1_ n2_ n3_; have hcu296_0 : wc.cell? ⟨gb296, 0, none⟩ = some (.int .u8 a1_0) := bc BK296 0; have hfu296_0 := blk_frozen BK296.out 0; have hcu296_1 : wc.cell? ⟨gb296, 1, none⟩ = some (.int .u64 a1_1) := bc BK296 1; have hfu296_1 := blk_frozen BK296.out 1; have hcu296_2 : wc.cell? ⟨gb296, 2, none⟩ = some (.string a1_2) := bc BK296 2; have hfu296_2 := blk_frozen BK296.out 2; have hcu297_0 : wc.cell? ⟨gb297, 0, none⟩ = some (.int .u8 a2_0) := bc BK297 0; have hfu297_0 := blk_frozen BK297.out 0; have hcu297_1 : wc.cell? ⟨gb297, 1, none⟩ = some (.int .u64 a2_1) := bc BK297 1; have hfu297_1 := blk_frozen BK297.out 1; have hcu297_2 : wc.cell? ⟨gb297, 2, none⟩ = some (.string a2_2) := bc BK297 2; have hfu297_2 := blk_frozen BK297.out 2)); have hcz94_0 : wc.cell? ⟨gb298, 0, none⟩ = some (.int .u8 0) := bc BK298 0; have hcz94_1 : wc.cell? ⟨gb298, 1, none⟩ = some (.int .u64 0) := bc BK298 1; have hcz94_2 : wc.cell? ⟨gb298, 2, none⟩ = some (.string (⟨#[]⟩ : ByteArray)) := bc BK298 2; have hfz94_0 := blk_frozen BK298.out 0; have hfz94_1 := blk_frozen BK298.out 1; have hfz94_2 := blk_frozen BK298.out 2))
           refine bodyPost_ret (results_ct rfl _ _ gb298 27 #[.int .u8 0, .int .u64 0, .string (⟨#[]⟩ : ByteArray)] (0, 0) _ rfl (by (with_reducible repeat (first | refine blk_drewN ?_ _ | refine blk_drew ?_ | refine blk_alloc ?_ _)); refine blk_put (cs := #[.int .u8 0, .int .u64 0, .string (⟨#[]⟩ : ByteArray)]) ?_ 2 _ rfl; (with_reducible repeat (first | refine blk_drewN ?_ _ | refine blk_drew ?_ | refine blk_alloc ?_ _)); refine blk_put (cs := #[.int .u8 0, .int .u64 0, .string (⟨#[]⟩ : ByteArray)]) ?_ 1 _ rfl; (with_reducible repeat (first | refine blk_drewN ?_ _ | refine blk_drew ?_ | refine blk_alloc ?_ _)); refine blk_put (cs := #[.int .u8 0, .int .u64 0, .string (⟨#[]⟩ : ByteArray)]) ?_ 0 _ rfl; (with_reducible repeat (first | refine blk_drewN ?_ _ | refine blk_drew ?_ | refine blk_alloc ?_ _)); exact BK298.out) Try.underlying27 rfl (by kernel_rfl)) rfl ?_
           exact ⟨by first | rfl | (simp [errW_none, errW_some] <;> rfl) | (simp [*, errW_none, errW_some] <;> rfl), bs HB⟩
         ·replace c78 := Bool.eq_false_iff.mpr c78
          subst c78
          have H1 : ((relayref01_signed.f kj4 a0 (wrap64 (a1_1)) (wrap64 (a2_1))).bind fun bt315 => (if bt315.2 = 0 then ((relayref01_made.f kj4 t299 (IntKind.u64.wrap (bt315.1)) 1).bind fun bt317 => (some (bt317.1, bt317.2.1, bt317.2.2.1, bt317.2.2.2))) else (some (0, 0, (⟨#[]⟩ : ByteArray), bt315.2)))) = some (r1, r2, r3, r4) := by rw [if_neg (show ¬ (false = true) by decide)] at H; exact H
          clear H
          have H := H1
          clear H1
          replace H := Option.bind_eq_some_iff.mp H
          obtain ⟨⟨t315, t316⟩, A950, H⟩ := H
          replace H : (if t316 = 0 then ((relayref01_made.f kj4 t299 (IntKind.u64.wrap (t315)) 1).bind fun bt317 => (some (bt317.1, bt317.2.1, bt317.2.2.1, bt317.2.2.2))) else (some (0, 0, (⟨#[]⟩ : ByteArray), t316))) = some (r1, r2, r3, r4) := H
          have A95 := Aside0.mk A950
          clear A950
          by_cases c96 : t316 = 0
          ·rw [if_pos c96] at H
           have c96b0 : (t316 == 0) = true := beq_iff_eq.mpr c96
           have c96b1 : (t316 != 0) = false := bne_eq_false_iff_eq.mpr c96
           clear c96
           replace H := Option.bind_eq_some_iff.mp H
           obtain ⟨⟨t317, t318, t319, t320⟩, A970, H⟩ := H
           replace H : (some (t317, t318, t319, t320)) = some (r1, r2, r3, r4) := H
           have A97 := Aside0.mk A970
           clear A970
           simp only [Option.some.injEq, Prod.mk.injEq] at H
           obtain ⟨rfl, rfl, rfl, rfl⟩ := H
           go_wp2_with (first | ((with_reducible refine gate_callee (f := 54) rfl ?_); refine goesL_ (some 82) rfl rfl Try.func54 (by kernel_rfl) rfl #[.int .u8 t299] rfl (by (try simp only [List.map_toArray, List.map_cons, List.map_nil]); first | done | rfl | (simp only [List.length_drop, List.length_take]; rfl)) ?_; (with_reducible refine (relayref01_Unsigned.calls t299 false _ A77.out).mono ?_); rintro e w' ⟨rfl, ⟨nd, rfl⟩⟩; refine ⟨_, rfl, ?_⟩; (try (rw [drewN_self wc]; generalize hq_ : World.drewN wc _ = wc; have n0_ : Aside0 (wc.heap[gb296]? = some (.cells #[.int .u8 a1_0, .int .u64 a1_1, .string a1_2] 27 (0, 0))) := ⟨by rw [← hq_]; exact (pb BK296)⟩; have n1_ : Aside0 (wc.heap[gb297]? = some (.cells #[.int .u8 a2_0, .int .u64 a2_1, .string a2_2] 27 (0, 0))) := ⟨by rw [← hq_]; exact (pb BK297)⟩; have n2_ : Aside0 (wc.heap[gb298]? = some (.cells #[.int .u8 0, .int .u64 0, .string (⟨#[]⟩ : ByteArray)] 27 (0, 0))) := ⟨by rw [← hq_]; exact (pb BK298)⟩; have n3_ : Aside0 (Below w.heap.size w wc) := ⟨by rw [← hq_]; exact (bs HB)⟩; clear BK296 BK297 BK298 HB hq_; have BK296 := n0_; have BK297 := n1_; have BK298 := n2_; have HB := n3_; clear n0_ n1_ n2_ n3_)); have hnb98 := NB296_297.out; have hnc98 := NB297_296.out; have hnb99 := NB296_298.out; have hnc99 := NB298_296.out; have hcz100_0 : wc.cell? ⟨gb296, 0, none⟩ = some (.int .u8 a1_0) := bc BK296 0; have hcz100_1 : wc.cell? ⟨gb296, 1, none⟩ = some (.int .u64 a1_1) := bc BK296 1; have hcz100_2 : wc.cell? ⟨gb296, 2, none⟩ = some (.string a1_2) := bc BK296 2; have hfz100_0 := blk_frozen BK296.out 0; have hfz100_1 := blk_frozen BK296.out 1; have hfz100_2 := blk_frozen BK296.out 2; have hnb101 := NB297_298.out; have hnc101 := NB298_297.out; have hcz102_0 : wc.cell? ⟨gb297, 0, none⟩ = some (.int .u8 a2_0) := bc BK297 0; have hcz102_1 : wc.cell? ⟨gb297, 1, none⟩ = some (.int .u64 a2_1) := bc BK297 1; have hcz102_2 : wc.cell? ⟨gb297, 2, none⟩ = some (.string a2_2) := bc BK297 2; have hfz102_0 := blk_frozen BK297.out 0; have hfz102_1 := blk_frozen BK297.out 1; have hfz102_2 := blk_frozen BK297.out 2) | ((with_reducible refine gate_callee (f := 45) rfl ?_); refine goesL_ (some 109) rfl rfl Try.func45 (by kernel_rfl) rfl #[.int .i64 a0, .int .i64 (wrap64 (a1_1)), .int .i64 (wrap64 (a2_1))] rfl (by (try simp only [List.map_toArray, List.map_cons, List.map_nil]); first | done | rfl | (simp only [List.length_drop, List.length_take]; rfl)) ?_; (with_reducible refine (relayref01_signed.calls kj4 a0 (wrap64 (a1_1)) (wrap64 (a2_1)) t315 t316 _ A95.out).mono ?_); rintro e w' ⟨rfl, ⟨nd, rfl⟩⟩; refine ⟨_, rfl, ?_⟩; (try (rw [drewN_self wc]; generalize hq_ : World.drewN wc _ = wc; have n0_ : Aside0 (wc.heap[gb296]? = some (.cells #[.int .u8 a1_0, .int .u64 a1_1, .string a1_2] 27 (0, 0))) := ⟨by rw [← hq_]; exact (pb BK296)⟩; have n1_ : Aside0 (wc.heap[gb297]? = some (.cells #[.int .u8 a2_0, .int .u64 a2_1, .string a2_2] 27 (0, 0))) := ⟨by rw [← hq_]; exact (pb BK297)⟩; have n2_ : Aside0 (wc.heap[gb298]? = some (.cells #[.int .u8 0, .int .u64 0, .string (⟨#[]⟩ : ByteArray)] 27 (0, 0))) := ⟨by rw [← hq_]; exact (pb BK298)⟩; have n3_ : Aside0 (Below w.heap.size w wc) := ⟨by rw [← hq_]; exact (bs HB)⟩; clear BK296 BK297 BK298 HB hq_; have BK296 := n0_; have BK297 := n1_; have BK298 := n2_; have HB := n3_; clear n0_ n1_ n2_ n3_; have hcu296_0 : wc.cell? ⟨gb296, 0, none⟩ = some (.int .u8 a1_0) := bc BK296 0; have hfu296_0 := blk_frozen BK296.out 0; have hcu296_1 : wc.cell? ⟨gb296, 1, none⟩ = some (.int .u64 a1_1) := bc BK296 1; have hfu296_1 := blk_frozen BK296.out 1; have hcu296_2 : wc.cell? ⟨gb296, 2, none⟩ = some (.string a1_2) := bc BK296 2; have hfu296_2 := blk_frozen BK296.out 2; have hcu297_0 : wc.cell? ⟨gb297, 0, none⟩ = some (.int .u8 a2_0) := bc BK297 0; have hfu297_0 := blk_frozen BK297.out 0; have hcu297_1 : wc.cell? ⟨gb297, 1, none⟩ = some (.int .u64 a2_1) := bc BK297 1; have hfu297_1 := blk_frozen BK297.out 1; have hcu297_2 : wc.cell? ⟨gb297, 2, none⟩ = some (.string a2_2) := bc BK297 2; have hfu297_2 := blk_frozen BK297.out 2))) | ((with_reducible refine gate_callee (f := 46) rfl ?_); refine goesL_ (some 119) rfl rfl Try.func46 (by kernel_rfl) rfl #[.int .u8 t299, .int .u64 (IntKind.u64.wrap (t315)), .int .i64 1] rfl (by (try simp only [List.map_toArray, List.map_cons, List.map_nil]); first | done | rfl | (simp only [List.length_drop, List.length_take]; rfl)) ?_; (with_reducible refine (relayref01_made.calls kj4 t299 (IntKind.u64.wrap (t315)) 1 t317 t318 t319 t320 _ A97.out).mono ?_); rintro e w103 ⟨rfl, hb⟩; refine ⟨_, rfl, ?_⟩; have n0_ := kb BK296 hb; have n1_ := kb BK297 hb; have n2_ := kb BK298 hb; have n3_ := bt HB hb; clear BK296; clear BK297; clear BK298; clear HB; have BK296 := n0_; have BK297 := n1_; have BK298 := n2_; have HB := n3_; clear n0_ n1_ n2_ n3_; (try clear hb); (try clear hb2); (try clear hk); (try clear hi); have hcz104_0 : w103.cell? ⟨gb298, 0, none⟩ = some (.int .u8 0) := bc BK298 0; have hcz104_1 : w103.cell? ⟨gb298, 1, none⟩ = some (.int .u64 0) := bc BK298 1; have hcz104_2 : w103.cell? ⟨gb298, 2, none⟩ = some (.string (⟨#[]⟩ : ByteArray)) := bc BK298 2; have hfz104_0 := blk_frozen BK298.out 0; have hfz104_1 := blk_frozen BK298.out 1; have hfz104_2 := blk_frozen BK298.out 2))
           refine bodyPost_ret (results_ct rfl _ _ gb298 27 #[.int .u8 t317, .int .u64 t318, .string t319] (0, 0) _ rfl (by (with_reducible repeat (first | refine blk_drewN ?_ _ | refine blk_drew ?_ | refine blk_alloc ?_ _)); refine blk_put (cs := #[.int .u8 t317, .int .u64 t318, .string (⟨#[]⟩ : ByteArray)]) ?_ 2 _ rfl; (with_reducible repeat (first | refine blk_drewN ?_ _ | refine blk_drew ?_ | refine blk_alloc ?_ _)); refine blk_put (cs := #[.int .u8 t317, .int .u64 0, .string (⟨#[]⟩ : ByteArray)]) ?_ 1 _ rfl; (with_reducible repeat (first | refine blk_drewN ?_ _ | refine blk_drew ?_ | refine blk_alloc ?_ _)); refine blk_put (cs := #[.int .u8 0, .int .u64 0, .string (⟨#[]⟩ : ByteArray)]) ?_ 0 _ rfl; (with_reducible repeat (first | refine blk_drewN ?_ _ | refine blk_drew ?_ | refine blk_alloc ?_ _)); exact BK298.out) Try.underlying27 rfl (by kernel_rfl)) rfl ?_
           exact ⟨by first | rfl | (simp [errW_none, errW_some] <;> rfl) | (simp [*, errW_none, errW_some] <;> rfl), bs HB⟩
          ·rw [if_neg c96] at H
           have c96b0 : (t316 == 0) = false := beq_eq_false_iff_ne.mpr c96
           have c96b1 : (t316 != 0) = true := bne_iff_ne.mpr c96
           simp only [Option.some.injEq, Prod.mk.injEq] at H
           obtain ⟨rfl, rfl, rfl, rfl⟩ := H
           go_wp2_with (first | ((with_reducible refine gate_callee (f := 54) rfl ?_); refine goesL_ (some 82) rfl rfl Try.func54 (by kernel_rfl) rfl #[.int .u8 t299] rfl (by (try simp only [List.map_toArray, List.map_cons, List.map_nil]); first | done | rfl | (simp only [List.length_drop, List.length_take]; rfl)) ?_; (with_reducible refine (relayref01_Unsigned.calls t299 false _ A77.out).mono ?_); rintro e w' ⟨rfl, ⟨nd, rfl⟩⟩; refine ⟨_, rfl, ?_⟩; (try (rw [drewN_self wc]; generalize hq_ : World.drewN wc _ = wc; have n0_ : Aside0 (wc.heap[gb296]? = some (.cells #[.int .u8 a1_0, .int .u64 a1_1, .string a1_2] 27 (0, 0))) := ⟨by rw [← hq_]; exact (pb BK296)⟩; have n1_ : Aside0 (wc.heap[gb297]? = some (.cells #[.int .u8 a2_0, .int .u64 a2_1, .string a2_2] 27 (0, 0))) := ⟨by rw [← hq_]; exact (pb BK297)⟩; have n2_ : Aside0 (wc.heap[gb298]? = some (.cells #[.int .u8 0, .int .u64 0, .string (⟨#[]⟩ : ByteArray)] 27 (0, 0))) := ⟨by rw [← hq_]; exact (pb BK298)⟩; have n3_ : Aside0 (Below w.heap.size w wc) := ⟨by rw [← hq_]; exact (bs HB)⟩; clear BK296 BK297 BK298 HB hq_; have BK296 := n0_; have BK297 := n1_; have BK298 := n2_; have HB := n3_; clear n0_ n1_ n2_ n3_)); have hnb105 := NB296_297.out; have hnc105 := NB297_296.out; have hnb106 := NB296_298.out; have hnc106 := NB298_296.out; have hcz107_0 : wc.cell? ⟨gb296, 0, none⟩ = some (.int .u8 a1_0) := bc BK296 0; have hcz107_1 : wc.cell? ⟨gb296, 1, none⟩ = some (.int .u64 a1_1) := bc BK296 1; have hcz107_2 : wc.cell? ⟨gb296, 2, none⟩ = some (.string a1_2) := bc BK296 2; have hfz107_0 := blk_frozen BK296.out 0; have hfz107_1 := blk_frozen BK296.out 1; have hfz107_2 := blk_frozen BK296.out 2; have hnb108 := NB297_298.out; have hnc108 := NB298_297.out; have hcz109_0 : wc.cell? ⟨gb297, 0, none⟩ = some (.int .u8 a2_0) := bc BK297 0; have hcz109_1 : wc.cell? ⟨gb297, 1, none⟩ = some (.int .u64 a2_1) := bc BK297 1; have hcz109_2 : wc.cell? ⟨gb297, 2, none⟩ = some (.string a2_2) := bc BK297 2; have hfz109_0 := blk_frozen BK297.out 0; have hfz109_1 := blk_frozen BK297.out 1; have hfz109_2 := blk_frozen BK297.out 2) | ((with_reducible refine gate_callee (f := 45) rfl ?_); refine goesL_ (some 109) rfl rfl Try.func45 (by kernel_rfl) rfl #[.int .i64 a0, .int .i64 (wrap64 (a1_1)), .int .i64 (wrap64 (a2_1))] rfl (by (try simp only [List.map_toArray, List.map_cons, List.map_nil]); first | done | rfl | (simp only [List.length_drop, List.length_take]; rfl)) ?_; (with_reducible refine (relayref01_signed.calls kj4 a0 (wrap64 (a1_1)) (wrap64 (a2_1)) t315 t316 _ A95.out).mono ?_); rintro e w' ⟨rfl, ⟨nd, rfl⟩⟩; refine ⟨_, rfl, ?_⟩; (try (rw [drewN_self wc]; generalize hq_ : World.drewN wc _ = wc; have n0_ : Aside0 (wc.heap[gb296]? = some (.cells #[.int .u8 a1_0, .int .u64 a1_1, .string a1_2] 27 (0, 0))) := ⟨by rw [← hq_]; exact (pb BK296)⟩; have n1_ : Aside0 (wc.heap[gb297]? = some (.cells #[.int .u8 a2_0, .int .u64 a2_1, .string a2_2] 27 (0, 0))) := ⟨by rw [← hq_]; exact (pb BK297)⟩; have n2_ : Aside0 (wc.heap[gb298]? = some (.cells #[.int .u8 0, .int .u64 0, .string (⟨#[]⟩ : ByteArray)] 27 (0, 0))) := ⟨by rw [← hq_]; exact (pb BK298)⟩; have n3_ : Aside0 (Below w.heap.size w wc) := ⟨by rw [← hq_]; exact (bs HB)⟩; clear BK296 BK297 BK298 HB hq_; have BK296 := n0_; have BK297 := n1_; have BK298 := n2_; have HB := n3_; clear n0_ n1_ n2_ n3_; have hcu296_0 : wc.cell? ⟨gb296, 0, none⟩ = some (.int .u8 a1_0) := bc BK296 0; have hfu296_0 := blk_frozen BK296.out 0; have hcu296_1 : wc.cell? ⟨gb296, 1, none⟩ = some (.int .u64 a1_1) := bc BK296 1; have hfu296_1 := blk_frozen BK296.out 1; have hcu296_2 : wc.cell? ⟨gb296, 2, none⟩ = some (.string a1_2) := bc BK296 2; have hfu296_2 := blk_frozen BK296.out 2; have hcu297_0 : wc.cell? ⟨gb297, 0, none⟩ = some (.int .u8 a2_0) := bc BK297 0; have hfu297_0 := blk_frozen BK297.out 0; have hcu297_1 : wc.cell? ⟨gb297, 1, none⟩ = some (.int .u64 a2_1) := bc BK297 1; have hfu297_1 := blk_frozen BK297.out 1; have hcu297_2 : wc.cell? ⟨gb297, 2, none⟩ = some (.string a2_2) := bc BK297 2; have hfu297_2 := blk_frozen BK297.out 2)); have hcz110_0 : wc.cell? ⟨gb298, 0, none⟩ = some (.int .u8 0) := bc BK298 0; have hcz110_1 : wc.cell? ⟨gb298, 1, none⟩ = some (.int .u64 0) := bc BK298 1; have hcz110_2 : wc.cell? ⟨gb298, 2, none⟩ = some (.string (⟨#[]⟩ : ByteArray)) := bc BK298 2; have hfz110_0 := blk_frozen BK298.out 0; have hfz110_1 := blk_frozen BK298.out 1; have hfz110_2 := blk_frozen BK298.out 2))
           refine bodyPost_ret (results_ct rfl _ _ gb298 27 #[.int .u8 0, .int .u64 0, .string (⟨#[]⟩ : ByteArray)] (0, 0) _ rfl (by (with_reducible repeat (first | refine blk_drewN ?_ _ | refine blk_drew ?_ | refine blk_alloc ?_ _)); refine blk_put (cs := #[.int .u8 0, .int .u64 0, .string (⟨#[]⟩ : ByteArray)]) ?_ 2 _ rfl; (with_reducible repeat (first | refine blk_drewN ?_ _ | refine blk_drew ?_ | refine blk_alloc ?_ _)); refine blk_put (cs := #[.int .u8 0, .int .u64 0, .string (⟨#[]⟩ : ByteArray)]) ?_ 1 _ rfl; (with_reducible repeat (first | refine blk_drewN ?_ _ | refine blk_drew ?_ | refine blk_alloc ?_ _)); refine blk_put (cs := #[.int .u8 0, .int .u64 0, .string (⟨#[]⟩ : ByteArray)]) ?_ 0 _ rfl; (with_reducible repeat (first | refine blk_drewN ?_ _ | refine blk_drew ?_ | refine blk_alloc ?_ _)); exact BK298.out) Try.underlying27 rfl (by kernel_rfl)) rfl ?_
           exact ⟨by first | rfl | (simp [errW_none, errW_some] <;> rfl) | (simp [*, errW_none, errW_some] <;> rfl), bs HB⟩

/-! ### relaylaw01_ValueReckons: function 7 -/
def relaylaw01_ValueReckons.f (k : Nat) (a0 : Int) (a1_0 : Int) (a1_1 : Int) (a1_2 : ByteArray) (a2_0 : Int) (a2_1 : Int) (a2_2 : ByteArray) : Option (Bool) := (value_Reckon.f k a0 a1_0 a1_1 a1_2 a2_0 a2_1 a2_2).bind fun bt323 => ((relayref01_Reckon.f k a0 a1_0 a1_1 a1_2 a2_0 a2_1 a2_2).bind fun bt328 => ((relaylaw01_same.f bt323.1 bt323.2.1 bt323.2.2.1 bt323.2.2.2 bt328.1 bt328.2.1 bt328.2.2.1 bt328.2.2.2).bind fun t333 => (some t333)))
theorem relaylaw01_ValueReckons.mono : ∀ a0 a1 a2 a3 a4 a5 a6 k, LeO (relaylaw01_ValueReckons.f k a0 a1 a2 a3 a4 a5 a6) (relaylaw01_ValueReckons.f (k + 1) a0 a1 a2 a3 a4 a5 a6) := by
 intro a0 a1 a2 a3 a4 a5 a6 k
 unfold relaylaw01_ValueReckons.f
 repeat' first
   | (with_reducible exact relayref01_Reckon.mono _ _ _ _ _ _ _ _)
   | (with_reducible exact value_Reckon.mono _ _ _ _ _ _ _ _)
   | (with_reducible exact LeO.refl _)
   | (with_reducible exact LeO.none _)
   | (with_reducible refine LeO.ite ?_ ?_)
   | (with_reducible refine LeO.bind ?_ (fun _ => ?_))
   | exact relayref01_Reckon.mono _ _ _ _ _ _ _ _
   | exact value_Reckon.mono _ _ _ _ _ _ _ _
   | exact LeO.none _
   | refine LeO.ite ?_ ?_
   | refine LeO.bind ?_ (fun _ => ?_)
set_option maxHeartbeats 8000000 in
set_option maxRecDepth 100000 in
theorem relaylaw01_ValueReckons.calls (k : Nat) (a0 : Int) (a1_0 : Int) (a1_1 : Int) (a1_2 : ByteArray) (a2_0 : Int) (a2_1 : Int) (a2_2 : ByteArray) (r : Bool) (w : World) (h : relaylaw01_ValueReckons.f k a0 a1_0 a1_1 a1_2 a2_0 a2_1 a2_2 = some r) :
  Calls Try.prog 7 #[.int .i64 a0, .agg #[.int .u8 a1_0, .int .u64 a1_1, .string a1_2], .agg #[.int .u8 a2_0, .int .u64 a2_1, .string a2_2]] w fun e w' => e = .returned (.bool r) ∧ Below w.heap.size w w' := by
 have hu27 := Try.underlying27
 have HB := Aside0.mk (Below.refl w.heap.size w)
 have H : ((value_Reckon.f k a0 a1_0 a1_1 a1_2 a2_0 a2_1 a2_2).bind fun bt323 => ((relayref01_Reckon.f k a0 a1_0 a1_1 a1_2 a2_0 a2_1 a2_2).bind fun bt328 => ((relaylaw01_same.f bt323.1 bt323.2.1 bt323.2.2.1 bt323.2.2.2 bt328.1 bt328.2.1 bt328.2.2.1 bt328.2.2.2).bind fun t333 => (some t333)))) = some r := h
 clear h
 replace H := Option.bind_eq_some_iff.mp H
 obtain ⟨⟨t323, t324, t325, t326⟩, A40, H⟩ := H
 replace H : ((relayref01_Reckon.f k a0 a1_0 a1_1 a1_2 a2_0 a2_1 a2_2).bind fun bt328 => ((relaylaw01_same.f t323 t324 t325 t326 bt328.1 bt328.2.1 bt328.2.2.1 bt328.2.2.2).bind fun t333 => (some t333))) = some r := H
 have A4 := Aside0.mk A40
 clear A40
 replace H := Option.bind_eq_some_iff.mp H
 obtain ⟨⟨t328, t329, t330, t331⟩, A50, H⟩ := H
 replace H : ((relaylaw01_same.f t323 t324 t325 t326 t328 t329 t330 t331).bind fun t333 => (some t333)) = some r := H
 have A5 := Aside0.mk A50
 clear A50
 replace H := Option.bind_eq_some_iff.mp H
 obtain ⟨t333, A60, H⟩ := H
 replace H : (some t333) = some r := H
 have A6 := Aside0.mk A60
 clear A60
 obtain rfl := Option.some.inj H
 go_enter Try.func7, Try.ntmps7
 go_wp2_with (first | ((with_reducible refine gate_dst (N := 4) rfl ?_); refine box_event ?hg (N := 4) ?hd (cs := #[.int .u8 a1_0, .int .u64 a1_1, .string a1_2]) (t := 27) ?hr ?_; (case hd => rfl); (case hg => rfl); (case hr => first | (go_simp; done) | (go_simp; rfl)); intro gb321 hg w7 hbox hb; have n0_ := bt HB hb; have n1_ := Aside0.mk (hbox); have n2_ := gs hg HB; have n3_ := gs hg HB; clear HB; have HB := n0_; have BK321 := n1_; have GW321 := n2_; have GE321 := n3_; clear n0_ n1_ n2_ n3_; clear hb hbox hg) | ((with_reducible refine gate_dst (N := 5) rfl ?_); refine box_event ?hg (N := 5) ?hd (cs := #[.int .u8 a2_0, .int .u64 a2_1, .string a2_2]) (t := 27) ?hr ?_; (case hd => rfl); (case hg => rfl); (case hr => first | (go_simp; done) | (go_simp; rfl)); intro gb322 hg w8 hbox hb; have n0_ := kb BK321 hb; have n1_ := bt HB hb; have n2_ := Aside0.mk (hbox); have n3_ := gs hg HB; have n4_ := gs hg HB; have n5_ := nl hg BK321; have n6_ := ng hg BK321; clear BK321; clear HB; have BK321 := n0_; have HB := n1_; have BK322 := n2_; have GW322 := n3_; have GE322 := n4_; have NB321_322 := n5_; have NB322_321 := n6_; clear n0_ n1_ n2_ n3_ n4_ n5_ n6_; clear hb hbox hg; have hnb9 := NB321_322.out; have hnc9 := NB322_321.out; have hcz10_0 : w8.cell? ⟨gb321, 0, none⟩ = some (.int .u8 a1_0) := bc BK321 0; have hcz10_1 : w8.cell? ⟨gb321, 1, none⟩ = some (.int .u64 a1_1) := bc BK321 1; have hcz10_2 : w8.cell? ⟨gb321, 2, none⟩ = some (.string a1_2) := bc BK321 2; have hfz10_0 := blk_frozen BK321.out 0; have hfz10_1 := blk_frozen BK321.out 1; have hfz10_2 := blk_frozen BK321.out 2; have hcz11_0 : w8.cell? ⟨gb322, 0, none⟩ = some (.int .u8 a2_0) := bc BK322 0; have hcz11_1 : w8.cell? ⟨gb322, 1, none⟩ = some (.int .u64 a2_1) := bc BK322 1; have hcz11_2 : w8.cell? ⟨gb322, 2, none⟩ = some (.string a2_2) := bc BK322 2; have hfz11_0 := blk_frozen BK322.out 0; have hfz11_1 := blk_frozen BK322.out 1; have hfz11_2 := blk_frozen BK322.out 2) | ((with_reducible refine gate_callee (f := 30) rfl ?_); refine goesL_ (some 15) rfl rfl Try.func30 (by kernel_rfl) rfl #[.int .i64 a0, .agg #[.int .u8 a1_0, .int .u64 a1_1, .string a1_2], .agg #[.int .u8 a2_0, .int .u64 a2_1, .string a2_2]] rfl (by (try simp only [List.map_toArray, List.map_cons, List.map_nil]); first | done | rfl | (simp only [List.length_drop, List.length_take]; rfl)) ?_; (with_reducible refine (value_Reckon.calls k a0 a1_0 a1_1 a1_2 a2_0 a2_1 a2_2 t323 t324 t325 t326 _ A4.out).mono ?_); rintro e w12 ⟨rfl, hb⟩; refine ⟨_, rfl, ?_⟩; have n0_ := kb BK321 hb; have n1_ := kb BK322 hb; have n2_ := bt HB hb; clear BK321; clear BK322; clear HB; have BK321 := n0_; have BK322 := n1_; have HB := n2_; clear n0_ n1_ n2_; (try clear hb); (try clear hb2); (try clear hk); (try clear hi)) | ((with_reducible refine gate_dst (N := 7) rfl ?_); refine box_event ?hg (N := 7) ?hd (cs := #[.int .u8 0, .int .u64 0, .string (⟨#[]⟩ : ByteArray)]) (t := 27) ?hr ?_; (case hd => rfl); (case hg => rfl); (case hr => first | (go_simp; done) | (go_simp; rfl)); intro gb327 hg w13 hbox hb; have n0_ := kb BK321 hb; have n1_ := kb BK322 hb; have n2_ := bt HB hb; have n3_ := Aside0.mk (hbox); have n4_ := gs hg HB; have n5_ := gs hg HB; have n6_ := nl hg BK321; have n7_ := ng hg BK321; have n8_ := nl hg BK322; have n9_ := ng hg BK322; clear BK321; clear BK322; clear HB; have BK321 := n0_; have BK322 := n1_; have HB := n2_; have BK327 := n3_; have GW327 := n4_; have GE327 := n5_; have NB321_327 := n6_; have NB327_321 := n7_; have NB322_327 := n8_; have NB327_322 := n9_; clear n0_ n1_ n2_ n3_ n4_ n5_ n6_ n7_ n8_ n9_; clear hb hbox hg; have hnb14 := NB327_321.out; have hnc14 := NB321_327.out; have hnb15 := NB327_322.out; have hnc15 := NB322_327.out; have hcz16_0 : w13.cell? ⟨gb327, 0, none⟩ = some (.int .u8 0) := bc BK327 0; have hcz16_1 : w13.cell? ⟨gb327, 1, none⟩ = some (.int .u64 0) := bc BK327 1; have hcz16_2 : w13.cell? ⟨gb327, 2, none⟩ = some (.string (⟨#[]⟩ : ByteArray)) := bc BK327 2; have hfz16_0 := blk_frozen BK327.out 0; have hfz16_1 := blk_frozen BK327.out 1; have hfz16_2 := blk_frozen BK327.out 2; have hcz17_0 : w13.cell? ⟨gb321, 0, none⟩ = some (.int .u8 a1_0) := bc BK321 0; have hcz17_1 : w13.cell? ⟨gb321, 1, none⟩ = some (.int .u64 a1_1) := bc BK321 1; have hcz17_2 : w13.cell? ⟨gb321, 2, none⟩ = some (.string a1_2) := bc BK321 2; have hfz17_0 := blk_frozen BK321.out 0; have hfz17_1 := blk_frozen BK321.out 1; have hfz17_2 := blk_frozen BK321.out 2; have hcz18_0 : w13.cell? ⟨gb322, 0, none⟩ = some (.int .u8 a2_0) := bc BK322 0; have hcz18_1 : w13.cell? ⟨gb322, 1, none⟩ = some (.int .u64 a2_1) := bc BK322 1; have hcz18_2 : w13.cell? ⟨gb322, 2, none⟩ = some (.string a2_2) := bc BK322 2; have hfz18_0 := blk_frozen BK322.out 0; have hfz18_1 := blk_frozen BK322.out 1; have hfz18_2 := blk_frozen BK322.out 2) | ((with_reducible refine gate_callee (f := 31) rfl ?_); refine goesL_ (some 22) rfl rfl Try.func31 (by kernel_rfl) rfl #[.int .i64 a0, .agg #[.int .u8 a1_0, .int .u64 a1_1, .string a1_2], .agg #[.int .u8 a2_0, .int .u64 a2_1, .string a2_2]] rfl (by (try simp only [List.map_toArray, List.map_cons, List.map_nil]); first | done | rfl | (simp only [List.length_drop, List.length_take]; rfl)) ?_; (with_reducible refine (relayref01_Reckon.calls k a0 a1_0 a1_1 a1_2 a2_0 a2_1 a2_2 t328 t329 t330 t331 _ A5.out).mono ?_); rintro e w19 ⟨rfl, hb⟩; refine ⟨_, rfl, ?_⟩; have n0_ := Aside0.mk (blk_below (g := gb321) (o := .cells #[.int .u8 a1_0, .int .u64 a1_1, .string a1_2] 27 (0, 0)) (by (with_reducible repeat (first | refine blk_drewN ?_ _ | refine blk_drew ?_ | refine blk_alloc ?_ _)); refine blk_far ?_ NB321_327.out _; (with_reducible repeat (first | refine blk_drewN ?_ _ | refine blk_drew ?_ | refine blk_alloc ?_ _)); refine blk_far ?_ NB321_327.out _; (with_reducible repeat (first | refine blk_drewN ?_ _ | refine blk_drew ?_ | refine blk_alloc ?_ _)); refine blk_far ?_ NB321_327.out _; (with_reducible repeat (first | refine blk_drewN ?_ _ | refine blk_drew ?_ | refine blk_alloc ?_ _)); exact BK321.out) hb); have n1_ := Aside0.mk (blk_below (g := gb322) (o := .cells #[.int .u8 a2_0, .int .u64 a2_1, .string a2_2] 27 (0, 0)) (by (with_reducible repeat (first | refine blk_drewN ?_ _ | refine blk_drew ?_ | refine blk_alloc ?_ _)); refine blk_far ?_ NB322_327.out _; (with_reducible repeat (first | refine blk_drewN ?_ _ | refine blk_drew ?_ | refine blk_alloc ?_ _)); refine blk_far ?_ NB322_327.out _; (with_reducible repeat (first | refine blk_drewN ?_ _ | refine blk_drew ?_ | refine blk_alloc ?_ _)); refine blk_far ?_ NB322_327.out _; (with_reducible repeat (first | refine blk_drewN ?_ _ | refine blk_drew ?_ | refine blk_alloc ?_ _)); exact BK322.out) hb); have n2_ := Aside0.mk (blk_below (g := gb327) (o := .cells #[.int .u8 t323, .int .u64 t324, .string t325] 27 (0, 0)) (by (with_reducible repeat (first | refine blk_drewN ?_ _ | refine blk_drew ?_ | refine blk_alloc ?_ _)); refine blk_put (cs := #[.int .u8 t323, .int .u64 t324, .string (⟨#[]⟩ : ByteArray)]) ?_ 2 _ rfl; (with_reducible repeat (first | refine blk_drewN ?_ _ | refine blk_drew ?_ | refine blk_alloc ?_ _)); refine blk_put (cs := #[.int .u8 t323, .int .u64 0, .string (⟨#[]⟩ : ByteArray)]) ?_ 1 _ rfl; (with_reducible repeat (first | refine blk_drewN ?_ _ | refine blk_drew ?_ | refine blk_alloc ?_ _)); refine blk_put (cs := #[.int .u8 0, .int .u64 0, .string (⟨#[]⟩ : ByteArray)]) ?_ 0 _ rfl; (with_reducible repeat (first | refine blk_drewN ?_ _ | refine blk_drew ?_ | refine blk_alloc ?_ _)); exact BK327.out) hb); have n3_ := bt HB hb; clear BK321; clear BK322; clear BK327; clear HB; have BK321 := n0_; have BK322 := n1_; have BK327 := n2_; have HB := n3_; clear n0_ n1_ n2_ n3_; (try clear hb); (try clear hb2); (try clear hk); (try clear hi)) | ((with_reducible refine gate_dst (N := 9) rfl ?_); refine box_event ?hg (N := 9) ?hd (cs := #[.int .u8 0, .int .u64 0, .string (⟨#[]⟩ : ByteArray)]) (t := 27) ?hr ?_; (case hd => rfl); (case hg => rfl); (case hr => first | (go_simp; done) | (go_simp; rfl)); intro gb332 hg w20 hbox hb; have n0_ := kb BK321 hb; have n1_ := kb BK322 hb; have n2_ := kb BK327 hb; have n3_ := bt HB hb; have n4_ := Aside0.mk (hbox); have n5_ := gs hg HB; have n6_ := gs hg HB; have n7_ := nl hg BK321; have n8_ := ng hg BK321; have n9_ := nl hg BK322; have n10_ := ng hg BK322; have n11_ := nl hg BK327; have n12_ := ng hg BK327; clear BK321; clear BK322; clear BK327; clear HB; have BK321 := n0_; have BK322 := n1_; have BK327 := n2_; have HB := n3_; have BK332 := n4_; have GW332 := n5_; have GE332 := n6_; have NB321_332 := n7_; have NB332_321 := n8_; have NB322_332 := n9_; have NB332_322 := n10_; have NB327_332 := n11_; have NB332_327 := n12_; clear n0_ n1_ n2_ n3_ n4_ n5_ n6_ n7_ n8_ n9_ n10_ n11_ n12_; clear hb hbox hg; have hnb21 := NB332_321.out; have hnc21 := NB321_332.out; have hnb22 := NB332_322.out; have hnc22 := NB322_332.out; have hnb23 := NB332_327.out; have hnc23 := NB327_332.out; have hcz24_0 : w20.cell? ⟨gb332, 0, none⟩ = some (.int .u8 0) := bc BK332 0; have hcz24_1 : w20.cell? ⟨gb332, 1, none⟩ = some (.int .u64 0) := bc BK332 1; have hcz24_2 : w20.cell? ⟨gb332, 2, none⟩ = some (.string (⟨#[]⟩ : ByteArray)) := bc BK332 2; have hfz24_0 := blk_frozen BK332.out 0; have hfz24_1 := blk_frozen BK332.out 1; have hfz24_2 := blk_frozen BK332.out 2; have hcz25_0 : w20.cell? ⟨gb327, 0, none⟩ = some (.int .u8 t323) := bc BK327 0; have hcz25_1 : w20.cell? ⟨gb327, 1, none⟩ = some (.int .u64 t324) := bc BK327 1; have hcz25_2 : w20.cell? ⟨gb327, 2, none⟩ = some (.string t325) := bc BK327 2; have hfz25_0 := blk_frozen BK327.out 0; have hfz25_1 := blk_frozen BK327.out 1; have hfz25_2 := blk_frozen BK327.out 2) | ((with_reducible refine gate_callee (f := 15) rfl ?_); refine goesL_ (some 29) rfl rfl Try.func15 (by kernel_rfl) rfl #[.agg #[.int .u8 t323, .int .u64 t324, .string t325], .int .i64 t326, .agg #[.int .u8 t328, .int .u64 t329, .string t330], .int .i64 t331] rfl (by (try simp only [List.map_toArray, List.map_cons, List.map_nil]); first | done | rfl | (simp only [List.length_drop, List.length_take]; rfl)) ?_; (with_reducible refine (relaylaw01_same.calls t323 t324 t325 t326 t328 t329 t330 t331 t333 _ A6.out).mono ?_); rintro e w26 ⟨rfl, hb⟩; refine ⟨_, rfl, ?_⟩; have n0_ := Aside0.mk (blk_below (g := gb321) (o := .cells #[.int .u8 a1_0, .int .u64 a1_1, .string a1_2] 27 (0, 0)) (by (with_reducible repeat (first | refine blk_drewN ?_ _ | refine blk_drew ?_ | refine blk_alloc ?_ _)); refine blk_far ?_ NB321_332.out _; (with_reducible repeat (first | refine blk_drewN ?_ _ | refine blk_drew ?_ | refine blk_alloc ?_ _)); refine blk_far ?_ NB321_332.out _; (with_reducible repeat (first | refine blk_drewN ?_ _ | refine blk_drew ?_ | refine blk_alloc ?_ _)); refine blk_far ?_ NB321_332.out _; (with_reducible repeat (first | refine blk_drewN ?_ _ | refine blk_drew ?_ | refine blk_alloc ?_ _)); exact BK321.out) hb); have n1_ := Aside0.mk (blk_below (g := gb322) (o := .cells #[.int .u8 a2_0, .int .u64 a2_1, .string a2_2] 27 (0, 0)) (by (with_reducible repeat (first | refine blk_drewN ?_ _ | refine blk_drew ?_ | refine blk_alloc ?_ _)); refine blk_far ?_ NB322_332.out _; (with_reducible repeat (first | refine blk_drewN ?_ _ | refine blk_drew ?_ | refine blk_alloc ?_ _)); refine blk_far ?_ NB322_332.out _; (with_reducible repeat (first | refine blk_drewN ?_ _ | refine blk_drew ?_ | refine blk_alloc ?_ _)); refine blk_far ?_ NB322_332.out _; (with_reducible repeat (first | refine blk_drewN ?_ _ | refine blk_drew ?_ | refine blk_alloc ?_ _)); exact BK322.out) hb); have n2_ := Aside0.mk (blk_below (g := gb327) (o := .cells #[.int .u8 t323, .int .u64 t324, .string t325] 27 (0, 0)) (by (with_reducible repeat (first | refine blk_drewN ?_ _ | refine blk_drew ?_ | refine blk_alloc ?_ _)); refine blk_far ?_ NB327_332.out _; (with_reducible repeat (first | refine blk_drewN ?_ _ | refine blk_drew ?_ | refine blk_alloc ?_ _)); refine blk_far ?_ NB327_332.out _; (with_reducible repeat (first | refine blk_drewN ?_ _ | refine blk_drew ?_ | refine blk_alloc ?_ _)); refine blk_far ?_ NB327_332.out _; (with_reducible repeat (first | refine blk_drewN ?_ _ | refine blk_drew ?_ | refine blk_alloc ?_ _)); exact BK327.out) hb); have n3_ := Aside0.mk (blk_below (g := gb332) (o := .cells #[.int .u8 t328, .int .u64 t329, .string t330] 27 (0, 0)) (by (with_reducible repeat (first | refine blk_drewN ?_ _ | refine blk_drew ?_ | refine blk_alloc ?_ _)); refine blk_put (cs := #[.int .u8 t328, .int .u64 t329, .string (⟨#[]⟩ : ByteArray)]) ?_ 2 _ rfl; (with_reducible repeat (first | refine blk_drewN ?_ _ | refine blk_drew ?_ | refine blk_alloc ?_ _)); refine blk_put (cs := #[.int .u8 t328, .int .u64 0, .string (⟨#[]⟩ : ByteArray)]) ?_ 1 _ rfl; (with_reducible repeat (first | refine blk_drewN ?_ _ | refine blk_drew ?_ | refine blk_alloc ?_ _)); refine blk_put (cs := #[.int .u8 0, .int .u64 0, .string (⟨#[]⟩ : ByteArray)]) ?_ 0 _ rfl; (with_reducible repeat (first | refine blk_drewN ?_ _ | refine blk_drew ?_ | refine blk_alloc ?_ _)); exact BK332.out) hb); have n4_ := bt HB hb; clear BK321; clear BK322; clear BK327; clear BK332; clear HB; have BK321 := n0_; have BK322 := n1_; have BK327 := n2_; have BK332 := n3_; have HB := n4_; clear n0_ n1_ n2_ n3_ n4_; (try clear hb); (try clear hb2); (try clear hk); (try clear hi)))
 go_ret
 exact ⟨by first | rfl | (simp [errW_none, errW_some] <;> rfl) | (simp [*, errW_none, errW_some] <;> rfl), bs HB⟩

end Go.Proofs.Ytlmmkaddlflepaa.PReck
