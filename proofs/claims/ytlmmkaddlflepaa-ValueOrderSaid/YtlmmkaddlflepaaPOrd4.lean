-- by mkprint.py, a program of this session's own
import Derived.Test.YtlmmkaddlflepaaPOrd0
import Derived.Test.YtlmmkaddlflepaaPOrd2
import Derived.Test.YtlmmkaddlflepaaPOrd3
namespace Go.Proofs.Ytlmmkaddlflepaa.POrd
open Go.RowKit Go.Proofs.YtlmmkaddlflepaaW.PrintWords Go.Proofs.YtlmmkaddlflepaaW.PrintLast Go.Proofs.YtlmmkaddlflepaaW.PrintMore
attribute [local go_sem] max2_int min2_int max_two min_two max_three min_three max_four min_four   -- for this text's walks alone
set_option linter.unusedVariables false
set_option linter.unusedSimpArgs false

attribute [local go_sem] cell_isSome un_neg_float str_gtr str_leq str_geq ext34 ext52
/-! ### value_compared: function 55 -/
def value_compared.f (k : Nat) (a0 : Int) (a1_0 : Int) (a1_1 : Int) (a1_2 : ByteArray) (a2_0 : Int) (a2_1 : Int) (a2_2 : ByteArray) : Option (Int × Int × ByteArray) := if a1_0 = 18 then ((value_floatsCompared.f a0 ((a1_1).toNat) ((a2_1).toNat)).bind fun bt147 => (some (bt147.1, bt147.2.1, bt147.2.2))) else ((value_order.f k a1_0 a1_1 a1_2 a2_0 a2_1 a2_2).bind fun t150 => (if a0 = 9 then ((value_Bool.f (t150 == 0)).bind fun bt151 => (some (bt151.1, bt151.2.1, bt151.2.2))) else (if a0 = 10 then ((value_Bool.f (t150 != 0)).bind fun bt154 => (some (bt154.1, bt154.2.1, bt154.2.2))) else (if a0 = 11 then ((value_Bool.f (decide (t150 < 0))).bind fun bt157 => (some (bt157.1, bt157.2.1, bt157.2.2))) else (if a0 = 12 then ((value_Bool.f (decide (t150 ≤ 0))).bind fun bt160 => (some (bt160.1, bt160.2.1, bt160.2.2))) else (if a0 = 13 then ((value_Bool.f (decide (t150 > 0))).bind fun bt163 => (some (bt163.1, bt163.2.1, bt163.2.2))) else ((value_Bool.f (decide (t150 ≥ 0))).bind fun bt166 => (some (bt166.1, bt166.2.1, bt166.2.2)))))))))
theorem value_compared.mono : ∀ a0 a1 a2 a3 a4 a5 a6 k, LeO (value_compared.f k a0 a1 a2 a3 a4 a5 a6) (value_compared.f (k + 1) a0 a1 a2 a3 a4 a5 a6) := by
 intro a0 a1 a2 a3 a4 a5 a6 k
 unfold value_compared.f
 repeat' first
   | (with_reducible exact value_order.mono _ _ _ _ _ _ _)
   | (with_reducible exact LeO.refl _)
   | (with_reducible exact LeO.none _)
   | (with_reducible refine LeO.ite ?_ ?_)
   | (with_reducible refine LeO.bind ?_ (fun _ => ?_))
   | exact value_order.mono _ _ _ _ _ _ _
   | exact LeO.none _
   | refine LeO.ite ?_ ?_
   | refine LeO.bind ?_ (fun _ => ?_)
def value_compared.T2 : Bool × List (List Nat × List Nat) := (true, [([], []), ([], []), ([1], [1]), ([2], [2]), ([], []), ([4], [4]), ([5, 3], [5]), ([0, 3, 6, 6], [0, 3, 6]), ([7, 7, 0, 1, 2, 3, 4, 5, 6, 7], [7])])
def value_compared.B2 : List Nat := [0, 0, 2, 6, 0, 16, 62, 127, 255]
theorem value_compared.tab2 : rtab .any (opsOf Try.f55 2) = value_compared.T2 := by kernel_rfl
theorem value_compared.bits2 : waitsOk value_compared.T2.2 value_compared.B2 = true := by kernel_rfl
set_option maxHeartbeats 8000000 in
set_option maxRecDepth 100000 in
theorem value_compared.calls (k : Nat) (a0 : Int) (a1_0 : Int) (a1_1 : Int) (a1_2 : ByteArray) (a2_0 : Int) (a2_1 : Int) (a2_2 : ByteArray) (r1 : Int) (r2 : Int) (r3 : ByteArray) (w : World) (h : value_compared.f k a0 a1_0 a1_1 a1_2 a2_0 a2_1 a2_2 = some (r1, r2, r3)) :
  Calls Try.prog 55 #[.int .i64 a0, .agg #[.int .u8 a1_0, .int .u64 a1_1, .string a1_2], .agg #[.int .u8 a2_0, .int .u64 a2_1, .string a2_2]] w fun e w' => e = .returned (.agg #[.int .u8 r1, .int .u64 r2, .string r3]) ∧ Below w.heap.size w w' := by
 have hu27 := Try.underlying27
 have HB := Aside0.mk (Below.refl w.heap.size w)
 have H : (if a1_0 = 18 then ((value_floatsCompared.f a0 ((a1_1).toNat) ((a2_1).toNat)).bind fun bt147 => (some (bt147.1, bt147.2.1, bt147.2.2))) else ((value_order.f k a1_0 a1_1 a1_2 a2_0 a2_1 a2_2).bind fun t150 => (if a0 = 9 then ((value_Bool.f (t150 == 0)).bind fun bt151 => (some (bt151.1, bt151.2.1, bt151.2.2))) else (if a0 = 10 then ((value_Bool.f (t150 != 0)).bind fun bt154 => (some (bt154.1, bt154.2.1, bt154.2.2))) else (if a0 = 11 then ((value_Bool.f (decide (t150 < 0))).bind fun bt157 => (some (bt157.1, bt157.2.1, bt157.2.2))) else (if a0 = 12 then ((value_Bool.f (decide (t150 ≤ 0))).bind fun bt160 => (some (bt160.1, bt160.2.1, bt160.2.2))) else (if a0 = 13 then ((value_Bool.f (decide (t150 > 0))).bind fun bt163 => (some (bt163.1, bt163.2.1, bt163.2.2))) else ((value_Bool.f (decide (t150 ≥ 0))).bind fun bt166 => (some (bt166.1, bt166.2.1, bt166.2.2)))))))))) = some (r1, r2, r3) := h
 clear h
 by_cases c4 : a1_0 = 18
 ·rw [if_pos c4] at H
  have c4b0 : (a1_0 == 18) = true := beq_iff_eq.mpr c4
  have c4b1 : (a1_0 != 18) = false := bne_eq_false_iff_eq.mpr c4
  clear c4
  replace H := Option.bind_eq_some_iff.mp H
  obtain ⟨⟨t147, t148, t149⟩, A50, H⟩ := H
  replace H : (some (t147, t148, t149)) = some (r1, r2, r3) := H
  have A5 := Aside0.mk A50
  clear A50
  simp only [Option.some.injEq, Prod.mk.injEq] at H
  obtain ⟨rfl, rfl, rfl⟩ := H
  go_enter Try.func55, Try.ntmps55
  try go_wp2_with (first | ((with_reducible refine gate_dst (N := 4) rfl ?_); refine box_event ?hg (N := 4) ?hd (cs := #[.int .u8 a1_0, .int .u64 a1_1, .string a1_2]) (t := 27) ?hr ?_; (case hd => rfl); (case hg => rfl); (case hr => first | (go_simp; done) | (go_simp; rfl)); intro gb144 hg w6 hbox hb; have n0_ := bt HB hb; have n1_ := Aside0.mk (hbox); have n2_ := gs hg HB; have n3_ := gs hg HB; clear HB; have HB := n0_; have BK144 := n1_; have GW144 := n2_; have GE144 := n3_; clear n0_ n1_ n2_ n3_; clear hb hbox hg) | ((with_reducible refine gate_dst (N := 5) rfl ?_); refine box_event ?hg (N := 5) ?hd (cs := #[.int .u8 a2_0, .int .u64 a2_1, .string a2_2]) (t := 27) ?hr ?_; (case hd => rfl); (case hg => rfl); (case hr => first | (go_simp; done) | (go_simp; rfl)); intro gb145 hg w7 hbox hb; have n0_ := kb BK144 hb; have n1_ := bt HB hb; have n2_ := Aside0.mk (hbox); have n3_ := gs hg HB; have n4_ := gs hg HB; have n5_ := nl hg BK144; have n6_ := ng hg BK144; clear BK144; clear HB; have BK144 := n0_; have HB := n1_; have BK145 := n2_; have GW145 := n3_; have GE145 := n4_; have NB144_145 := n5_; have NB145_144 := n6_; clear n0_ n1_ n2_ n3_ n4_ n5_ n6_; clear hb hbox hg) | ((with_reducible refine gate_dst (N := 6) rfl ?_); refine box_event ?hg (N := 6) ?hd (cs := #[.int .u8 0, .int .u64 0, .string (⟨#[]⟩ : ByteArray)]) (t := 27) ?hr ?_; (case hd => rfl); (case hg => rfl); (case hr => first | (go_simp; done) | (go_simp; rfl)); intro gb146 hg w8 hbox hb; have n0_ := kb BK144 hb; have n1_ := kb BK145 hb; have n2_ := bt HB hb; have n3_ := Aside0.mk (hbox); have n4_ := gs hg HB; have n5_ := gs hg HB; have n6_ := nl hg BK144; have n7_ := ng hg BK144; have n8_ := nl hg BK145; have n9_ := ng hg BK145; clear BK144; clear BK145; clear HB; have BK144 := n0_; have BK145 := n1_; have HB := n2_; have BK146 := n3_; have GW146 := n4_; have GE146 := n5_; have NB144_146 := n6_; have NB146_144 := n7_; have NB145_146 := n8_; have NB146_145 := n9_; clear n0_ n1_ n2_ n3_ n4_ n5_ n6_ n7_ n8_ n9_; clear hb hbox hg; have hnb9 := NB144_145.out; have hnc9 := NB145_144.out; have hnb10 := NB144_146.out; have hnc10 := NB146_144.out; have hcz11_0 : w8.cell? ⟨gb144, 0, none⟩ = some (.int .u8 a1_0) := bc BK144 0; have hcz11_1 : w8.cell? ⟨gb144, 1, none⟩ = some (.int .u64 a1_1) := bc BK144 1; have hcz11_2 : w8.cell? ⟨gb144, 2, none⟩ = some (.string a1_2) := bc BK144 2; have hfz11_0 := blk_frozen BK144.out 0; have hfz11_1 := blk_frozen BK144.out 1; have hfz11_2 := blk_frozen BK144.out 2))
  have n0_ := Aside0.mk (blk_drew BK144.out)
  have n1_ := Aside0.mk (blk_drew BK145.out)
  have n2_ := Aside0.mk (blk_drew BK146.out)
  have n3_ := Aside0.mk (below_drew1 HB.out)
  clear BK144
  clear BK145
  clear BK146
  clear HB
  have BK144 := n0_
  have BK145 := n1_
  have BK146 := n2_
  have HB := n3_
  clear n0_ n1_ n2_ n3_
  refine start_ (n := 9) (S := fun w' => w'.cell? ⟨gb144, 0, none⟩ = some (.int .u8 a1_0) ∧ w'.cell? ⟨gb144, 1, none⟩ = some (.int .u64 a1_1) ∧ w'.cell? ⟨gb144, 2, none⟩ = some (.string a1_2) ∧ w'.cell? ⟨gb145, 0, none⟩ = some (.int .u8 a2_0) ∧ w'.cell? ⟨gb145, 1, none⟩ = some (.int .u64 a2_1) ∧ w'.cell? ⟨gb145, 2, none⟩ = some (.string a2_2)) (ds := []) #[false, false, false, false, false, false, false, false, false] (by kernel_rfl) rfl rfl ⟨bc BK144 0, bc BK144 1, bc BK144 2, bc BK145 0, bc BK145 1, bc BK145 2⟩ (fun hHeld => ?_); refine with_tabW value_compared.tab2 value_compared.bits2 (fun HT_ HW_ => ?_)
  generalize w8.drew = w12 at BK144 BK145 BK146 HB hHeld ⊢
  refine pure_ (i := 0) (N := some 11) (v := ?_) (a' := ?_) #[true, false, false, false, false, false, false, false, false] rfl rfl (any_of HT_.out (by kernel_rfl)) (fun _ _ _ h => h) (Or.inl ⟨by rfl, ?_⟩) ?_ ?_
  rotate_left
  ·intro w'
   go_simp
   with_reducible rfl
  rotate_left
  ·simp only [Act.put, List.setIfInBounds_toArray, List.set_cons_zero, List.set_cons_succ, i64_w, i32_w]
   rfl
  refine pure_ (i := 1) (N := some 12) (v := ?_) (a' := ?_) #[true, true, false, false, false, false, false, false, false] rfl rfl (any_of HT_.out (by kernel_rfl)) (fun _ _ _ h => h) (Or.inl ⟨by rfl, ?_⟩) ?_ ?_
  rotate_left
  ·intro w'
   go_simp
   with_reducible rfl
  rotate_left
  ·simp only [Act.put, List.setIfInBounds_toArray, List.set_cons_zero, List.set_cons_succ, i64_w, i32_w]
   rfl
  refine pure_ (i := 4) (N := some 15) (v := ?_) (a' := ?_) #[true, true, false, false, true, false, false, false, false] rfl rfl (any_of HT_.out (by kernel_rfl)) (fun _ _ _ h => h) (Or.inl ⟨by rfl, ?_⟩) ?_ ?_
  rotate_left
  ·intro w'
   go_simp
   with_reducible rfl
  rotate_left
  ·simp only [Act.put, List.setIfInBounds_toArray, List.set_cons_zero, List.set_cons_succ, i64_w, i32_w]
   rfl
  refine take_ (i := 2) (N := some 13) (v := ?_) (a' := ?_) #[true, true, true, false, true, false, false, false, false] rfl rfl (take_ofW HT_.out HW_.out (by kernel_rfl)) (fun _ _ _ h => h) (Or.inl ⟨by rfl, ?_⟩) hHeld ?_ ?_
  rotate_left
  ·rintro w' ⟨s0, s1, s2, s3, s4, s5⟩
   go_simp
   with_reducible rfl
  rotate_left
  ·simp only [Act.put, List.setIfInBounds_toArray, List.set_cons_zero, List.set_cons_succ, i64_w, i32_w]
   rfl
  refine pure_ (i := 3) (N := some 14) (v := ?_) (a' := ?_) #[true, true, true, true, true, false, false, false, false] rfl rfl (any_of HT_.out (by kernel_rfl)) (fun _ _ _ h => h) (Or.inl ⟨by rfl, ?_⟩) ?_ ?_
  rotate_left
  ·intro w'
   go_simp
   with_reducible rfl
  rotate_left
  ·simp only [Act.put, List.setIfInBounds_toArray, List.set_cons_zero, List.set_cons_succ, i64_w, i32_w]
   rfl
  refine take_ (i := 5) (N := some 16) (v := ?_) (a' := ?_) #[true, true, true, true, true, true, false, false, false] rfl rfl (take_ofW HT_.out HW_.out (by kernel_rfl)) (fun _ _ _ h => h) (Or.inl ⟨by rfl, ?_⟩) hHeld ?_ ?_
  rotate_left
  ·rintro w' ⟨s0, s1, s2, s3, s4, s5⟩
   go_simp
   with_reducible rfl
  rotate_left
  ·simp only [Act.put, List.setIfInBounds_toArray, List.set_cons_zero, List.set_cons_succ, i64_w, i32_w]
   rfl
  refine pure_ (i := 6) (N := some 17) (v := ?_) (a' := ?_) #[true, true, true, true, true, true, true, false, false] rfl rfl (any_of HT_.out (by kernel_rfl)) (fun _ _ _ h => h) (Or.inl ⟨by rfl, ?_⟩) ?_ ?_
  rotate_left
  ·intro w'
   go_simp
   with_reducible rfl
  rotate_left
  ·simp only [Act.put, List.setIfInBounds_toArray, List.set_cons_zero, List.set_cons_succ, i64_w, i32_w]
   rfl
  refine one_ (i := 7) (N := some 18) #[true, true, true, true, true, true, true, true, false] rfl rfl (one_of HT_.out (by kernel_rfl)) (by decide) (fun K hK => ?_)
  refine goes_ Try.func66 (by kernel_rfl) rfl #[.int .i64 a0, .float .f64 ((a1_1).toNat), .float .f64 ((a2_1).toNat)] (by rfl) rfl rfl (by (try simp only [List.map_toArray, List.map_cons, List.map_nil]); first | done | rfl | (simp only [List.length_drop, List.length_take]; rfl)) ?_
  with_reducible refine (value_floatsCompared.calls a0 ((a1_1).toNat) ((a2_1).toNat) t147 t148 t149 _ A5.out).mono ?_
  rintro e w13 ⟨rfl, hb⟩
  refine ⟨_, rfl, ?_⟩
  have n0_ := kb BK144 hb
  have n1_ := kb BK145 hb
  have n2_ := kb BK146 hb
  have n3_ := bt HB hb
  clear BK144
  clear BK145
  clear BK146
  clear HB
  have BK144 := n0_
  have BK145 := n1_
  have BK146 := n2_
  have HB := n3_
  clear n0_ n1_ n2_ n3_
  (try clear hb)
  (try clear hb2)
  (try clear hk)
  (try clear hi)
  refine hK.out _ _ ⟨bc BK144 0, bc BK144 1, bc BK144 2, bc BK145 0, bc BK145 1, bc BK145 2⟩ (fun hHeld => ?_)
  clear hK K
  refine norm_ (a' := ?_) ?_ ?_
  rotate_left
  ·show Act.put _ (some 18) _ = _
   simp only [Act.put, List.setIfInBounds_toArray, List.set_cons_zero, List.set_cons_succ, i64_w, i32_w]
   rfl
  refine one_ (i := 8) (N := none) #[true, true, true, true, true, true, true, true, true] rfl rfl (one_of HT_.out (by kernel_rfl)) (by decide) (fun K hK => ?_)
  have hs14 : w13.cell? ⟨gb146, 0, none⟩ = some (.int .u8 0) := bc BK146 0
  have hfs14 := blk_frozen BK146.out 0
  have hns14_0 := NB144_146.out
  have hns14_1 := NB145_146.out
  have hms14_0 := NB146_144.out
  have hms14_1 := NB146_145.out
  have hs15 : w13.cell? ⟨gb146, 1, none⟩ = some (.int .u64 0) := bc BK146 1
  have hfs15 := blk_frozen BK146.out 1
  have hns15_0 := NB144_146.out
  have hns15_1 := NB145_146.out
  have hms15_0 := NB146_144.out
  have hms15_1 := NB146_145.out
  have hs16 : w13.cell? ⟨gb146, 2, none⟩ = some (.string (⟨#[]⟩ : ByteArray)) := bc BK146 2
  have hfs16 := blk_frozen BK146.out 2
  have hns16_0 := NB144_146.out
  have hns16_1 := NB145_146.out
  have hms16_0 := NB146_144.out
  have hms16_1 := NB146_145.out
  refine skip_ (w1 := ?_) (by rfl) rfl ?_ ?_
  rotate_left
  ·go_simp
   rfl
  refine hK.out _ _ ⟨((cell_far (p := ⟨gb146, _, none⟩) NB144_146.out _).trans (((cell_far (p := ⟨gb146, _, none⟩) NB144_146.out _).trans (((cell_far (p := ⟨gb146, _, none⟩) NB144_146.out _).trans (hHeld.1)))))), ((cell_far (p := ⟨gb146, _, none⟩) NB144_146.out _).trans (((cell_far (p := ⟨gb146, _, none⟩) NB144_146.out _).trans (((cell_far (p := ⟨gb146, _, none⟩) NB144_146.out _).trans (hHeld.2.1)))))), ((cell_far (p := ⟨gb146, _, none⟩) NB144_146.out _).trans (((cell_far (p := ⟨gb146, _, none⟩) NB144_146.out _).trans (((cell_far (p := ⟨gb146, _, none⟩) NB144_146.out _).trans (hHeld.2.2.1)))))), ((cell_far (p := ⟨gb146, _, none⟩) NB145_146.out _).trans (((cell_far (p := ⟨gb146, _, none⟩) NB145_146.out _).trans (((cell_far (p := ⟨gb146, _, none⟩) NB145_146.out _).trans (hHeld.2.2.2.1)))))), ((cell_far (p := ⟨gb146, _, none⟩) NB145_146.out _).trans (((cell_far (p := ⟨gb146, _, none⟩) NB145_146.out _).trans (((cell_far (p := ⟨gb146, _, none⟩) NB145_146.out _).trans (hHeld.2.2.2.2.1)))))), ((cell_far (p := ⟨gb146, _, none⟩) NB145_146.out _).trans (((cell_far (p := ⟨gb146, _, none⟩) NB145_146.out _).trans (((cell_far (p := ⟨gb146, _, none⟩) NB145_146.out _).trans (hHeld.2.2.2.2.2))))))⟩ (fun hHeld => ?_)
  clear hK K
  refine done_ (done_of HT_.out (by kernel_rfl)) ?_
  try go_wp2
  refine bodyPost_ret (results_cell_row rfl _ _ gb146 27 #[.int .u8 t147, .int .u64 t148, .string t149] (0, 0) _ rfl (by (with_reducible repeat (first | refine blk_drewN ?_ _ | refine blk_drew ?_ | refine blk_alloc ?_ _)); refine blk_put (cs := #[.int .u8 t147, .int .u64 t148, .string (⟨#[]⟩ : ByteArray)]) ?_ 2 _ rfl; (with_reducible repeat (first | refine blk_drewN ?_ _ | refine blk_drew ?_ | refine blk_alloc ?_ _)); refine blk_put (cs := #[.int .u8 t147, .int .u64 0, .string (⟨#[]⟩ : ByteArray)]) ?_ 1 _ rfl; (with_reducible repeat (first | refine blk_drewN ?_ _ | refine blk_drew ?_ | refine blk_alloc ?_ _)); refine blk_put (cs := #[.int .u8 0, .int .u64 0, .string (⟨#[]⟩ : ByteArray)]) ?_ 0 _ rfl; (with_reducible repeat (first | refine blk_drewN ?_ _ | refine blk_drew ?_ | refine blk_alloc ?_ _)); exact BK146.out) Try.underlying27 rfl (by kernel_rfl)) rfl ?_
  exact ⟨by first | rfl | (simp [errW_none, errW_some] <;> rfl) | (simp [*, errW_none, errW_some] <;> rfl), bs HB⟩
 ·rw [if_neg c4] at H
  have c4b0 : (a1_0 == 18) = false := beq_eq_false_iff_ne.mpr c4
  have c4b1 : (a1_0 != 18) = true := bne_iff_ne.mpr c4
  replace H := Option.bind_eq_some_iff.mp H
  obtain ⟨t150, A170, H⟩ := H
  replace H : (if a0 = 9 then ((value_Bool.f (t150 == 0)).bind fun bt151 => (some (bt151.1, bt151.2.1, bt151.2.2))) else (if a0 = 10 then ((value_Bool.f (t150 != 0)).bind fun bt154 => (some (bt154.1, bt154.2.1, bt154.2.2))) else (if a0 = 11 then ((value_Bool.f (decide (t150 < 0))).bind fun bt157 => (some (bt157.1, bt157.2.1, bt157.2.2))) else (if a0 = 12 then ((value_Bool.f (decide (t150 ≤ 0))).bind fun bt160 => (some (bt160.1, bt160.2.1, bt160.2.2))) else (if a0 = 13 then ((value_Bool.f (decide (t150 > 0))).bind fun bt163 => (some (bt163.1, bt163.2.1, bt163.2.2))) else ((value_Bool.f (decide (t150 ≥ 0))).bind fun bt166 => (some (bt166.1, bt166.2.1, bt166.2.2)))))))) = some (r1, r2, r3) := H
  have A17 := Aside0.mk A170
  clear A170
  by_cases c18 : a0 = 9
  ·rw [if_pos c18] at H
   have c18b0 : (a0 == 9) = true := beq_iff_eq.mpr c18
   have c18b1 : (a0 != 9) = false := bne_eq_false_iff_eq.mpr c18
   clear c18
   replace H := Option.bind_eq_some_iff.mp H
   obtain ⟨⟨t151, t152, t153⟩, A190, H⟩ := H
   replace H : (some (t151, t152, t153)) = some (r1, r2, r3) := H
   have A19 := Aside0.mk A190
   clear A190
   simp only [Option.some.injEq, Prod.mk.injEq] at H
   obtain ⟨rfl, rfl, rfl⟩ := H
   go_enter Try.func55, Try.ntmps55
   go_wp2_with (first | ((with_reducible refine gate_dst (N := 4) rfl ?_); refine box_event ?hg (N := 4) ?hd (cs := #[.int .u8 a1_0, .int .u64 a1_1, .string a1_2]) (t := 27) ?hr ?_; (case hd => rfl); (case hg => rfl); (case hr => first | (go_simp; done) | (go_simp; rfl)); intro gb144 hg w20 hbox hb; have n0_ := bt HB hb; have n1_ := Aside0.mk (hbox); have n2_ := gs hg HB; have n3_ := gs hg HB; clear HB; have HB := n0_; have BK144 := n1_; have GW144 := n2_; have GE144 := n3_; clear n0_ n1_ n2_ n3_; clear hb hbox hg) | ((with_reducible refine gate_dst (N := 5) rfl ?_); refine box_event ?hg (N := 5) ?hd (cs := #[.int .u8 a2_0, .int .u64 a2_1, .string a2_2]) (t := 27) ?hr ?_; (case hd => rfl); (case hg => rfl); (case hr => first | (go_simp; done) | (go_simp; rfl)); intro gb145 hg w21 hbox hb; have n0_ := kb BK144 hb; have n1_ := bt HB hb; have n2_ := Aside0.mk (hbox); have n3_ := gs hg HB; have n4_ := gs hg HB; have n5_ := nl hg BK144; have n6_ := ng hg BK144; clear BK144; clear HB; have BK144 := n0_; have HB := n1_; have BK145 := n2_; have GW145 := n3_; have GE145 := n4_; have NB144_145 := n5_; have NB145_144 := n6_; clear n0_ n1_ n2_ n3_ n4_ n5_ n6_; clear hb hbox hg) | ((with_reducible refine gate_dst (N := 6) rfl ?_); refine box_event ?hg (N := 6) ?hd (cs := #[.int .u8 0, .int .u64 0, .string (⟨#[]⟩ : ByteArray)]) (t := 27) ?hr ?_; (case hd => rfl); (case hg => rfl); (case hr => first | (go_simp; done) | (go_simp; rfl)); intro gb146 hg w22 hbox hb; have n0_ := kb BK144 hb; have n1_ := kb BK145 hb; have n2_ := bt HB hb; have n3_ := Aside0.mk (hbox); have n4_ := gs hg HB; have n5_ := gs hg HB; have n6_ := nl hg BK144; have n7_ := ng hg BK144; have n8_ := nl hg BK145; have n9_ := ng hg BK145; clear BK144; clear BK145; clear HB; have BK144 := n0_; have BK145 := n1_; have HB := n2_; have BK146 := n3_; have GW146 := n4_; have GE146 := n5_; have NB144_146 := n6_; have NB146_144 := n7_; have NB145_146 := n8_; have NB146_145 := n9_; clear n0_ n1_ n2_ n3_ n4_ n5_ n6_ n7_ n8_ n9_; clear hb hbox hg; have hnb23 := NB144_145.out; have hnc23 := NB145_144.out; have hnb24 := NB144_146.out; have hnc24 := NB146_144.out; have hcz25_0 : w22.cell? ⟨gb144, 0, none⟩ = some (.int .u8 a1_0) := bc BK144 0; have hcz25_1 : w22.cell? ⟨gb144, 1, none⟩ = some (.int .u64 a1_1) := bc BK144 1; have hcz25_2 : w22.cell? ⟨gb144, 2, none⟩ = some (.string a1_2) := bc BK144 2; have hfz25_0 := blk_frozen BK144.out 0; have hfz25_1 := blk_frozen BK144.out 1; have hfz25_2 := blk_frozen BK144.out 2; have hnb26 := NB145_146.out; have hnc26 := NB146_145.out; have hcz27_0 : w22.cell? ⟨gb145, 0, none⟩ = some (.int .u8 a2_0) := bc BK145 0; have hcz27_1 : w22.cell? ⟨gb145, 1, none⟩ = some (.int .u64 a2_1) := bc BK145 1; have hcz27_2 : w22.cell? ⟨gb145, 2, none⟩ = some (.string a2_2) := bc BK145 2; have hfz27_0 := blk_frozen BK145.out 0; have hfz27_1 := blk_frozen BK145.out 1; have hfz27_2 := blk_frozen BK145.out 2) | ((with_reducible refine gate_callee (f := 67) rfl ?_); refine goesL_ (some 21) rfl rfl Try.func67 (by kernel_rfl) rfl #[.agg #[.int .u8 a1_0, .int .u64 a1_1, .string a1_2], .agg #[.int .u8 a2_0, .int .u64 a2_1, .string a2_2]] rfl (by (try simp only [List.map_toArray, List.map_cons, List.map_nil]); first | done | rfl | (simp only [List.length_drop, List.length_take]; rfl)) ?_; (with_reducible refine (value_order.calls k a1_0 a1_1 a1_2 a2_0 a2_1 a2_2 t150 _ A17.out).mono ?_); rintro e w28 ⟨rfl, hb⟩; refine ⟨_, rfl, ?_⟩; have n0_ := kb BK144 hb; have n1_ := kb BK145 hb; have n2_ := kb BK146 hb; have n3_ := bt HB hb; clear BK144; clear BK145; clear BK146; clear HB; have BK144 := n0_; have BK145 := n1_; have BK146 := n2_; have HB := n3_; clear n0_ n1_ n2_ n3_; (try clear hb); (try clear hb2); (try clear hk); (try clear hi)) | ((with_reducible refine gate_callee (f := 28) rfl ?_); refine goesL_ (some 27) rfl rfl Try.func28 (by kernel_rfl) rfl #[.bool (t150 == 0)] rfl (by (try simp only [List.map_toArray, List.map_cons, List.map_nil]); first | done | rfl | (simp only [List.length_drop, List.length_take]; rfl)) ?_; (with_reducible refine (value_Bool.calls (t150 == 0) t151 t152 t153 _ A19.out).mono ?_); rintro e w29 ⟨rfl, hb⟩; refine ⟨_, rfl, ?_⟩; have n0_ := kb BK144 hb; have n1_ := kb BK145 hb; have n2_ := kb BK146 hb; have n3_ := bt HB hb; clear BK144; clear BK145; clear BK146; clear HB; have BK144 := n0_; have BK145 := n1_; have BK146 := n2_; have HB := n3_; clear n0_ n1_ n2_ n3_; (try clear hb); (try clear hb2); (try clear hk); (try clear hi); have hcz30_0 : w29.cell? ⟨gb146, 0, none⟩ = some (.int .u8 0) := bc BK146 0; have hcz30_1 : w29.cell? ⟨gb146, 1, none⟩ = some (.int .u64 0) := bc BK146 1; have hcz30_2 : w29.cell? ⟨gb146, 2, none⟩ = some (.string (⟨#[]⟩ : ByteArray)) := bc BK146 2; have hfz30_0 := blk_frozen BK146.out 0; have hfz30_1 := blk_frozen BK146.out 1; have hfz30_2 := blk_frozen BK146.out 2))
   refine bodyPost_ret (results_cell_row rfl _ _ gb146 27 #[.int .u8 t151, .int .u64 t152, .string t153] (0, 0) _ rfl (by (with_reducible repeat (first | refine blk_drewN ?_ _ | refine blk_drew ?_ | refine blk_alloc ?_ _)); refine blk_put (cs := #[.int .u8 t151, .int .u64 t152, .string (⟨#[]⟩ : ByteArray)]) ?_ 2 _ rfl; (with_reducible repeat (first | refine blk_drewN ?_ _ | refine blk_drew ?_ | refine blk_alloc ?_ _)); refine blk_put (cs := #[.int .u8 t151, .int .u64 0, .string (⟨#[]⟩ : ByteArray)]) ?_ 1 _ rfl; (with_reducible repeat (first | refine blk_drewN ?_ _ | refine blk_drew ?_ | refine blk_alloc ?_ _)); refine blk_put (cs := #[.int .u8 0, .int .u64 0, .string (⟨#[]⟩ : ByteArray)]) ?_ 0 _ rfl; (with_reducible repeat (first | refine blk_drewN ?_ _ | refine blk_drew ?_ | refine blk_alloc ?_ _)); exact BK146.out) Try.underlying27 rfl (by kernel_rfl)) rfl ?_
   exact ⟨by first | rfl | (simp [errW_none, errW_some] <;> rfl) | (simp [*, errW_none, errW_some] <;> rfl), bs HB⟩
  ·rw [if_neg c18] at H
   have c18b0 : (a0 == 9) = false := beq_eq_false_iff_ne.mpr c18
   have c18b1 : (a0 != 9) = true := bne_iff_ne.mpr c18
   by_cases c31 : a0 = 10
   ·rw [if_pos c31] at H
    have c31b0 : (a0 == 10) = true := beq_iff_eq.mpr c31
    have c31b1 : (a0 != 10) = false := bne_eq_false_iff_eq.mpr c31
    clear c31
    replace H := Option.bind_eq_some_iff.mp H
    obtain ⟨⟨t154, t155, t156⟩, A320, H⟩ := H
    replace H : (some (t154, t155, t156)) = some (r1, r2, r3) := H
    have A32 := Aside0.mk A320
    clear A320
    simp only [Option.some.injEq, Prod.mk.injEq] at H
    obtain ⟨rfl, rfl, rfl⟩ := H
    go_enter Try.func55, Try.ntmps55
    go_wp2_with (first | ((with_reducible refine gate_dst (N := 4) rfl ?_); refine box_event ?hg (N := 4) ?hd (cs := #[.int .u8 a1_0, .int .u64 a1_1, .string a1_2]) (t := 27) ?hr ?_; (case hd => rfl); (case hg => rfl); (case hr => first | (go_simp; done) | (go_simp; rfl)); intro gb144 hg w33 hbox hb; have n0_ := bt HB hb; have n1_ := Aside0.mk (hbox); have n2_ := gs hg HB; have n3_ := gs hg HB; clear HB; have HB := n0_; have BK144 := n1_; have GW144 := n2_; have GE144 := n3_; clear n0_ n1_ n2_ n3_; clear hb hbox hg) | ((with_reducible refine gate_dst (N := 5) rfl ?_); refine box_event ?hg (N := 5) ?hd (cs := #[.int .u8 a2_0, .int .u64 a2_1, .string a2_2]) (t := 27) ?hr ?_; (case hd => rfl); (case hg => rfl); (case hr => first | (go_simp; done) | (go_simp; rfl)); intro gb145 hg w34 hbox hb; have n0_ := kb BK144 hb; have n1_ := bt HB hb; have n2_ := Aside0.mk (hbox); have n3_ := gs hg HB; have n4_ := gs hg HB; have n5_ := nl hg BK144; have n6_ := ng hg BK144; clear BK144; clear HB; have BK144 := n0_; have HB := n1_; have BK145 := n2_; have GW145 := n3_; have GE145 := n4_; have NB144_145 := n5_; have NB145_144 := n6_; clear n0_ n1_ n2_ n3_ n4_ n5_ n6_; clear hb hbox hg) | ((with_reducible refine gate_dst (N := 6) rfl ?_); refine box_event ?hg (N := 6) ?hd (cs := #[.int .u8 0, .int .u64 0, .string (⟨#[]⟩ : ByteArray)]) (t := 27) ?hr ?_; (case hd => rfl); (case hg => rfl); (case hr => first | (go_simp; done) | (go_simp; rfl)); intro gb146 hg w35 hbox hb; have n0_ := kb BK144 hb; have n1_ := kb BK145 hb; have n2_ := bt HB hb; have n3_ := Aside0.mk (hbox); have n4_ := gs hg HB; have n5_ := gs hg HB; have n6_ := nl hg BK144; have n7_ := ng hg BK144; have n8_ := nl hg BK145; have n9_ := ng hg BK145; clear BK144; clear BK145; clear HB; have BK144 := n0_; have BK145 := n1_; have HB := n2_; have BK146 := n3_; have GW146 := n4_; have GE146 := n5_; have NB144_146 := n6_; have NB146_144 := n7_; have NB145_146 := n8_; have NB146_145 := n9_; clear n0_ n1_ n2_ n3_ n4_ n5_ n6_ n7_ n8_ n9_; clear hb hbox hg; have hnb36 := NB144_145.out; have hnc36 := NB145_144.out; have hnb37 := NB144_146.out; have hnc37 := NB146_144.out; have hcz38_0 : w35.cell? ⟨gb144, 0, none⟩ = some (.int .u8 a1_0) := bc BK144 0; have hcz38_1 : w35.cell? ⟨gb144, 1, none⟩ = some (.int .u64 a1_1) := bc BK144 1; have hcz38_2 : w35.cell? ⟨gb144, 2, none⟩ = some (.string a1_2) := bc BK144 2; have hfz38_0 := blk_frozen BK144.out 0; have hfz38_1 := blk_frozen BK144.out 1; have hfz38_2 := blk_frozen BK144.out 2; have hnb39 := NB145_146.out; have hnc39 := NB146_145.out; have hcz40_0 : w35.cell? ⟨gb145, 0, none⟩ = some (.int .u8 a2_0) := bc BK145 0; have hcz40_1 : w35.cell? ⟨gb145, 1, none⟩ = some (.int .u64 a2_1) := bc BK145 1; have hcz40_2 : w35.cell? ⟨gb145, 2, none⟩ = some (.string a2_2) := bc BK145 2; have hfz40_0 := blk_frozen BK145.out 0; have hfz40_1 := blk_frozen BK145.out 1; have hfz40_2 := blk_frozen BK145.out 2) | ((with_reducible refine gate_callee (f := 67) rfl ?_); refine goesL_ (some 21) rfl rfl Try.func67 (by kernel_rfl) rfl #[.agg #[.int .u8 a1_0, .int .u64 a1_1, .string a1_2], .agg #[.int .u8 a2_0, .int .u64 a2_1, .string a2_2]] rfl (by (try simp only [List.map_toArray, List.map_cons, List.map_nil]); first | done | rfl | (simp only [List.length_drop, List.length_take]; rfl)) ?_; (with_reducible refine (value_order.calls k a1_0 a1_1 a1_2 a2_0 a2_1 a2_2 t150 _ A17.out).mono ?_); rintro e w41 ⟨rfl, hb⟩; refine ⟨_, rfl, ?_⟩; have n0_ := kb BK144 hb; have n1_ := kb BK145 hb; have n2_ := kb BK146 hb; have n3_ := bt HB hb; clear BK144; clear BK145; clear BK146; clear HB; have BK144 := n0_; have BK145 := n1_; have BK146 := n2_; have HB := n3_; clear n0_ n1_ n2_ n3_; (try clear hb); (try clear hb2); (try clear hk); (try clear hi)) | ((with_reducible refine gate_callee (f := 28) rfl ?_); refine goesL_ (some 32) rfl rfl Try.func28 (by kernel_rfl) rfl #[.bool (t150 != 0)] rfl (by (try simp only [List.map_toArray, List.map_cons, List.map_nil]); first | done | rfl | (simp only [List.length_drop, List.length_take]; rfl)) ?_; (with_reducible refine (value_Bool.calls (t150 != 0) t154 t155 t156 _ A32.out).mono ?_); rintro e w42 ⟨rfl, hb⟩; refine ⟨_, rfl, ?_⟩; have n0_ := kb BK144 hb; have n1_ := kb BK145 hb; have n2_ := kb BK146 hb; have n3_ := bt HB hb; clear BK144; clear BK145; clear BK146; clear HB; have BK144 := n0_; have BK145 := n1_; have BK146 := n2_; have HB := n3_; clear n0_ n1_ n2_ n3_; (try clear hb); (try clear hb2); (try clear hk); (try clear hi); have hcz43_0 : w42.cell? ⟨gb146, 0, none⟩ = some (.int .u8 0) := bc BK146 0; have hcz43_1 : w42.cell? ⟨gb146, 1, none⟩ = some (.int .u64 0) := bc BK146 1; have hcz43_2 : w42.cell? ⟨gb146, 2, none⟩ = some (.string (⟨#[]⟩ : ByteArray)) := bc BK146 2; have hfz43_0 := blk_frozen BK146.out 0; have hfz43_1 := blk_frozen BK146.out 1; have hfz43_2 := blk_frozen BK146.out 2))
    refine bodyPost_ret (results_cell_row rfl _ _ gb146 27 #[.int .u8 t154, .int .u64 t155, .string t156] (0, 0) _ rfl (by (with_reducible repeat (first | refine blk_drewN ?_ _ | refine blk_drew ?_ | refine blk_alloc ?_ _)); refine blk_put (cs := #[.int .u8 t154, .int .u64 t155, .string (⟨#[]⟩ : ByteArray)]) ?_ 2 _ rfl; (with_reducible repeat (first | refine blk_drewN ?_ _ | refine blk_drew ?_ | refine blk_alloc ?_ _)); refine blk_put (cs := #[.int .u8 t154, .int .u64 0, .string (⟨#[]⟩ : ByteArray)]) ?_ 1 _ rfl; (with_reducible repeat (first | refine blk_drewN ?_ _ | refine blk_drew ?_ | refine blk_alloc ?_ _)); refine blk_put (cs := #[.int .u8 0, .int .u64 0, .string (⟨#[]⟩ : ByteArray)]) ?_ 0 _ rfl; (with_reducible repeat (first | refine blk_drewN ?_ _ | refine blk_drew ?_ | refine blk_alloc ?_ _)); exact BK146.out) Try.underlying27 rfl (by kernel_rfl)) rfl ?_
    exact ⟨by first | rfl | (simp [errW_none, errW_some] <;> rfl) | (simp [*, errW_none, errW_some] <;> rfl), bs HB⟩
   ·rw [if_neg c31] at H
    have c31b0 : (a0 == 10) = false := beq_eq_false_iff_ne.mpr c31
    have c31b1 : (a0 != 10) = true := bne_iff_ne.mpr c31
    by_cases c44 : a0 = 11
    ·rw [if_pos c44] at H
     have c44b0 : (a0 == 11) = true := beq_iff_eq.mpr c44
     have c44b1 : (a0 != 11) = false := bne_eq_false_iff_eq.mpr c44
     clear c44
     replace H := Option.bind_eq_some_iff.mp H
     obtain ⟨⟨t157, t158, t159⟩, A450, H⟩ := H
     replace H : (some (t157, t158, t159)) = some (r1, r2, r3) := H
     have A45 := Aside0.mk A450
     clear A450
     simp only [Option.some.injEq, Prod.mk.injEq] at H
     obtain ⟨rfl, rfl, rfl⟩ := H
     go_enter Try.func55, Try.ntmps55
     go_wp2_with (first | ((with_reducible refine gate_dst (N := 4) rfl ?_); refine box_event ?hg (N := 4) ?hd (cs := #[.int .u8 a1_0, .int .u64 a1_1, .string a1_2]) (t := 27) ?hr ?_; (case hd => rfl); (case hg => rfl); (case hr => first | (go_simp; done) | (go_simp; rfl)); intro gb144 hg w46 hbox hb; have n0_ := bt HB hb; have n1_ := Aside0.mk (hbox); have n2_ := gs hg HB; have n3_ := gs hg HB; clear HB; have HB := n0_; have BK144 := n1_; have GW144 := n2_; have GE144 := n3_; clear n0_ n1_ n2_ n3_; clear hb hbox hg) | ((with_reducible refine gate_dst (N := 5) rfl ?_); refine box_event ?hg (N := 5) ?hd (cs := #[.int .u8 a2_0, .int .u64 a2_1, .string a2_2]) (t := 27) ?hr ?_; (case hd => rfl); (case hg => rfl); (case hr => first | (go_simp; done) | (go_simp; rfl)); intro gb145 hg w47 hbox hb; have n0_ := kb BK144 hb; have n1_ := bt HB hb; have n2_ := Aside0.mk (hbox); have n3_ := gs hg HB; have n4_ := gs hg HB; have n5_ := nl hg BK144; have n6_ := ng hg BK144; clear BK144; clear HB; have BK144 := n0_; have HB := n1_; have BK145 := n2_; have GW145 := n3_; have GE145 := n4_; have NB144_145 := n5_; have NB145_144 := n6_; clear n0_ n1_ n2_ n3_ n4_ n5_ n6_; clear hb hbox hg) | ((with_reducible refine gate_dst (N := 6) rfl ?_); refine box_event ?hg (N := 6) ?hd (cs := #[.int .u8 0, .int .u64 0, .string (⟨#[]⟩ : ByteArray)]) (t := 27) ?hr ?_; (case hd => rfl); (case hg => rfl); (case hr => first | (go_simp; done) | (go_simp; rfl)); intro gb146 hg w48 hbox hb; have n0_ := kb BK144 hb; have n1_ := kb BK145 hb; have n2_ := bt HB hb; have n3_ := Aside0.mk (hbox); have n4_ := gs hg HB; have n5_ := gs hg HB; have n6_ := nl hg BK144; have n7_ := ng hg BK144; have n8_ := nl hg BK145; have n9_ := ng hg BK145; clear BK144; clear BK145; clear HB; have BK144 := n0_; have BK145 := n1_; have HB := n2_; have BK146 := n3_; have GW146 := n4_; have GE146 := n5_; have NB144_146 := n6_; have NB146_144 := n7_; have NB145_146 := n8_; have NB146_145 := n9_; clear n0_ n1_ n2_ n3_ n4_ n5_ n6_ n7_ n8_ n9_; clear hb hbox hg; have hnb49 := NB144_145.out; have hnc49 := NB145_144.out; have hnb50 := NB144_146.out; have hnc50 := NB146_144.out; have hcz51_0 : w48.cell? ⟨gb144, 0, none⟩ = some (.int .u8 a1_0) := bc BK144 0; have hcz51_1 : w48.cell? ⟨gb144, 1, none⟩ = some (.int .u64 a1_1) := bc BK144 1; have hcz51_2 : w48.cell? ⟨gb144, 2, none⟩ = some (.string a1_2) := bc BK144 2; have hfz51_0 := blk_frozen BK144.out 0; have hfz51_1 := blk_frozen BK144.out 1; have hfz51_2 := blk_frozen BK144.out 2; have hnb52 := NB145_146.out; have hnc52 := NB146_145.out; have hcz53_0 : w48.cell? ⟨gb145, 0, none⟩ = some (.int .u8 a2_0) := bc BK145 0; have hcz53_1 : w48.cell? ⟨gb145, 1, none⟩ = some (.int .u64 a2_1) := bc BK145 1; have hcz53_2 : w48.cell? ⟨gb145, 2, none⟩ = some (.string a2_2) := bc BK145 2; have hfz53_0 := blk_frozen BK145.out 0; have hfz53_1 := blk_frozen BK145.out 1; have hfz53_2 := blk_frozen BK145.out 2) | ((with_reducible refine gate_callee (f := 67) rfl ?_); refine goesL_ (some 21) rfl rfl Try.func67 (by kernel_rfl) rfl #[.agg #[.int .u8 a1_0, .int .u64 a1_1, .string a1_2], .agg #[.int .u8 a2_0, .int .u64 a2_1, .string a2_2]] rfl (by (try simp only [List.map_toArray, List.map_cons, List.map_nil]); first | done | rfl | (simp only [List.length_drop, List.length_take]; rfl)) ?_; (with_reducible refine (value_order.calls k a1_0 a1_1 a1_2 a2_0 a2_1 a2_2 t150 _ A17.out).mono ?_); rintro e w54 ⟨rfl, hb⟩; refine ⟨_, rfl, ?_⟩; have n0_ := kb BK144 hb; have n1_ := kb BK145 hb; have n2_ := kb BK146 hb; have n3_ := bt HB hb; clear BK144; clear BK145; clear BK146; clear HB; have BK144 := n0_; have BK145 := n1_; have BK146 := n2_; have HB := n3_; clear n0_ n1_ n2_ n3_; (try clear hb); (try clear hb2); (try clear hk); (try clear hi)) | ((with_reducible refine gate_callee (f := 28) rfl ?_); refine goesL_ (some 37) rfl rfl Try.func28 (by kernel_rfl) rfl #[.bool (decide (t150 < 0))] rfl (by (try simp only [List.map_toArray, List.map_cons, List.map_nil]); first | done | rfl | (simp only [List.length_drop, List.length_take]; rfl)) ?_; (with_reducible refine (value_Bool.calls (decide (t150 < 0)) t157 t158 t159 _ A45.out).mono ?_); rintro e w55 ⟨rfl, hb⟩; refine ⟨_, rfl, ?_⟩; have n0_ := kb BK144 hb; have n1_ := kb BK145 hb; have n2_ := kb BK146 hb; have n3_ := bt HB hb; clear BK144; clear BK145; clear BK146; clear HB; have BK144 := n0_; have BK145 := n1_; have BK146 := n2_; have HB := n3_; clear n0_ n1_ n2_ n3_; (try clear hb); (try clear hb2); (try clear hk); (try clear hi); have hcz56_0 : w55.cell? ⟨gb146, 0, none⟩ = some (.int .u8 0) := bc BK146 0; have hcz56_1 : w55.cell? ⟨gb146, 1, none⟩ = some (.int .u64 0) := bc BK146 1; have hcz56_2 : w55.cell? ⟨gb146, 2, none⟩ = some (.string (⟨#[]⟩ : ByteArray)) := bc BK146 2; have hfz56_0 := blk_frozen BK146.out 0; have hfz56_1 := blk_frozen BK146.out 1; have hfz56_2 := blk_frozen BK146.out 2))
     refine bodyPost_ret (results_cell_row rfl _ _ gb146 27 #[.int .u8 t157, .int .u64 t158, .string t159] (0, 0) _ rfl (by (with_reducible repeat (first | refine blk_drewN ?_ _ | refine blk_drew ?_ | refine blk_alloc ?_ _)); refine blk_put (cs := #[.int .u8 t157, .int .u64 t158, .string (⟨#[]⟩ : ByteArray)]) ?_ 2 _ rfl; (with_reducible repeat (first | refine blk_drewN ?_ _ | refine blk_drew ?_ | refine blk_alloc ?_ _)); refine blk_put (cs := #[.int .u8 t157, .int .u64 0, .string (⟨#[]⟩ : ByteArray)]) ?_ 1 _ rfl; (with_reducible repeat (first | refine blk_drewN ?_ _ | refine blk_drew ?_ | refine blk_alloc ?_ _)); refine blk_put (cs := #[.int .u8 0, .int .u64 0, .string (⟨#[]⟩ : ByteArray)]) ?_ 0 _ rfl; (with_reducible repeat (first | refine blk_drewN ?_ _ | refine blk_drew ?_ | refine blk_alloc ?_ _)); exact BK146.out) Try.underlying27 rfl (by kernel_rfl)) rfl ?_
     exact ⟨by first | rfl | (simp [errW_none, errW_some] <;> rfl) | (simp [*, errW_none, errW_some] <;> rfl), bs HB⟩
    ·rw [if_neg c44] at H
     have c44b0 : (a0 == 11) = false := beq_eq_false_iff_ne.mpr c44
     have c44b1 : (a0 != 11) = true := bne_iff_ne.mpr c44
     by_cases c57 : a0 = 12
     ·rw [if_pos c57] at H
      have c57b0 : (a0 == 12) = true := beq_iff_eq.mpr c57
      have c57b1 : (a0 != 12) = false := bne_eq_false_iff_eq.mpr c57
      clear c57
      replace H := Option.bind_eq_some_iff.mp H
      obtain ⟨⟨t160, t161, t162⟩, A580, H⟩ := H
      replace H : (some (t160, t161, t162)) = some (r1, r2, r3) := H
      have A58 := Aside0.mk A580
      clear A580
      simp only [Option.some.injEq, Prod.mk.injEq] at H
      obtain ⟨rfl, rfl, rfl⟩ := H
      go_enter Try.func55, Try.ntmps55
      go_wp2_with (first | ((with_reducible refine gate_dst (N := 4) rfl ?_); refine box_event ?hg (N := 4) ?hd (cs := #[.int .u8 a1_0, .int .u64 a1_1, .string a1_2]) (t := 27) ?hr ?_; (case hd => rfl); (case hg => rfl); (case hr => first | (go_simp; done) | (go_simp; rfl)); intro gb144 hg w59 hbox hb; have n0_ := bt HB hb; have n1_ := Aside0.mk (hbox); have n2_ := gs hg HB; have n3_ := gs hg HB; clear HB; have HB := n0_; have BK144 := n1_; have GW144 := n2_; have GE144 := n3_; clear n0_ n1_ n2_ n3_; clear hb hbox hg) | ((with_reducible refine gate_dst (N := 5) rfl ?_); refine box_event ?hg (N := 5) ?hd (cs := #[.int .u8 a2_0, .int .u64 a2_1, .string a2_2]) (t := 27) ?hr ?_; (case hd => rfl); (case hg => rfl); (case hr => first | (go_simp; done) | (go_simp; rfl)); intro gb145 hg w60 hbox hb; have n0_ := kb BK144 hb; have n1_ := bt HB hb; have n2_ := Aside0.mk (hbox); have n3_ := gs hg HB; have n4_ := gs hg HB; have n5_ := nl hg BK144; have n6_ := ng hg BK144; clear BK144; clear HB; have BK144 := n0_; have HB := n1_; have BK145 := n2_; have GW145 := n3_; have GE145 := n4_; have NB144_145 := n5_; have NB145_144 := n6_; clear n0_ n1_ n2_ n3_ n4_ n5_ n6_; clear hb hbox hg) | ((with_reducible refine gate_dst (N := 6) rfl ?_); refine box_event ?hg (N := 6) ?hd (cs := #[.int .u8 0, .int .u64 0, .string (⟨#[]⟩ : ByteArray)]) (t := 27) ?hr ?_; (case hd => rfl); (case hg => rfl); (case hr => first | (go_simp; done) | (go_simp; rfl)); intro gb146 hg w61 hbox hb; have n0_ := kb BK144 hb; have n1_ := kb BK145 hb; have n2_ := bt HB hb; have n3_ := Aside0.mk (hbox); have n4_ := gs hg HB; have n5_ := gs hg HB; have n6_ := nl hg BK144; have n7_ := ng hg BK144; have n8_ := nl hg BK145; have n9_ := ng hg BK145; clear BK144; clear BK145; clear HB; have BK144 := n0_; have BK145 := n1_; have HB := n2_; have BK146 := n3_; have GW146 := n4_; have GE146 := n5_; have NB144_146 := n6_; have NB146_144 := n7_; have NB145_146 := n8_; have NB146_145 := n9_; clear n0_ n1_ n2_ n3_ n4_ n5_ n6_ n7_ n8_ n9_; clear hb hbox hg; have hnb62 := NB144_145.out; have hnc62 := NB145_144.out; have hnb63 := NB144_146.out; have hnc63 := NB146_144.out; have hcz64_0 : w61.cell? ⟨gb144, 0, none⟩ = some (.int .u8 a1_0) := bc BK144 0; have hcz64_1 : w61.cell? ⟨gb144, 1, none⟩ = some (.int .u64 a1_1) := bc BK144 1; have hcz64_2 : w61.cell? ⟨gb144, 2, none⟩ = some (.string a1_2) := bc BK144 2; have hfz64_0 := blk_frozen BK144.out 0; have hfz64_1 := blk_frozen BK144.out 1; have hfz64_2 := blk_frozen BK144.out 2; have hnb65 := NB145_146.out; have hnc65 := NB146_145.out; have hcz66_0 : w61.cell? ⟨gb145, 0, none⟩ = some (.int .u8 a2_0) := bc BK145 0; have hcz66_1 : w61.cell? ⟨gb145, 1, none⟩ = some (.int .u64 a2_1) := bc BK145 1; have hcz66_2 : w61.cell? ⟨gb145, 2, none⟩ = some (.string a2_2) := bc BK145 2; have hfz66_0 := blk_frozen BK145.out 0; have hfz66_1 := blk_frozen BK145.out 1; have hfz66_2 := blk_frozen BK145.out 2) | ((with_reducible refine gate_callee (f := 67) rfl ?_); refine goesL_ (some 21) rfl rfl Try.func67 (by kernel_rfl) rfl #[.agg #[.int .u8 a1_0, .int .u64 a1_1, .string a1_2], .agg #[.int .u8 a2_0, .int .u64 a2_1, .string a2_2]] rfl (by (try simp only [List.map_toArray, List.map_cons, List.map_nil]); first | done | rfl | (simp only [List.length_drop, List.length_take]; rfl)) ?_; (with_reducible refine (value_order.calls k a1_0 a1_1 a1_2 a2_0 a2_1 a2_2 t150 _ A17.out).mono ?_); rintro e w67 ⟨rfl, hb⟩; refine ⟨_, rfl, ?_⟩; have n0_ := kb BK144 hb; have n1_ := kb BK145 hb; have n2_ := kb BK146 hb; have n3_ := bt HB hb; clear BK144; clear BK145; clear BK146; clear HB; have BK144 := n0_; have BK145 := n1_; have BK146 := n2_; have HB := n3_; clear n0_ n1_ n2_ n3_; (try clear hb); (try clear hb2); (try clear hk); (try clear hi)) | ((with_reducible refine gate_callee (f := 28) rfl ?_); refine goesL_ (some 42) rfl rfl Try.func28 (by kernel_rfl) rfl #[.bool (decide (t150 ≤ 0))] rfl (by (try simp only [List.map_toArray, List.map_cons, List.map_nil]); first | done | rfl | (simp only [List.length_drop, List.length_take]; rfl)) ?_; (with_reducible refine (value_Bool.calls (decide (t150 ≤ 0)) t160 t161 t162 _ A58.out).mono ?_); rintro e w68 ⟨rfl, hb⟩; refine ⟨_, rfl, ?_⟩; have n0_ := kb BK144 hb; have n1_ := kb BK145 hb; have n2_ := kb BK146 hb; have n3_ := bt HB hb; clear BK144; clear BK145; clear BK146; clear HB; have BK144 := n0_; have BK145 := n1_; have BK146 := n2_; have HB := n3_; clear n0_ n1_ n2_ n3_; (try clear hb); (try clear hb2); (try clear hk); (try clear hi); have hcz69_0 : w68.cell? ⟨gb146, 0, none⟩ = some (.int .u8 0) := bc BK146 0; have hcz69_1 : w68.cell? ⟨gb146, 1, none⟩ = some (.int .u64 0) := bc BK146 1; have hcz69_2 : w68.cell? ⟨gb146, 2, none⟩ = some (.string (⟨#[]⟩ : ByteArray)) := bc BK146 2; have hfz69_0 := blk_frozen BK146.out 0; have hfz69_1 := blk_frozen BK146.out 1; have hfz69_2 := blk_frozen BK146.out 2))
      refine bodyPost_ret (results_cell_row rfl _ _ gb146 27 #[.int .u8 t160, .int .u64 t161, .string t162] (0, 0) _ rfl (by (with_reducible repeat (first | refine blk_drewN ?_ _ | refine blk_drew ?_ | refine blk_alloc ?_ _)); refine blk_put (cs := #[.int .u8 t160, .int .u64 t161, .string (⟨#[]⟩ : ByteArray)]) ?_ 2 _ rfl; (with_reducible repeat (first | refine blk_drewN ?_ _ | refine blk_drew ?_ | refine blk_alloc ?_ _)); refine blk_put (cs := #[.int .u8 t160, .int .u64 0, .string (⟨#[]⟩ : ByteArray)]) ?_ 1 _ rfl; (with_reducible repeat (first | refine blk_drewN ?_ _ | refine blk_drew ?_ | refine blk_alloc ?_ _)); refine blk_put (cs := #[.int .u8 0, .int .u64 0, .string (⟨#[]⟩ : ByteArray)]) ?_ 0 _ rfl; (with_reducible repeat (first | refine blk_drewN ?_ _ | refine blk_drew ?_ | refine blk_alloc ?_ _)); exact BK146.out) Try.underlying27 rfl (by kernel_rfl)) rfl ?_
      exact ⟨by first | rfl | (simp [errW_none, errW_some] <;> rfl) | (simp [*, errW_none, errW_some] <;> rfl), bs HB⟩
     ·rw [if_neg c57] at H
      have c57b0 : (a0 == 12) = false := beq_eq_false_iff_ne.mpr c57
      have c57b1 : (a0 != 12) = true := bne_iff_ne.mpr c57
      by_cases c70 : a0 = 13
      ·rw [if_pos c70] at H
       have c70b0 : (a0 == 13) = true := beq_iff_eq.mpr c70
       have c70b1 : (a0 != 13) = false := bne_eq_false_iff_eq.mpr c70
       clear c70
       replace H := Option.bind_eq_some_iff.mp H
       obtain ⟨⟨t163, t164, t165⟩, A710, H⟩ := H
       replace H : (some (t163, t164, t165)) = some (r1, r2, r3) := H
       have A71 := Aside0.mk A710
       clear A710
       simp only [Option.some.injEq, Prod.mk.injEq] at H
       obtain ⟨rfl, rfl, rfl⟩ := H
       go_enter Try.func55, Try.ntmps55
       go_wp2_with (first | ((with_reducible refine gate_dst (N := 4) rfl ?_); refine box_event ?hg (N := 4) ?hd (cs := #[.int .u8 a1_0, .int .u64 a1_1, .string a1_2]) (t := 27) ?hr ?_; (case hd => rfl); (case hg => rfl); (case hr => first | (go_simp; done) | (go_simp; rfl)); intro gb144 hg w72 hbox hb; have n0_ := bt HB hb; have n1_ := Aside0.mk (hbox); have n2_ := gs hg HB; have n3_ := gs hg HB; clear HB; have HB := n0_; have BK144 := n1_; have GW144 := n2_; have GE144 := n3_; clear n0_ n1_ n2_ n3_; clear hb hbox hg) | ((with_reducible refine gate_dst (N := 5) rfl ?_); refine box_event ?hg (N := 5) ?hd (cs := #[.int .u8 a2_0, .int .u64 a2_1, .string a2_2]) (t := 27) ?hr ?_; (case hd => rfl); (case hg => rfl); (case hr => first | (go_simp; done) | (go_simp; rfl)); intro gb145 hg w73 hbox hb; have n0_ := kb BK144 hb; have n1_ := bt HB hb; have n2_ := Aside0.mk (hbox); have n3_ := gs hg HB; have n4_ := gs hg HB; have n5_ := nl hg BK144; have n6_ := ng hg BK144; clear BK144; clear HB; have BK144 := n0_; have HB := n1_; have BK145 := n2_; have GW145 := n3_; have GE145 := n4_; have NB144_145 := n5_; have NB145_144 := n6_; clear n0_ n1_ n2_ n3_ n4_ n5_ n6_; clear hb hbox hg) | ((with_reducible refine gate_dst (N := 6) rfl ?_); refine box_event ?hg (N := 6) ?hd (cs := #[.int .u8 0, .int .u64 0, .string (⟨#[]⟩ : ByteArray)]) (t := 27) ?hr ?_; (case hd => rfl); (case hg => rfl); (case hr => first | (go_simp; done) | (go_simp; rfl)); intro gb146 hg w74 hbox hb; have n0_ := kb BK144 hb; have n1_ := kb BK145 hb; have n2_ := bt HB hb; have n3_ := Aside0.mk (hbox); have n4_ := gs hg HB; have n5_ := gs hg HB; have n6_ := nl hg BK144; have n7_ := ng hg BK144; have n8_ := nl hg BK145; have n9_ := ng hg BK145; clear BK144; clear BK145; clear HB; have BK144 := n0_; have BK145 := n1_; have HB := n2_; have BK146 := n3_; have GW146 := n4_; have GE146 := n5_; have NB144_146 := n6_; have NB146_144 := n7_; have NB145_146 := n8_; have NB146_145 := n9_; clear n0_ n1_ n2_ n3_ n4_ n5_ n6_ n7_ n8_ n9_; clear hb hbox hg; have hnb75 := NB144_145.out; have hnc75 := NB145_144.out; have hnb76 := NB144_146.out; have hnc76 := NB146_144.out; have hcz77_0 : w74.cell? ⟨gb144, 0, none⟩ = some (.int .u8 a1_0) := bc BK144 0; have hcz77_1 : w74.cell? ⟨gb144, 1, none⟩ = some (.int .u64 a1_1) := bc BK144 1; have hcz77_2 : w74.cell? ⟨gb144, 2, none⟩ = some (.string a1_2) := bc BK144 2; have hfz77_0 := blk_frozen BK144.out 0; have hfz77_1 := blk_frozen BK144.out 1; have hfz77_2 := blk_frozen BK144.out 2; have hnb78 := NB145_146.out; have hnc78 := NB146_145.out; have hcz79_0 : w74.cell? ⟨gb145, 0, none⟩ = some (.int .u8 a2_0) := bc BK145 0; have hcz79_1 : w74.cell? ⟨gb145, 1, none⟩ = some (.int .u64 a2_1) := bc BK145 1; have hcz79_2 : w74.cell? ⟨gb145, 2, none⟩ = some (.string a2_2) := bc BK145 2; have hfz79_0 := blk_frozen BK145.out 0; have hfz79_1 := blk_frozen BK145.out 1; have hfz79_2 := blk_frozen BK145.out 2) | ((with_reducible refine gate_callee (f := 67) rfl ?_); refine goesL_ (some 21) rfl rfl Try.func67 (by kernel_rfl) rfl #[.agg #[.int .u8 a1_0, .int .u64 a1_1, .string a1_2], .agg #[.int .u8 a2_0, .int .u64 a2_1, .string a2_2]] rfl (by (try simp only [List.map_toArray, List.map_cons, List.map_nil]); first | done | rfl | (simp only [List.length_drop, List.length_take]; rfl)) ?_; (with_reducible refine (value_order.calls k a1_0 a1_1 a1_2 a2_0 a2_1 a2_2 t150 _ A17.out).mono ?_); rintro e w80 ⟨rfl, hb⟩; refine ⟨_, rfl, ?_⟩; have n0_ := kb BK144 hb; have n1_ := kb BK145 hb; have n2_ := kb BK146 hb; have n3_ := bt HB hb; clear BK144; clear BK145; clear BK146; clear HB; have BK144 := n0_; have BK145 := n1_; have BK146 := n2_; have HB := n3_; clear n0_ n1_ n2_ n3_; (try clear hb); (try clear hb2); (try clear hk); (try clear hi)) | ((with_reducible refine gate_callee (f := 28) rfl ?_); refine goesL_ (some 47) rfl rfl Try.func28 (by kernel_rfl) rfl #[.bool (decide (t150 > 0))] rfl (by (try simp only [List.map_toArray, List.map_cons, List.map_nil]); first | done | rfl | (simp only [List.length_drop, List.length_take]; rfl)) ?_; (with_reducible refine (value_Bool.calls (decide (t150 > 0)) t163 t164 t165 _ A71.out).mono ?_); rintro e w81 ⟨rfl, hb⟩; refine ⟨_, rfl, ?_⟩; have n0_ := kb BK144 hb; have n1_ := kb BK145 hb; have n2_ := kb BK146 hb; have n3_ := bt HB hb; clear BK144; clear BK145; clear BK146; clear HB; have BK144 := n0_; have BK145 := n1_; have BK146 := n2_; have HB := n3_; clear n0_ n1_ n2_ n3_; (try clear hb); (try clear hb2); (try clear hk); (try clear hi); have hcz82_0 : w81.cell? ⟨gb146, 0, none⟩ = some (.int .u8 0) := bc BK146 0; have hcz82_1 : w81.cell? ⟨gb146, 1, none⟩ = some (.int .u64 0) := bc BK146 1; have hcz82_2 : w81.cell? ⟨gb146, 2, none⟩ = some (.string (⟨#[]⟩ : ByteArray)) := bc BK146 2; have hfz82_0 := blk_frozen BK146.out 0; have hfz82_1 := blk_frozen BK146.out 1; have hfz82_2 := blk_frozen BK146.out 2))
       refine bodyPost_ret (results_cell_row rfl _ _ gb146 27 #[.int .u8 t163, .int .u64 t164, .string t165] (0, 0) _ rfl (by (with_reducible repeat (first | refine blk_drewN ?_ _ | refine blk_drew ?_ | refine blk_alloc ?_ _)); refine blk_put (cs := #[.int .u8 t163, .int .u64 t164, .string (⟨#[]⟩ : ByteArray)]) ?_ 2 _ rfl; (with_reducible repeat (first | refine blk_drewN ?_ _ | refine blk_drew ?_ | refine blk_alloc ?_ _)); refine blk_put (cs := #[.int .u8 t163, .int .u64 0, .string (⟨#[]⟩ : ByteArray)]) ?_ 1 _ rfl; (with_reducible repeat (first | refine blk_drewN ?_ _ | refine blk_drew ?_ | refine blk_alloc ?_ _)); refine blk_put (cs := #[.int .u8 0, .int .u64 0, .string (⟨#[]⟩ : ByteArray)]) ?_ 0 _ rfl; (with_reducible repeat (first | refine blk_drewN ?_ _ | refine blk_drew ?_ | refine blk_alloc ?_ _)); exact BK146.out) Try.underlying27 rfl (by kernel_rfl)) rfl ?_
       exact ⟨by first | rfl | (simp [errW_none, errW_some] <;> rfl) | (simp [*, errW_none, errW_some] <;> rfl), bs HB⟩
      ·rw [if_neg c70] at H
       have c70b0 : (a0 == 13) = false := beq_eq_false_iff_ne.mpr c70
       have c70b1 : (a0 != 13) = true := bne_iff_ne.mpr c70
       replace H := Option.bind_eq_some_iff.mp H
       obtain ⟨⟨t166, t167, t168⟩, A830, H⟩ := H
       replace H : (some (t166, t167, t168)) = some (r1, r2, r3) := H
       have A83 := Aside0.mk A830
       clear A830
       simp only [Option.some.injEq, Prod.mk.injEq] at H
       obtain ⟨rfl, rfl, rfl⟩ := H
       go_enter Try.func55, Try.ntmps55
       go_wp2_with (first | ((with_reducible refine gate_dst (N := 4) rfl ?_); refine box_event ?hg (N := 4) ?hd (cs := #[.int .u8 a1_0, .int .u64 a1_1, .string a1_2]) (t := 27) ?hr ?_; (case hd => rfl); (case hg => rfl); (case hr => first | (go_simp; done) | (go_simp; rfl)); intro gb144 hg w84 hbox hb; have n0_ := bt HB hb; have n1_ := Aside0.mk (hbox); have n2_ := gs hg HB; have n3_ := gs hg HB; clear HB; have HB := n0_; have BK144 := n1_; have GW144 := n2_; have GE144 := n3_; clear n0_ n1_ n2_ n3_; clear hb hbox hg) | ((with_reducible refine gate_dst (N := 5) rfl ?_); refine box_event ?hg (N := 5) ?hd (cs := #[.int .u8 a2_0, .int .u64 a2_1, .string a2_2]) (t := 27) ?hr ?_; (case hd => rfl); (case hg => rfl); (case hr => first | (go_simp; done) | (go_simp; rfl)); intro gb145 hg w85 hbox hb; have n0_ := kb BK144 hb; have n1_ := bt HB hb; have n2_ := Aside0.mk (hbox); have n3_ := gs hg HB; have n4_ := gs hg HB; have n5_ := nl hg BK144; have n6_ := ng hg BK144; clear BK144; clear HB; have BK144 := n0_; have HB := n1_; have BK145 := n2_; have GW145 := n3_; have GE145 := n4_; have NB144_145 := n5_; have NB145_144 := n6_; clear n0_ n1_ n2_ n3_ n4_ n5_ n6_; clear hb hbox hg) | ((with_reducible refine gate_dst (N := 6) rfl ?_); refine box_event ?hg (N := 6) ?hd (cs := #[.int .u8 0, .int .u64 0, .string (⟨#[]⟩ : ByteArray)]) (t := 27) ?hr ?_; (case hd => rfl); (case hg => rfl); (case hr => first | (go_simp; done) | (go_simp; rfl)); intro gb146 hg w86 hbox hb; have n0_ := kb BK144 hb; have n1_ := kb BK145 hb; have n2_ := bt HB hb; have n3_ := Aside0.mk (hbox); have n4_ := gs hg HB; have n5_ := gs hg HB; have n6_ := nl hg BK144; have n7_ := ng hg BK144; have n8_ := nl hg BK145; have n9_ := ng hg BK145; clear BK144; clear BK145; clear HB; have BK144 := n0_; have BK145 := n1_; have HB := n2_; have BK146 := n3_; have GW146 := n4_; have GE146 := n5_; have NB144_146 := n6_; have NB146_144 := n7_; have NB145_146 := n8_; have NB146_145 := n9_; clear n0_ n1_ n2_ n3_ n4_ n5_ n6_ n7_ n8_ n9_; clear hb hbox hg; have hnb87 := NB144_145.out; have hnc87 := NB145_144.out; have hnb88 := NB144_146.out; have hnc88 := NB146_144.out; have hcz89_0 : w86.cell? ⟨gb144, 0, none⟩ = some (.int .u8 a1_0) := bc BK144 0; have hcz89_1 : w86.cell? ⟨gb144, 1, none⟩ = some (.int .u64 a1_1) := bc BK144 1; have hcz89_2 : w86.cell? ⟨gb144, 2, none⟩ = some (.string a1_2) := bc BK144 2; have hfz89_0 := blk_frozen BK144.out 0; have hfz89_1 := blk_frozen BK144.out 1; have hfz89_2 := blk_frozen BK144.out 2; have hnb90 := NB145_146.out; have hnc90 := NB146_145.out; have hcz91_0 : w86.cell? ⟨gb145, 0, none⟩ = some (.int .u8 a2_0) := bc BK145 0; have hcz91_1 : w86.cell? ⟨gb145, 1, none⟩ = some (.int .u64 a2_1) := bc BK145 1; have hcz91_2 : w86.cell? ⟨gb145, 2, none⟩ = some (.string a2_2) := bc BK145 2; have hfz91_0 := blk_frozen BK145.out 0; have hfz91_1 := blk_frozen BK145.out 1; have hfz91_2 := blk_frozen BK145.out 2) | ((with_reducible refine gate_callee (f := 67) rfl ?_); refine goesL_ (some 21) rfl rfl Try.func67 (by kernel_rfl) rfl #[.agg #[.int .u8 a1_0, .int .u64 a1_1, .string a1_2], .agg #[.int .u8 a2_0, .int .u64 a2_1, .string a2_2]] rfl (by (try simp only [List.map_toArray, List.map_cons, List.map_nil]); first | done | rfl | (simp only [List.length_drop, List.length_take]; rfl)) ?_; (with_reducible refine (value_order.calls k a1_0 a1_1 a1_2 a2_0 a2_1 a2_2 t150 _ A17.out).mono ?_); rintro e w92 ⟨rfl, hb⟩; refine ⟨_, rfl, ?_⟩; have n0_ := kb BK144 hb; have n1_ := kb BK145 hb; have n2_ := kb BK146 hb; have n3_ := bt HB hb; clear BK144; clear BK145; clear BK146; clear HB; have BK144 := n0_; have BK145 := n1_; have BK146 := n2_; have HB := n3_; clear n0_ n1_ n2_ n3_; (try clear hb); (try clear hb2); (try clear hk); (try clear hi)) | ((with_reducible refine gate_callee (f := 28) rfl ?_); refine goesL_ (some 50) rfl rfl Try.func28 (by kernel_rfl) rfl #[.bool (decide (t150 ≥ 0))] rfl (by (try simp only [List.map_toArray, List.map_cons, List.map_nil]); first | done | rfl | (simp only [List.length_drop, List.length_take]; rfl)) ?_; (with_reducible refine (value_Bool.calls (decide (t150 ≥ 0)) t166 t167 t168 _ A83.out).mono ?_); rintro e w93 ⟨rfl, hb⟩; refine ⟨_, rfl, ?_⟩; have n0_ := kb BK144 hb; have n1_ := kb BK145 hb; have n2_ := kb BK146 hb; have n3_ := bt HB hb; clear BK144; clear BK145; clear BK146; clear HB; have BK144 := n0_; have BK145 := n1_; have BK146 := n2_; have HB := n3_; clear n0_ n1_ n2_ n3_; (try clear hb); (try clear hb2); (try clear hk); (try clear hi); have hcz94_0 : w93.cell? ⟨gb146, 0, none⟩ = some (.int .u8 0) := bc BK146 0; have hcz94_1 : w93.cell? ⟨gb146, 1, none⟩ = some (.int .u64 0) := bc BK146 1; have hcz94_2 : w93.cell? ⟨gb146, 2, none⟩ = some (.string (⟨#[]⟩ : ByteArray)) := bc BK146 2; have hfz94_0 := blk_frozen BK146.out 0; have hfz94_1 := blk_frozen BK146.out 1; have hfz94_2 := blk_frozen BK146.out 2))
       refine bodyPost_ret (results_cell_row rfl _ _ gb146 27 #[.int .u8 t166, .int .u64 t167, .string t168] (0, 0) _ rfl (by (with_reducible repeat (first | refine blk_drewN ?_ _ | refine blk_drew ?_ | refine blk_alloc ?_ _)); refine blk_put (cs := #[.int .u8 t166, .int .u64 t167, .string (⟨#[]⟩ : ByteArray)]) ?_ 2 _ rfl; (with_reducible repeat (first | refine blk_drewN ?_ _ | refine blk_drew ?_ | refine blk_alloc ?_ _)); refine blk_put (cs := #[.int .u8 t166, .int .u64 0, .string (⟨#[]⟩ : ByteArray)]) ?_ 1 _ rfl; (with_reducible repeat (first | refine blk_drewN ?_ _ | refine blk_drew ?_ | refine blk_alloc ?_ _)); refine blk_put (cs := #[.int .u8 0, .int .u64 0, .string (⟨#[]⟩ : ByteArray)]) ?_ 0 _ rfl; (with_reducible repeat (first | refine blk_drewN ?_ _ | refine blk_drew ?_ | refine blk_alloc ?_ _)); exact BK146.out) Try.underlying27 rfl (by kernel_rfl)) rfl ?_
       exact ⟨by first | rfl | (simp [errW_none, errW_some] <;> rfl) | (simp [*, errW_none, errW_some] <;> rfl), bs HB⟩

/-! ### value_wide_of: function 41 -/
mutual
def value_wide_of.j0 : Nat → Int → Int → Int → Bool → Bool → Int → Option (Int × Int × ByteArray × Int)
 | 0, _, _, _, _, _, _ => none
 | k + 1, x1, x2, x8, x11, x170000, x170001 => if x11 = true then ((value_signed.f x1).bind fun t171 => (if t171 = true then (if x170001 > 9223372036854775808 then (value_wide_of.j1 k x1 x2 (IntKind.u64.wrap (-x170001)) true) else ((value_fits.f k x1 (IntKind.u64.wrap (-x170001))).bind fun t172 => (value_wide_of.j1 k x1 x2 (IntKind.u64.wrap (-x170001)) (!t172)))) else (if x1 = 14 then (if x170001 > 9223372036854775808 then (value_wide_of.j1 k x1 x2 (IntKind.u64.wrap (-x170001)) true) else ((value_fits.f k x1 (IntKind.u64.wrap (-x170001))).bind fun t173 => (value_wide_of.j1 k x1 x2 (IntKind.u64.wrap (-x170001)) (!t173)))) else (value_wide_of.j1 k x1 x2 (IntKind.u64.wrap (-x170001)) true)))) else ((value_signed.f x1).bind fun t174 => (if t174 = true then (if x170001 > 9223372036854775807 then (value_wide_of.j2 k x1 x2 x8 true) else ((value_fits.f k x1 x8).bind fun t175 => (value_wide_of.j2 k x1 x2 x8 (!t175)))) else (if x1 = 14 then (if x170001 > 9223372036854775807 then (value_wide_of.j2 k x1 x2 x8 true) else ((value_fits.f k x1 x8).bind fun t176 => (value_wide_of.j2 k x1 x2 x8 (!t176)))) else ((value_fits.f k x1 x8).bind fun t177 => (value_wide_of.j2 k x1 x2 x8 (!t177))))))
def value_wide_of.j1 : Nat → Int → Int → Int → Bool → Option (Int × Int × ByteArray × Int)
 | 0, _, _, _, _ => none
 | k + 1, x1, x2, x8, x39 => if x39 = true then (some (0, 0, (⟨#[]⟩ : ByteArray), x2)) else (some (x1, x8, (⟨#[]⟩ : ByteArray), 0))
def value_wide_of.j2 : Nat → Int → Int → Int → Bool → Option (Int × Int × ByteArray × Int)
 | 0, _, _, _, _ => none
 | k + 1, x1, x2, x8, x42 => if x42 = true then (some (0, 0, (⟨#[]⟩ : ByteArray), x2)) else (some (x1, x8, (⟨#[]⟩ : ByteArray), 0))
end
def value_wide_of.f (k : Nat) (a0_0 : Bool) (a0_1 : Int) (a1 : Int) (a2 : Int) : Option (Int × Int × ByteArray × Int) := if a0_0 = true then (value_wide_of.j0 k a1 a2 a0_1 (decide (a0_1 > 0)) true a0_1) else (value_wide_of.j0 k a1 a2 a0_1 false false a0_1)
theorem value_wide_of.mono_l : ∀ k, (∀ y0 y1 y2 y3 y4 y5, LeO (value_wide_of.j0 k y0 y1 y2 y3 y4 y5) (value_wide_of.j0 (k + 1) y0 y1 y2 y3 y4 y5)) ∧ (∀ y0 y1 y2 y3, LeO (value_wide_of.j1 k y0 y1 y2 y3) (value_wide_of.j1 (k + 1) y0 y1 y2 y3)) ∧ (∀ y0 y1 y2 y3, LeO (value_wide_of.j2 k y0 y1 y2 y3) (value_wide_of.j2 (k + 1) y0 y1 y2 y3))
 | 0 => ⟨fun _ _ _ _ _ _ r h => by simp [value_wide_of.j0] at h, fun _ _ _ _ r h => by simp [value_wide_of.j1] at h, fun _ _ _ _ r h => by simp [value_wide_of.j2] at h⟩
 | k + 1 => by
  obtain ⟨ih0, ih1, ih2⟩ := value_wide_of.mono_l k
  refine ⟨?_, ?_, ?_⟩
  ·intro y0 y1 y2 y3 y4 y5
   unfold value_wide_of.j0
   repeat' first
   | (with_reducible exact ih0 _ _ _ _ _ _)
   | (with_reducible exact ih1 _ _ _ _)
   | (with_reducible exact ih2 _ _ _ _)
   | (with_reducible exact value_fits.mono _ _ _)
   | (with_reducible exact LeO.refl _)
   | (with_reducible exact LeO.none _)
   | (with_reducible refine LeO.ite ?_ ?_)
   | (with_reducible refine LeO.bind ?_ (fun _ => ?_))
   | exact ih0 _ _ _ _ _ _
   | exact ih1 _ _ _ _
   | exact ih2 _ _ _ _
   | exact value_fits.mono _ _ _
   | exact LeO.none _
   | refine LeO.ite ?_ ?_
   | refine LeO.bind ?_ (fun _ => ?_)
  ·intro y0 y1 y2 y3
   unfold value_wide_of.j1
   repeat' first
   | (with_reducible exact ih0 _ _ _ _ _ _)
   | (with_reducible exact ih1 _ _ _ _)
   | (with_reducible exact ih2 _ _ _ _)
   | (with_reducible exact value_fits.mono _ _ _)
   | (with_reducible exact LeO.refl _)
   | (with_reducible exact LeO.none _)
   | (with_reducible refine LeO.ite ?_ ?_)
   | (with_reducible refine LeO.bind ?_ (fun _ => ?_))
   | exact ih0 _ _ _ _ _ _
   | exact ih1 _ _ _ _
   | exact ih2 _ _ _ _
   | exact value_fits.mono _ _ _
   | exact LeO.none _
   | refine LeO.ite ?_ ?_
   | refine LeO.bind ?_ (fun _ => ?_)
  ·intro y0 y1 y2 y3
   unfold value_wide_of.j2
   repeat' first
   | (with_reducible exact ih0 _ _ _ _ _ _)
   | (with_reducible exact ih1 _ _ _ _)
   | (with_reducible exact ih2 _ _ _ _)
   | (with_reducible exact value_fits.mono _ _ _)
   | (with_reducible exact LeO.refl _)
   | (with_reducible exact LeO.none _)
   | (with_reducible refine LeO.ite ?_ ?_)
   | (with_reducible refine LeO.bind ?_ (fun _ => ?_))
   | exact ih0 _ _ _ _ _ _
   | exact ih1 _ _ _ _
   | exact ih2 _ _ _ _
   | exact value_fits.mono _ _ _
   | exact LeO.none _
   | refine LeO.ite ?_ ?_
   | refine LeO.bind ?_ (fun _ => ?_)
theorem value_wide_of.mono : ∀ a0 a1 a2 a3 k, LeO (value_wide_of.f k a0 a1 a2 a3) (value_wide_of.f (k + 1) a0 a1 a2 a3) := by
 intro a0 a1 a2 a3 k
 obtain ⟨ih0, ih1, ih2⟩ := value_wide_of.mono_l k
 unfold value_wide_of.f
 repeat' first
   | (with_reducible exact ih0 _ _ _ _ _ _)
   | (with_reducible exact ih1 _ _ _ _)
   | (with_reducible exact ih2 _ _ _ _)
   | (with_reducible exact value_fits.mono _ _ _)
   | (with_reducible exact LeO.refl _)
   | (with_reducible exact LeO.none _)
   | (with_reducible refine LeO.ite ?_ ?_)
   | (with_reducible refine LeO.bind ?_ (fun _ => ?_))
   | exact ih0 _ _ _ _ _ _
   | exact ih1 _ _ _ _
   | exact ih2 _ _ _ _
   | exact value_fits.mono _ _ _
   | exact LeO.none _
   | refine LeO.ite ?_ ?_
   | refine LeO.bind ?_ (fun _ => ?_)
set_option maxHeartbeats 8000000 in
set_option maxRecDepth 100000 in
theorem value_wide_of.calls (k : Nat) (a0_0 : Bool) (a0_1 : Int) (a1 : Int) (a2 : Int) (r1 : Int) (r2 : Int) (r3 : ByteArray) (r4 : Int) (w : World) (h : value_wide_of.f k a0_0 a0_1 a1 a2 = some (r1, r2, r3, r4)) :
  Calls Try.prog 41 #[.agg #[.bool a0_0, .int .u64 a0_1], .int .u8 a1, .int .i64 a2] w fun e w' => e = .returned (.tuple #[.agg #[.int .u8 r1, .int .u64 r2, .string r3], .int .i64 r4]) ∧ Below w.heap.size w w' := by
 have hu58 := Try.underlying58
 have hu27 := Try.underlying27
 have HB := Aside0.mk (Below.refl w.heap.size w)
 have H : (if a0_0 = true then (value_wide_of.j0 k a1 a2 a0_1 (decide (a0_1 > 0)) true a0_1) else (value_wide_of.j0 k a1 a2 a0_1 false false a0_1)) = some (r1, r2, r3, r4) := h
 clear h
 have HC4 := Aside0.mk H
 clear H
 go_enter Try.func41, Try.ntmps41
 go_upto_region 2 with (first | ((with_reducible refine gate_dst (N := 3) rfl ?_); refine box_event ?hg (N := 3) ?hd (cs := #[.bool a0_0, .int .u64 a0_1]) (t := 58) ?hr ?_; (case hd => rfl); (case hg => rfl); (case hr => first | (go_simp; done) | (go_simp; rfl)); intro gb169 hg w5 hbox hb; have n0_ := bt HB hb; have n1_ := Aside0.mk (hbox); have n2_ := gs hg HB; have n3_ := gs hg HB; clear HB; have HB := n0_; have BK169 := n1_; have GW169 := n2_; have GE169 := n3_; clear n0_ n1_ n2_ n3_; clear hb hbox hg) | ((with_reducible refine gate_dst (N := 6) rfl ?_); refine box_event ?hg (N := 6) ?hd (cs := #[.int .u8 0, .int .u64 0, .string (⟨#[]⟩ : ByteArray)]) (t := 27) ?hr ?_; (case hd => rfl); (case hg => rfl); (case hr => first | (go_simp; done) | (go_simp; rfl)); intro gb170 hg w6 hbox hb; have n0_ := kb BK169 hb; have n1_ := bt HB hb; have n2_ := Aside0.mk (hbox); have n3_ := gs hg HB; have n4_ := gs hg HB; have n5_ := nl hg BK169; have n6_ := ng hg BK169; clear BK169; clear HB; have BK169 := n0_; have HB := n1_; have BK170 := n2_; have GW170 := n3_; have GE170 := n4_; have NB169_170 := n5_; have NB170_169 := n6_; clear n0_ n1_ n2_ n3_ n4_ n5_ n6_; clear hb hbox hg; have hnb7 := NB169_170.out; have hnc7 := NB170_169.out; have hcz8_0 : w6.cell? ⟨gb169, 0, none⟩ = some (.bool a0_0) := bc BK169 0; have hcz8_1 : w6.cell? ⟨gb169, 1, none⟩ = some (.int .u64 a0_1) := bc BK169 1; have hfz8_0 := blk_frozen BK169.out 0; have hfz8_1 := blk_frozen BK169.out 1))
 (try simp only [Act.put, List.setIfInBounds_toArray, List.set_cons_zero, List.set_cons_succ])
 go_cut [11] (fun v11 wc => ∃ (kq : Nat) (x11_3 : Bool), v11 = .bool x11_3 ∧ Aside0 (value_wide_of.j0 kq a1 a2 a0_1 x11_3 a0_0 a0_1 = some (r1, r2, r3, r4)) ∧ Aside0 (kq ≤ k) ∧ Aside0 (wc.heap[gb169]? = some (.cells #[.bool a0_0, .int .u64 a0_1] 58 (0, 0))) ∧ Aside0 (wc.heap[gb170]? = some (.cells #[.int .u8 0, .int .u64 0, .string (⟨#[]⟩ : ByteArray)] 27 (0, 0))) ∧ Aside0 (Below w.heap.size w wc))
 case first =>
  have H := HC4.out
  clear HC4
  by_cases c9 : a0_0 = true
  ·subst c9
   have H1 : (value_wide_of.j0 k a1 a2 a0_1 (decide (a0_1 > 0)) true a0_1) = some (r1, r2, r3, r4) := by rw [if_pos rfl] at H; exact H
   clear H
   have H := H1
   clear H1
   have H' := Aside0.mk H
   clear H
   have hnb10 := NB169_170.out
   have hnc10 := NB170_169.out
   have hcz11_0 : w6.cell? ⟨gb169, 0, none⟩ = some (.bool true) := bc BK169 0
   have hcz11_1 : w6.cell? ⟨gb169, 1, none⟩ = some (.int .u64 a0_1) := bc BK169 1
   have hfz11_0 := blk_frozen BK169.out 0
   have hfz11_1 := blk_frozen BK169.out 1
   go_wp2
   go_meet
   case rel => exact ⟨_, (decide (a0_1 > 0)), (by first | rfl | (simp; done) | (simp [*]; done)), H', ⟨by first | omega | exact Nat.le_refl _⟩, ⟨by (with_reducible repeat (first | refine blk_drewN ?_ _ | refine blk_drew ?_ | refine blk_alloc ?_ _)); exact BK169.out⟩, ⟨by (with_reducible repeat (first | refine blk_drewN ?_ _ | refine blk_drew ?_ | refine blk_alloc ?_ _)); exact BK170.out⟩, ⟨bs HB⟩⟩
  ·replace c9 := Bool.eq_false_iff.mpr c9
   subst c9
   have H1 : (value_wide_of.j0 k a1 a2 a0_1 false false a0_1) = some (r1, r2, r3, r4) := by rw [if_neg (show ¬ (false = true) by decide)] at H; exact H
   clear H
   have H := H1
   clear H1
   have H' := Aside0.mk H
   clear H
   have hnb12 := NB169_170.out
   have hnc12 := NB170_169.out
   have hcz13_0 : w6.cell? ⟨gb169, 0, none⟩ = some (.bool false) := bc BK169 0
   have hcz13_1 : w6.cell? ⟨gb169, 1, none⟩ = some (.int .u64 a0_1) := bc BK169 1
   have hfz13_0 := blk_frozen BK169.out 0
   have hfz13_1 := blk_frozen BK169.out 1
   go_wp2
   go_meet
   case rel => exact ⟨_, (false), (by first | rfl | (simp; done) | (simp [*]; done)), H', ⟨by first | omega | exact Nat.le_refl _⟩, ⟨by (with_reducible repeat (first | refine blk_drewN ?_ _ | refine blk_drew ?_ | refine blk_alloc ?_ _)); exact BK169.out⟩, ⟨by (with_reducible repeat (first | refine blk_drewN ?_ _ | refine blk_drew ?_ | refine blk_alloc ?_ _)); exact BK170.out⟩, ⟨bs HB⟩⟩
 case rest =>
  clear HC4
  (try clear c1);(try clear p2);(try clear c4);(try clear c7);(try clear c9);(try clear c10);(try clear c12);(try clear hcz11_0);(try clear hcz11_1);(try clear hcz13_0);(try clear hcz13_1);(try clear hcz8_0);(try clear hcz8_1);(try clear hfz11_0);(try clear hfz11_1);(try clear hfz13_0);(try clear hfz13_1);(try clear hfz8_0);(try clear hfz8_1)
  obtain ⟨kq, x11_3, rfl, HA, HJ3, BK169, BK170, HB⟩ := hcut
  cases kq with
  | zero => exact absurd HA.out (by simp [value_wide_of.j0])
  | succ kj3 =>
   have H := HA.out
   clear HA
   simp only [value_wide_of.j0] at H
   by_cases c14 : x11_3 = true
   ·subst c14
    have H1 : ((value_signed.f a1).bind fun t171 => (if t171 = true then (if a0_1 > 9223372036854775808 then (value_wide_of.j1 kj3 a1 a2 (IntKind.u64.wrap (-a0_1)) true) else ((value_fits.f kj3 a1 (IntKind.u64.wrap (-a0_1))).bind fun t172 => (value_wide_of.j1 kj3 a1 a2 (IntKind.u64.wrap (-a0_1)) (!t172)))) else (if a1 = 14 then (if a0_1 > 9223372036854775808 then (value_wide_of.j1 kj3 a1 a2 (IntKind.u64.wrap (-a0_1)) true) else ((value_fits.f kj3 a1 (IntKind.u64.wrap (-a0_1))).bind fun t173 => (value_wide_of.j1 kj3 a1 a2 (IntKind.u64.wrap (-a0_1)) (!t173)))) else (value_wide_of.j1 kj3 a1 a2 (IntKind.u64.wrap (-a0_1)) true)))) = some (r1, r2, r3, r4) := by rw [if_pos rfl] at H; exact H
    clear H
    have H := H1
    clear H1
    have HC15 := Aside0.mk H
    clear H
    have hnb16 := NB169_170.out
    have hnc16 := NB170_169.out
    have hcz17_0 : wc.cell? ⟨gb169, 0, none⟩ = some (.bool a0_0) := bc BK169 0
    have hcz17_1 : wc.cell? ⟨gb169, 1, none⟩ = some (.int .u64 a0_1) := bc BK169 1
    have hfz17_0 := blk_frozen BK169.out 0
    have hfz17_1 := blk_frozen BK169.out 1
    go_upto_region 4 with (fail)
    go_cut [39] (fun v39 wc => ∃ (kq : Nat) (x39_14 : Bool), v39 = .bool x39_14 ∧ Aside0 (value_wide_of.j1 kq a1 a2 (IntKind.u64.wrap (-a0_1)) x39_14 = some (r1, r2, r3, r4)) ∧ Aside0 (kq ≤ kj3) ∧ Aside0 (wc.heap[gb169]? = some (.cells #[.bool a0_0, .int .u64 a0_1] 58 (0, 0))) ∧ Aside0 (wc.heap[gb170]? = some (.cells #[.int .u8 0, .int .u64 0, .string (⟨#[]⟩ : ByteArray)] 27 (0, 0))) ∧ Aside0 (Below w.heap.size w wc))
    case first =>
     have H := HC15.out
     clear HC15
     replace H := Option.bind_eq_some_iff.mp H
     obtain ⟨t171, A180, H⟩ := H
     replace H : (if t171 = true then (if a0_1 > 9223372036854775808 then (value_wide_of.j1 kj3 a1 a2 (IntKind.u64.wrap (-a0_1)) true) else ((value_fits.f kj3 a1 (IntKind.u64.wrap (-a0_1))).bind fun t172 => (value_wide_of.j1 kj3 a1 a2 (IntKind.u64.wrap (-a0_1)) (!t172)))) else (if a1 = 14 then (if a0_1 > 9223372036854775808 then (value_wide_of.j1 kj3 a1 a2 (IntKind.u64.wrap (-a0_1)) true) else ((value_fits.f kj3 a1 (IntKind.u64.wrap (-a0_1))).bind fun t173 => (value_wide_of.j1 kj3 a1 a2 (IntKind.u64.wrap (-a0_1)) (!t173)))) else (value_wide_of.j1 kj3 a1 a2 (IntKind.u64.wrap (-a0_1)) true))) = some (r1, r2, r3, r4) := H
     have A18 := Aside0.mk A180
     clear A180
     by_cases c19 : t171 = true
     ·subst c19
      have H1 : (if a0_1 > 9223372036854775808 then (value_wide_of.j1 kj3 a1 a2 (IntKind.u64.wrap (-a0_1)) true) else ((value_fits.f kj3 a1 (IntKind.u64.wrap (-a0_1))).bind fun t172 => (value_wide_of.j1 kj3 a1 a2 (IntKind.u64.wrap (-a0_1)) (!t172)))) = some (r1, r2, r3, r4) := by rw [if_pos rfl] at H; exact H
      clear H
      have H := H1
      clear H1
      by_cases c20 : a0_1 > 9223372036854775808
      ·rw [if_pos c20] at H
       have c20b0 : decide (9223372036854775808 < a0_1) = true := decide_eq_true c20
       clear c20
       (first | rw [c20b0] | (simp only [i64_w, i32_w]; rw [c20b0]) | skip)
       have H' := Aside0.mk H
       clear H
       go_wp2_with (first | ((with_reducible refine gate_callee (f := 40) rfl ?_); refine goesL_ (some 23) rfl rfl Try.func40 (by kernel_rfl) rfl #[.int .u8 a1] rfl (by (try simp only [List.map_toArray, List.map_cons, List.map_nil]); first | done | rfl | (simp only [List.length_drop, List.length_take]; rfl)) ?_; (with_reducible refine (value_signed.calls a1 true _ A18.out).mono ?_); rintro e w' ⟨rfl, ⟨nd, rfl⟩⟩; refine ⟨_, rfl, ?_⟩; have hnb21 := NB169_170.out; have hnc21 := NB170_169.out; have hcz22_0 : wc.cell? ⟨gb169, 0, none⟩ = some (.bool a0_0) := bc BK169 0; have hcz22_1 : wc.cell? ⟨gb169, 1, none⟩ = some (.int .u64 a0_1) := bc BK169 1; have hfz22_0 := blk_frozen BK169.out 0; have hfz22_1 := blk_frozen BK169.out 1))
       go_meet
       case rel => (try rw [show decide (a0_1 > 9223372036854775808) = true from by first | assumption | exact decide_eq_true (by assumption)]); exact ⟨_, (true), (by first | rfl | (simp; done) | (simp [*]; done)), H', ⟨by have := HJ3.out; first | omega | exact Nat.le_refl _⟩, ⟨by (with_reducible repeat (first | refine blk_drewN ?_ _ | refine blk_drew ?_ | refine blk_alloc ?_ _)); exact BK169.out⟩, ⟨by (with_reducible repeat (first | refine blk_drewN ?_ _ | refine blk_drew ?_ | refine blk_alloc ?_ _)); exact BK170.out⟩, ⟨bs HB⟩⟩
      ·rw [if_neg c20] at H
       have c20b0 : decide (9223372036854775808 < a0_1) = false := decide_eq_false c20
       clear c20
       (first | rw [c20b0] | (simp only [i64_w, i32_w]; rw [c20b0]) | skip)
       replace H := Option.bind_eq_some_iff.mp H
       obtain ⟨t172, A230, H⟩ := H
       replace H : (value_wide_of.j1 kj3 a1 a2 (IntKind.u64.wrap (-a0_1)) (!t172)) = some (r1, r2, r3, r4) := H
       have A23 := Aside0.mk A230
       clear A230
       have H' := Aside0.mk H
       clear H
       go_wp2_with (first | ((with_reducible refine gate_callee (f := 40) rfl ?_); refine goesL_ (some 23) rfl rfl Try.func40 (by kernel_rfl) rfl #[.int .u8 a1] rfl (by (try simp only [List.map_toArray, List.map_cons, List.map_nil]); first | done | rfl | (simp only [List.length_drop, List.length_take]; rfl)) ?_; (with_reducible refine (value_signed.calls a1 true _ A18.out).mono ?_); rintro e w' ⟨rfl, ⟨nd, rfl⟩⟩; refine ⟨_, rfl, ?_⟩; have hnb24 := NB169_170.out; have hnc24 := NB170_169.out; have hcz25_0 : wc.cell? ⟨gb169, 0, none⟩ = some (.bool a0_0) := bc BK169 0; have hcz25_1 : wc.cell? ⟨gb169, 1, none⟩ = some (.int .u64 a0_1) := bc BK169 1; have hfz25_0 := blk_frozen BK169.out 0; have hfz25_1 := blk_frozen BK169.out 1) | (go_at_call 36; (with_reducible refine (value_fits.calls kj3 a1 (IntKind.u64.wrap (-a0_1)) t172 _ A23.out).mono ?_); rintro e w' ⟨rfl, ⟨nd, rfl⟩⟩))
       go_meet
       case rel => (try rw [show decide (a0_1 > 9223372036854775808) = false from by first | assumption | exact decide_eq_false (by assumption)]); exact ⟨_, (!t172), (by first | rfl | (simp; done) | (simp [*]; done)), H', ⟨by have := HJ3.out; first | omega | exact Nat.le_refl _⟩, ⟨by (with_reducible repeat (first | refine blk_drewN ?_ _ | refine blk_drew ?_ | refine blk_alloc ?_ _)); exact BK169.out⟩, ⟨by (with_reducible repeat (first | refine blk_drewN ?_ _ | refine blk_drew ?_ | refine blk_alloc ?_ _)); exact BK170.out⟩, ⟨bs HB⟩⟩
     ·replace c19 := Bool.eq_false_iff.mpr c19
      subst c19
      have H1 : (if a1 = 14 then (if a0_1 > 9223372036854775808 then (value_wide_of.j1 kj3 a1 a2 (IntKind.u64.wrap (-a0_1)) true) else ((value_fits.f kj3 a1 (IntKind.u64.wrap (-a0_1))).bind fun t173 => (value_wide_of.j1 kj3 a1 a2 (IntKind.u64.wrap (-a0_1)) (!t173)))) else (value_wide_of.j1 kj3 a1 a2 (IntKind.u64.wrap (-a0_1)) true)) = some (r1, r2, r3, r4) := by rw [if_neg (show ¬ (false = true) by decide)] at H; exact H
      clear H
      have H := H1
      clear H1
      by_cases c26 : a1 = 14
      ·rw [if_pos c26] at H
       have c26b0 : (a1 == 14) = true := beq_iff_eq.mpr c26
       have c26b1 : (a1 != 14) = false := bne_eq_false_iff_eq.mpr c26
       clear c26
       by_cases c27 : a0_1 > 9223372036854775808
       ·rw [if_pos c27] at H
        have c27b0 : decide (9223372036854775808 < a0_1) = true := decide_eq_true c27
        clear c27
        have H' := Aside0.mk H
        clear H
        go_wp2_with (first | ((with_reducible refine gate_callee (f := 40) rfl ?_); refine goesL_ (some 23) rfl rfl Try.func40 (by kernel_rfl) rfl #[.int .u8 a1] rfl (by (try simp only [List.map_toArray, List.map_cons, List.map_nil]); first | done | rfl | (simp only [List.length_drop, List.length_take]; rfl)) ?_; (with_reducible refine (value_signed.calls a1 false _ A18.out).mono ?_); rintro e w' ⟨rfl, ⟨nd, rfl⟩⟩; refine ⟨_, rfl, ?_⟩; have hnb28 := NB169_170.out; have hnc28 := NB170_169.out; have hcz29_0 : wc.cell? ⟨gb169, 0, none⟩ = some (.bool a0_0) := bc BK169 0; have hcz29_1 : wc.cell? ⟨gb169, 1, none⟩ = some (.int .u64 a0_1) := bc BK169 1; have hfz29_0 := blk_frozen BK169.out 0; have hfz29_1 := blk_frozen BK169.out 1))
        go_meet
        case rel => (try rw [show decide (a0_1 > 9223372036854775808) = true from by first | assumption | exact decide_eq_true (by assumption)]); exact ⟨_, (true), (by first | rfl | (simp; done) | (simp [*]; done)), H', ⟨by have := HJ3.out; first | omega | exact Nat.le_refl _⟩, ⟨by (with_reducible repeat (first | refine blk_drewN ?_ _ | refine blk_drew ?_ | refine blk_alloc ?_ _)); exact BK169.out⟩, ⟨by (with_reducible repeat (first | refine blk_drewN ?_ _ | refine blk_drew ?_ | refine blk_alloc ?_ _)); exact BK170.out⟩, ⟨bs HB⟩⟩
       ·rw [if_neg c27] at H
        have c27b0 : decide (9223372036854775808 < a0_1) = false := decide_eq_false c27
        clear c27
        replace H := Option.bind_eq_some_iff.mp H
        obtain ⟨t173, A300, H⟩ := H
        replace H : (value_wide_of.j1 kj3 a1 a2 (IntKind.u64.wrap (-a0_1)) (!t173)) = some (r1, r2, r3, r4) := H
        have A30 := Aside0.mk A300
        clear A300
        have H' := Aside0.mk H
        clear H
        go_wp2_with (first | ((with_reducible refine gate_callee (f := 40) rfl ?_); refine goesL_ (some 23) rfl rfl Try.func40 (by kernel_rfl) rfl #[.int .u8 a1] rfl (by (try simp only [List.map_toArray, List.map_cons, List.map_nil]); first | done | rfl | (simp only [List.length_drop, List.length_take]; rfl)) ?_; (with_reducible refine (value_signed.calls a1 false _ A18.out).mono ?_); rintro e w' ⟨rfl, ⟨nd, rfl⟩⟩; refine ⟨_, rfl, ?_⟩; have hnb31 := NB169_170.out; have hnc31 := NB170_169.out; have hcz32_0 : wc.cell? ⟨gb169, 0, none⟩ = some (.bool a0_0) := bc BK169 0; have hcz32_1 : wc.cell? ⟨gb169, 1, none⟩ = some (.int .u64 a0_1) := bc BK169 1; have hfz32_0 := blk_frozen BK169.out 0; have hfz32_1 := blk_frozen BK169.out 1) | (go_at_call 36; (with_reducible refine (value_fits.calls kj3 a1 (IntKind.u64.wrap (-a0_1)) t173 _ A30.out).mono ?_); rintro e w' ⟨rfl, ⟨nd, rfl⟩⟩))
        go_meet
        case rel => (try rw [show decide (a0_1 > 9223372036854775808) = false from by first | assumption | exact decide_eq_false (by assumption)]); exact ⟨_, (!t173), (by first | rfl | (simp; done) | (simp [*]; done)), H', ⟨by have := HJ3.out; first | omega | exact Nat.le_refl _⟩, ⟨by (with_reducible repeat (first | refine blk_drewN ?_ _ | refine blk_drew ?_ | refine blk_alloc ?_ _)); exact BK169.out⟩, ⟨by (with_reducible repeat (first | refine blk_drewN ?_ _ | refine blk_drew ?_ | refine blk_alloc ?_ _)); exact BK170.out⟩, ⟨bs HB⟩⟩
      ·rw [if_neg c26] at H
       have c26b0 : (a1 == 14) = false := beq_eq_false_iff_ne.mpr c26
       have c26b1 : (a1 != 14) = true := bne_iff_ne.mpr c26
       have H' := Aside0.mk H
       clear H
       go_wp2_with (first | ((with_reducible refine gate_callee (f := 40) rfl ?_); refine goesL_ (some 23) rfl rfl Try.func40 (by kernel_rfl) rfl #[.int .u8 a1] rfl (by (try simp only [List.map_toArray, List.map_cons, List.map_nil]); first | done | rfl | (simp only [List.length_drop, List.length_take]; rfl)) ?_; (with_reducible refine (value_signed.calls a1 false _ A18.out).mono ?_); rintro e w' ⟨rfl, ⟨nd, rfl⟩⟩; refine ⟨_, rfl, ?_⟩))
       go_meet
       case rel => exact ⟨_, (true), (by first | rfl | (simp; done) | (simp [*]; done)), H', ⟨by have := HJ3.out; first | omega | exact Nat.le_refl _⟩, ⟨by (with_reducible repeat (first | refine blk_drewN ?_ _ | refine blk_drew ?_ | refine blk_alloc ?_ _)); exact BK169.out⟩, ⟨by (with_reducible repeat (first | refine blk_drewN ?_ _ | refine blk_drew ?_ | refine blk_alloc ?_ _)); exact BK170.out⟩, ⟨bs HB⟩⟩
    case rest =>
     clear HC15
     (try clear c1);(try clear c2);(try clear p2);(try clear c3);(try clear c4);(try clear c7);(try clear c9);(try clear c10);(try clear c12);(try clear c14);(try clear c16);(try clear c19);(try clear c20);(try clear c20b0);(try clear c21);(try clear c24);(try clear c26);(try clear c26b0);(try clear c26b1);(try clear c27);(try clear c27b0);(try clear c28);(try clear c31);(try clear hcz11_0);(try clear hcz11_1);(try clear hcz13_0);(try clear hcz13_1);(try clear hcz17_0);(try clear hcz17_1);(try clear hcz22_0);(try clear hcz22_1);(try clear hcz25_0);(try clear hcz25_1);(try clear hcz29_0);(try clear hcz29_1);(try clear hcz32_0);(try clear hcz32_1);(try clear hcz8_0);(try clear hcz8_1);(try clear hfz11_0);(try clear hfz11_1);(try clear hfz13_0);(try clear hfz13_1);(try clear hfz17_0);(try clear hfz17_1);(try clear hfz22_0);(try clear hfz22_1);(try clear hfz25_0);(try clear hfz25_1);(try clear hfz29_0);(try clear hfz29_1);(try clear hfz32_0);(try clear hfz32_1);(try clear hfz8_0);(try clear hfz8_1);(try clear p2)
     obtain ⟨kq, x39_14, rfl, HA, HJ14, BK169, BK170, HB⟩ := hcut
     cases kq with
     | zero => exact absurd HA.out (by simp [value_wide_of.j1])
     | succ kj14 =>
      have H := HA.out
      clear HA
      simp only [value_wide_of.j1] at H
      by_cases c33 : x39_14 = true
      ·subst c33
       have H1 : (some (0, 0, (⟨#[]⟩ : ByteArray), a2)) = some (r1, r2, r3, r4) := by rw [if_pos rfl] at H; exact H
       clear H
       have H := H1
       clear H1
       simp only [Option.some.injEq, Prod.mk.injEq] at H
       obtain ⟨rfl, rfl, rfl, rfl⟩ := H
       have hnb34 := NB170_169.out
       have hnc34 := NB169_170.out
       have hcz35_0 : wc.cell? ⟨gb170, 0, none⟩ = some (.int .u8 0) := bc BK170 0
       have hcz35_1 : wc.cell? ⟨gb170, 1, none⟩ = some (.int .u64 0) := bc BK170 1
       have hcz35_2 : wc.cell? ⟨gb170, 2, none⟩ = some (.string (⟨#[]⟩ : ByteArray)) := bc BK170 2
       have hfz35_0 := blk_frozen BK170.out 0
       have hfz35_1 := blk_frozen BK170.out 1
       have hfz35_2 := blk_frozen BK170.out 2
       go_wp2
       refine bodyPost_ret (results_ct rfl _ _ gb170 27 #[.int .u8 0, .int .u64 0, .string (⟨#[]⟩ : ByteArray)] (0, 0) _ rfl (by (with_reducible repeat (first | refine blk_drewN ?_ _ | refine blk_drew ?_ | refine blk_alloc ?_ _)); refine blk_put (cs := #[.int .u8 0, .int .u64 0, .string (⟨#[]⟩ : ByteArray)]) ?_ 2 _ rfl; (with_reducible repeat (first | refine blk_drewN ?_ _ | refine blk_drew ?_ | refine blk_alloc ?_ _)); refine blk_put (cs := #[.int .u8 0, .int .u64 0, .string (⟨#[]⟩ : ByteArray)]) ?_ 1 _ rfl; (with_reducible repeat (first | refine blk_drewN ?_ _ | refine blk_drew ?_ | refine blk_alloc ?_ _)); refine blk_put (cs := #[.int .u8 0, .int .u64 0, .string (⟨#[]⟩ : ByteArray)]) ?_ 0 _ rfl; (with_reducible repeat (first | refine blk_drewN ?_ _ | refine blk_drew ?_ | refine blk_alloc ?_ _)); exact BK170.out) Try.underlying27 rfl (by kernel_rfl)) rfl ?_
       exact ⟨by first | rfl | (simp [errW_none, errW_some] <;> rfl) | (simp [*, errW_none, errW_some] <;> rfl), bs HB⟩
      ·replace c33 := Bool.eq_false_iff.mpr c33
       subst c33
       have H1 : (some (a1, (IntKind.u64.wrap (-a0_1)), (⟨#[]⟩ : ByteArray), 0)) = some (r1, r2, r3, r4) := by rw [if_neg (show ¬ (false = true) by decide)] at H; exact H
       clear H
       have H := H1
       clear H1
       simp only [Option.some.injEq, Prod.mk.injEq] at H
       obtain ⟨rfl, rfl, rfl, rfl⟩ := H
       have hnb36 := NB170_169.out
       have hnc36 := NB169_170.out
       have hcz37_0 : wc.cell? ⟨gb170, 0, none⟩ = some (.int .u8 0) := bc BK170 0
       have hcz37_1 : wc.cell? ⟨gb170, 1, none⟩ = some (.int .u64 0) := bc BK170 1
       have hcz37_2 : wc.cell? ⟨gb170, 2, none⟩ = some (.string (⟨#[]⟩ : ByteArray)) := bc BK170 2
       have hfz37_0 := blk_frozen BK170.out 0
       have hfz37_1 := blk_frozen BK170.out 1
       have hfz37_2 := blk_frozen BK170.out 2
       go_wp2
       refine bodyPost_ret (results_ct rfl _ _ gb170 27 #[.int .u8 a1, .int .u64 (IntKind.u64.wrap (-a0_1)), .string (⟨#[]⟩ : ByteArray)] (0, 0) _ rfl (by (with_reducible repeat (first | refine blk_drewN ?_ _ | refine blk_drew ?_ | refine blk_alloc ?_ _)); refine blk_put (cs := #[.int .u8 a1, .int .u64 (IntKind.u64.wrap (-a0_1)), .string (⟨#[]⟩ : ByteArray)]) ?_ 2 _ rfl; (with_reducible repeat (first | refine blk_drewN ?_ _ | refine blk_drew ?_ | refine blk_alloc ?_ _)); refine blk_put (cs := #[.int .u8 a1, .int .u64 0, .string (⟨#[]⟩ : ByteArray)]) ?_ 1 _ rfl; (with_reducible repeat (first | refine blk_drewN ?_ _ | refine blk_drew ?_ | refine blk_alloc ?_ _)); refine blk_put (cs := #[.int .u8 0, .int .u64 0, .string (⟨#[]⟩ : ByteArray)]) ?_ 0 _ rfl; (with_reducible repeat (first | refine blk_drewN ?_ _ | refine blk_drew ?_ | refine blk_alloc ?_ _)); exact BK170.out) Try.underlying27 rfl (by kernel_rfl)) rfl ?_
       exact ⟨by first | rfl | (simp [errW_none, errW_some] <;> rfl) | (simp [*, errW_none, errW_some] <;> rfl), bs HB⟩
   ·replace c14 := Bool.eq_false_iff.mpr c14
    subst c14
    have H1 : ((value_signed.f a1).bind fun t174 => (if t174 = true then (if a0_1 > 9223372036854775807 then (value_wide_of.j2 kj3 a1 a2 a0_1 true) else ((value_fits.f kj3 a1 a0_1).bind fun t175 => (value_wide_of.j2 kj3 a1 a2 a0_1 (!t175)))) else (if a1 = 14 then (if a0_1 > 9223372036854775807 then (value_wide_of.j2 kj3 a1 a2 a0_1 true) else ((value_fits.f kj3 a1 a0_1).bind fun t176 => (value_wide_of.j2 kj3 a1 a2 a0_1 (!t176)))) else ((value_fits.f kj3 a1 a0_1).bind fun t177 => (value_wide_of.j2 kj3 a1 a2 a0_1 (!t177)))))) = some (r1, r2, r3, r4) := by rw [if_neg (show ¬ (false = true) by decide)] at H; exact H
    clear H
    have H := H1
    clear H1
    have HC38 := Aside0.mk H
    clear H
    go_upto_region 6 with (fail)
    go_cut [42] (fun v42 wc => ∃ (kq : Nat) (x42_37 : Bool), v42 = .bool x42_37 ∧ Aside0 (value_wide_of.j2 kq a1 a2 a0_1 x42_37 = some (r1, r2, r3, r4)) ∧ Aside0 (kq ≤ kj3) ∧ Aside0 (wc.heap[gb169]? = some (.cells #[.bool a0_0, .int .u64 a0_1] 58 (0, 0))) ∧ Aside0 (wc.heap[gb170]? = some (.cells #[.int .u8 0, .int .u64 0, .string (⟨#[]⟩ : ByteArray)] 27 (0, 0))) ∧ Aside0 (Below w.heap.size w wc))
    case first =>
     have H := HC38.out
     clear HC38
     replace H := Option.bind_eq_some_iff.mp H
     obtain ⟨t174, A390, H⟩ := H
     replace H : (if t174 = true then (if a0_1 > 9223372036854775807 then (value_wide_of.j2 kj3 a1 a2 a0_1 true) else ((value_fits.f kj3 a1 a0_1).bind fun t175 => (value_wide_of.j2 kj3 a1 a2 a0_1 (!t175)))) else (if a1 = 14 then (if a0_1 > 9223372036854775807 then (value_wide_of.j2 kj3 a1 a2 a0_1 true) else ((value_fits.f kj3 a1 a0_1).bind fun t176 => (value_wide_of.j2 kj3 a1 a2 a0_1 (!t176)))) else ((value_fits.f kj3 a1 a0_1).bind fun t177 => (value_wide_of.j2 kj3 a1 a2 a0_1 (!t177))))) = some (r1, r2, r3, r4) := H
     have A39 := Aside0.mk A390
     clear A390
     by_cases c40 : t174 = true
     ·subst c40
      have H1 : (if a0_1 > 9223372036854775807 then (value_wide_of.j2 kj3 a1 a2 a0_1 true) else ((value_fits.f kj3 a1 a0_1).bind fun t175 => (value_wide_of.j2 kj3 a1 a2 a0_1 (!t175)))) = some (r1, r2, r3, r4) := by rw [if_pos rfl] at H; exact H
      clear H
      have H := H1
      clear H1
      by_cases c41 : a0_1 > 9223372036854775807
      ·rw [if_pos c41] at H
       have c41b0 : decide (9223372036854775807 < a0_1) = true := decide_eq_true c41
       clear c41
       (first | rw [c41b0] | (simp only [i64_w, i32_w]; rw [c41b0]) | skip)
       have H' := Aside0.mk H
       clear H
       go_wp2_with (first | ((with_reducible refine gate_callee (f := 40) rfl ?_); refine goesL_ (some 44) rfl rfl Try.func40 (by kernel_rfl) rfl #[.int .u8 a1] rfl (by (try simp only [List.map_toArray, List.map_cons, List.map_nil]); first | done | rfl | (simp only [List.length_drop, List.length_take]; rfl)) ?_; (with_reducible refine (value_signed.calls a1 true _ A39.out).mono ?_); rintro e w' ⟨rfl, ⟨nd, rfl⟩⟩; refine ⟨_, rfl, ?_⟩; have hnb42 := NB169_170.out; have hnc42 := NB170_169.out; have hcz43_0 : wc.cell? ⟨gb169, 0, none⟩ = some (.bool a0_0) := bc BK169 0; have hcz43_1 : wc.cell? ⟨gb169, 1, none⟩ = some (.int .u64 a0_1) := bc BK169 1; have hfz43_0 := blk_frozen BK169.out 0; have hfz43_1 := blk_frozen BK169.out 1))
       go_meet
       case rel => (try rw [show decide (a0_1 > 9223372036854775807) = true from by first | assumption | exact decide_eq_true (by assumption)]); exact ⟨_, (true), (by first | rfl | (simp; done) | (simp [*]; done)), H', ⟨by have := HJ3.out; first | omega | exact Nat.le_refl _⟩, ⟨by (with_reducible repeat (first | refine blk_drewN ?_ _ | refine blk_drew ?_ | refine blk_alloc ?_ _)); exact BK169.out⟩, ⟨by (with_reducible repeat (first | refine blk_drewN ?_ _ | refine blk_drew ?_ | refine blk_alloc ?_ _)); exact BK170.out⟩, ⟨bs HB⟩⟩
      ·rw [if_neg c41] at H
       have c41b0 : decide (9223372036854775807 < a0_1) = false := decide_eq_false c41
       clear c41
       (first | rw [c41b0] | (simp only [i64_w, i32_w]; rw [c41b0]) | skip)
       replace H := Option.bind_eq_some_iff.mp H
       obtain ⟨t175, A440, H⟩ := H
       replace H : (value_wide_of.j2 kj3 a1 a2 a0_1 (!t175)) = some (r1, r2, r3, r4) := H
       have A44 := Aside0.mk A440
       clear A440
       have H' := Aside0.mk H
       clear H
       go_wp2_with (first | ((with_reducible refine gate_callee (f := 40) rfl ?_); refine goesL_ (some 44) rfl rfl Try.func40 (by kernel_rfl) rfl #[.int .u8 a1] rfl (by (try simp only [List.map_toArray, List.map_cons, List.map_nil]); first | done | rfl | (simp only [List.length_drop, List.length_take]; rfl)) ?_; (with_reducible refine (value_signed.calls a1 true _ A39.out).mono ?_); rintro e w' ⟨rfl, ⟨nd, rfl⟩⟩; refine ⟨_, rfl, ?_⟩; have hnb45 := NB169_170.out; have hnc45 := NB170_169.out; have hcz46_0 : wc.cell? ⟨gb169, 0, none⟩ = some (.bool a0_0) := bc BK169 0; have hcz46_1 : wc.cell? ⟨gb169, 1, none⟩ = some (.int .u64 a0_1) := bc BK169 1; have hfz46_0 := blk_frozen BK169.out 0; have hfz46_1 := blk_frozen BK169.out 1) | (go_at_call 36; (with_reducible refine (value_fits.calls kj3 a1 a0_1 t175 _ A44.out).mono ?_); rintro e w' ⟨rfl, ⟨nd, rfl⟩⟩))
       go_meet
       case rel => (try rw [show decide (a0_1 > 9223372036854775807) = false from by first | assumption | exact decide_eq_false (by assumption)]); exact ⟨_, (!t175), (by first | rfl | (simp; done) | (simp [*]; done)), H', ⟨by have := HJ3.out; first | omega | exact Nat.le_refl _⟩, ⟨by (with_reducible repeat (first | refine blk_drewN ?_ _ | refine blk_drew ?_ | refine blk_alloc ?_ _)); exact BK169.out⟩, ⟨by (with_reducible repeat (first | refine blk_drewN ?_ _ | refine blk_drew ?_ | refine blk_alloc ?_ _)); exact BK170.out⟩, ⟨bs HB⟩⟩
     ·replace c40 := Bool.eq_false_iff.mpr c40
      subst c40
      have H1 : (if a1 = 14 then (if a0_1 > 9223372036854775807 then (value_wide_of.j2 kj3 a1 a2 a0_1 true) else ((value_fits.f kj3 a1 a0_1).bind fun t176 => (value_wide_of.j2 kj3 a1 a2 a0_1 (!t176)))) else ((value_fits.f kj3 a1 a0_1).bind fun t177 => (value_wide_of.j2 kj3 a1 a2 a0_1 (!t177)))) = some (r1, r2, r3, r4) := by rw [if_neg (show ¬ (false = true) by decide)] at H; exact H
      clear H
      have H := H1
      clear H1
      by_cases c47 : a1 = 14
      ·rw [if_pos c47] at H
       have c47b0 : (a1 == 14) = true := beq_iff_eq.mpr c47
       have c47b1 : (a1 != 14) = false := bne_eq_false_iff_eq.mpr c47
       clear c47
       by_cases c48 : a0_1 > 9223372036854775807
       ·rw [if_pos c48] at H
        have c48b0 : decide (9223372036854775807 < a0_1) = true := decide_eq_true c48
        clear c48
        have H' := Aside0.mk H
        clear H
        go_wp2_with (first | ((with_reducible refine gate_callee (f := 40) rfl ?_); refine goesL_ (some 44) rfl rfl Try.func40 (by kernel_rfl) rfl #[.int .u8 a1] rfl (by (try simp only [List.map_toArray, List.map_cons, List.map_nil]); first | done | rfl | (simp only [List.length_drop, List.length_take]; rfl)) ?_; (with_reducible refine (value_signed.calls a1 false _ A39.out).mono ?_); rintro e w' ⟨rfl, ⟨nd, rfl⟩⟩; refine ⟨_, rfl, ?_⟩; have hnb49 := NB169_170.out; have hnc49 := NB170_169.out; have hcz50_0 : wc.cell? ⟨gb169, 0, none⟩ = some (.bool a0_0) := bc BK169 0; have hcz50_1 : wc.cell? ⟨gb169, 1, none⟩ = some (.int .u64 a0_1) := bc BK169 1; have hfz50_0 := blk_frozen BK169.out 0; have hfz50_1 := blk_frozen BK169.out 1))
        go_meet
        case rel => (try rw [show decide (a0_1 > 9223372036854775807) = true from by first | assumption | exact decide_eq_true (by assumption)]); exact ⟨_, (true), (by first | rfl | (simp; done) | (simp [*]; done)), H', ⟨by have := HJ3.out; first | omega | exact Nat.le_refl _⟩, ⟨by (with_reducible repeat (first | refine blk_drewN ?_ _ | refine blk_drew ?_ | refine blk_alloc ?_ _)); exact BK169.out⟩, ⟨by (with_reducible repeat (first | refine blk_drewN ?_ _ | refine blk_drew ?_ | refine blk_alloc ?_ _)); exact BK170.out⟩, ⟨bs HB⟩⟩
       ·rw [if_neg c48] at H
        have c48b0 : decide (9223372036854775807 < a0_1) = false := decide_eq_false c48
        clear c48
        replace H := Option.bind_eq_some_iff.mp H
        obtain ⟨t176, A510, H⟩ := H
        replace H : (value_wide_of.j2 kj3 a1 a2 a0_1 (!t176)) = some (r1, r2, r3, r4) := H
        have A51 := Aside0.mk A510
        clear A510
        have H' := Aside0.mk H
        clear H
        go_wp2_with (first | ((with_reducible refine gate_callee (f := 40) rfl ?_); refine goesL_ (some 44) rfl rfl Try.func40 (by kernel_rfl) rfl #[.int .u8 a1] rfl (by (try simp only [List.map_toArray, List.map_cons, List.map_nil]); first | done | rfl | (simp only [List.length_drop, List.length_take]; rfl)) ?_; (with_reducible refine (value_signed.calls a1 false _ A39.out).mono ?_); rintro e w' ⟨rfl, ⟨nd, rfl⟩⟩; refine ⟨_, rfl, ?_⟩; have hnb52 := NB169_170.out; have hnc52 := NB170_169.out; have hcz53_0 : wc.cell? ⟨gb169, 0, none⟩ = some (.bool a0_0) := bc BK169 0; have hcz53_1 : wc.cell? ⟨gb169, 1, none⟩ = some (.int .u64 a0_1) := bc BK169 1; have hfz53_0 := blk_frozen BK169.out 0; have hfz53_1 := blk_frozen BK169.out 1) | (go_at_call 36; (with_reducible refine (value_fits.calls kj3 a1 a0_1 t176 _ A51.out).mono ?_); rintro e w' ⟨rfl, ⟨nd, rfl⟩⟩))
        go_meet
        case rel => (try rw [show decide (a0_1 > 9223372036854775807) = false from by first | assumption | exact decide_eq_false (by assumption)]); exact ⟨_, (!t176), (by first | rfl | (simp; done) | (simp [*]; done)), H', ⟨by have := HJ3.out; first | omega | exact Nat.le_refl _⟩, ⟨by (with_reducible repeat (first | refine blk_drewN ?_ _ | refine blk_drew ?_ | refine blk_alloc ?_ _)); exact BK169.out⟩, ⟨by (with_reducible repeat (first | refine blk_drewN ?_ _ | refine blk_drew ?_ | refine blk_alloc ?_ _)); exact BK170.out⟩, ⟨bs HB⟩⟩
      ·rw [if_neg c47] at H
       have c47b0 : (a1 == 14) = false := beq_eq_false_iff_ne.mpr c47
       have c47b1 : (a1 != 14) = true := bne_iff_ne.mpr c47
       replace H := Option.bind_eq_some_iff.mp H
       obtain ⟨t177, A540, H⟩ := H
       replace H : (value_wide_of.j2 kj3 a1 a2 a0_1 (!t177)) = some (r1, r2, r3, r4) := H
       have A54 := Aside0.mk A540
       clear A540
       have H' := Aside0.mk H
       clear H
       go_wp2_with (first | ((with_reducible refine gate_callee (f := 40) rfl ?_); refine goesL_ (some 44) rfl rfl Try.func40 (by kernel_rfl) rfl #[.int .u8 a1] rfl (by (try simp only [List.map_toArray, List.map_cons, List.map_nil]); first | done | rfl | (simp only [List.length_drop, List.length_take]; rfl)) ?_; (with_reducible refine (value_signed.calls a1 false _ A39.out).mono ?_); rintro e w' ⟨rfl, ⟨nd, rfl⟩⟩; refine ⟨_, rfl, ?_⟩) | (go_at_call 36; (with_reducible refine (value_fits.calls kj3 a1 a0_1 t177 _ A54.out).mono ?_); rintro e w' ⟨rfl, ⟨nd, rfl⟩⟩))
       go_meet
       case rel => exact ⟨_, (!t177), (by first | rfl | (simp; done) | (simp [*]; done)), H', ⟨by have := HJ3.out; first | omega | exact Nat.le_refl _⟩, ⟨by (with_reducible repeat (first | refine blk_drewN ?_ _ | refine blk_drew ?_ | refine blk_alloc ?_ _)); exact BK169.out⟩, ⟨by (with_reducible repeat (first | refine blk_drewN ?_ _ | refine blk_drew ?_ | refine blk_alloc ?_ _)); exact BK170.out⟩, ⟨bs HB⟩⟩
    case rest =>
     clear HC38
     (try clear c1);(try clear c2);(try clear p2);(try clear c3);(try clear c4);(try clear c5);(try clear c7);(try clear c9);(try clear c10);(try clear c12);(try clear c14);(try clear c16);(try clear c19);(try clear c20);(try clear c20b0);(try clear c21);(try clear c24);(try clear c26);(try clear c26b0);(try clear c26b1);(try clear c27);(try clear c27b0);(try clear c28);(try clear c31);(try clear c33);(try clear c34);(try clear c36);(try clear c40);(try clear c41);(try clear c41b0);(try clear c42);(try clear c45);(try clear c47);(try clear c47b0);(try clear c47b1);(try clear c48);(try clear c48b0);(try clear c49);(try clear c52);(try clear hcz11_0);(try clear hcz11_1);(try clear hcz13_0);(try clear hcz13_1);(try clear hcz17_0);(try clear hcz17_1);(try clear hcz22_0);(try clear hcz22_1);(try clear hcz25_0);(try clear hcz25_1);(try clear hcz29_0);(try clear hcz29_1);(try clear hcz32_0);(try clear hcz32_1);(try clear hcz35_0);(try clear hcz35_1);(try clear hcz35_2);(try clear hcz37_0);(try clear hcz37_1);(try clear hcz37_2);(try clear hcz43_0);(try clear hcz43_1);(try clear hcz46_0);(try clear hcz46_1);(try clear hcz50_0);(try clear hcz50_1);(try clear hcz53_0);(try clear hcz53_1);(try clear hcz8_0);(try clear hcz8_1);(try clear hfz11_0);(try clear hfz11_1);(try clear hfz13_0);(try clear hfz13_1);(try clear hfz17_0);(try clear hfz17_1);(try clear hfz22_0);(try clear hfz22_1);(try clear hfz25_0);(try clear hfz25_1);(try clear hfz29_0);(try clear hfz29_1);(try clear hfz32_0);(try clear hfz32_1);(try clear hfz35_0);(try clear hfz35_1);(try clear hfz35_2);(try clear hfz37_0);(try clear hfz37_1);(try clear hfz37_2);(try clear hfz43_0);(try clear hfz43_1);(try clear hfz46_0);(try clear hfz46_1);(try clear hfz50_0);(try clear hfz50_1);(try clear hfz53_0);(try clear hfz53_1);(try clear hfz8_0);(try clear hfz8_1);(try clear p2)
     obtain ⟨kq, x42_37, rfl, HA, HJ37, BK169, BK170, HB⟩ := hcut
     cases kq with
     | zero => exact absurd HA.out (by simp [value_wide_of.j2])
     | succ kj37 =>
      have H := HA.out
      clear HA
      simp only [value_wide_of.j2] at H
      by_cases c55 : x42_37 = true
      ·subst c55
       have H1 : (some (0, 0, (⟨#[]⟩ : ByteArray), a2)) = some (r1, r2, r3, r4) := by rw [if_pos rfl] at H; exact H
       clear H
       have H := H1
       clear H1
       simp only [Option.some.injEq, Prod.mk.injEq] at H
       obtain ⟨rfl, rfl, rfl, rfl⟩ := H
       have hnb56 := NB170_169.out
       have hnc56 := NB169_170.out
       have hcz57_0 : wc.cell? ⟨gb170, 0, none⟩ = some (.int .u8 0) := bc BK170 0
       have hcz57_1 : wc.cell? ⟨gb170, 1, none⟩ = some (.int .u64 0) := bc BK170 1
       have hcz57_2 : wc.cell? ⟨gb170, 2, none⟩ = some (.string (⟨#[]⟩ : ByteArray)) := bc BK170 2
       have hfz57_0 := blk_frozen BK170.out 0
       have hfz57_1 := blk_frozen BK170.out 1
       have hfz57_2 := blk_frozen BK170.out 2
       go_wp2
       refine bodyPost_ret (results_ct rfl _ _ gb170 27 #[.int .u8 0, .int .u64 0, .string (⟨#[]⟩ : ByteArray)] (0, 0) _ rfl (by (with_reducible repeat (first | refine blk_drewN ?_ _ | refine blk_drew ?_ | refine blk_alloc ?_ _)); refine blk_put (cs := #[.int .u8 0, .int .u64 0, .string (⟨#[]⟩ : ByteArray)]) ?_ 2 _ rfl; (with_reducible repeat (first | refine blk_drewN ?_ _ | refine blk_drew ?_ | refine blk_alloc ?_ _)); refine blk_put (cs := #[.int .u8 0, .int .u64 0, .string (⟨#[]⟩ : ByteArray)]) ?_ 1 _ rfl; (with_reducible repeat (first | refine blk_drewN ?_ _ | refine blk_drew ?_ | refine blk_alloc ?_ _)); refine blk_put (cs := #[.int .u8 0, .int .u64 0, .string (⟨#[]⟩ : ByteArray)]) ?_ 0 _ rfl; (with_reducible repeat (first | refine blk_drewN ?_ _ | refine blk_drew ?_ | refine blk_alloc ?_ _)); exact BK170.out) Try.underlying27 rfl (by kernel_rfl)) rfl ?_
       exact ⟨by first | rfl | (simp [errW_none, errW_some] <;> rfl) | (simp [*, errW_none, errW_some] <;> rfl), bs HB⟩
      ·replace c55 := Bool.eq_false_iff.mpr c55
       subst c55
       have H1 : (some (a1, a0_1, (⟨#[]⟩ : ByteArray), 0)) = some (r1, r2, r3, r4) := by rw [if_neg (show ¬ (false = true) by decide)] at H; exact H
       clear H
       have H := H1
       clear H1
       simp only [Option.some.injEq, Prod.mk.injEq] at H
       obtain ⟨rfl, rfl, rfl, rfl⟩ := H
       have hnb58 := NB170_169.out
       have hnc58 := NB169_170.out
       have hcz59_0 : wc.cell? ⟨gb170, 0, none⟩ = some (.int .u8 0) := bc BK170 0
       have hcz59_1 : wc.cell? ⟨gb170, 1, none⟩ = some (.int .u64 0) := bc BK170 1
       have hcz59_2 : wc.cell? ⟨gb170, 2, none⟩ = some (.string (⟨#[]⟩ : ByteArray)) := bc BK170 2
       have hfz59_0 := blk_frozen BK170.out 0
       have hfz59_1 := blk_frozen BK170.out 1
       have hfz59_2 := blk_frozen BK170.out 2
       go_wp2
       refine bodyPost_ret (results_ct rfl _ _ gb170 27 #[.int .u8 a1, .int .u64 a0_1, .string (⟨#[]⟩ : ByteArray)] (0, 0) _ rfl (by (with_reducible repeat (first | refine blk_drewN ?_ _ | refine blk_drew ?_ | refine blk_alloc ?_ _)); refine blk_put (cs := #[.int .u8 a1, .int .u64 a0_1, .string (⟨#[]⟩ : ByteArray)]) ?_ 2 _ rfl; (with_reducible repeat (first | refine blk_drewN ?_ _ | refine blk_drew ?_ | refine blk_alloc ?_ _)); refine blk_put (cs := #[.int .u8 a1, .int .u64 0, .string (⟨#[]⟩ : ByteArray)]) ?_ 1 _ rfl; (with_reducible repeat (first | refine blk_drewN ?_ _ | refine blk_drew ?_ | refine blk_alloc ?_ _)); refine blk_put (cs := #[.int .u8 0, .int .u64 0, .string (⟨#[]⟩ : ByteArray)]) ?_ 0 _ rfl; (with_reducible repeat (first | refine blk_drewN ?_ _ | refine blk_drew ?_ | refine blk_alloc ?_ _)); exact BK170.out) Try.underlying27 rfl (by kernel_rfl)) rfl ?_
       exact ⟨by first | rfl | (simp [errW_none, errW_some] <;> rfl) | (simp [*, errW_none, errW_some] <;> rfl), bs HB⟩

end Go.Proofs.Ytlmmkaddlflepaa.POrd
