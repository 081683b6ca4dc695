-- by mkprint.py, a program of this session's own
import Derived.Test.YtlmmkaddlflepaaPReck0
import Derived.Test.YtlmmkaddlflepaaPReck4
import Derived.Test.YtlmmkaddlflepaaPReck5
namespace Go.Proofs.Ytlmmkaddlflepaa.PReck
open Go.RowKit Go.Proofs.YtlmmkaddlflepaaW.PrintWords Go.Proofs.YtlmmkaddlflepaaW.PrintLast Go.Proofs.YtlmmkaddlflepaaW.PrintMore
attribute [local go_sem] max2_int min2_int max_two min_two max_three min_three max_four min_four   -- for this text's walks alone
set_option linter.unusedVariables false
set_option linter.unusedSimpArgs false

attribute [local go_sem] cell_isSome un_neg_float str_gtr str_leq str_geq ext34 ext52
/-! ### value_integers: function 56 -/
mutual
def value_integers.j1 : Nat → Bool → Int → Int → ByteArray → Bool → Int → Option (Int × Int × ByteArray × Int)
 | 0, _, _, _, _, _, _ => none
 | k + 1, x10, x185000, x185001, x185002, x194000, x194001 => if x10 = true then ((value_wide_of.f k x194000 x194001 x185000 1).bind fun bt200 => (some (bt200.1, bt200.2.1, bt200.2.2.1, bt200.2.2.2))) else (some (0, 0, (⟨#[]⟩ : ByteArray), 1))
def value_integers.j0 : Nat → Int → Int → ByteArray → Bool → Int → Bool → Int → Option (Int × Int × ByteArray × Int)
 | 0, _, _, _, _, _, _, _ => none
 | k + 1, x185000, x185001, x185002, x192000, x192001, x193000, x193001 => (value_plus.f x192000 x192001 x193000 x193001).bind fun bt197 => (value_integers.j1 k bt197.2.2 x185000 x185001 x185002 bt197.1 bt197.2.1)
end
def value_integers.f (k : Nat) (a0 : Int) (a1_0 : Int) (a1_1 : Int) (a1_2 : ByteArray) (a2_0 : Int) (a2_1 : Int) (a2_2 : ByteArray) : Option (Int × Int × ByteArray × Int) := (value_sized.f a1_0 a1_1 a1_2).bind fun bt187 => ((value_sized.f a2_0 a2_1 a2_2).bind fun bt189 => (if a0 = 2 then (value_integers.j0 k a1_0 a1_1 a1_2 bt187.1 bt187.2 (!bt189.1) bt189.2) else (if a0 = 1 then (value_integers.j0 k a1_0 a1_1 a1_2 bt187.1 bt187.2 bt189.1 bt189.2) else (if a0 = 3 then ((value_times.f bt187.1 bt187.2 bt189.1 bt189.2).bind fun bt194 => (value_integers.j1 k bt194.2.2 a1_0 a1_1 a1_2 bt194.1 bt194.2.1)) else (if a0 = 4 then (if bt189.2 = 0 then (some (0, 0, (⟨#[]⟩ : ByteArray), 2)) else (value_integers.j1 k true a1_0 a1_1 a1_2 (bt187.1 != bt189.1) (IntKind.u64.wrap (Int.tdiv bt187.2 bt189.2)))) else (if bt189.2 = 0 then (some (0, 0, (⟨#[]⟩ : ByteArray), 2)) else (value_integers.j1 k true a1_0 a1_1 a1_2 bt187.1 (Int.tmod bt187.2 bt189.2))))))))
theorem value_integers.mono_l : ∀ k, (∀ y0 y1 y2 y3 y4 y5, LeO (value_integers.j1 k y0 y1 y2 y3 y4 y5) (value_integers.j1 (k + 1) y0 y1 y2 y3 y4 y5)) ∧ (∀ y0 y1 y2 y3 y4 y5 y6, LeO (value_integers.j0 k y0 y1 y2 y3 y4 y5 y6) (value_integers.j0 (k + 1) y0 y1 y2 y3 y4 y5 y6))
 | 0 => ⟨fun _ _ _ _ _ _ r h => by simp [value_integers.j1] at h, fun _ _ _ _ _ _ _ r h => by simp [value_integers.j0] at h⟩
 | k + 1 => by
  obtain ⟨ih0, ih1⟩ := value_integers.mono_l k
  refine ⟨?_, ?_⟩
  ·intro y0 y1 y2 y3 y4 y5
   unfold value_integers.j1
   repeat' first
   | (with_reducible exact ih0 _ _ _ _ _ _)
   | (with_reducible exact ih1 _ _ _ _ _ _ _)
   | (with_reducible exact value_wide_of.mono _ _ _ _ _)
   | (with_reducible exact LeO.refl _)
   | (with_reducible exact LeO.none _)
   | (with_reducible refine LeO.ite ?_ ?_)
   | (with_reducible refine LeO.bind ?_ (fun _ => ?_))
   | exact ih0 _ _ _ _ _ _
   | exact ih1 _ _ _ _ _ _ _
   | exact value_wide_of.mono _ _ _ _ _
   | exact LeO.none _
   | refine LeO.ite ?_ ?_
   | refine LeO.bind ?_ (fun _ => ?_)
  ·intro y0 y1 y2 y3 y4 y5 y6
   unfold value_integers.j0
   repeat' first
   | (with_reducible exact ih0 _ _ _ _ _ _)
   | (with_reducible exact ih1 _ _ _ _ _ _ _)
   | (with_reducible exact value_wide_of.mono _ _ _ _ _)
   | (with_reducible exact LeO.refl _)
   | (with_reducible exact LeO.none _)
   | (with_reducible refine LeO.ite ?_ ?_)
   | (with_reducible refine LeO.bind ?_ (fun _ => ?_))
   | exact ih0 _ _ _ _ _ _
   | exact ih1 _ _ _ _ _ _ _
   | exact value_wide_of.mono _ _ _ _ _
   | exact LeO.none _
   | refine LeO.ite ?_ ?_
   | refine LeO.bind ?_ (fun _ => ?_)
theorem value_integers.mono : ∀ a0 a1 a2 a3 a4 a5 a6 k, LeO (value_integers.f k a0 a1 a2 a3 a4 a5 a6) (value_integers.f (k + 1) a0 a1 a2 a3 a4 a5 a6) := by
 intro a0 a1 a2 a3 a4 a5 a6 k
 obtain ⟨ih0, ih1⟩ := value_integers.mono_l k
 unfold value_integers.f
 repeat' first
   | (with_reducible exact ih0 _ _ _ _ _ _)
   | (with_reducible exact ih1 _ _ _ _ _ _ _)
   | (with_reducible exact value_wide_of.mono _ _ _ _ _)
   | (with_reducible exact LeO.refl _)
   | (with_reducible exact LeO.none _)
   | (with_reducible refine LeO.ite ?_ ?_)
   | (with_reducible refine LeO.bind ?_ (fun _ => ?_))
   | exact ih0 _ _ _ _ _ _
   | exact ih1 _ _ _ _ _ _ _
   | exact value_wide_of.mono _ _ _ _ _
   | exact LeO.none _
   | refine LeO.ite ?_ ?_
   | refine LeO.bind ?_ (fun _ => ?_)
def value_integers.T1 : Bool × List (List Nat × List Nat) := (true, [([], []), ([0], [0]), ([], []), ([2, 1], [2]), ([], []), ([], []), ([4, 1, 3, 0, 1, 4, 5], [1, 4]), ([5, 3, 6, 0, 1, 2, 3, 4, 5, 6], [3, 5])])
def value_integers.B1 : List Nat := [0, 1, 0, 7, 0, 0, 63, 127]
theorem value_integers.tab1 : rtab .any (opsOf Try.f56 1) = value_integers.T1 := by kernel_rfl
theorem value_integers.bits1 : waitsOk value_integers.T1.2 value_integers.B1 = true := by kernel_rfl
def value_integers.T14 : Bool × List (List Nat × List Nat) := (true, [([], []), ([0], [0]), ([], []), ([2], [2]), ([1, 3], [1, 3]), ([], []), ([5], [5]), ([], []), ([7], [7]), ([6, 8], [6, 8]), ([4, 9], [4, 9]), ([10, 0, 1, 2, 3, 4, 5, 6, 7, 8, 9, 10], [10])])
def value_integers.B14 : List Nat := [0, 1, 0, 4, 15, 0, 32, 0, 128, 480, 1023, 2047]
theorem value_integers.tab14 : rtab .any (opsOf Try.f56 14) = value_integers.T14 := by kernel_rfl
theorem value_integers.bits14 : waitsOk value_integers.T14.2 value_integers.B14 = true := by kernel_rfl
def value_integers.T17 : Bool × List (List Nat × List Nat) := (true, [([], []), ([0], [0]), ([], []), ([2], [2]), ([], []), ([4], [4]), ([3, 5], [3, 5]), ([1, 6], [1, 6]), ([7, 0, 1, 2, 3, 4, 5, 6, 7], [7])])
def value_integers.B17 : List Nat := [0, 1, 0, 4, 0, 16, 60, 127, 255]
theorem value_integers.tab17 : rtab .any (opsOf Try.f56 17) = value_integers.T17 := by kernel_rfl
theorem value_integers.bits17 : waitsOk value_integers.T17.2 value_integers.B17 = true := by kernel_rfl
set_option maxHeartbeats 8000000 in
set_option maxRecDepth 100000 in
theorem value_integers.calls (k : Nat) (a0 : Int) (a1_0 : Int) (a1_1 : Int) (a1_2 : ByteArray) (a2_0 : Int) (a2_1 : Int) (a2_2 : ByteArray) (r1 : Int) (r2 : Int) (r3 : ByteArray) (r4 : Int) (w : World) (h : value_integers.f k a0 a1_0 a1_1 a1_2 a2_0 a2_1 a2_2 = some (r1, r2, r3, r4)) :
  Calls Try.prog 56 #[.int .i64 a0, .agg #[.int .u8 a1_0, .int .u64 a1_1, .string a1_2], .agg #[.int .u8 a2_0, .int .u64 a2_1, .string a2_2]] w fun e w' => e = .returned (.tuple #[.agg #[.int .u8 r1, .int .u64 r2, .string r3], .int .i64 r4]) ∧ Below w.heap.size w w' := by
 have hu27 := Try.underlying27
 have hu58 := Try.underlying58
 have HB := Aside0.mk (Below.refl w.heap.size w)
 have H : ((value_sized.f a1_0 a1_1 a1_2).bind fun bt187 => ((value_sized.f a2_0 a2_1 a2_2).bind fun bt189 => (if a0 = 2 then (value_integers.j0 k a1_0 a1_1 a1_2 bt187.1 bt187.2 (!bt189.1) bt189.2) else (if a0 = 1 then (value_integers.j0 k a1_0 a1_1 a1_2 bt187.1 bt187.2 bt189.1 bt189.2) else (if a0 = 3 then ((value_times.f bt187.1 bt187.2 bt189.1 bt189.2).bind fun bt194 => (value_integers.j1 k bt194.2.2 a1_0 a1_1 a1_2 bt194.1 bt194.2.1)) else (if a0 = 4 then (if bt189.2 = 0 then (some (0, 0, (⟨#[]⟩ : ByteArray), 2)) else (value_integers.j1 k true a1_0 a1_1 a1_2 (bt187.1 != bt189.1) (IntKind.u64.wrap (Int.tdiv bt187.2 bt189.2)))) else (if bt189.2 = 0 then (some (0, 0, (⟨#[]⟩ : ByteArray), 2)) else (value_integers.j1 k true a1_0 a1_1 a1_2 bt187.1 (Int.tmod bt187.2 bt189.2))))))))) = some (r1, r2, r3, r4) := h
 clear h
 replace H := Option.bind_eq_some_iff.mp H
 obtain ⟨⟨t187, t188⟩, A40, H⟩ := H
 replace H : ((value_sized.f a2_0 a2_1 a2_2).bind fun bt189 => (if a0 = 2 then (value_integers.j0 k a1_0 a1_1 a1_2 t187 t188 (!bt189.1) bt189.2) else (if a0 = 1 then (value_integers.j0 k a1_0 a1_1 a1_2 t187 t188 bt189.1 bt189.2) else (if a0 = 3 then ((value_times.f t187 t188 bt189.1 bt189.2).bind fun bt194 => (value_integers.j1 k bt194.2.2 a1_0 a1_1 a1_2 bt194.1 bt194.2.1)) else (if a0 = 4 then (if bt189.2 = 0 then (some (0, 0, (⟨#[]⟩ : ByteArray), 2)) else (value_integers.j1 k true a1_0 a1_1 a1_2 (t187 != bt189.1) (IntKind.u64.wrap (Int.tdiv t188 bt189.2)))) else (if bt189.2 = 0 then (some (0, 0, (⟨#[]⟩ : ByteArray), 2)) else (value_integers.j1 k true a1_0 a1_1 a1_2 t187 (Int.tmod t188 bt189.2)))))))) = some (r1, r2, r3, r4) := H
 have A4 := Aside0.mk A40
 clear A40
 replace H := Option.bind_eq_some_iff.mp H
 obtain ⟨⟨t189, t190⟩, A50, H⟩ := H
 replace H : (if a0 = 2 then (value_integers.j0 k a1_0 a1_1 a1_2 t187 t188 (!t189) t190) else (if a0 = 1 then (value_integers.j0 k a1_0 a1_1 a1_2 t187 t188 t189 t190) else (if a0 = 3 then ((value_times.f t187 t188 t189 t190).bind fun bt194 => (value_integers.j1 k bt194.2.2 a1_0 a1_1 a1_2 bt194.1 bt194.2.1)) else (if a0 = 4 then (if t190 = 0 then (some (0, 0, (⟨#[]⟩ : ByteArray), 2)) else (value_integers.j1 k true a1_0 a1_1 a1_2 (t187 != t189) (IntKind.u64.wrap (Int.tdiv t188 t190)))) else (if t190 = 0 then (some (0, 0, (⟨#[]⟩ : ByteArray), 2)) else (value_integers.j1 k true a1_0 a1_1 a1_2 t187 (Int.tmod t188 t190))))))) = some (r1, r2, r3, r4) := H
 have A5 := Aside0.mk A50
 clear A50
 have HC6 := Aside0.mk H
 clear H
 go_enter Try.func56, Try.ntmps56
 try go_wp2_with (first | ((with_reducible refine gate_dst (N := 4) rfl ?_); refine box_event ?hg (N := 4) ?hd (cs := #[.int .u8 a1_0, .int .u64 a1_1, .string a1_2]) (t := 27) ?hr ?_; (case hd => rfl); (case hg => rfl); (case hr => first | (go_simp; done) | (go_simp; rfl)); intro gb184 hg w7 hbox hb; have n0_ := bt HB hb; have n1_ := Aside0.mk (hbox); have n2_ := gs hg HB; have n3_ := gs hg HB; clear HB; have HB := n0_; have BK184 := n1_; have GW184 := n2_; have GE184 := n3_; clear n0_ n1_ n2_ n3_; clear hb hbox hg) | ((with_reducible refine gate_dst (N := 5) rfl ?_); refine box_event ?hg (N := 5) ?hd (cs := #[.int .u8 a2_0, .int .u64 a2_1, .string a2_2]) (t := 27) ?hr ?_; (case hd => rfl); (case hg => rfl); (case hr => first | (go_simp; done) | (go_simp; rfl)); intro gb185 hg w8 hbox hb; have n0_ := kb BK184 hb; have n1_ := bt HB hb; have n2_ := Aside0.mk (hbox); have n3_ := gs hg HB; have n4_ := gs hg HB; have n5_ := nl hg BK184; have n6_ := ng hg BK184; clear BK184; clear HB; have BK184 := n0_; have HB := n1_; have BK185 := n2_; have GW185 := n3_; have GE185 := n4_; have NB184_185 := n5_; have NB185_184 := n6_; clear n0_ n1_ n2_ n3_ n4_ n5_ n6_; clear hb hbox hg) | ((with_reducible refine gate_dst (N := 6) rfl ?_); refine box_event ?hg (N := 6) ?hd (cs := #[.int .u8 0, .int .u64 0, .string (⟨#[]⟩ : ByteArray)]) (t := 27) ?hr ?_; (case hd => rfl); (case hg => rfl); (case hr => first | (go_simp; done) | (go_simp; rfl)); intro gb186 hg w9 hbox hb; have n0_ := kb BK184 hb; have n1_ := kb BK185 hb; have n2_ := bt HB hb; have n3_ := Aside0.mk (hbox); have n4_ := gs hg HB; have n5_ := gs hg HB; have n6_ := nl hg BK184; have n7_ := ng hg BK184; have n8_ := nl hg BK185; have n9_ := ng hg BK185; clear BK184; clear BK185; clear HB; have BK184 := n0_; have BK185 := n1_; have HB := n2_; have BK186 := n3_; have GW186 := n4_; have GE186 := n5_; have NB184_186 := n6_; have NB186_184 := n7_; have NB185_186 := n8_; have NB186_185 := n9_; clear n0_ n1_ n2_ n3_ n4_ n5_ n6_ n7_ n8_ n9_; clear hb hbox hg))
 have n0_ := Aside0.mk (blk_drew BK184.out)
 have n1_ := Aside0.mk (blk_drew BK185.out)
 have n2_ := Aside0.mk (blk_drew BK186.out)
 have n3_ := Aside0.mk (below_drew1 HB.out)
 clear BK184
 clear BK185
 clear BK186
 clear HB
 have BK184 := n0_
 have BK185 := n1_
 have BK186 := n2_
 have HB := n3_
 clear n0_ n1_ n2_ n3_
 refine start_ (n := 8) (S := fun w' => w'.cell? ⟨gb184, 0, none⟩ = some (.int .u8 a1_0) ∧ w'.cell? ⟨gb184, 1, none⟩ = some (.int .u64 a1_1) ∧ w'.cell? ⟨gb184, 2, none⟩ = some (.string a1_2) ∧ w'.cell? ⟨gb185, 0, none⟩ = some (.int .u8 a2_0) ∧ w'.cell? ⟨gb185, 1, none⟩ = some (.int .u64 a2_1) ∧ w'.cell? ⟨gb185, 2, none⟩ = some (.string a2_2)) (ds := []) #[false, false, false, false, false, false, false, false] (by kernel_rfl) rfl rfl ⟨bc BK184 0, bc BK184 1, bc BK184 2, bc BK185 0, bc BK185 1, bc BK185 2⟩ (fun hHeld => ?_); refine with_tabW value_integers.tab1 value_integers.bits1 (fun HT_ HW_ => ?_)
 generalize w9.drew = w10 at BK184 BK185 BK186 HB hHeld ⊢
 refine take_ (i := 0) (N := some 12) (v := ?_) (a' := ?_) #[true, false, false, false, false, false, false, false] rfl rfl (take_ofW HT_.out HW_.out (by kernel_rfl)) (fun _ _ _ h => h) (Or.inl ⟨by rfl, ?_⟩) hHeld ?_ ?_
 rotate_left
 ·rintro w' ⟨s0, s1, s2, s3, s4, s5⟩
  go_simp
  with_reducible rfl
 rotate_left
 ·simp only [Act.put, List.setIfInBounds_toArray, List.set_cons_zero, List.set_cons_succ, i64_w, i32_w]
  rfl
 refine take_ (i := 2) (N := some 14) (v := ?_) (a' := ?_) #[true, false, true, false, false, false, false, false] rfl rfl (take_ofW HT_.out HW_.out (by kernel_rfl)) (fun _ _ _ h => h) (Or.inl ⟨by rfl, ?_⟩) hHeld ?_ ?_
 rotate_left
 ·rintro w' ⟨s0, s1, s2, s3, s4, s5⟩
  go_simp
  with_reducible rfl
 rotate_left
 ·simp only [Act.put, List.setIfInBounds_toArray, List.set_cons_zero, List.set_cons_succ, i64_w, i32_w]
  rfl
 refine join_ (σ := Nat × Nat) 2 #[true, true, true, true, true, true, false, false] (fun s_ => [(13, .agg #[.bool t187, .int .u64 t188]), (15, .agg #[.bool t189, .int .u64 t190]), (8, .pointer (some ⟨s_.1, 0, none⟩)), (9, .pointer (some ⟨s_.2, 0, none⟩))]) (fun s_ w' => (w'.cell? ⟨gb184, 0, none⟩ = some (.int .u8 a1_0) ∧ w'.cell? ⟨gb184, 1, none⟩ = some (.int .u64 a1_1) ∧ w'.cell? ⟨gb184, 2, none⟩ = some (.string a1_2) ∧ w'.cell? ⟨gb185, 0, none⟩ = some (.int .u8 a2_0) ∧ w'.cell? ⟨gb185, 1, none⟩ = some (.int .u64 a2_1) ∧ w'.cell? ⟨gb185, 2, none⟩ = some (.string a2_2)) ∧ (w'.heap[gb184]? = some (.cells #[.int .u8 a1_0, .int .u64 a1_1, .string a1_2] 27 (0, 0))) ∧ (w'.heap[gb185]? = some (.cells #[.int .u8 a2_0, .int .u64 a2_1, .string a2_2] 27 (0, 0))) ∧ (w'.heap[gb186]? = some (.cells #[.int .u8 0, .int .u64 0, .string (⟨#[]⟩ : ByteArray)] 27 (0, 0))) ∧ (w'.heap[s_.1]? = some (.cells #[.bool false, .int .u64 0] 58 (0, 0))) ∧ (w'.heap[s_.2]? = some (.cells #[.bool false, .int .u64 0] 58 (0, 0))) ∧ (w.heap.size ≤ s_.1) ∧ (w.heap.size ≤ s_.1) ∧ (gb184 ≠ s_.1) ∧ (s_.1 ≠ gb184) ∧ (gb185 ≠ s_.1) ∧ (s_.1 ≠ gb185) ∧ (gb186 ≠ s_.1) ∧ (s_.1 ≠ gb186) ∧ (s_.2 ≠ s_.1) ∧ (s_.1 ≠ s_.2) ∧ (w.heap.size ≤ s_.2) ∧ (w.heap.size ≤ s_.2) ∧ (gb184 ≠ s_.2) ∧ (s_.2 ≠ gb184) ∧ (gb185 ≠ s_.2) ∧ (s_.2 ≠ gb185) ∧ (gb186 ≠ s_.2) ∧ (s_.2 ≠ gb186) ∧ (Below w.heap.size w w')) ?_ ?_
 rotate_left
 ·intro hJ1_3_4_5
  refine join_ (σ := Nat) 3 #[true, true, true, true, true, false, false, false] (fun s_ => [(13, .agg #[.bool t187, .int .u64 t188]), (15, .agg #[.bool t189, .int .u64 t190]), (8, .pointer (some ⟨s_, 0, none⟩))]) (fun s_ w' => (w'.cell? ⟨gb184, 0, none⟩ = some (.int .u8 a1_0) ∧ w'.cell? ⟨gb184, 1, none⟩ = some (.int .u64 a1_1) ∧ w'.cell? ⟨gb184, 2, none⟩ = some (.string a1_2) ∧ w'.cell? ⟨gb185, 0, none⟩ = some (.int .u8 a2_0) ∧ w'.cell? ⟨gb185, 1, none⟩ = some (.int .u64 a2_1) ∧ w'.cell? ⟨gb185, 2, none⟩ = some (.string a2_2)) ∧ (w'.heap[gb184]? = some (.cells #[.int .u8 a1_0, .int .u64 a1_1, .string a1_2] 27 (0, 0))) ∧ (w'.heap[gb185]? = some (.cells #[.int .u8 a2_0, .int .u64 a2_1, .string a2_2] 27 (0, 0))) ∧ (w'.heap[gb186]? = some (.cells #[.int .u8 0, .int .u64 0, .string (⟨#[]⟩ : ByteArray)] 27 (0, 0))) ∧ (w'.heap[s_]? = some (.cells #[.bool false, .int .u64 0] 58 (0, 0))) ∧ (w.heap.size ≤ s_) ∧ (w.heap.size ≤ s_) ∧ (gb184 ≠ s_) ∧ (s_ ≠ gb184) ∧ (gb185 ≠ s_) ∧ (s_ ≠ gb185) ∧ (gb186 ≠ s_) ∧ (s_ ≠ gb186) ∧ (Below w.heap.size w w')) ?_ ?_
  rotate_left
  ·intro hJ1_3_4
   refine join_ (σ := Nat) 3 #[true, true, true, true, false, true, false, false] (fun s_ => [(13, .agg #[.bool t187, .int .u64 t188]), (15, .agg #[.bool t189, .int .u64 t190]), (9, .pointer (some ⟨s_, 0, none⟩))]) (fun s_ w' => (w'.cell? ⟨gb184, 0, none⟩ = some (.int .u8 a1_0) ∧ w'.cell? ⟨gb184, 1, none⟩ = some (.int .u64 a1_1) ∧ w'.cell? ⟨gb184, 2, none⟩ = some (.string a1_2) ∧ w'.cell? ⟨gb185, 0, none⟩ = some (.int .u8 a2_0) ∧ w'.cell? ⟨gb185, 1, none⟩ = some (.int .u64 a2_1) ∧ w'.cell? ⟨gb185, 2, none⟩ = some (.string a2_2)) ∧ (w'.heap[gb184]? = some (.cells #[.int .u8 a1_0, .int .u64 a1_1, .string a1_2] 27 (0, 0))) ∧ (w'.heap[gb185]? = some (.cells #[.int .u8 a2_0, .int .u64 a2_1, .string a2_2] 27 (0, 0))) ∧ (w'.heap[gb186]? = some (.cells #[.int .u8 0, .int .u64 0, .string (⟨#[]⟩ : ByteArray)] 27 (0, 0))) ∧ (w'.heap[s_]? = some (.cells #[.bool false, .int .u64 0] 58 (0, 0))) ∧ (w.heap.size ≤ s_) ∧ (w.heap.size ≤ s_) ∧ (gb184 ≠ s_) ∧ (s_ ≠ gb184) ∧ (gb185 ≠ s_) ∧ (s_ ≠ gb185) ∧ (gb186 ≠ s_) ∧ (s_ ≠ gb186) ∧ (Below w.heap.size w w')) ?_ ?_
   rotate_left
   ·intro hJ1_3_5
    refine join_ (σ := Nat × Nat) 3 #[true, true, true, false, true, true, false, false] (fun s_ => [(13, .agg #[.bool t187, .int .u64 t188]), (8, .pointer (some ⟨s_.1, 0, none⟩)), (9, .pointer (some ⟨s_.2, 0, none⟩))]) (fun s_ w' => (w'.cell? ⟨gb184, 0, none⟩ = some (.int .u8 a1_0) ∧ w'.cell? ⟨gb184, 1, none⟩ = some (.int .u64 a1_1) ∧ w'.cell? ⟨gb184, 2, none⟩ = some (.string a1_2) ∧ w'.cell? ⟨gb185, 0, none⟩ = some (.int .u8 a2_0) ∧ w'.cell? ⟨gb185, 1, none⟩ = some (.int .u64 a2_1) ∧ w'.cell? ⟨gb185, 2, none⟩ = some (.string a2_2)) ∧ (w'.heap[gb184]? = some (.cells #[.int .u8 a1_0, .int .u64 a1_1, .string a1_2] 27 (0, 0))) ∧ (w'.heap[gb185]? = some (.cells #[.int .u8 a2_0, .int .u64 a2_1, .string a2_2] 27 (0, 0))) ∧ (w'.heap[gb186]? = some (.cells #[.int .u8 0, .int .u64 0, .string (⟨#[]⟩ : ByteArray)] 27 (0, 0))) ∧ (w'.heap[s_.1]? = some (.cells #[.bool false, .int .u64 0] 58 (0, 0))) ∧ (w'.heap[s_.2]? = some (.cells #[.bool false, .int .u64 0] 58 (0, 0))) ∧ (w.heap.size ≤ s_.1) ∧ (w.heap.size ≤ s_.1) ∧ (gb184 ≠ s_.1) ∧ (s_.1 ≠ gb184) ∧ (gb185 ≠ s_.1) ∧ (s_.1 ≠ gb185) ∧ (gb186 ≠ s_.1) ∧ (s_.1 ≠ gb186) ∧ (s_.2 ≠ s_.1) ∧ (s_.1 ≠ s_.2) ∧ (w.heap.size ≤ s_.2) ∧ (w.heap.size ≤ s_.2) ∧ (gb184 ≠ s_.2) ∧ (s_.2 ≠ gb184) ∧ (gb185 ≠ s_.2) ∧ (s_.2 ≠ gb185) ∧ (gb186 ≠ s_.2) ∧ (s_.2 ≠ gb186) ∧ (Below w.heap.size w w')) ?_ ?_
    rotate_left
    ·intro hJ1_4_5
     refine join_ (σ := Unit) 4 #[true, true, true, true, false, false, false, false] (fun s_ => [(13, .agg #[.bool t187, .int .u64 t188]), (15, .agg #[.bool t189, .int .u64 t190])]) (fun s_ w' => (w'.cell? ⟨gb184, 0, none⟩ = some (.int .u8 a1_0) ∧ w'.cell? ⟨gb184, 1, none⟩ = some (.int .u64 a1_1) ∧ w'.cell? ⟨gb184, 2, none⟩ = some (.string a1_2) ∧ w'.cell? ⟨gb185, 0, none⟩ = some (.int .u8 a2_0) ∧ w'.cell? ⟨gb185, 1, none⟩ = some (.int .u64 a2_1) ∧ w'.cell? ⟨gb185, 2, none⟩ = some (.string a2_2)) ∧ (w'.heap[gb184]? = some (.cells #[.int .u8 a1_0, .int .u64 a1_1, .string a1_2] 27 (0, 0))) ∧ (w'.heap[gb185]? = some (.cells #[.int .u8 a2_0, .int .u64 a2_1, .string a2_2] 27 (0, 0))) ∧ (w'.heap[gb186]? = some (.cells #[.int .u8 0, .int .u64 0, .string (⟨#[]⟩ : ByteArray)] 27 (0, 0))) ∧ (Below w.heap.size w w')) ?_ ?_
     rotate_left
     ·intro hJ1_3
      refine join_ (σ := Nat) 4 #[true, true, true, false, true, false, false, false] (fun s_ => [(13, .agg #[.bool t187, .int .u64 t188]), (8, .pointer (some ⟨s_, 0, none⟩))]) (fun s_ w' => (w'.cell? ⟨gb184, 0, none⟩ = some (.int .u8 a1_0) ∧ w'.cell? ⟨gb184, 1, none⟩ = some (.int .u64 a1_1) ∧ w'.cell? ⟨gb184, 2, none⟩ = some (.string a1_2) ∧ w'.cell? ⟨gb185, 0, none⟩ = some (.int .u8 a2_0) ∧ w'.cell? ⟨gb185, 1, none⟩ = some (.int .u64 a2_1) ∧ w'.cell? ⟨gb185, 2, none⟩ = some (.string a2_2)) ∧ (w'.heap[gb184]? = some (.cells #[.int .u8 a1_0, .int .u64 a1_1, .string a1_2] 27 (0, 0))) ∧ (w'.heap[gb185]? = some (.cells #[.int .u8 a2_0, .int .u64 a2_1, .string a2_2] 27 (0, 0))) ∧ (w'.heap[gb186]? = some (.cells #[.int .u8 0, .int .u64 0, .string (⟨#[]⟩ : ByteArray)] 27 (0, 0))) ∧ (w'.heap[s_]? = some (.cells #[.bool false, .int .u64 0] 58 (0, 0))) ∧ (w.heap.size ≤ s_) ∧ (w.heap.size ≤ s_) ∧ (gb184 ≠ s_) ∧ (s_ ≠ gb184) ∧ (gb185 ≠ s_) ∧ (s_ ≠ gb185) ∧ (gb186 ≠ s_) ∧ (s_ ≠ gb186) ∧ (Below w.heap.size w w')) ?_ ?_
      rotate_left
      ·intro hJ1_4
       refine join_ (σ := Nat) 4 #[true, true, true, false, false, true, false, false] (fun s_ => [(13, .agg #[.bool t187, .int .u64 t188]), (9, .pointer (some ⟨s_, 0, none⟩))]) (fun s_ w' => (w'.cell? ⟨gb184, 0, none⟩ = some (.int .u8 a1_0) ∧ w'.cell? ⟨gb184, 1, none⟩ = some (.int .u64 a1_1) ∧ w'.cell? ⟨gb184, 2, none⟩ = some (.string a1_2) ∧ w'.cell? ⟨gb185, 0, none⟩ = some (.int .u8 a2_0) ∧ w'.cell? ⟨gb185, 1, none⟩ = some (.int .u64 a2_1) ∧ w'.cell? ⟨gb185, 2, none⟩ = some (.string a2_2)) ∧ (w'.heap[gb184]? = some (.cells #[.int .u8 a1_0, .int .u64 a1_1, .string a1_2] 27 (0, 0))) ∧ (w'.heap[gb185]? = some (.cells #[.int .u8 a2_0, .int .u64 a2_1, .string a2_2] 27 (0, 0))) ∧ (w'.heap[gb186]? = some (.cells #[.int .u8 0, .int .u64 0, .string (⟨#[]⟩ : ByteArray)] 27 (0, 0))) ∧ (w'.heap[s_]? = some (.cells #[.bool false, .int .u64 0] 58 (0, 0))) ∧ (w.heap.size ≤ s_) ∧ (w.heap.size ≤ s_) ∧ (gb184 ≠ s_) ∧ (s_ ≠ gb184) ∧ (gb185 ≠ s_) ∧ (s_ ≠ gb185) ∧ (gb186 ≠ s_) ∧ (s_ ≠ gb186) ∧ (Below w.heap.size w w')) ?_ ?_
       rotate_left
       ·intro hJ1_5
        refine join_ (σ := Nat × Nat) 4 #[true, false, true, false, true, true, false, false] (fun s_ => [(8, .pointer (some ⟨s_.1, 0, none⟩)), (9, .pointer (some ⟨s_.2, 0, none⟩))]) (fun s_ w' => (w'.cell? ⟨gb184, 0, none⟩ = some (.int .u8 a1_0) ∧ w'.cell? ⟨gb184, 1, none⟩ = some (.int .u64 a1_1) ∧ w'.cell? ⟨gb184, 2, none⟩ = some (.string a1_2) ∧ w'.cell? ⟨gb185, 0, none⟩ = some (.int .u8 a2_0) ∧ w'.cell? ⟨gb185, 1, none⟩ = some (.int .u64 a2_1) ∧ w'.cell? ⟨gb185, 2, none⟩ = some (.string a2_2)) ∧ (w'.heap[gb184]? = some (.cells #[.int .u8 a1_0, .int .u64 a1_1, .string a1_2] 27 (0, 0))) ∧ (w'.heap[gb185]? = some (.cells #[.int .u8 a2_0, .int .u64 a2_1, .string a2_2] 27 (0, 0))) ∧ (w'.heap[gb186]? = some (.cells #[.int .u8 0, .int .u64 0, .string (⟨#[]⟩ : ByteArray)] 27 (0, 0))) ∧ (w'.heap[s_.1]? = some (.cells #[.bool false, .int .u64 0] 58 (0, 0))) ∧ (w'.heap[s_.2]? = some (.cells #[.bool false, .int .u64 0] 58 (0, 0))) ∧ (w.heap.size ≤ s_.1) ∧ (w.heap.size ≤ s_.1) ∧ (gb184 ≠ s_.1) ∧ (s_.1 ≠ gb184) ∧ (gb185 ≠ s_.1) ∧ (s_.1 ≠ gb185) ∧ (gb186 ≠ s_.1) ∧ (s_.1 ≠ gb186) ∧ (s_.2 ≠ s_.1) ∧ (s_.1 ≠ s_.2) ∧ (w.heap.size ≤ s_.2) ∧ (w.heap.size ≤ s_.2) ∧ (gb184 ≠ s_.2) ∧ (s_.2 ≠ gb184) ∧ (gb185 ≠ s_.2) ∧ (s_.2 ≠ gb185) ∧ (gb186 ≠ s_.2) ∧ (s_.2 ≠ gb186) ∧ (Below w.heap.size w w')) ?_ ?_
        rotate_left
        ·intro hJ4_5
         refine join_ (σ := Unit) 5 #[true, true, true, false, false, false, false, false] (fun s_ => [(13, .agg #[.bool t187, .int .u64 t188])]) (fun s_ w' => (w'.cell? ⟨gb184, 0, none⟩ = some (.int .u8 a1_0) ∧ w'.cell? ⟨gb184, 1, none⟩ = some (.int .u64 a1_1) ∧ w'.cell? ⟨gb184, 2, none⟩ = some (.string a1_2) ∧ w'.cell? ⟨gb185, 0, none⟩ = some (.int .u8 a2_0) ∧ w'.cell? ⟨gb185, 1, none⟩ = some (.int .u64 a2_1) ∧ w'.cell? ⟨gb185, 2, none⟩ = some (.string a2_2)) ∧ (w'.heap[gb184]? = some (.cells #[.int .u8 a1_0, .int .u64 a1_1, .string a1_2] 27 (0, 0))) ∧ (w'.heap[gb185]? = some (.cells #[.int .u8 a2_0, .int .u64 a2_1, .string a2_2] 27 (0, 0))) ∧ (w'.heap[gb186]? = some (.cells #[.int .u8 0, .int .u64 0, .string (⟨#[]⟩ : ByteArray)] 27 (0, 0))) ∧ (Below w.heap.size w w')) ?_ ?_
         rotate_left
         ·intro hJ1
          refine join_ (σ := Nat) 5 #[true, false, true, false, true, false, false, false] (fun s_ => [(8, .pointer (some ⟨s_, 0, none⟩))]) (fun s_ w' => (w'.cell? ⟨gb184, 0, none⟩ = some (.int .u8 a1_0) ∧ w'.cell? ⟨gb184, 1, none⟩ = some (.int .u64 a1_1) ∧ w'.cell? ⟨gb184, 2, none⟩ = some (.string a1_2) ∧ w'.cell? ⟨gb185, 0, none⟩ = some (.int .u8 a2_0) ∧ w'.cell? ⟨gb185, 1, none⟩ = some (.int .u64 a2_1) ∧ w'.cell? ⟨gb185, 2, none⟩ = some (.string a2_2)) ∧ (w'.heap[gb184]? = some (.cells #[.int .u8 a1_0, .int .u64 a1_1, .string a1_2] 27 (0, 0))) ∧ (w'.heap[gb185]? = some (.cells #[.int .u8 a2_0, .int .u64 a2_1, .string a2_2] 27 (0, 0))) ∧ (w'.heap[gb186]? = some (.cells #[.int .u8 0, .int .u64 0, .string (⟨#[]⟩ : ByteArray)] 27 (0, 0))) ∧ (w'.heap[s_]? = some (.cells #[.bool false, .int .u64 0] 58 (0, 0))) ∧ (w.heap.size ≤ s_) ∧ (w.heap.size ≤ s_) ∧ (gb184 ≠ s_) ∧ (s_ ≠ gb184) ∧ (gb185 ≠ s_) ∧ (s_ ≠ gb185) ∧ (gb186 ≠ s_) ∧ (s_ ≠ gb186) ∧ (Below w.heap.size w w')) ?_ ?_
          rotate_left
          ·intro hJ4
           refine join_ (σ := Nat) 5 #[true, false, true, false, false, true, false, false] (fun s_ => [(9, .pointer (some ⟨s_, 0, none⟩))]) (fun s_ w' => (w'.cell? ⟨gb184, 0, none⟩ = some (.int .u8 a1_0) ∧ w'.cell? ⟨gb184, 1, none⟩ = some (.int .u64 a1_1) ∧ w'.cell? ⟨gb184, 2, none⟩ = some (.string a1_2) ∧ w'.cell? ⟨gb185, 0, none⟩ = some (.int .u8 a2_0) ∧ w'.cell? ⟨gb185, 1, none⟩ = some (.int .u64 a2_1) ∧ w'.cell? ⟨gb185, 2, none⟩ = some (.string a2_2)) ∧ (w'.heap[gb184]? = some (.cells #[.int .u8 a1_0, .int .u64 a1_1, .string a1_2] 27 (0, 0))) ∧ (w'.heap[gb185]? = some (.cells #[.int .u8 a2_0, .int .u64 a2_1, .string a2_2] 27 (0, 0))) ∧ (w'.heap[gb186]? = some (.cells #[.int .u8 0, .int .u64 0, .string (⟨#[]⟩ : ByteArray)] 27 (0, 0))) ∧ (w'.heap[s_]? = some (.cells #[.bool false, .int .u64 0] 58 (0, 0))) ∧ (w.heap.size ≤ s_) ∧ (w.heap.size ≤ s_) ∧ (gb184 ≠ s_) ∧ (s_ ≠ gb184) ∧ (gb185 ≠ s_) ∧ (s_ ≠ gb185) ∧ (gb186 ≠ s_) ∧ (s_ ≠ gb186) ∧ (Below w.heap.size w w')) ?_ ?_
           rotate_left
           ·intro hJ5
            refine three_ (i := 1) (j := 4) (k := 5) (Ni := some 13) (Nj := some 8) (Nk := some 9) #[true, true, true, false, false, false, false, false] #[true, false, true, false, true, false, false, false] #[true, false, true, false, false, true, false, false] rfl rfl rfl rfl rfl rfl (three_of HT_.out (by kernel_rfl)) (by decide) (by decide) (by decide) (fun K hK => ?_) (fun K hK => ?_) (fun K hK => ?_)
            ·skip
             refine goes_ Try.func68 (by kernel_rfl) rfl #[.agg #[.int .u8 a1_0, .int .u64 a1_1, .string a1_2]] (by rfl) rfl rfl (by (try simp only [List.map_toArray, List.map_cons, List.map_nil]); first | done | rfl | (simp only [List.length_drop, List.length_take]; rfl)) ?_
             with_reducible refine (value_sized.calls a1_0 a1_1 a1_2 t187 t188 _ A4.out).mono ?_
             rintro e w11 ⟨rfl, hb⟩
             refine ⟨_, rfl, ?_⟩
             have n0_ := kb BK184 hb
             have n1_ := kb BK185 hb
             have n2_ := kb BK186 hb
             have n3_ := bt HB hb
             clear BK184
             clear BK185
             clear BK186
             clear HB
             have BK184 := n0_
             have BK185 := n1_
             have BK186 := n2_
             have HB := n3_
             clear n0_ n1_ n2_ n3_
             (try clear hb)
             (try clear hb2)
             (try clear hk)
             (try clear hi)
             refine hK.out _ _ ⟨bc BK184 0, bc BK184 1, bc BK184 2, bc BK185 0, bc BK185 1, bc BK185 2⟩ (fun hHeld => ?_)
             clear hK K
             refine norm_ (a' := ?_) ?_ ?_
             rotate_left
             ·show Act.put _ (some 13) _ = _
              simp only [Act.put, List.setIfInBounds_toArray, List.set_cons_zero, List.set_cons_succ, i64_w, i32_w]
              rfl
             exact norm_ (by first | (simp only [putAll, Act.put, List.setIfInBounds_toArray, List.set_cons_zero, List.set_cons_succ]; done) | (simp only [putAll, Act.put, List.setIfInBounds_toArray, List.set_cons_zero, List.set_cons_succ]; rfl)) (hJ1 () _ ⟨hHeld, (pb BK184), (pb BK185), (pb BK186), (bs HB)⟩)
            ·skip
             refine box_step ?hg (N := 8) ?hd (cs := #[.bool false, .int .u64 0]) (t := 58) ?hr ?_; (case hd => rfl); (case hg => rfl); (case hr => first | (go_simp; done) | (go_simp; rfl))
             intro gb191 hg w11 hbox hb
             have n0_ := kb BK184 hb
             have n1_ := kb BK185 hb
             have n2_ := kb BK186 hb
             have n3_ := bt HB hb
             have n4_ := Aside0.mk (hbox)
             have n5_ := gs hg HB
             have n6_ := gs hg HB
             have n7_ := nl hg BK184
             have n8_ := ng hg BK184
             have n9_ := nl hg BK185
             have n10_ := ng hg BK185
             have n11_ := nl hg BK186
             have n12_ := ng hg BK186
             clear BK184
             clear BK185
             clear BK186
             clear HB
             have BK184 := n0_
             have BK185 := n1_
             have BK186 := n2_
             have HB := n3_
             have BK191 := n4_
             have GW191 := n5_
             have GE191 := n6_
             have NB184_191 := n7_
             have NB191_184 := n8_
             have NB185_191 := n9_
             have NB191_185 := n10_
             have NB186_191 := n11_
             have NB191_186 := n12_
             clear n0_ n1_ n2_ n3_ n4_ n5_ n6_ n7_ n8_ n9_ n10_ n11_ n12_
             clear hb hbox hg
             refine hK.out _ _ ⟨bc BK184 0, bc BK184 1, bc BK184 2, bc BK185 0, bc BK185 1, bc BK185 2⟩ (fun hHeld => ?_)
             clear hK K
             refine norm_ (a' := ?_) ?_ ?_
             rotate_left
             ·show Act.put _ (some 8) _ = _
              simp only [Act.put, List.setIfInBounds_toArray, List.set_cons_zero, List.set_cons_succ, i64_w, i32_w]
              rfl
             exact norm_ (by first | (simp only [putAll, Act.put, List.setIfInBounds_toArray, List.set_cons_zero, List.set_cons_succ]; done) | (simp only [putAll, Act.put, List.setIfInBounds_toArray, List.set_cons_zero, List.set_cons_succ]; rfl)) (hJ4 (gb191) _ ⟨hHeld, (pb BK184), (pb BK185), (pb BK186), (pb BK191), GW191.out, GE191.out, NB184_191.out, NB191_184.out, NB185_191.out, NB191_185.out, NB186_191.out, NB191_186.out, (bs HB)⟩)
            ·skip
             refine box_step ?hg (N := 9) ?hd (cs := #[.bool false, .int .u64 0]) (t := 58) ?hr ?_; (case hd => rfl); (case hg => rfl); (case hr => first | (go_simp; done) | (go_simp; rfl))
             intro gb192 hg w11 hbox hb
             have n0_ := kb BK184 hb
             have n1_ := kb BK185 hb
             have n2_ := kb BK186 hb
             have n3_ := bt HB hb
             have n4_ := Aside0.mk (hbox)
             have n5_ := gs hg HB
             have n6_ := gs hg HB
             have n7_ := nl hg BK184
             have n8_ := ng hg BK184
             have n9_ := nl hg BK185
             have n10_ := ng hg BK185
             have n11_ := nl hg BK186
             have n12_ := ng hg BK186
             clear BK184
             clear BK185
             clear BK186
             clear HB
             have BK184 := n0_
             have BK185 := n1_
             have BK186 := n2_
             have HB := n3_
             have BK192 := n4_
             have GW192 := n5_
             have GE192 := n6_
             have NB184_192 := n7_
             have NB192_184 := n8_
             have NB185_192 := n9_
             have NB192_185 := n10_
             have NB186_192 := n11_
             have NB192_186 := n12_
             clear n0_ n1_ n2_ n3_ n4_ n5_ n6_ n7_ n8_ n9_ n10_ n11_ n12_
             clear hb hbox hg
             refine hK.out _ _ ⟨bc BK184 0, bc BK184 1, bc BK184 2, bc BK185 0, bc BK185 1, bc BK185 2⟩ (fun hHeld => ?_)
             clear hK K
             refine norm_ (a' := ?_) ?_ ?_
             rotate_left
             ·show Act.put _ (some 9) _ = _
              simp only [Act.put, List.setIfInBounds_toArray, List.set_cons_zero, List.set_cons_succ, i64_w, i32_w]
              rfl
             exact norm_ (by first | (simp only [putAll, Act.put, List.setIfInBounds_toArray, List.set_cons_zero, List.set_cons_succ]; done) | (simp only [putAll, Act.put, List.setIfInBounds_toArray, List.set_cons_zero, List.set_cons_succ]; rfl)) (hJ5 (gb192) _ ⟨hHeld, (pb BK184), (pb BK185), (pb BK186), (pb BK192), GW192.out, GE192.out, NB184_192.out, NB192_184.out, NB185_192.out, NB192_185.out, NB186_192.out, NB192_186.out, (bs HB)⟩)
           ·skip
            rintro gb192 w12 ⟨hS_, h0_, h1_, h2_, h3_, h4_, h5_, h6_, h7_, h8_, h9_, h10_, h11_, h12_⟩
            have n0_ : Aside0 (w12.heap[gb184]? = some (.cells #[.int .u8 a1_0, .int .u64 a1_1, .string a1_2] 27 (0, 0))) := ⟨h0_⟩
            have n1_ : Aside0 (w12.heap[gb185]? = some (.cells #[.int .u8 a2_0, .int .u64 a2_1, .string a2_2] 27 (0, 0))) := ⟨h1_⟩
            have n2_ : Aside0 (w12.heap[gb186]? = some (.cells #[.int .u8 0, .int .u64 0, .string (⟨#[]⟩ : ByteArray)] 27 (0, 0))) := ⟨h2_⟩
            have n3_ : Aside0 (w12.heap[gb192]? = some (.cells #[.bool false, .int .u64 0] 58 (0, 0))) := ⟨h3_⟩
            have n4_ : Aside0 (w.heap.size ≤ gb192) := ⟨h4_⟩
            have n5_ : Aside0 (w.heap.size ≤ gb192) := ⟨h5_⟩
            have n6_ : Aside0 (gb184 ≠ gb192) := ⟨h6_⟩
            have n7_ : Aside0 (gb192 ≠ gb184) := ⟨h7_⟩
            have n8_ : Aside0 (gb185 ≠ gb192) := ⟨h8_⟩
            have n9_ : Aside0 (gb192 ≠ gb185) := ⟨h9_⟩
            have n10_ : Aside0 (gb186 ≠ gb192) := ⟨h10_⟩
            have n11_ : Aside0 (gb192 ≠ gb186) := ⟨h11_⟩
            have n12_ : Aside0 (Below w.heap.size w w12) := ⟨h12_⟩
            clear BK184
            clear BK185
            clear BK186
            clear HB
            clear h0_ h1_ h2_ h3_ h4_ h5_ h6_ h7_ h8_ h9_ h10_ h11_ h12_
            have BK184 := n0_
            have BK185 := n1_
            have BK186 := n2_
            have BK192 := n3_
            have GW192 := n4_
            have GE192 := n5_
            have NB184_192 := n6_
            have NB192_184 := n7_
            have NB185_192 := n8_
            have NB192_185 := n9_
            have NB186_192 := n10_
            have NB192_186 := n11_
            have HB := n12_
            clear n0_ n1_ n2_ n3_ n4_ n5_ n6_ n7_ n8_ n9_ n10_ n11_ n12_
            have hHeld : w12.cell? ⟨gb184, 0, none⟩ = some (.int .u8 a1_0) ∧ w12.cell? ⟨gb184, 1, none⟩ = some (.int .u64 a1_1) ∧ w12.cell? ⟨gb184, 2, none⟩ = some (.string a1_2) ∧ w12.cell? ⟨gb185, 0, none⟩ = some (.int .u8 a2_0) ∧ w12.cell? ⟨gb185, 1, none⟩ = some (.int .u64 a2_1) ∧ w12.cell? ⟨gb185, 2, none⟩ = some (.string a2_2) := hS_
            refine norm_ (a' := ?_) ?_ ?_
            rotate_left
            ·simp only [putAll, Act.put, List.setIfInBounds_toArray, List.set_cons_zero, List.set_cons_succ]
             rfl
            refine two_ (i := 1) (j := 4) (Ni := some 13) (Nj := some 8) #[true, true, true, false, false, true, false, false] #[true, false, true, false, true, true, false, false] rfl rfl rfl rfl (two_of HT_.out (by kernel_rfl)) (by decide) (by decide) (fun K hK => ?_) (fun K hK => ?_)
            ·skip
             refine goes_ Try.func68 (by kernel_rfl) rfl #[.agg #[.int .u8 a1_0, .int .u64 a1_1, .string a1_2]] (by rfl) rfl rfl (by (try simp only [List.map_toArray, List.map_cons, List.map_nil]); first | done | rfl | (simp only [List.length_drop, List.length_take]; rfl)) ?_
             with_reducible refine (value_sized.calls a1_0 a1_1 a1_2 t187 t188 _ A4.out).mono ?_
             rintro e w13 ⟨rfl, hb⟩
             refine ⟨_, rfl, ?_⟩
             have n0_ := kb BK184 hb
             have n1_ := kb BK185 hb
             have n2_ := kb BK186 hb
             have n3_ := kb BK192 hb
             have n4_ := bt HB hb
             clear BK184
             clear BK185
             clear BK186
             clear BK192
             clear HB
             have BK184 := n0_
             have BK185 := n1_
             have BK186 := n2_
             have BK192 := n3_
             have HB := n4_
             clear n0_ n1_ n2_ n3_ n4_
             (try clear hb)
             (try clear hb2)
             (try clear hk)
             (try clear hi)
             refine hK.out _ _ ⟨bc BK184 0, bc BK184 1, bc BK184 2, bc BK185 0, bc BK185 1, bc BK185 2⟩ (fun hHeld => ?_)
             clear hK K
             refine norm_ (a' := ?_) ?_ ?_
             rotate_left
             ·show Act.put _ (some 13) _ = _
              simp only [Act.put, List.setIfInBounds_toArray, List.set_cons_zero, List.set_cons_succ, i64_w, i32_w]
              rfl
             exact norm_ (by first | (simp only [putAll, Act.put, List.setIfInBounds_toArray, List.set_cons_zero, List.set_cons_succ]; done) | (simp only [putAll, Act.put, List.setIfInBounds_toArray, List.set_cons_zero, List.set_cons_succ]; rfl)) (hJ1_5 (gb192) _ ⟨hHeld, (pb BK184), (pb BK185), (pb BK186), (pb BK192), GW192.out, GE192.out, NB184_192.out, NB192_184.out, NB185_192.out, NB192_185.out, NB186_192.out, NB192_186.out, (bs HB)⟩)
            ·skip
             refine box_step ?hg (N := 8) ?hd (cs := #[.bool false, .int .u64 0]) (t := 58) ?hr ?_; (case hd => rfl); (case hg => rfl); (case hr => first | (go_simp; done) | (go_simp; rfl))
             intro gb191 hg w13 hbox hb
             have n0_ := kb BK184 hb
             have n1_ := kb BK185 hb
             have n2_ := kb BK186 hb
             have n3_ := kb BK192 hb
             have n4_ := bt HB hb
             have n5_ := Aside0.mk (hbox)
             have n6_ := gs hg HB
             have n7_ := gs hg HB
             have n8_ := nl hg BK184
             have n9_ := ng hg BK184
             have n10_ := nl hg BK185
             have n11_ := ng hg BK185
             have n12_ := nl hg BK186
             have n13_ := ng hg BK186
             have n14_ := nl hg BK192
             have n15_ := ng hg BK192
             clear BK184
             clear BK185
             clear BK186
             clear BK192
             clear HB
             have BK184 := n0_
             have BK185 := n1_
             have BK186 := n2_
             have BK192 := n3_
             have HB := n4_
             have BK191 := n5_
             have GW191 := n6_
             have GE191 := n7_
             have NB184_191 := n8_
             have NB191_184 := n9_
             have NB185_191 := n10_
             have NB191_185 := n11_
             have NB186_191 := n12_
             have NB191_186 := n13_
             have NB192_191 := n14_
             have NB191_192 := n15_
             clear n0_ n1_ n2_ n3_ n4_ n5_ n6_ n7_ n8_ n9_ n10_ n11_ n12_ n13_ n14_ n15_
             clear hb hbox hg
             refine hK.out _ _ ⟨bc BK184 0, bc BK184 1, bc BK184 2, bc BK185 0, bc BK185 1, bc BK185 2⟩ (fun hHeld => ?_)
             clear hK K
             refine norm_ (a' := ?_) ?_ ?_
             rotate_left
             ·show Act.put _ (some 8) _ = _
              simp only [Act.put, List.setIfInBounds_toArray, List.set_cons_zero, List.set_cons_succ, i64_w, i32_w]
              rfl
             exact norm_ (by first | (simp only [putAll, Act.put, List.setIfInBounds_toArray, List.set_cons_zero, List.set_cons_succ]; done) | (simp only [putAll, Act.put, List.setIfInBounds_toArray, List.set_cons_zero, List.set_cons_succ]; rfl)) (hJ4_5 (gb191, gb192) _ ⟨hHeld, (pb BK184), (pb BK185), (pb BK186), (pb BK191), (pb BK192), GW191.out, GE191.out, NB184_191.out, NB191_184.out, NB185_191.out, NB191_185.out, NB186_191.out, NB191_186.out, NB192_191.out, NB191_192.out, GW192.out, GE192.out, NB184_192.out, NB192_184.out, NB185_192.out, NB192_185.out, NB186_192.out, NB192_186.out, (bs HB)⟩)
          ·skip
           rintro gb191 w12 ⟨hS_, h0_, h1_, h2_, h3_, h4_, h5_, h6_, h7_, h8_, h9_, h10_, h11_, h12_⟩
           have n0_ : Aside0 (w12.heap[gb184]? = some (.cells #[.int .u8 a1_0, .int .u64 a1_1, .string a1_2] 27 (0, 0))) := ⟨h0_⟩
           have n1_ : Aside0 (w12.heap[gb185]? = some (.cells #[.int .u8 a2_0, .int .u64 a2_1, .string a2_2] 27 (0, 0))) := ⟨h1_⟩
           have n2_ : Aside0 (w12.heap[gb186]? = some (.cells #[.int .u8 0, .int .u64 0, .string (⟨#[]⟩ : ByteArray)] 27 (0, 0))) := ⟨h2_⟩
           have n3_ : Aside0 (w12.heap[gb191]? = some (.cells #[.bool false, .int .u64 0] 58 (0, 0))) := ⟨h3_⟩
           have n4_ : Aside0 (w.heap.size ≤ gb191) := ⟨h4_⟩
           have n5_ : Aside0 (w.heap.size ≤ gb191) := ⟨h5_⟩
           have n6_ : Aside0 (gb184 ≠ gb191) := ⟨h6_⟩
           have n7_ : Aside0 (gb191 ≠ gb184) := ⟨h7_⟩
           have n8_ : Aside0 (gb185 ≠ gb191) := ⟨h8_⟩
           have n9_ : Aside0 (gb191 ≠ gb185) := ⟨h9_⟩
           have n10_ : Aside0 (gb186 ≠ gb191) := ⟨h10_⟩
           have n11_ : Aside0 (gb191 ≠ gb186) := ⟨h11_⟩
           have n12_ : Aside0 (Below w.heap.size w w12) := ⟨h12_⟩
           clear BK184
           clear BK185
           clear BK186
           clear HB
           clear h0_ h1_ h2_ h3_ h4_ h5_ h6_ h7_ h8_ h9_ h10_ h11_ h12_
           have BK184 := n0_
           have BK185 := n1_
           have BK186 := n2_
           have BK191 := n3_
           have GW191 := n4_
           have GE191 := n5_
           have NB184_191 := n6_
           have NB191_184 := n7_
           have NB185_191 := n8_
           have NB191_185 := n9_
           have NB186_191 := n10_
           have NB191_186 := n11_
           have HB := n12_
           clear n0_ n1_ n2_ n3_ n4_ n5_ n6_ n7_ n8_ n9_ n10_ n11_ n12_
           have hHeld : w12.cell? ⟨gb184, 0, none⟩ = some (.int .u8 a1_0) ∧ w12.cell? ⟨gb184, 1, none⟩ = some (.int .u64 a1_1) ∧ w12.cell? ⟨gb184, 2, none⟩ = some (.string a1_2) ∧ w12.cell? ⟨gb185, 0, none⟩ = some (.int .u8 a2_0) ∧ w12.cell? ⟨gb185, 1, none⟩ = some (.int .u64 a2_1) ∧ w12.cell? ⟨gb185, 2, none⟩ = some (.string a2_2) := hS_
           refine norm_ (a' := ?_) ?_ ?_
           rotate_left
           ·simp only [putAll, Act.put, List.setIfInBounds_toArray, List.set_cons_zero, List.set_cons_succ]
            rfl
           refine two_ (i := 1) (j := 5) (Ni := some 13) (Nj := some 9) #[true, true, true, false, true, false, false, false] #[true, false, true, false, true, true, false, false] rfl rfl rfl rfl (two_of HT_.out (by kernel_rfl)) (by decide) (by decide) (fun K hK => ?_) (fun K hK => ?_)
           ·skip
            refine goes_ Try.func68 (by kernel_rfl) rfl #[.agg #[.int .u8 a1_0, .int .u64 a1_1, .string a1_2]] (by rfl) rfl rfl (by (try simp only [List.map_toArray, List.map_cons, List.map_nil]); first | done | rfl | (simp only [List.length_drop, List.length_take]; rfl)) ?_
            with_reducible refine (value_sized.calls a1_0 a1_1 a1_2 t187 t188 _ A4.out).mono ?_
            rintro e w13 ⟨rfl, hb⟩
            refine ⟨_, rfl, ?_⟩
            have n0_ := kb BK184 hb
            have n1_ := kb BK185 hb
            have n2_ := kb BK186 hb
            have n3_ := kb BK191 hb
            have n4_ := bt HB hb
            clear BK184
            clear BK185
            clear BK186
            clear BK191
            clear HB
            have BK184 := n0_
            have BK185 := n1_
            have BK186 := n2_
            have BK191 := n3_
            have HB := n4_
            clear n0_ n1_ n2_ n3_ n4_
            (try clear hb)
            (try clear hb2)
            (try clear hk)
            (try clear hi)
            refine hK.out _ _ ⟨bc BK184 0, bc BK184 1, bc BK184 2, bc BK185 0, bc BK185 1, bc BK185 2⟩ (fun hHeld => ?_)
            clear hK K
            refine norm_ (a' := ?_) ?_ ?_
            rotate_left
            ·show Act.put _ (some 13) _ = _
             simp only [Act.put, List.setIfInBounds_toArray, List.set_cons_zero, List.set_cons_succ, i64_w, i32_w]
             rfl
            exact norm_ (by first | (simp only [putAll, Act.put, List.setIfInBounds_toArray, List.set_cons_zero, List.set_cons_succ]; done) | (simp only [putAll, Act.put, List.setIfInBounds_toArray, List.set_cons_zero, List.set_cons_succ]; rfl)) (hJ1_4 (gb191) _ ⟨hHeld, (pb BK184), (pb BK185), (pb BK186), (pb BK191), GW191.out, GE191.out, NB184_191.out, NB191_184.out, NB185_191.out, NB191_185.out, NB186_191.out, NB191_186.out, (bs HB)⟩)
           ·skip
            refine box_step ?hg (N := 9) ?hd (cs := #[.bool false, .int .u64 0]) (t := 58) ?hr ?_; (case hd => rfl); (case hg => rfl); (case hr => first | (go_simp; done) | (go_simp; rfl))
            intro gb192 hg w13 hbox hb
            have n0_ := kb BK184 hb
            have n1_ := kb BK185 hb
            have n2_ := kb BK186 hb
            have n3_ := kb BK191 hb
            have n4_ := bt HB hb
            have n5_ := Aside0.mk (hbox)
            have n6_ := gs hg HB
            have n7_ := gs hg HB
            have n8_ := nl hg BK184
            have n9_ := ng hg BK184
            have n10_ := nl hg BK185
            have n11_ := ng hg BK185
            have n12_ := nl hg BK186
            have n13_ := ng hg BK186
            have n14_ := nl hg BK191
            have n15_ := ng hg BK191
            clear BK184
            clear BK185
            clear BK186
            clear BK191
            clear HB
            have BK184 := n0_
            have BK185 := n1_
            have BK186 := n2_
            have BK191 := n3_
            have HB := n4_
            have BK192 := n5_
            have GW192 := n6_
            have GE192 := n7_
            have NB184_192 := n8_
            have NB192_184 := n9_
            have NB185_192 := n10_
            have NB192_185 := n11_
            have NB186_192 := n12_
            have NB192_186 := n13_
            have NB191_192 := n14_
            have NB192_191 := n15_
            clear n0_ n1_ n2_ n3_ n4_ n5_ n6_ n7_ n8_ n9_ n10_ n11_ n12_ n13_ n14_ n15_
            clear hb hbox hg
            refine hK.out _ _ ⟨bc BK184 0, bc BK184 1, bc BK184 2, bc BK185 0, bc BK185 1, bc BK185 2⟩ (fun hHeld => ?_)
            clear hK K
            refine norm_ (a' := ?_) ?_ ?_
            rotate_left
            ·show Act.put _ (some 9) _ = _
             simp only [Act.put, List.setIfInBounds_toArray, List.set_cons_zero, List.set_cons_succ, i64_w, i32_w]
             rfl
            exact norm_ (by first | (simp only [putAll, Act.put, List.setIfInBounds_toArray, List.set_cons_zero, List.set_cons_succ]; done) | (simp only [putAll, Act.put, List.setIfInBounds_toArray, List.set_cons_zero, List.set_cons_succ]; rfl)) (hJ4_5 (gb191, gb192) _ ⟨hHeld, (pb BK184), (pb BK185), (pb BK186), (pb BK191), (pb BK192), GW191.out, GE191.out, NB184_191.out, NB191_184.out, NB185_191.out, NB191_185.out, NB186_191.out, NB191_186.out, NB192_191.out, NB191_192.out, GW192.out, GE192.out, NB184_192.out, NB192_184.out, NB185_192.out, NB192_185.out, NB186_192.out, NB192_186.out, (bs HB)⟩)
         ·skip
          rintro _ w12 ⟨hS_, h0_, h1_, h2_, h3_⟩
          have n0_ : Aside0 (w12.heap[gb184]? = some (.cells #[.int .u8 a1_0, .int .u64 a1_1, .string a1_2] 27 (0, 0))) := ⟨h0_⟩
          have n1_ : Aside0 (w12.heap[gb185]? = some (.cells #[.int .u8 a2_0, .int .u64 a2_1, .string a2_2] 27 (0, 0))) := ⟨h1_⟩
          have n2_ : Aside0 (w12.heap[gb186]? = some (.cells #[.int .u8 0, .int .u64 0, .string (⟨#[]⟩ : ByteArray)] 27 (0, 0))) := ⟨h2_⟩
          have n3_ : Aside0 (Below w.heap.size w w12) := ⟨h3_⟩
          clear BK184
          clear BK185
          clear BK186
          clear HB
          clear h0_ h1_ h2_ h3_
          have BK184 := n0_
          have BK185 := n1_
          have BK186 := n2_
          have HB := n3_
          clear n0_ n1_ n2_ n3_
          have hHeld : w12.cell? ⟨gb184, 0, none⟩ = some (.int .u8 a1_0) ∧ w12.cell? ⟨gb184, 1, none⟩ = some (.int .u64 a1_1) ∧ w12.cell? ⟨gb184, 2, none⟩ = some (.string a1_2) ∧ w12.cell? ⟨gb185, 0, none⟩ = some (.int .u8 a2_0) ∧ w12.cell? ⟨gb185, 1, none⟩ = some (.int .u64 a2_1) ∧ w12.cell? ⟨gb185, 2, none⟩ = some (.string a2_2) := hS_
          refine norm_ (a' := ?_) ?_ ?_
          rotate_left
          ·simp only [putAll, Act.put, List.setIfInBounds_toArray, List.set_cons_zero, List.set_cons_succ]
           rfl
          refine three_ (i := 3) (j := 4) (k := 5) (Ni := some 15) (Nj := some 8) (Nk := some 9) #[true, true, true, true, false, false, false, false] #[true, true, true, false, true, false, false, false] #[true, true, true, false, false, true, false, false] rfl rfl rfl rfl rfl rfl (three_of HT_.out (by kernel_rfl)) (by decide) (by decide) (by decide) (fun K hK => ?_) (fun K hK => ?_) (fun K hK => ?_)
          ·skip
           refine goes_ Try.func68 (by kernel_rfl) rfl #[.agg #[.int .u8 a2_0, .int .u64 a2_1, .string a2_2]] (by rfl) rfl rfl (by (try simp only [List.map_toArray, List.map_cons, List.map_nil]); first | done | rfl | (simp only [List.length_drop, List.length_take]; rfl)) ?_
           with_reducible refine (value_sized.calls a2_0 a2_1 a2_2 t189 t190 _ A5.out).mono ?_
           rintro e w13 ⟨rfl, hb⟩
           refine ⟨_, rfl, ?_⟩
           have n0_ := kb BK184 hb
           have n1_ := kb BK185 hb
           have n2_ := kb BK186 hb
           have n3_ := bt HB hb
           clear BK184
           clear BK185
           clear BK186
           clear HB
           have BK184 := n0_
           have BK185 := n1_
           have BK186 := n2_
           have HB := n3_
           clear n0_ n1_ n2_ n3_
           (try clear hb)
           (try clear hb2)
           (try clear hk)
           (try clear hi)
           refine hK.out _ _ ⟨bc BK184 0, bc BK184 1, bc BK184 2, bc BK185 0, bc BK185 1, bc BK185 2⟩ (fun hHeld => ?_)
           clear hK K
           refine norm_ (a' := ?_) ?_ ?_
           rotate_left
           ·show Act.put _ (some 15) _ = _
            simp only [Act.put, List.setIfInBounds_toArray, List.set_cons_zero, List.set_cons_succ, i64_w, i32_w]
            rfl
           exact norm_ (by first | (simp only [putAll, Act.put, List.setIfInBounds_toArray, List.set_cons_zero, List.set_cons_succ]; done) | (simp only [putAll, Act.put, List.setIfInBounds_toArray, List.set_cons_zero, List.set_cons_succ]; rfl)) (hJ1_3 () _ ⟨hHeld, (pb BK184), (pb BK185), (pb BK186), (bs HB)⟩)
          ·skip
           refine box_step ?hg (N := 8) ?hd (cs := #[.bool false, .int .u64 0]) (t := 58) ?hr ?_; (case hd => rfl); (case hg => rfl); (case hr => first | (go_simp; done) | (go_simp; rfl))
           intro gb191 hg w13 hbox hb
           have n0_ := kb BK184 hb
           have n1_ := kb BK185 hb
           have n2_ := kb BK186 hb
           have n3_ := bt HB hb
           have n4_ := Aside0.mk (hbox)
           have n5_ := gs hg HB
           have n6_ := gs hg HB
           have n7_ := nl hg BK184
           have n8_ := ng hg BK184
           have n9_ := nl hg BK185
           have n10_ := ng hg BK185
           have n11_ := nl hg BK186
           have n12_ := ng hg BK186
           clear BK184
           clear BK185
           clear BK186
           clear HB
           have BK184 := n0_
           have BK185 := n1_
           have BK186 := n2_
           have HB := n3_
           have BK191 := n4_
           have GW191 := n5_
           have GE191 := n6_
           have NB184_191 := n7_
           have NB191_184 := n8_
           have NB185_191 := n9_
           have NB191_185 := n10_
           have NB186_191 := n11_
           have NB191_186 := n12_
           clear n0_ n1_ n2_ n3_ n4_ n5_ n6_ n7_ n8_ n9_ n10_ n11_ n12_
           clear hb hbox hg
           refine hK.out _ _ ⟨bc BK184 0, bc BK184 1, bc BK184 2, bc BK185 0, bc BK185 1, bc BK185 2⟩ (fun hHeld => ?_)
           clear hK K
           refine norm_ (a' := ?_) ?_ ?_
           rotate_left
           ·show Act.put _ (some 8) _ = _
            simp only [Act.put, List.setIfInBounds_toArray, List.set_cons_zero, List.set_cons_succ, i64_w, i32_w]
            rfl
           exact norm_ (by first | (simp only [putAll, Act.put, List.setIfInBounds_toArray, List.set_cons_zero, List.set_cons_succ]; done) | (simp only [putAll, Act.put, List.setIfInBounds_toArray, List.set_cons_zero, List.set_cons_succ]; rfl)) (hJ1_4 (gb191) _ ⟨hHeld, (pb BK184), (pb BK185), (pb BK186), (pb BK191), GW191.out, GE191.out, NB184_191.out, NB191_184.out, NB185_191.out, NB191_185.out, NB186_191.out, NB191_186.out, (bs HB)⟩)
          ·skip
           refine box_step ?hg (N := 9) ?hd (cs := #[.bool false, .int .u64 0]) (t := 58) ?hr ?_; (case hd => rfl); (case hg => rfl); (case hr => first | (go_simp; done) | (go_simp; rfl))
           intro gb192 hg w13 hbox hb
           have n0_ := kb BK184 hb
           have n1_ := kb BK185 hb
           have n2_ := kb BK186 hb
           have n3_ := bt HB hb
           have n4_ := Aside0.mk (hbox)
           have n5_ := gs hg HB
           have n6_ := gs hg HB
           have n7_ := nl hg BK184
           have n8_ := ng hg BK184
           have n9_ := nl hg BK185
           have n10_ := ng hg BK185
           have n11_ := nl hg BK186
           have n12_ := ng hg BK186
           clear BK184
           clear BK185
           clear BK186
           clear HB
           have BK184 := n0_
           have BK185 := n1_
           have BK186 := n2_
           have HB := n3_
           have BK192 := n4_
           have GW192 := n5_
           have GE192 := n6_
           have NB184_192 := n7_
           have NB192_184 := n8_
           have NB185_192 := n9_
           have NB192_185 := n10_
           have NB186_192 := n11_
           have NB192_186 := n12_
           clear n0_ n1_ n2_ n3_ n4_ n5_ n6_ n7_ n8_ n9_ n10_ n11_ n12_
           clear hb hbox hg
           refine hK.out _ _ ⟨bc BK184 0, bc BK184 1, bc BK184 2, bc BK185 0, bc BK185 1, bc BK185 2⟩ (fun hHeld => ?_)
           clear hK K
           refine norm_ (a' := ?_) ?_ ?_
           rotate_left
           ·show Act.put _ (some 9) _ = _
            simp only [Act.put, List.setIfInBounds_toArray, List.set_cons_zero, List.set_cons_succ, i64_w, i32_w]
            rfl
           exact norm_ (by first | (simp only [putAll, Act.put, List.setIfInBounds_toArray, List.set_cons_zero, List.set_cons_succ]; done) | (simp only [putAll, Act.put, List.setIfInBounds_toArray, List.set_cons_zero, List.set_cons_succ]; rfl)) (hJ1_5 (gb192) _ ⟨hHeld, (pb BK184), (pb BK185), (pb BK186), (pb BK192), GW192.out, GE192.out, NB184_192.out, NB192_184.out, NB185_192.out, NB192_185.out, NB186_192.out, NB192_186.out, (bs HB)⟩)
        ·skip
         rintro ⟨gb191, gb192⟩ w13 ⟨hS_, h0_, h1_, h2_, h3_, h4_, h5_, h6_, h7_, h8_, h9_, h10_, h11_, h12_, h13_, h14_, h15_, h16_, h17_, h18_, h19_, h20_, h21_, h22_, h23_⟩
         have n0_ : Aside0 (w13.heap[gb184]? = some (.cells #[.int .u8 a1_0, .int .u64 a1_1, .string a1_2] 27 (0, 0))) := ⟨h0_⟩
         have n1_ : Aside0 (w13.heap[gb185]? = some (.cells #[.int .u8 a2_0, .int .u64 a2_1, .string a2_2] 27 (0, 0))) := ⟨h1_⟩
         have n2_ : Aside0 (w13.heap[gb186]? = some (.cells #[.int .u8 0, .int .u64 0, .string (⟨#[]⟩ : ByteArray)] 27 (0, 0))) := ⟨h2_⟩
         have n3_ : Aside0 (w13.heap[gb191]? = some (.cells #[.bool false, .int .u64 0] 58 (0, 0))) := ⟨h3_⟩
         have n4_ : Aside0 (w13.heap[gb192]? = some (.cells #[.bool false, .int .u64 0] 58 (0, 0))) := ⟨h4_⟩
         have n5_ : Aside0 (w.heap.size ≤ gb191) := ⟨h5_⟩
         have n6_ : Aside0 (w.heap.size ≤ gb191) := ⟨h6_⟩
         have n7_ : Aside0 (gb184 ≠ gb191) := ⟨h7_⟩
         have n8_ : Aside0 (gb191 ≠ gb184) := ⟨h8_⟩
         have n9_ : Aside0 (gb185 ≠ gb191) := ⟨h9_⟩
         have n10_ : Aside0 (gb191 ≠ gb185) := ⟨h10_⟩
         have n11_ : Aside0 (gb186 ≠ gb191) := ⟨h11_⟩
         have n12_ : Aside0 (gb191 ≠ gb186) := ⟨h12_⟩
         have n13_ : Aside0 (gb192 ≠ gb191) := ⟨h13_⟩
         have n14_ : Aside0 (gb191 ≠ gb192) := ⟨h14_⟩
         have n15_ : Aside0 (w.heap.size ≤ gb192) := ⟨h15_⟩
         have n16_ : Aside0 (w.heap.size ≤ gb192) := ⟨h16_⟩
         have n17_ : Aside0 (gb184 ≠ gb192) := ⟨h17_⟩
         have n18_ : Aside0 (gb192 ≠ gb184) := ⟨h18_⟩
         have n19_ : Aside0 (gb185 ≠ gb192) := ⟨h19_⟩
         have n20_ : Aside0 (gb192 ≠ gb185) := ⟨h20_⟩
         have n21_ : Aside0 (gb186 ≠ gb192) := ⟨h21_⟩
         have n22_ : Aside0 (gb192 ≠ gb186) := ⟨h22_⟩
         have n23_ : Aside0 (Below w.heap.size w w13) := ⟨h23_⟩
         clear BK184
         clear BK185
         clear BK186
         clear HB
         clear h0_ h1_ h2_ h3_ h4_ h5_ h6_ h7_ h8_ h9_ h10_ h11_ h12_ h13_ h14_ h15_ h16_ h17_ h18_ h19_ h20_ h21_ h22_ h23_
         have BK184 := n0_
         have BK185 := n1_
         have BK186 := n2_
         have BK191 := n3_
         have BK192 := n4_
         have GW191 := n5_
         have GE191 := n6_
         have NB184_191 := n7_
         have NB191_184 := n8_
         have NB185_191 := n9_
         have NB191_185 := n10_
         have NB186_191 := n11_
         have NB191_186 := n12_
         have NB192_191 := n13_
         have NB191_192 := n14_
         have GW192 := n15_
         have GE192 := n16_
         have NB184_192 := n17_
         have NB192_184 := n18_
         have NB185_192 := n19_
         have NB192_185 := n20_
         have NB186_192 := n21_
         have NB192_186 := n22_
         have HB := n23_
         clear n0_ n1_ n2_ n3_ n4_ n5_ n6_ n7_ n8_ n9_ n10_ n11_ n12_ n13_ n14_ n15_ n16_ n17_ n18_ n19_ n20_ n21_ n22_ n23_
         have hHeld : w13.cell? ⟨gb184, 0, none⟩ = some (.int .u8 a1_0) ∧ w13.cell? ⟨gb184, 1, none⟩ = some (.int .u64 a1_1) ∧ w13.cell? ⟨gb184, 2, none⟩ = some (.string a1_2) ∧ w13.cell? ⟨gb185, 0, none⟩ = some (.int .u8 a2_0) ∧ w13.cell? ⟨gb185, 1, none⟩ = some (.int .u64 a2_1) ∧ w13.cell? ⟨gb185, 2, none⟩ = some (.string a2_2) := hS_
         refine norm_ (a' := ?_) ?_ ?_
         rotate_left
         ·simp only [putAll, Act.put, List.setIfInBounds_toArray, List.set_cons_zero, List.set_cons_succ]
          rfl
         refine one_ (i := 1) (N := some 13) #[true, true, true, false, true, true, false, false] rfl rfl (one_of HT_.out (by kernel_rfl)) (by decide) (fun K hK => ?_)
         refine goes_ Try.func68 (by kernel_rfl) rfl #[.agg #[.int .u8 a1_0, .int .u64 a1_1, .string a1_2]] (by rfl) rfl rfl (by (try simp only [List.map_toArray, List.map_cons, List.map_nil]); first | done | rfl | (simp only [List.length_drop, List.length_take]; rfl)) ?_
         with_reducible refine (value_sized.calls a1_0 a1_1 a1_2 t187 t188 _ A4.out).mono ?_
         rintro e w14 ⟨rfl, hb⟩
         refine ⟨_, rfl, ?_⟩
         have n0_ := kb BK184 hb
         have n1_ := kb BK185 hb
         have n2_ := kb BK186 hb
         have n3_ := kb BK191 hb
         have n4_ := kb BK192 hb
         have n5_ := bt HB hb
         clear BK184
         clear BK185
         clear BK186
         clear BK191
         clear BK192
         clear HB
         have BK184 := n0_
         have BK185 := n1_
         have BK186 := n2_
         have BK191 := n3_
         have BK192 := n4_
         have HB := n5_
         clear n0_ n1_ n2_ n3_ n4_ n5_
         (try clear hb)
         (try clear hb2)
         (try clear hk)
         (try clear hi)
         refine hK.out _ _ ⟨bc BK184 0, bc BK184 1, bc BK184 2, bc BK185 0, bc BK185 1, bc BK185 2⟩ (fun hHeld => ?_)
         clear hK K
         refine norm_ (a' := ?_) ?_ ?_
         rotate_left
         ·show Act.put _ (some 13) _ = _
          simp only [Act.put, List.setIfInBounds_toArray, List.set_cons_zero, List.set_cons_succ, i64_w, i32_w]
          rfl
         exact norm_ (by first | (simp only [putAll, Act.put, List.setIfInBounds_toArray, List.set_cons_zero, List.set_cons_succ]; done) | (simp only [putAll, Act.put, List.setIfInBounds_toArray, List.set_cons_zero, List.set_cons_succ]; rfl)) (hJ1_4_5 (gb191, gb192) _ ⟨hHeld, (pb BK184), (pb BK185), (pb BK186), (pb BK191), (pb BK192), GW191.out, GE191.out, NB184_191.out, NB191_184.out, NB185_191.out, NB191_185.out, NB186_191.out, NB191_186.out, NB192_191.out, NB191_192.out, GW192.out, GE192.out, NB184_192.out, NB192_184.out, NB185_192.out, NB192_185.out, NB186_192.out, NB192_186.out, (bs HB)⟩)
       ·skip
        rintro gb192 w13 ⟨hS_, h0_, h1_, h2_, h3_, h4_, h5_, h6_, h7_, h8_, h9_, h10_, h11_, h12_⟩
        have n0_ : Aside0 (w13.heap[gb184]? = some (.cells #[.int .u8 a1_0, .int .u64 a1_1, .string a1_2] 27 (0, 0))) := ⟨h0_⟩
        have n1_ : Aside0 (w13.heap[gb185]? = some (.cells #[.int .u8 a2_0, .int .u64 a2_1, .string a2_2] 27 (0, 0))) := ⟨h1_⟩
        have n2_ : Aside0 (w13.heap[gb186]? = some (.cells #[.int .u8 0, .int .u64 0, .string (⟨#[]⟩ : ByteArray)] 27 (0, 0))) := ⟨h2_⟩
        have n3_ : Aside0 (w13.heap[gb192]? = some (.cells #[.bool false, .int .u64 0] 58 (0, 0))) := ⟨h3_⟩
        have n4_ : Aside0 (w.heap.size ≤ gb192) := ⟨h4_⟩
        have n5_ : Aside0 (w.heap.size ≤ gb192) := ⟨h5_⟩
        have n6_ : Aside0 (gb184 ≠ gb192) := ⟨h6_⟩
        have n7_ : Aside0 (gb192 ≠ gb184) := ⟨h7_⟩
        have n8_ : Aside0 (gb185 ≠ gb192) := ⟨h8_⟩
        have n9_ : Aside0 (gb192 ≠ gb185) := ⟨h9_⟩
        have n10_ : Aside0 (gb186 ≠ gb192) := ⟨h10_⟩
        have n11_ : Aside0 (gb192 ≠ gb186) := ⟨h11_⟩
        have n12_ : Aside0 (Below w.heap.size w w13) := ⟨h12_⟩
        clear BK184
        clear BK185
        clear BK186
        clear HB
        clear h0_ h1_ h2_ h3_ h4_ h5_ h6_ h7_ h8_ h9_ h10_ h11_ h12_
        have BK184 := n0_
        have BK185 := n1_
        have BK186 := n2_
        have BK192 := n3_
        have GW192 := n4_
        have GE192 := n5_
        have NB184_192 := n6_
        have NB192_184 := n7_
        have NB185_192 := n8_
        have NB192_185 := n9_
        have NB186_192 := n10_
        have NB192_186 := n11_
        have HB := n12_
        clear n0_ n1_ n2_ n3_ n4_ n5_ n6_ n7_ n8_ n9_ n10_ n11_ n12_
        have hHeld : w13.cell? ⟨gb184, 0, none⟩ = some (.int .u8 a1_0) ∧ w13.cell? ⟨gb184, 1, none⟩ = some (.int .u64 a1_1) ∧ w13.cell? ⟨gb184, 2, none⟩ = some (.string a1_2) ∧ w13.cell? ⟨gb185, 0, none⟩ = some (.int .u8 a2_0) ∧ w13.cell? ⟨gb185, 1, none⟩ = some (.int .u64 a2_1) ∧ w13.cell? ⟨gb185, 2, none⟩ = some (.string a2_2) := hS_
        refine norm_ (a' := ?_) ?_ ?_
        rotate_left
        ·simp only [putAll, Act.put, List.setIfInBounds_toArray, List.set_cons_zero, List.set_cons_succ]
         rfl
        refine two_ (i := 3) (j := 4) (Ni := some 15) (Nj := some 8) #[true, true, true, true, false, true, false, false] #[true, true, true, false, true, true, false, false] rfl rfl rfl rfl (two_of HT_.out (by kernel_rfl)) (by decide) (by decide) (fun K hK => ?_) (fun K hK => ?_)
        ·skip
         refine goes_ Try.func68 (by kernel_rfl) rfl #[.agg #[.int .u8 a2_0, .int .u64 a2_1, .string a2_2]] (by rfl) rfl rfl (by (try simp only [List.map_toArray, List.map_cons, List.map_nil]); first | done | rfl | (simp only [List.length_drop, List.length_take]; rfl)) ?_
         with_reducible refine (value_sized.calls a2_0 a2_1 a2_2 t189 t190 _ A5.out).mono ?_
         rintro e w14 ⟨rfl, hb⟩
         refine ⟨_, rfl, ?_⟩
         have n0_ := kb BK184 hb
         have n1_ := kb BK185 hb
         have n2_ := kb BK186 hb
         have n3_ := kb BK192 hb
         have n4_ := bt HB hb
         clear BK184
         clear BK185
         clear BK186
         clear BK192
         clear HB
         have BK184 := n0_
         have BK185 := n1_
         have BK186 := n2_
         have BK192 := n3_
         have HB := n4_
         clear n0_ n1_ n2_ n3_ n4_
         (try clear hb)
         (try clear hb2)
         (try clear hk)
         (try clear hi)
         refine hK.out _ _ ⟨bc BK184 0, bc BK184 1, bc BK184 2, bc BK185 0, bc BK185 1, bc BK185 2⟩ (fun hHeld => ?_)
         clear hK K
         refine norm_ (a' := ?_) ?_ ?_
         rotate_left
         ·show Act.put _ (some 15) _ = _
          simp only [Act.put, List.setIfInBounds_toArray, List.set_cons_zero, List.set_cons_succ, i64_w, i32_w]
          rfl
         exact norm_ (by first | (simp only [putAll, Act.put, List.setIfInBounds_toArray, List.set_cons_zero, List.set_cons_succ]; done) | (simp only [putAll, Act.put, List.setIfInBounds_toArray, List.set_cons_zero, List.set_cons_succ]; rfl)) (hJ1_3_5 (gb192) _ ⟨hHeld, (pb BK184), (pb BK185), (pb BK186), (pb BK192), GW192.out, GE192.out, NB184_192.out, NB192_184.out, NB185_192.out, NB192_185.out, NB186_192.out, NB192_186.out, (bs HB)⟩)
        ·skip
         refine box_step ?hg (N := 8) ?hd (cs := #[.bool false, .int .u64 0]) (t := 58) ?hr ?_; (case hd => rfl); (case hg => rfl); (case hr => first | (go_simp; done) | (go_simp; rfl))
         intro gb191 hg w14 hbox hb
         have n0_ := kb BK184 hb
         have n1_ := kb BK185 hb
         have n2_ := kb BK186 hb
         have n3_ := kb BK192 hb
         have n4_ := bt HB hb
         have n5_ := Aside0.mk (hbox)
         have n6_ := gs hg HB
         have n7_ := gs hg HB
         have n8_ := nl hg BK184
         have n9_ := ng hg BK184
         have n10_ := nl hg BK185
         have n11_ := ng hg BK185
         have n12_ := nl hg BK186
         have n13_ := ng hg BK186
         have n14_ := nl hg BK192
         have n15_ := ng hg BK192
         clear BK184
         clear BK185
         clear BK186
         clear BK192
         clear HB
         have BK184 := n0_
         have BK185 := n1_
         have BK186 := n2_
         have BK192 := n3_
         have HB := n4_
         have BK191 := n5_
         have GW191 := n6_
         have GE191 := n7_
         have NB184_191 := n8_
         have NB191_184 := n9_
         have NB185_191 := n10_
         have NB191_185 := n11_
         have NB186_191 := n12_
         have NB191_186 := n13_
         have NB192_191 := n14_
         have NB191_192 := n15_
         clear n0_ n1_ n2_ n3_ n4_ n5_ n6_ n7_ n8_ n9_ n10_ n11_ n12_ n13_ n14_ n15_
         clear hb hbox hg
         refine hK.out _ _ ⟨bc BK184 0, bc BK184 1, bc BK184 2, bc BK185 0, bc BK185 1, bc BK185 2⟩ (fun hHeld => ?_)
         clear hK K
         refine norm_ (a' := ?_) ?_ ?_
         rotate_left
         ·show Act.put _ (some 8) _ = _
          simp only [Act.put, List.setIfInBounds_toArray, List.set_cons_zero, List.set_cons_succ, i64_w, i32_w]
          rfl
         exact norm_ (by first | (simp only [putAll, Act.put, List.setIfInBounds_toArray, List.set_cons_zero, List.set_cons_succ]; done) | (simp only [putAll, Act.put, List.setIfInBounds_toArray, List.set_cons_zero, List.set_cons_succ]; rfl)) (hJ1_4_5 (gb191, gb192) _ ⟨hHeld, (pb BK184), (pb BK185), (pb BK186), (pb BK191), (pb BK192), GW191.out, GE191.out, NB184_191.out, NB191_184.out, NB185_191.out, NB191_185.out, NB186_191.out, NB191_186.out, NB192_191.out, NB191_192.out, GW192.out, GE192.out, NB184_192.out, NB192_184.out, NB185_192.out, NB192_185.out, NB186_192.out, NB192_186.out, (bs HB)⟩)
      ·skip
       rintro gb191 w13 ⟨hS_, h0_, h1_, h2_, h3_, h4_, h5_, h6_, h7_, h8_, h9_, h10_, h11_, h12_⟩
       have n0_ : Aside0 (w13.heap[gb184]? = some (.cells #[.int .u8 a1_0, .int .u64 a1_1, .string a1_2] 27 (0, 0))) := ⟨h0_⟩
       have n1_ : Aside0 (w13.heap[gb185]? = some (.cells #[.int .u8 a2_0, .int .u64 a2_1, .string a2_2] 27 (0, 0))) := ⟨h1_⟩
       have n2_ : Aside0 (w13.heap[gb186]? = some (.cells #[.int .u8 0, .int .u64 0, .string (⟨#[]⟩ : ByteArray)] 27 (0, 0))) := ⟨h2_⟩
       have n3_ : Aside0 (w13.heap[gb191]? = some (.cells #[.bool false, .int .u64 0] 58 (0, 0))) := ⟨h3_⟩
       have n4_ : Aside0 (w.heap.size ≤ gb191) := ⟨h4_⟩
       have n5_ : Aside0 (w.heap.size ≤ gb191) := ⟨h5_⟩
       have n6_ : Aside0 (gb184 ≠ gb191) := ⟨h6_⟩
       have n7_ : Aside0 (gb191 ≠ gb184) := ⟨h7_⟩
       have n8_ : Aside0 (gb185 ≠ gb191) := ⟨h8_⟩
       have n9_ : Aside0 (gb191 ≠ gb185) := ⟨h9_⟩
       have n10_ : Aside0 (gb186 ≠ gb191) := ⟨h10_⟩
       have n11_ : Aside0 (gb191 ≠ gb186) := ⟨h11_⟩
       have n12_ : Aside0 (Below w.heap.size w w13) := ⟨h12_⟩
       clear BK184
       clear BK185
       clear BK186
       clear HB
       clear h0_ h1_ h2_ h3_ h4_ h5_ h6_ h7_ h8_ h9_ h10_ h11_ h12_
       have BK184 := n0_
       have BK185 := n1_
       have BK186 := n2_
       have BK191 := n3_
       have GW191 := n4_
       have GE191 := n5_
       have NB184_191 := n6_
       have NB191_184 := n7_
       have NB185_191 := n8_
       have NB191_185 := n9_
       have NB186_191 := n10_
       have NB191_186 := n11_
       have HB := n12_
       clear n0_ n1_ n2_ n3_ n4_ n5_ n6_ n7_ n8_ n9_ n10_ n11_ n12_
       have hHeld : w13.cell? ⟨gb184, 0, none⟩ = some (.int .u8 a1_0) ∧ w13.cell? ⟨gb184, 1, none⟩ = some (.int .u64 a1_1) ∧ w13.cell? ⟨gb184, 2, none⟩ = some (.string a1_2) ∧ w13.cell? ⟨gb185, 0, none⟩ = some (.int .u8 a2_0) ∧ w13.cell? ⟨gb185, 1, none⟩ = some (.int .u64 a2_1) ∧ w13.cell? ⟨gb185, 2, none⟩ = some (.string a2_2) := hS_
       refine norm_ (a' := ?_) ?_ ?_
       rotate_left
       ·simp only [putAll, Act.put, List.setIfInBounds_toArray, List.set_cons_zero, List.set_cons_succ]
        rfl
       refine two_ (i := 3) (j := 5) (Ni := some 15) (Nj := some 9) #[true, true, true, true, true, false, false, false] #[true, true, true, false, true, true, false, false] rfl rfl rfl rfl (two_of HT_.out (by kernel_rfl)) (by decide) (by decide) (fun K hK => ?_) (fun K hK => ?_)
       ·skip
        refine goes_ Try.func68 (by kernel_rfl) rfl #[.agg #[.int .u8 a2_0, .int .u64 a2_1, .string a2_2]] (by rfl) rfl rfl (by (try simp only [List.map_toArray, List.map_cons, List.map_nil]); first | done | rfl | (simp only [List.length_drop, List.length_take]; rfl)) ?_
        with_reducible refine (value_sized.calls a2_0 a2_1 a2_2 t189 t190 _ A5.out).mono ?_
        rintro e w14 ⟨rfl, hb⟩
        refine ⟨_, rfl, ?_⟩
        have n0_ := kb BK184 hb
        have n1_ := kb BK185 hb
        have n2_ := kb BK186 hb
        have n3_ := kb BK191 hb
        have n4_ := bt HB hb
        clear BK184
        clear BK185
        clear BK186
        clear BK191
        clear HB
        have BK184 := n0_
        have BK185 := n1_
        have BK186 := n2_
        have BK191 := n3_
        have HB := n4_
        clear n0_ n1_ n2_ n3_ n4_
        (try clear hb)
        (try clear hb2)
        (try clear hk)
        (try clear hi)
        refine hK.out _ _ ⟨bc BK184 0, bc BK184 1, bc BK184 2, bc BK185 0, bc BK185 1, bc BK185 2⟩ (fun hHeld => ?_)
        clear hK K
        refine norm_ (a' := ?_) ?_ ?_
        rotate_left
        ·show Act.put _ (some 15) _ = _
         simp only [Act.put, List.setIfInBounds_toArray, List.set_cons_zero, List.set_cons_succ, i64_w, i32_w]
         rfl
        exact norm_ (by first | (simp only [putAll, Act.put, List.setIfInBounds_toArray, List.set_cons_zero, List.set_cons_succ]; done) | (simp only [putAll, Act.put, List.setIfInBounds_toArray, List.set_cons_zero, List.set_cons_succ]; rfl)) (hJ1_3_4 (gb191) _ ⟨hHeld, (pb BK184), (pb BK185), (pb BK186), (pb BK191), GW191.out, GE191.out, NB184_191.out, NB191_184.out, NB185_191.out, NB191_185.out, NB186_191.out, NB191_186.out, (bs HB)⟩)
       ·skip
        refine box_step ?hg (N := 9) ?hd (cs := #[.bool false, .int .u64 0]) (t := 58) ?hr ?_; (case hd => rfl); (case hg => rfl); (case hr => first | (go_simp; done) | (go_simp; rfl))
        intro gb192 hg w14 hbox hb
        have n0_ := kb BK184 hb
        have n1_ := kb BK185 hb
        have n2_ := kb BK186 hb
        have n3_ := kb BK191 hb
        have n4_ := bt HB hb
        have n5_ := Aside0.mk (hbox)
        have n6_ := gs hg HB
        have n7_ := gs hg HB
        have n8_ := nl hg BK184
        have n9_ := ng hg BK184
        have n10_ := nl hg BK185
        have n11_ := ng hg BK185
        have n12_ := nl hg BK186
        have n13_ := ng hg BK186
        have n14_ := nl hg BK191
        have n15_ := ng hg BK191
        clear BK184
        clear BK185
        clear BK186
        clear BK191
        clear HB
        have BK184 := n0_
        have BK185 := n1_
        have BK186 := n2_
        have BK191 := n3_
        have HB := n4_
        have BK192 := n5_
        have GW192 := n6_
        have GE192 := n7_
        have NB184_192 := n8_
        have NB192_184 := n9_
        have NB185_192 := n10_
        have NB192_185 := n11_
        have NB186_192 := n12_
        have NB192_186 := n13_
        have NB191_192 := n14_
        have NB192_191 := n15_
        clear n0_ n1_ n2_ n3_ n4_ n5_ n6_ n7_ n8_ n9_ n10_ n11_ n12_ n13_ n14_ n15_
        clear hb hbox hg
        refine hK.out _ _ ⟨bc BK184 0, bc BK184 1, bc BK184 2, bc BK185 0, bc BK185 1, bc BK185 2⟩ (fun hHeld => ?_)
        clear hK K
        refine norm_ (a' := ?_) ?_ ?_
        rotate_left
        ·show Act.put _ (some 9) _ = _
         simp only [Act.put, List.setIfInBounds_toArray, List.set_cons_zero, List.set_cons_succ, i64_w, i32_w]
         rfl
        exact norm_ (by first | (simp only [putAll, Act.put, List.setIfInBounds_toArray, List.set_cons_zero, List.set_cons_succ]; done) | (simp only [putAll, Act.put, List.setIfInBounds_toArray, List.set_cons_zero, List.set_cons_succ]; rfl)) (hJ1_4_5 (gb191, gb192) _ ⟨hHeld, (pb BK184), (pb BK185), (pb BK186), (pb BK191), (pb BK192), GW191.out, GE191.out, NB184_191.out, NB191_184.out, NB185_191.out, NB191_185.out, NB186_191.out, NB191_186.out, NB192_191.out, NB191_192.out, GW192.out, GE192.out, NB184_192.out, NB192_184.out, NB185_192.out, NB192_185.out, NB186_192.out, NB192_186.out, (bs HB)⟩)
     ·skip
      rintro _ w13 ⟨hS_, h0_, h1_, h2_, h3_⟩
      have n0_ : Aside0 (w13.heap[gb184]? = some (.cells #[.int .u8 a1_0, .int .u64 a1_1, .string a1_2] 27 (0, 0))) := ⟨h0_⟩
      have n1_ : Aside0 (w13.heap[gb185]? = some (.cells #[.int .u8 a2_0, .int .u64 a2_1, .string a2_2] 27 (0, 0))) := ⟨h1_⟩
      have n2_ : Aside0 (w13.heap[gb186]? = some (.cells #[.int .u8 0, .int .u64 0, .string (⟨#[]⟩ : ByteArray)] 27 (0, 0))) := ⟨h2_⟩
      have n3_ : Aside0 (Below w.heap.size w w13) := ⟨h3_⟩
      clear BK184
      clear BK185
      clear BK186
      clear HB
      clear h0_ h1_ h2_ h3_
      have BK184 := n0_
      have BK185 := n1_
      have BK186 := n2_
      have HB := n3_
      clear n0_ n1_ n2_ n3_
      have hHeld : w13.cell? ⟨gb184, 0, none⟩ = some (.int .u8 a1_0) ∧ w13.cell? ⟨gb184, 1, none⟩ = some (.int .u64 a1_1) ∧ w13.cell? ⟨gb184, 2, none⟩ = some (.string a1_2) ∧ w13.cell? ⟨gb185, 0, none⟩ = some (.int .u8 a2_0) ∧ w13.cell? ⟨gb185, 1, none⟩ = some (.int .u64 a2_1) ∧ w13.cell? ⟨gb185, 2, none⟩ = some (.string a2_2) := hS_
      refine norm_ (a' := ?_) ?_ ?_
      rotate_left
      ·simp only [putAll, Act.put, List.setIfInBounds_toArray, List.set_cons_zero, List.set_cons_succ]
       rfl
      refine two_ (i := 4) (j := 5) (Ni := some 8) (Nj := some 9) #[true, true, true, true, true, false, false, false] #[true, true, true, true, false, true, false, false] rfl rfl rfl rfl (two_of HT_.out (by kernel_rfl)) (by decide) (by decide) (fun K hK => ?_) (fun K hK => ?_)
      ·skip
       refine box_step ?hg (N := 8) ?hd (cs := #[.bool false, .int .u64 0]) (t := 58) ?hr ?_; (case hd => rfl); (case hg => rfl); (case hr => first | (go_simp; done) | (go_simp; rfl))
       intro gb191 hg w14 hbox hb
       have n0_ := kb BK184 hb
       have n1_ := kb BK185 hb
       have n2_ := kb BK186 hb
       have n3_ := bt HB hb
       have n4_ := Aside0.mk (hbox)
       have n5_ := gs hg HB
       have n6_ := gs hg HB
       have n7_ := nl hg BK184
       have n8_ := ng hg BK184
       have n9_ := nl hg BK185
       have n10_ := ng hg BK185
       have n11_ := nl hg BK186
       have n12_ := ng hg BK186
       clear BK184
       clear BK185
       clear BK186
       clear HB
       have BK184 := n0_
       have BK185 := n1_
       have BK186 := n2_
       have HB := n3_
       have BK191 := n4_
       have GW191 := n5_
       have GE191 := n6_
       have NB184_191 := n7_
       have NB191_184 := n8_
       have NB185_191 := n9_
       have NB191_185 := n10_
       have NB186_191 := n11_
       have NB191_186 := n12_
       clear n0_ n1_ n2_ n3_ n4_ n5_ n6_ n7_ n8_ n9_ n10_ n11_ n12_
       clear hb hbox hg
       refine hK.out _ _ ⟨bc BK184 0, bc BK184 1, bc BK184 2, bc BK185 0, bc BK185 1, bc BK185 2⟩ (fun hHeld => ?_)
       clear hK K
       refine norm_ (a' := ?_) ?_ ?_
       rotate_left
       ·show Act.put _ (some 8) _ = _
        simp only [Act.put, List.setIfInBounds_toArray, List.set_cons_zero, List.set_cons_succ, i64_w, i32_w]
        rfl
       exact norm_ (by first | (simp only [putAll, Act.put, List.setIfInBounds_toArray, List.set_cons_zero, List.set_cons_succ]; done) | (simp only [putAll, Act.put, List.setIfInBounds_toArray, List.set_cons_zero, List.set_cons_succ]; rfl)) (hJ1_3_4 (gb191) _ ⟨hHeld, (pb BK184), (pb BK185), (pb BK186), (pb BK191), GW191.out, GE191.out, NB184_191.out, NB191_184.out, NB185_191.out, NB191_185.out, NB186_191.out, NB191_186.out, (bs HB)⟩)
      ·skip
       refine box_step ?hg (N := 9) ?hd (cs := #[.bool false, .int .u64 0]) (t := 58) ?hr ?_; (case hd => rfl); (case hg => rfl); (case hr => first | (go_simp; done) | (go_simp; rfl))
       intro gb192 hg w14 hbox hb
       have n0_ := kb BK184 hb
       have n1_ := kb BK185 hb
       have n2_ := kb BK186 hb
       have n3_ := bt HB hb
       have n4_ := Aside0.mk (hbox)
       have n5_ := gs hg HB
       have n6_ := gs hg HB
       have n7_ := nl hg BK184
       have n8_ := ng hg BK184
       have n9_ := nl hg BK185
       have n10_ := ng hg BK185
       have n11_ := nl hg BK186
       have n12_ := ng hg BK186
       clear BK184
       clear BK185
       clear BK186
       clear HB
       have BK184 := n0_
       have BK185 := n1_
       have BK186 := n2_
       have HB := n3_
       have BK192 := n4_
       have GW192 := n5_
       have GE192 := n6_
       have NB184_192 := n7_
       have NB192_184 := n8_
       have NB185_192 := n9_
       have NB192_185 := n10_
       have NB186_192 := n11_
       have NB192_186 := n12_
       clear n0_ n1_ n2_ n3_ n4_ n5_ n6_ n7_ n8_ n9_ n10_ n11_ n12_
       clear hb hbox hg
       refine hK.out _ _ ⟨bc BK184 0, bc BK184 1, bc BK184 2, bc BK185 0, bc BK185 1, bc BK185 2⟩ (fun hHeld => ?_)
       clear hK K
       refine norm_ (a' := ?_) ?_ ?_
       rotate_left
       ·show Act.put _ (some 9) _ = _
        simp only [Act.put, List.setIfInBounds_toArray, List.set_cons_zero, List.set_cons_succ, i64_w, i32_w]
        rfl
       exact norm_ (by first | (simp only [putAll, Act.put, List.setIfInBounds_toArray, List.set_cons_zero, List.set_cons_succ]; done) | (simp only [putAll, Act.put, List.setIfInBounds_toArray, List.set_cons_zero, List.set_cons_succ]; rfl)) (hJ1_3_5 (gb192) _ ⟨hHeld, (pb BK184), (pb BK185), (pb BK186), (pb BK192), GW192.out, GE192.out, NB184_192.out, NB192_184.out, NB185_192.out, NB192_185.out, NB186_192.out, NB192_186.out, (bs HB)⟩)
    ·skip
     rintro ⟨gb191, gb192⟩ w14 ⟨hS_, h0_, h1_, h2_, h3_, h4_, h5_, h6_, h7_, h8_, h9_, h10_, h11_, h12_, h13_, h14_, h15_, h16_, h17_, h18_, h19_, h20_, h21_, h22_, h23_⟩
     have n0_ : Aside0 (w14.heap[gb184]? = some (.cells #[.int .u8 a1_0, .int .u64 a1_1, .string a1_2] 27 (0, 0))) := ⟨h0_⟩
     have n1_ : Aside0 (w14.heap[gb185]? = some (.cells #[.int .u8 a2_0, .int .u64 a2_1, .string a2_2] 27 (0, 0))) := ⟨h1_⟩
     have n2_ : Aside0 (w14.heap[gb186]? = some (.cells #[.int .u8 0, .int .u64 0, .string (⟨#[]⟩ : ByteArray)] 27 (0, 0))) := ⟨h2_⟩
     have n3_ : Aside0 (w14.heap[gb191]? = some (.cells #[.bool false, .int .u64 0] 58 (0, 0))) := ⟨h3_⟩
     have n4_ : Aside0 (w14.heap[gb192]? = some (.cells #[.bool false, .int .u64 0] 58 (0, 0))) := ⟨h4_⟩
     have n5_ : Aside0 (w.heap.size ≤ gb191) := ⟨h5_⟩
     have n6_ : Aside0 (w.heap.size ≤ gb191) := ⟨h6_⟩
     have n7_ : Aside0 (gb184 ≠ gb191) := ⟨h7_⟩
     have n8_ : Aside0 (gb191 ≠ gb184) := ⟨h8_⟩
     have n9_ : Aside0 (gb185 ≠ gb191) := ⟨h9_⟩
     have n10_ : Aside0 (gb191 ≠ gb185) := ⟨h10_⟩
     have n11_ : Aside0 (gb186 ≠ gb191) := ⟨h11_⟩
     have n12_ : Aside0 (gb191 ≠ gb186) := ⟨h12_⟩
     have n13_ : Aside0 (gb192 ≠ gb191) := ⟨h13_⟩
     have n14_ : Aside0 (gb191 ≠ gb192) := ⟨h14_⟩
     have n15_ : Aside0 (w.heap.size ≤ gb192) := ⟨h15_⟩
     have n16_ : Aside0 (w.heap.size ≤ gb192) := ⟨h16_⟩
     have n17_ : Aside0 (gb184 ≠ gb192) := ⟨h17_⟩
     have n18_ : Aside0 (gb192 ≠ gb184) := ⟨h18_⟩
     have n19_ : Aside0 (gb185 ≠ gb192) := ⟨h19_⟩
     have n20_ : Aside0 (gb192 ≠ gb185) := ⟨h20_⟩
     have n21_ : Aside0 (gb186 ≠ gb192) := ⟨h21_⟩
     have n22_ : Aside0 (gb192 ≠ gb186) := ⟨h22_⟩
     have n23_ : Aside0 (Below w.heap.size w w14) := ⟨h23_⟩
     clear BK184
     clear BK185
     clear BK186
     clear HB
     clear h0_ h1_ h2_ h3_ h4_ h5_ h6_ h7_ h8_ h9_ h10_ h11_ h12_ h13_ h14_ h15_ h16_ h17_ h18_ h19_ h20_ h21_ h22_ h23_
     have BK184 := n0_
     have BK185 := n1_
     have BK186 := n2_
     have BK191 := n3_
     have BK192 := n4_
     have GW191 := n5_
     have GE191 := n6_
     have NB184_191 := n7_
     have NB191_184 := n8_
     have NB185_191 := n9_
     have NB191_185 := n10_
     have NB186_191 := n11_
     have NB191_186 := n12_
     have NB192_191 := n13_
     have NB191_192 := n14_
     have GW192 := n15_
     have GE192 := n16_
     have NB184_192 := n17_
     have NB192_184 := n18_
     have NB185_192 := n19_
     have NB192_185 := n20_
     have NB186_192 := n21_
     have NB192_186 := n22_
     have HB := n23_
     clear n0_ n1_ n2_ n3_ n4_ n5_ n6_ n7_ n8_ n9_ n10_ n11_ n12_ n13_ n14_ n15_ n16_ n17_ n18_ n19_ n20_ n21_ n22_ n23_
     have hHeld : w14.cell? ⟨gb184, 0, none⟩ = some (.int .u8 a1_0) ∧ w14.cell? ⟨gb184, 1, none⟩ = some (.int .u64 a1_1) ∧ w14.cell? ⟨gb184, 2, none⟩ = some (.string a1_2) ∧ w14.cell? ⟨gb185, 0, none⟩ = some (.int .u8 a2_0) ∧ w14.cell? ⟨gb185, 1, none⟩ = some (.int .u64 a2_1) ∧ w14.cell? ⟨gb185, 2, none⟩ = some (.string a2_2) := hS_
     refine norm_ (a' := ?_) ?_ ?_
     rotate_left
     ·simp only [putAll, Act.put, List.setIfInBounds_toArray, List.set_cons_zero, List.set_cons_succ]
      rfl
     refine one_ (i := 3) (N := some 15) #[true, true, true, true, true, true, false, false] rfl rfl (one_of HT_.out (by kernel_rfl)) (by decide) (fun K hK => ?_)
     refine goes_ Try.func68 (by kernel_rfl) rfl #[.agg #[.int .u8 a2_0, .int .u64 a2_1, .string a2_2]] (by rfl) rfl rfl (by (try simp only [List.map_toArray, List.map_cons, List.map_nil]); first | done | rfl | (simp only [List.length_drop, List.length_take]; rfl)) ?_
     with_reducible refine (value_sized.calls a2_0 a2_1 a2_2 t189 t190 _ A5.out).mono ?_
     rintro e w15 ⟨rfl, hb⟩
     refine ⟨_, rfl, ?_⟩
     have n0_ := kb BK184 hb
     have n1_ := kb BK185 hb
     have n2_ := kb BK186 hb
     have n3_ := kb BK191 hb
     have n4_ := kb BK192 hb
     have n5_ := bt HB hb
     clear BK184
     clear BK185
     clear BK186
     clear BK191
     clear BK192
     clear HB
     have BK184 := n0_
     have BK185 := n1_
     have BK186 := n2_
     have BK191 := n3_
     have BK192 := n4_
     have HB := n5_
     clear n0_ n1_ n2_ n3_ n4_ n5_
     (try clear hb)
     (try clear hb2)
     (try clear hk)
     (try clear hi)
     refine hK.out _ _ ⟨bc BK184 0, bc BK184 1, bc BK184 2, bc BK185 0, bc BK185 1, bc BK185 2⟩ (fun hHeld => ?_)
     clear hK K
     refine norm_ (a' := ?_) ?_ ?_
     rotate_left
     ·show Act.put _ (some 15) _ = _
      simp only [Act.put, List.setIfInBounds_toArray, List.set_cons_zero, List.set_cons_succ, i64_w, i32_w]
      rfl
     exact norm_ (by first | (simp only [putAll, Act.put, List.setIfInBounds_toArray, List.set_cons_zero, List.set_cons_succ]; done) | (simp only [putAll, Act.put, List.setIfInBounds_toArray, List.set_cons_zero, List.set_cons_succ]; rfl)) (hJ1_3_4_5 (gb191, gb192) _ ⟨hHeld, (pb BK184), (pb BK185), (pb BK186), (pb BK191), (pb BK192), GW191.out, GE191.out, NB184_191.out, NB191_184.out, NB185_191.out, NB191_185.out, NB186_191.out, NB191_186.out, NB192_191.out, NB191_192.out, GW192.out, GE192.out, NB184_192.out, NB192_184.out, NB185_192.out, NB192_185.out, NB186_192.out, NB192_186.out, (bs HB)⟩)
   ·skip
    rintro gb192 w14 ⟨hS_, h0_, h1_, h2_, h3_, h4_, h5_, h6_, h7_, h8_, h9_, h10_, h11_, h12_⟩
    have n0_ : Aside0 (w14.heap[gb184]? = some (.cells #[.int .u8 a1_0, .int .u64 a1_1, .string a1_2] 27 (0, 0))) := ⟨h0_⟩
    have n1_ : Aside0 (w14.heap[gb185]? = some (.cells #[.int .u8 a2_0, .int .u64 a2_1, .string a2_2] 27 (0, 0))) := ⟨h1_⟩
    have n2_ : Aside0 (w14.heap[gb186]? = some (.cells #[.int .u8 0, .int .u64 0, .string (⟨#[]⟩ : ByteArray)] 27 (0, 0))) := ⟨h2_⟩
    have n3_ : Aside0 (w14.heap[gb192]? = some (.cells #[.bool false, .int .u64 0] 58 (0, 0))) := ⟨h3_⟩
    have n4_ : Aside0 (w.heap.size ≤ gb192) := ⟨h4_⟩
    have n5_ : Aside0 (w.heap.size ≤ gb192) := ⟨h5_⟩
    have n6_ : Aside0 (gb184 ≠ gb192) := ⟨h6_⟩
    have n7_ : Aside0 (gb192 ≠ gb184) := ⟨h7_⟩
    have n8_ : Aside0 (gb185 ≠ gb192) := ⟨h8_⟩
    have n9_ : Aside0 (gb192 ≠ gb185) := ⟨h9_⟩
    have n10_ : Aside0 (gb186 ≠ gb192) := ⟨h10_⟩
    have n11_ : Aside0 (gb192 ≠ gb186) := ⟨h11_⟩
    have n12_ : Aside0 (Below w.heap.size w w14) := ⟨h12_⟩
    clear BK184
    clear BK185
    clear BK186
    clear HB
    clear h0_ h1_ h2_ h3_ h4_ h5_ h6_ h7_ h8_ h9_ h10_ h11_ h12_
    have BK184 := n0_
    have BK185 := n1_
    have BK186 := n2_
    have BK192 := n3_
    have GW192 := n4_
    have GE192 := n5_
    have NB184_192 := n6_
    have NB192_184 := n7_
    have NB185_192 := n8_
    have NB192_185 := n9_
    have NB186_192 := n10_
    have NB192_186 := n11_
    have HB := n12_
    clear n0_ n1_ n2_ n3_ n4_ n5_ n6_ n7_ n8_ n9_ n10_ n11_ n12_
    have hHeld : w14.cell? ⟨gb184, 0, none⟩ = some (.int .u8 a1_0) ∧ w14.cell? ⟨gb184, 1, none⟩ = some (.int .u64 a1_1) ∧ w14.cell? ⟨gb184, 2, none⟩ = some (.string a1_2) ∧ w14.cell? ⟨gb185, 0, none⟩ = some (.int .u8 a2_0) ∧ w14.cell? ⟨gb185, 1, none⟩ = some (.int .u64 a2_1) ∧ w14.cell? ⟨gb185, 2, none⟩ = some (.string a2_2) := hS_
    refine norm_ (a' := ?_) ?_ ?_
    rotate_left
    ·simp only [putAll, Act.put, List.setIfInBounds_toArray, List.set_cons_zero, List.set_cons_succ]
     rfl
    refine one_ (i := 4) (N := some 8) #[true, true, true, true, true, true, false, false] rfl rfl (one_of HT_.out (by kernel_rfl)) (by decide) (fun K hK => ?_)
    refine box_step ?hg (N := 8) ?hd (cs := #[.bool false, .int .u64 0]) (t := 58) ?hr ?_; (case hd => rfl); (case hg => rfl); (case hr => first | (go_simp; done) | (go_simp; rfl))
    intro gb191 hg w15 hbox hb
    have n0_ := kb BK184 hb
    have n1_ := kb BK185 hb
    have n2_ := kb BK186 hb
    have n3_ := kb BK192 hb
    have n4_ := bt HB hb
    have n5_ := Aside0.mk (hbox)
    have n6_ := gs hg HB
    have n7_ := gs hg HB
    have n8_ := nl hg BK184
    have n9_ := ng hg BK184
    have n10_ := nl hg BK185
    have n11_ := ng hg BK185
    have n12_ := nl hg BK186
    have n13_ := ng hg BK186
    have n14_ := nl hg BK192
    have n15_ := ng hg BK192
    clear BK184
    clear BK185
    clear BK186
    clear BK192
    clear HB
    have BK184 := n0_
    have BK185 := n1_
    have BK186 := n2_
    have BK192 := n3_
    have HB := n4_
    have BK191 := n5_
    have GW191 := n6_
    have GE191 := n7_
    have NB184_191 := n8_
    have NB191_184 := n9_
    have NB185_191 := n10_
    have NB191_185 := n11_
    have NB186_191 := n12_
    have NB191_186 := n13_
    have NB192_191 := n14_
    have NB191_192 := n15_
    clear n0_ n1_ n2_ n3_ n4_ n5_ n6_ n7_ n8_ n9_ n10_ n11_ n12_ n13_ n14_ n15_
    clear hb hbox hg
    refine hK.out _ _ ⟨bc BK184 0, bc BK184 1, bc BK184 2, bc BK185 0, bc BK185 1, bc BK185 2⟩ (fun hHeld => ?_)
    clear hK K
    refine norm_ (a' := ?_) ?_ ?_
    rotate_left
    ·show Act.put _ (some 8) _ = _
     simp only [Act.put, List.setIfInBounds_toArray, List.set_cons_zero, List.set_cons_succ, i64_w, i32_w]
     rfl
    exact norm_ (by first | (simp only [putAll, Act.put, List.setIfInBounds_toArray, List.set_cons_zero, List.set_cons_succ]; done) | (simp only [putAll, Act.put, List.setIfInBounds_toArray, List.set_cons_zero, List.set_cons_succ]; rfl)) (hJ1_3_4_5 (gb191, gb192) _ ⟨hHeld, (pb BK184), (pb BK185), (pb BK186), (pb BK191), (pb BK192), GW191.out, GE191.out, NB184_191.out, NB191_184.out, NB185_191.out, NB191_185.out, NB186_191.out, NB191_186.out, NB192_191.out, NB191_192.out, GW192.out, GE192.out, NB184_192.out, NB192_184.out, NB185_192.out, NB192_185.out, NB186_192.out, NB192_186.out, (bs HB)⟩)
  ·skip
   rintro gb191 w14 ⟨hS_, h0_, h1_, h2_, h3_, h4_, h5_, h6_, h7_, h8_, h9_, h10_, h11_, h12_⟩
   have n0_ : Aside0 (w14.heap[gb184]? = some (.cells #[.int .u8 a1_0, .int .u64 a1_1, .string a1_2] 27 (0, 0))) := ⟨h0_⟩
   have n1_ : Aside0 (w14.heap[gb185]? = some (.cells #[.int .u8 a2_0, .int .u64 a2_1, .string a2_2] 27 (0, 0))) := ⟨h1_⟩
   have n2_ : Aside0 (w14.heap[gb186]? = some (.cells #[.int .u8 0, .int .u64 0, .string (⟨#[]⟩ : ByteArray)] 27 (0, 0))) := ⟨h2_⟩
   have n3_ : Aside0 (w14.heap[gb191]? = some (.cells #[.bool false, .int .u64 0] 58 (0, 0))) := ⟨h3_⟩
   have n4_ : Aside0 (w.heap.size ≤ gb191) := ⟨h4_⟩
   have n5_ : Aside0 (w.heap.size ≤ gb191) := ⟨h5_⟩
   have n6_ : Aside0 (gb184 ≠ gb191) := ⟨h6_⟩
   have n7_ : Aside0 (gb191 ≠ gb184) := ⟨h7_⟩
   have n8_ : Aside0 (gb185 ≠ gb191) := ⟨h8_⟩
   have n9_ : Aside0 (gb191 ≠ gb185) := ⟨h9_⟩
   have n10_ : Aside0 (gb186 ≠ gb191) := ⟨h10_⟩
   have n11_ : Aside0 (gb191 ≠ gb186) := ⟨h11_⟩
   have n12_ : Aside0 (Below w.heap.size w w14) := ⟨h12_⟩
   clear BK184
   clear BK185
   clear BK186
   clear HB
   clear h0_ h1_ h2_ h3_ h4_ h5_ h6_ h7_ h8_ h9_ h10_ h11_ h12_
   have BK184 := n0_
   have BK185 := n1_
   have BK186 := n2_
   have BK191 := n3_
   have GW191 := n4_
   have GE191 := n5_
   have NB184_191 := n6_
   have NB191_184 := n7_
   have NB185_191 := n8_
   have NB191_185 := n9_
   have NB186_191 := n10_
   have NB191_186 := n11_
   have HB := n12_
   clear n0_ n1_ n2_ n3_ n4_ n5_ n6_ n7_ n8_ n9_ n10_ n11_ n12_
   have hHeld : w14.cell? ⟨gb184, 0, none⟩ = some (.int .u8 a1_0) ∧ w14.cell? ⟨gb184, 1, none⟩ = some (.int .u64 a1_1) ∧ w14.cell? ⟨gb184, 2, none⟩ = some (.string a1_2) ∧ w14.cell? ⟨gb185, 0, none⟩ = some (.int .u8 a2_0) ∧ w14.cell? ⟨gb185, 1, none⟩ = some (.int .u64 a2_1) ∧ w14.cell? ⟨gb185, 2, none⟩ = some (.string a2_2) := hS_
   refine norm_ (a' := ?_) ?_ ?_
   rotate_left
   ·simp only [putAll, Act.put, List.setIfInBounds_toArray, List.set_cons_zero, List.set_cons_succ]
    rfl
   refine one_ (i := 5) (N := some 9) #[true, true, true, true, true, true, false, false] rfl rfl (one_of HT_.out (by kernel_rfl)) (by decide) (fun K hK => ?_)
   refine box_step ?hg (N := 9) ?hd (cs := #[.bool false, .int .u64 0]) (t := 58) ?hr ?_; (case hd => rfl); (case hg => rfl); (case hr => first | (go_simp; done) | (go_simp; rfl))
   intro gb192 hg w15 hbox hb
   have n0_ := kb BK184 hb
   have n1_ := kb BK185 hb
   have n2_ := kb BK186 hb
   have n3_ := kb BK191 hb
   have n4_ := bt HB hb
   have n5_ := Aside0.mk (hbox)
   have n6_ := gs hg HB
   have n7_ := gs hg HB
   have n8_ := nl hg BK184
   have n9_ := ng hg BK184
   have n10_ := nl hg BK185
   have n11_ := ng hg BK185
   have n12_ := nl hg BK186
   have n13_ := ng hg BK186
   have n14_ := nl hg BK191
   have n15_ := ng hg BK191
   clear BK184
   clear BK185
   clear BK186
   clear BK191
   clear HB
   have BK184 := n0_
   have BK185 := n1_
   have BK186 := n2_
   have BK191 := n3_
   have HB := n4_
   have BK192 := n5_
   have GW192 := n6_
   have GE192 := n7_
   have NB184_192 := n8_
   have NB192_184 := n9_
   have NB185_192 := n10_
   have NB192_185 := n11_
   have NB186_192 := n12_
   have NB192_186 := n13_
   have NB191_192 := n14_
   have NB192_191 := n15_
   clear n0_ n1_ n2_ n3_ n4_ n5_ n6_ n7_ n8_ n9_ n10_ n11_ n12_ n13_ n14_ n15_
   clear hb hbox hg
   refine hK.out _ _ ⟨bc BK184 0, bc BK184 1, bc BK184 2, bc BK185 0, bc BK185 1, bc BK185 2⟩ (fun hHeld => ?_)
   clear hK K
   refine norm_ (a' := ?_) ?_ ?_
   rotate_left
   ·show Act.put _ (some 9) _ = _
    simp only [Act.put, List.setIfInBounds_toArray, List.set_cons_zero, List.set_cons_succ, i64_w, i32_w]
    rfl
   exact norm_ (by first | (simp only [putAll, Act.put, List.setIfInBounds_toArray, List.set_cons_zero, List.set_cons_succ]; done) | (simp only [putAll, Act.put, List.setIfInBounds_toArray, List.set_cons_zero, List.set_cons_succ]; rfl)) (hJ1_3_4_5 (gb191, gb192) _ ⟨hHeld, (pb BK184), (pb BK185), (pb BK186), (pb BK191), (pb BK192), GW191.out, GE191.out, NB184_191.out, NB191_184.out, NB185_191.out, NB191_185.out, NB186_191.out, NB191_186.out, NB192_191.out, NB191_192.out, GW192.out, GE192.out, NB184_192.out, NB192_184.out, NB185_192.out, NB192_185.out, NB186_192.out, NB192_186.out, (bs HB)⟩)
 rintro ⟨gb191, gb192⟩ w15 ⟨hS_, h0_, h1_, h2_, h3_, h4_, h5_, h6_, h7_, h8_, h9_, h10_, h11_, h12_, h13_, h14_, h15_, h16_, h17_, h18_, h19_, h20_, h21_, h22_, h23_⟩
 have n0_ : Aside0 (w15.heap[gb184]? = some (.cells #[.int .u8 a1_0, .int .u64 a1_1, .string a1_2] 27 (0, 0))) := ⟨h0_⟩
 have n1_ : Aside0 (w15.heap[gb185]? = some (.cells #[.int .u8 a2_0, .int .u64 a2_1, .string a2_2] 27 (0, 0))) := ⟨h1_⟩
 have n2_ : Aside0 (w15.heap[gb186]? = some (.cells #[.int .u8 0, .int .u64 0, .string (⟨#[]⟩ : ByteArray)] 27 (0, 0))) := ⟨h2_⟩
 have n3_ : Aside0 (w15.heap[gb191]? = some (.cells #[.bool false, .int .u64 0] 58 (0, 0))) := ⟨h3_⟩
 have n4_ : Aside0 (w15.heap[gb192]? = some (.cells #[.bool false, .int .u64 0] 58 (0, 0))) := ⟨h4_⟩
 have n5_ : Aside0 (w.heap.size ≤ gb191) := ⟨h5_⟩
 have n6_ : Aside0 (w.heap.size ≤ gb191) := ⟨h6_⟩
 have n7_ : Aside0 (gb184 ≠ gb191) := ⟨h7_⟩
 have n8_ : Aside0 (gb191 ≠ gb184) := ⟨h8_⟩
 have n9_ : Aside0 (gb185 ≠ gb191) := ⟨h9_⟩
 have n10_ : Aside0 (gb191 ≠ gb185) := ⟨h10_⟩
 have n11_ : Aside0 (gb186 ≠ gb191) := ⟨h11_⟩
 have n12_ : Aside0 (gb191 ≠ gb186) := ⟨h12_⟩
 have n13_ : Aside0 (gb192 ≠ gb191) := ⟨h13_⟩
 have n14_ : Aside0 (gb191 ≠ gb192) := ⟨h14_⟩
 have n15_ : Aside0 (w.heap.size ≤ gb192) := ⟨h15_⟩
 have n16_ : Aside0 (w.heap.size ≤ gb192) := ⟨h16_⟩
 have n17_ : Aside0 (gb184 ≠ gb192) := ⟨h17_⟩
 have n18_ : Aside0 (gb192 ≠ gb184) := ⟨h18_⟩
 have n19_ : Aside0 (gb185 ≠ gb192) := ⟨h19_⟩
 have n20_ : Aside0 (gb192 ≠ gb185) := ⟨h20_⟩
 have n21_ : Aside0 (gb186 ≠ gb192) := ⟨h21_⟩
 have n22_ : Aside0 (gb192 ≠ gb186) := ⟨h22_⟩
 have n23_ : Aside0 (Below w.heap.size w w15) := ⟨h23_⟩
 clear BK184
 clear BK185
 clear BK186
 clear HB
 clear h0_ h1_ h2_ h3_ h4_ h5_ h6_ h7_ h8_ h9_ h10_ h11_ h12_ h13_ h14_ h15_ h16_ h17_ h18_ h19_ h20_ h21_ h22_ h23_
 have BK184 := n0_
 have BK185 := n1_
 have BK186 := n2_
 have BK191 := n3_
 have BK192 := n4_
 have GW191 := n5_
 have GE191 := n6_
 have NB184_191 := n7_
 have NB191_184 := n8_
 have NB185_191 := n9_
 have NB191_185 := n10_
 have NB186_191 := n11_
 have NB191_186 := n12_
 have NB192_191 := n13_
 have NB191_192 := n14_
 have GW192 := n15_
 have GE192 := n16_
 have NB184_192 := n17_
 have NB192_184 := n18_
 have NB185_192 := n19_
 have NB192_185 := n20_
 have NB186_192 := n21_
 have NB192_186 := n22_
 have HB := n23_
 clear n0_ n1_ n2_ n3_ n4_ n5_ n6_ n7_ n8_ n9_ n10_ n11_ n12_ n13_ n14_ n15_ n16_ n17_ n18_ n19_ n20_ n21_ n22_ n23_
 have hHeld : w15.cell? ⟨gb184, 0, none⟩ = some (.int .u8 a1_0) ∧ w15.cell? ⟨gb184, 1, none⟩ = some (.int .u64 a1_1) ∧ w15.cell? ⟨gb184, 2, none⟩ = some (.string a1_2) ∧ w15.cell? ⟨gb185, 0, none⟩ = some (.int .u8 a2_0) ∧ w15.cell? ⟨gb185, 1, none⟩ = some (.int .u64 a2_1) ∧ w15.cell? ⟨gb185, 2, none⟩ = some (.string a2_2) := hS_
 refine norm_ (a' := ?_) ?_ ?_
 rotate_left
 ·simp only [putAll, Act.put, List.setIfInBounds_toArray, List.set_cons_zero, List.set_cons_succ]
  rfl
 refine one_ (i := 6) (N := none) #[true, true, true, true, true, true, true, false] rfl rfl (one_of HT_.out (by kernel_rfl)) (by decide) (fun K hK => ?_)
 have hs16 : w15.cell? ⟨gb191, 0, none⟩ = some (.bool false) := bc BK191 0
 have hfs16 := blk_frozen BK191.out 0
 have hns16_0 := NB184_191.out
 have hns16_1 := NB185_191.out
 have hns16_2 := NB186_191.out
 have hns16_4 := NB192_191.out
 have hms16_0 := NB191_184.out
 have hms16_1 := NB191_185.out
 have hms16_2 := NB191_186.out
 have hms16_4 := NB191_192.out
 have hs17 : w15.cell? ⟨gb191, 1, none⟩ = some (.int .u64 0) := bc BK191 1
 have hfs17 := blk_frozen BK191.out 1
 have hns17_0 := NB184_191.out
 have hns17_1 := NB185_191.out
 have hns17_2 := NB186_191.out
 have hns17_4 := NB192_191.out
 have hms17_0 := NB191_184.out
 have hms17_1 := NB191_185.out
 have hms17_2 := NB191_186.out
 have hms17_4 := NB191_192.out
 refine skip_ (w1 := ?_) (by rfl) rfl ?_ ?_
 rotate_left
 ·go_simp
  rfl
 refine hK.out _ _ ⟨((cell_far (p := ⟨gb191, _, none⟩) NB184_191.out _).trans (((cell_far (p := ⟨gb191, _, none⟩) NB184_191.out _).trans (hHeld.1)))), ((cell_far (p := ⟨gb191, _, none⟩) NB184_191.out _).trans (((cell_far (p := ⟨gb191, _, none⟩) NB184_191.out _).trans (hHeld.2.1)))), ((cell_far (p := ⟨gb191, _, none⟩) NB184_191.out _).trans (((cell_far (p := ⟨gb191, _, none⟩) NB184_191.out _).trans (hHeld.2.2.1)))), ((cell_far (p := ⟨gb191, _, none⟩) NB185_191.out _).trans (((cell_far (p := ⟨gb191, _, none⟩) NB185_191.out _).trans (hHeld.2.2.2.1)))), ((cell_far (p := ⟨gb191, _, none⟩) NB185_191.out _).trans (((cell_far (p := ⟨gb191, _, none⟩) NB185_191.out _).trans (hHeld.2.2.2.2.1)))), ((cell_far (p := ⟨gb191, _, none⟩) NB185_191.out _).trans (((cell_far (p := ⟨gb191, _, none⟩) NB185_191.out _).trans (hHeld.2.2.2.2.2))))⟩ (fun hHeld => ?_)
 clear hK K
 refine one_ (i := 7) (N := none) #[true, true, true, true, true, true, true, true] rfl rfl (one_of HT_.out (by kernel_rfl)) (by decide) (fun K hK => ?_)
 have hs18 : w15.cell? ⟨gb192, 0, none⟩ = some (.bool false) := bc BK192 0
 have hfs18 := blk_frozen BK192.out 0
 have hns18_0 := NB184_192.out
 have hns18_1 := NB185_192.out
 have hns18_2 := NB186_192.out
 have hns18_3 := NB191_192.out
 have hms18_0 := NB192_184.out
 have hms18_1 := NB192_185.out
 have hms18_2 := NB192_186.out
 have hms18_3 := NB192_191.out
 have hs19 : w15.cell? ⟨gb192, 1, none⟩ = some (.int .u64 0) := bc BK192 1
 have hfs19 := blk_frozen BK192.out 1
 have hns19_0 := NB184_192.out
 have hns19_1 := NB185_192.out
 have hns19_2 := NB186_192.out
 have hns19_3 := NB191_192.out
 have hms19_0 := NB192_184.out
 have hms19_1 := NB192_185.out
 have hms19_2 := NB192_186.out
 have hms19_3 := NB192_191.out
 refine skip_ (w1 := ?_) (by rfl) rfl ?_ ?_
 rotate_left
 ·go_simp
  rfl
 refine hK.out _ _ ⟨((cell_far (p := ⟨gb192, _, none⟩) NB184_192.out _).trans (((cell_far (p := ⟨gb192, _, none⟩) NB184_192.out _).trans (hHeld.1)))), ((cell_far (p := ⟨gb192, _, none⟩) NB184_192.out _).trans (((cell_far (p := ⟨gb192, _, none⟩) NB184_192.out _).trans (hHeld.2.1)))), ((cell_far (p := ⟨gb192, _, none⟩) NB184_192.out _).trans (((cell_far (p := ⟨gb192, _, none⟩) NB184_192.out _).trans (hHeld.2.2.1)))), ((cell_far (p := ⟨gb192, _, none⟩) NB185_192.out _).trans (((cell_far (p := ⟨gb192, _, none⟩) NB185_192.out _).trans (hHeld.2.2.2.1)))), ((cell_far (p := ⟨gb192, _, none⟩) NB185_192.out _).trans (((cell_far (p := ⟨gb192, _, none⟩) NB185_192.out _).trans (hHeld.2.2.2.2.1)))), ((cell_far (p := ⟨gb192, _, none⟩) NB185_192.out _).trans (((cell_far (p := ⟨gb192, _, none⟩) NB185_192.out _).trans (hHeld.2.2.2.2.2))))⟩ (fun hHeld => ?_)
 clear hK K
 refine done_ (done_of HT_.out (by kernel_rfl)) ?_
 go_upto_block 0 with (first | ((with_reducible refine gate_dst (N := 11) rfl ?_); refine box_event ?hg (N := 11) ?hd (cs := #[.bool false, .int .u64 0]) (t := 58) ?hr ?_; (case hd => rfl); (case hg => rfl); (case hr => first | (go_simp; done) | (go_simp; rfl)); intro gb193 hg w20 hbox hb; have n0_ := Aside0.mk (blk_below (g := gb184) (o := .cells #[.int .u8 a1_0, .int .u64 a1_1, .string a1_2] 27 (0, 0)) (by (with_reducible repeat (first | refine blk_drewN ?_ _ | refine blk_drew ?_ | refine blk_alloc ?_ _)); refine blk_far ?_ NB184_192.out _; (with_reducible repeat (first | refine blk_drewN ?_ _ | refine blk_drew ?_ | refine blk_alloc ?_ _)); refine blk_far ?_ NB184_192.out _; (with_reducible repeat (first | refine blk_drewN ?_ _ | refine blk_drew ?_ | refine blk_alloc ?_ _)); refine blk_far ?_ NB184_191.out _; (with_reducible repeat (first | refine blk_drewN ?_ _ | refine blk_drew ?_ | refine blk_alloc ?_ _)); refine blk_far ?_ NB184_191.out _; (with_reducible repeat (first | refine blk_drewN ?_ _ | refine blk_drew ?_ | refine blk_alloc ?_ _)); exact BK184.out) hb); have n1_ := Aside0.mk (blk_below (g := gb185) (o := .cells #[.int .u8 a2_0, .int .u64 a2_1, .string a2_2] 27 (0, 0)) (by (with_reducible repeat (first | refine blk_drewN ?_ _ | refine blk_drew ?_ | refine blk_alloc ?_ _)); refine blk_far ?_ NB185_192.out _; (with_reducible repeat (first | refine blk_drewN ?_ _ | refine blk_drew ?_ | refine blk_alloc ?_ _)); refine blk_far ?_ NB185_192.out _; (with_reducible repeat (first | refine blk_drewN ?_ _ | refine blk_drew ?_ | refine blk_alloc ?_ _)); refine blk_far ?_ NB185_191.out _; (with_reducible repeat (first | refine blk_drewN ?_ _ | refine blk_drew ?_ | refine blk_alloc ?_ _)); refine blk_far ?_ NB185_191.out _; (with_reducible repeat (first | refine blk_drewN ?_ _ | refine blk_drew ?_ | refine blk_alloc ?_ _)); exact BK185.out) hb); have n2_ := Aside0.mk (blk_below (g := gb186) (o := .cells #[.int .u8 0, .int .u64 0, .string (⟨#[]⟩ : ByteArray)] 27 (0, 0)) (by (with_reducible repeat (first | refine blk_drewN ?_ _ | refine blk_drew ?_ | refine blk_alloc ?_ _)); refine blk_far ?_ NB186_192.out _; (with_reducible repeat (first | refine blk_drewN ?_ _ | refine blk_drew ?_ | refine blk_alloc ?_ _)); refine blk_far ?_ NB186_192.out _; (with_reducible repeat (first | refine blk_drewN ?_ _ | refine blk_drew ?_ | refine blk_alloc ?_ _)); refine blk_far ?_ NB186_191.out _; (with_reducible repeat (first | refine blk_drewN ?_ _ | refine blk_drew ?_ | refine blk_alloc ?_ _)); refine blk_far ?_ NB186_191.out _; (with_reducible repeat (first | refine blk_drewN ?_ _ | refine blk_drew ?_ | refine blk_alloc ?_ _)); exact BK186.out) hb); have n3_ := Aside0.mk (blk_below (g := gb191) (o := .cells #[.bool t187, .int .u64 t188] 58 (0, 0)) (by (with_reducible repeat (first | refine blk_drewN ?_ _ | refine blk_drew ?_ | refine blk_alloc ?_ _)); refine blk_far ?_ NB191_192.out _; (with_reducible repeat (first | refine blk_drewN ?_ _ | refine blk_drew ?_ | refine blk_alloc ?_ _)); refine blk_far ?_ NB191_192.out _; (with_reducible repeat (first | refine blk_drewN ?_ _ | refine blk_drew ?_ | refine blk_alloc ?_ _)); refine blk_put (cs := #[.bool t187, .int .u64 0]) ?_ 1 _ rfl; (with_reducible repeat (first | refine blk_drewN ?_ _ | refine blk_drew ?_ | refine blk_alloc ?_ _)); refine blk_put (cs := #[.bool false, .int .u64 0]) ?_ 0 _ rfl; (with_reducible repeat (first | refine blk_drewN ?_ _ | refine blk_drew ?_ | refine blk_alloc ?_ _)); exact BK191.out) hb); have n4_ := Aside0.mk (blk_below (g := gb192) (o := .cells #[.bool t189, .int .u64 t190] 58 (0, 0)) (by (with_reducible repeat (first | refine blk_drewN ?_ _ | refine blk_drew ?_ | refine blk_alloc ?_ _)); refine blk_put (cs := #[.bool t189, .int .u64 0]) ?_ 1 _ rfl; (with_reducible repeat (first | refine blk_drewN ?_ _ | refine blk_drew ?_ | refine blk_alloc ?_ _)); refine blk_put (cs := #[.bool false, .int .u64 0]) ?_ 0 _ rfl; (with_reducible repeat (first | refine blk_drewN ?_ _ | refine blk_drew ?_ | refine blk_alloc ?_ _)); refine blk_far ?_ NB192_191.out _; (with_reducible repeat (first | refine blk_drewN ?_ _ | refine blk_drew ?_ | refine blk_alloc ?_ _)); refine blk_far ?_ NB192_191.out _; (with_reducible repeat (first | refine blk_drewN ?_ _ | refine blk_drew ?_ | refine blk_alloc ?_ _)); exact BK192.out) hb); have n5_ := bt HB hb; have n6_ := Aside0.mk (hbox); have n7_ := gs hg HB; have n8_ := gs hg HB; have n9_ := Aside0.mk ((by rw [hg]; exact Nat.ne_of_lt (blk_lt (g := gb184) (o := .cells #[.int .u8 a1_0, .int .u64 a1_1, .string a1_2] 27 (0, 0)) (by (with_reducible repeat (first | refine blk_drewN ?_ _ | refine blk_drew ?_ | refine blk_alloc ?_ _)); refine blk_far ?_ NB184_192.out _; (with_reducible repeat (first | refine blk_drewN ?_ _ | refine blk_drew ?_ | refine blk_alloc ?_ _)); refine blk_far ?_ NB184_192.out _; (with_reducible repeat (first | refine blk_drewN ?_ _ | refine blk_drew ?_ | refine blk_alloc ?_ _)); refine blk_far ?_ NB184_191.out _; (with_reducible repeat (first | refine blk_drewN ?_ _ | refine blk_drew ?_ | refine blk_alloc ?_ _)); refine blk_far ?_ NB184_191.out _; (with_reducible repeat (first | refine blk_drewN ?_ _ | refine blk_drew ?_ | refine blk_alloc ?_ _)); exact BK184.out)) : gb184 ≠ gb193)); have n10_ := Aside0.mk ((by rw [hg]; exact Nat.ne_of_gt (blk_lt (g := gb184) (o := .cells #[.int .u8 a1_0, .int .u64 a1_1, .string a1_2] 27 (0, 0)) (by (with_reducible repeat (first | refine blk_drewN ?_ _ | refine blk_drew ?_ | refine blk_alloc ?_ _)); refine blk_far ?_ NB184_192.out _; (with_reducible repeat (first | refine blk_drewN ?_ _ | refine blk_drew ?_ | refine blk_alloc ?_ _)); refine blk_far ?_ NB184_192.out _; (with_reducible repeat (first | refine blk_drewN ?_ _ | refine blk_drew ?_ | refine blk_alloc ?_ _)); refine blk_far ?_ NB184_191.out _; (with_reducible repeat (first | refine blk_drewN ?_ _ | refine blk_drew ?_ | refine blk_alloc ?_ _)); refine blk_far ?_ NB184_191.out _; (with_reducible repeat (first | refine blk_drewN ?_ _ | refine blk_drew ?_ | refine blk_alloc ?_ _)); exact BK184.out)) : gb193 ≠ gb184)); have n11_ := Aside0.mk ((by rw [hg]; exact Nat.ne_of_lt (blk_lt (g := gb185) (o := .cells #[.int .u8 a2_0, .int .u64 a2_1, .string a2_2] 27 (0, 0)) (by (with_reducible repeat (first | refine blk_drewN ?_ _ | refine blk_drew ?_ | refine blk_alloc ?_ _)); refine blk_far ?_ NB185_192.out _; (with_reducible repeat (first | refine blk_drewN ?_ _ | refine blk_drew ?_ | refine blk_alloc ?_ _)); refine blk_far ?_ NB185_192.out _; (with_reducible repeat (first | refine blk_drewN ?_ _ | refine blk_drew ?_ | refine blk_alloc ?_ _)); refine blk_far ?_ NB185_191.out _; (with_reducible repeat (first | refine blk_drewN ?_ _ | refine blk_drew ?_ | refine blk_alloc ?_ _)); refine blk_far ?_ NB185_191.out _; (with_reducible repeat (first | refine blk_drewN ?_ _ | refine blk_drew ?_ | refine blk_alloc ?_ _)); exact BK185.out)) : gb185 ≠ gb193)); have n12_ := Aside0.mk ((by rw [hg]; exact Nat.ne_of_gt (blk_lt (g := gb185) (o := .cells #[.int .u8 a2_0, .int .u64 a2_1, .string a2_2] 27 (0, 0)) (by (with_reducible repeat (first | refine blk_drewN ?_ _ | refine blk_drew ?_ | refine blk_alloc ?_ _)); refine blk_far ?_ NB185_192.out _; (with_reducible repeat (first | refine blk_drewN ?_ _ | refine blk_drew ?_ | refine blk_alloc ?_ _)); refine blk_far ?_ NB185_192.out _; (with_reducible repeat (first | refine blk_drewN ?_ _ | refine blk_drew ?_ | refine blk_alloc ?_ _)); refine blk_far ?_ NB185_191.out _; (with_reducible repeat (first | refine blk_drewN ?_ _ | refine blk_drew ?_ | refine blk_alloc ?_ _)); refine blk_far ?_ NB185_191.out _; (with_reducible repeat (first | refine blk_drewN ?_ _ | refine blk_drew ?_ | refine blk_alloc ?_ _)); exact BK185.out)) : gb193 ≠ gb185)); have n13_ := Aside0.mk ((by rw [hg]; exact Nat.ne_of_lt (blk_lt (g := gb186) (o := .cells #[.int .u8 0, .int .u64 0, .string (⟨#[]⟩ : ByteArray)] 27 (0, 0)) (by (with_reducible repeat (first | refine blk_drewN ?_ _ | refine blk_drew ?_ | refine blk_alloc ?_ _)); refine blk_far ?_ NB186_192.out _; (with_reducible repeat (first | refine blk_drewN ?_ _ | refine blk_drew ?_ | refine blk_alloc ?_ _)); refine blk_far ?_ NB186_192.out _; (with_reducible repeat (first | refine blk_drewN ?_ _ | refine blk_drew ?_ | refine blk_alloc ?_ _)); refine blk_far ?_ NB186_191.out _; (with_reducible repeat (first | refine blk_drewN ?_ _ | refine blk_drew ?_ | refine blk_alloc ?_ _)); refine blk_far ?_ NB186_191.out _; (with_reducible repeat (first | refine blk_drewN ?_ _ | refine blk_drew ?_ | refine blk_alloc ?_ _)); exact BK186.out)) : gb186 ≠ gb193)); have n14_ := Aside0.mk ((by rw [hg]; exact Nat.ne_of_gt (blk_lt (g := gb186) (o := .cells #[.int .u8 0, .int .u64 0, .string (⟨#[]⟩ : ByteArray)] 27 (0, 0)) (by (with_reducible repeat (first | refine blk_drewN ?_ _ | refine blk_drew ?_ | refine blk_alloc ?_ _)); refine blk_far ?_ NB186_192.out _; (with_reducible repeat (first | refine blk_drewN ?_ _ | refine blk_drew ?_ | refine blk_alloc ?_ _)); refine blk_far ?_ NB186_192.out _; (with_reducible repeat (first | refine blk_drewN ?_ _ | refine blk_drew ?_ | refine blk_alloc ?_ _)); refine blk_far ?_ NB186_191.out _; (with_reducible repeat (first | refine blk_drewN ?_ _ | refine blk_drew ?_ | refine blk_alloc ?_ _)); refine blk_far ?_ NB186_191.out _; (with_reducible repeat (first | refine blk_drewN ?_ _ | refine blk_drew ?_ | refine blk_alloc ?_ _)); exact BK186.out)) : gb193 ≠ gb186)); have n15_ := Aside0.mk ((by rw [hg]; exact Nat.ne_of_lt (blk_lt (g := gb191) (o := .cells #[.bool t187, .int .u64 t188] 58 (0, 0)) (by (with_reducible repeat (first | refine blk_drewN ?_ _ | refine blk_drew ?_ | refine blk_alloc ?_ _)); refine blk_far ?_ NB191_192.out _; (with_reducible repeat (first | refine blk_drewN ?_ _ | refine blk_drew ?_ | refine blk_alloc ?_ _)); refine blk_far ?_ NB191_192.out _; (with_reducible repeat (first | refine blk_drewN ?_ _ | refine blk_drew ?_ | refine blk_alloc ?_ _)); refine blk_put (cs := #[.bool t187, .int .u64 0]) ?_ 1 _ rfl; (with_reducible repeat (first | refine blk_drewN ?_ _ | refine blk_drew ?_ | refine blk_alloc ?_ _)); refine blk_put (cs := #[.bool false, .int .u64 0]) ?_ 0 _ rfl; (with_reducible repeat (first | refine blk_drewN ?_ _ | refine blk_drew ?_ | refine blk_alloc ?_ _)); exact BK191.out)) : gb191 ≠ gb193)); have n16_ := Aside0.mk ((by rw [hg]; exact Nat.ne_of_gt (blk_lt (g := gb191) (o := .cells #[.bool t187, .int .u64 t188] 58 (0, 0)) (by (with_reducible repeat (first | refine blk_drewN ?_ _ | refine blk_drew ?_ | refine blk_alloc ?_ _)); refine blk_far ?_ NB191_192.out _; (with_reducible repeat (first | refine blk_drewN ?_ _ | refine blk_drew ?_ | refine blk_alloc ?_ _)); refine blk_far ?_ NB191_192.out _; (with_reducible repeat (first | refine blk_drewN ?_ _ | refine blk_drew ?_ | refine blk_alloc ?_ _)); refine blk_put (cs := #[.bool t187, .int .u64 0]) ?_ 1 _ rfl; (with_reducible repeat (first | refine blk_drewN ?_ _ | refine blk_drew ?_ | refine blk_alloc ?_ _)); refine blk_put (cs := #[.bool false, .int .u64 0]) ?_ 0 _ rfl; (with_reducible repeat (first | refine blk_drewN ?_ _ | refine blk_drew ?_ | refine blk_alloc ?_ _)); exact BK191.out)) : gb193 ≠ gb191)); have n17_ := Aside0.mk ((by rw [hg]; exact Nat.ne_of_lt (blk_lt (g := gb192) (o := .cells #[.bool t189, .int .u64 t190] 58 (0, 0)) (by (with_reducible repeat (first | refine blk_drewN ?_ _ | refine blk_drew ?_ | refine blk_alloc ?_ _)); refine blk_put (cs := #[.bool t189, .int .u64 0]) ?_ 1 _ rfl; (with_reducible repeat (first | refine blk_drewN ?_ _ | refine blk_drew ?_ | refine blk_alloc ?_ _)); refine blk_put (cs := #[.bool false, .int .u64 0]) ?_ 0 _ rfl; (with_reducible repeat (first | refine blk_drewN ?_ _ | refine blk_drew ?_ | refine blk_alloc ?_ _)); refine blk_far ?_ NB192_191.out _; (with_reducible repeat (first | refine blk_drewN ?_ _ | refine blk_drew ?_ | refine blk_alloc ?_ _)); refine blk_far ?_ NB192_191.out _; (with_reducible repeat (first | refine blk_drewN ?_ _ | refine blk_drew ?_ | refine blk_alloc ?_ _)); exact BK192.out)) : gb192 ≠ gb193)); have n18_ := Aside0.mk ((by rw [hg]; exact Nat.ne_of_gt (blk_lt (g := gb192) (o := .cells #[.bool t189, .int .u64 t190] 58 (0, 0)) (by (with_reducible repeat (first | refine blk_drewN ?_ _ | refine blk_drew ?_ | refine blk_alloc ?_ _)); refine blk_put (cs := #[.bool t189, .int .u64 0]) ?_ 1 _ rfl; (with_reducible repeat (first | refine blk_drewN ?_ _ | refine blk_drew ?_ | refine blk_alloc ?_ _)); refine blk_put (cs := #[.bool false, .int .u64 0]) ?_ 0 _ rfl; (with_reducible repeat (first | refine blk_drewN ?_ _ | refine blk_drew ?_ | refine blk_alloc ?_ _)); refine blk_far ?_ NB192_191.out _; (with_reducible repeat (first | refine blk_drewN ?_ _ | refine blk_drew ?_ | refine blk_alloc ?_ _)); refine blk_far ?_ NB192_191.out _; (with_reducible repeat (first | refine blk_drewN ?_ _ | refine blk_drew ?_ | refine blk_alloc ?_ _)); exact BK192.out)) : gb193 ≠ gb192)); clear BK184; clear BK185; clear BK186; clear BK191; clear BK192; clear HB; have BK184 := n0_; have BK185 := n1_; have BK186 := n2_; have BK191 := n3_; have BK192 := n4_; have HB := n5_; have BK193 := n6_; have GW193 := n7_; have GE193 := n8_; have NB184_193 := n9_; have NB193_184 := n10_; have NB185_193 := n11_; have NB193_185 := n12_; have NB186_193 := n13_; have NB193_186 := n14_; have NB191_193 := n15_; have NB193_191 := n16_; have NB192_193 := n17_; have NB193_192 := n18_; clear n0_ n1_ n2_ n3_ n4_ n5_ n6_ n7_ n8_ n9_ n10_ n11_ n12_ n13_ n14_ n15_ n16_ n17_ n18_; clear hb hbox hg))
 (try simp only [Act.put, List.setIfInBounds_toArray, List.set_cons_zero, List.set_cons_succ])
 go_cut [10] (fun v10 wc => ∃ (kq : Nat) (x10_5 : Bool) (x187000_5 : Int) (x187001_5 : Int) (x187002_5 : ByteArray) (x193000_5 : Bool) (x194000_5 : Bool) (x194001_5 : Int), v10 = .bool x10_5 ∧ Aside0 (value_integers.j1 kq x10_5 a1_0 a1_1 a1_2 x194000_5 x194001_5 = some (r1, r2, r3, r4)) ∧ Aside0 (kq ≤ k) ∧ Aside0 (wc.heap[gb184]? = some (.cells #[.int .u8 a1_0, .int .u64 a1_1, .string a1_2] 27 (0, 0))) ∧ Aside0 (wc.heap[gb185]? = some (.cells #[.int .u8 a2_0, .int .u64 a2_1, .string a2_2] 27 (0, 0))) ∧ Aside0 (wc.heap[gb186]? = some (.cells #[.int .u8 x187000_5, .int .u64 x187001_5, .string x187002_5] 27 (0, 0))) ∧ Aside0 (wc.heap[gb191]? = some (.cells #[.bool t187, .int .u64 t188] 58 (0, 0))) ∧ Aside0 (wc.heap[gb192]? = some (.cells #[.bool x193000_5, .int .u64 t190] 58 (0, 0))) ∧ Aside0 (wc.heap[gb193]? = some (.cells #[.bool x194000_5, .int .u64 x194001_5] 58 (0, 0))) ∧ Aside0 (Below w.heap.size w wc))
 case first =>
  have H := HC6.out
  clear HC6
  have HC21 := Aside0.mk H
  clear H
  go_upto_block 2 with (fail)
  go_cut [] (fun wc => ∃ (kq : Nat) (x193000_20 : Bool), Aside0 (value_integers.j0 kq a1_0 a1_1 a1_2 t187 t188 x193000_20 t190 = some (r1, r2, r3, r4)) ∧ Aside0 (kq ≤ k) ∧ Aside0 (wc.heap[gb184]? = some (.cells #[.int .u8 a1_0, .int .u64 a1_1, .string a1_2] 27 (0, 0))) ∧ Aside0 (wc.heap[gb185]? = some (.cells #[.int .u8 a2_0, .int .u64 a2_1, .string a2_2] 27 (0, 0))) ∧ Aside0 (wc.heap[gb186]? = some (.cells #[.int .u8 0, .int .u64 0, .string (⟨#[]⟩ : ByteArray)] 27 (0, 0))) ∧ Aside0 (wc.heap[gb191]? = some (.cells #[.bool t187, .int .u64 t188] 58 (0, 0))) ∧ Aside0 (wc.heap[gb192]? = some (.cells #[.bool x193000_20, .int .u64 t190] 58 (0, 0))) ∧ Aside0 (wc.heap[gb193]? = some (.cells #[.bool false, .int .u64 0] 58 (0, 0))) ∧ Aside0 (Below w.heap.size w wc))
  case first =>
   have H := HC21.out
   clear HC21
   by_cases c22 : a0 = 2
   ·rw [if_pos c22] at H
    have c22b0 : (a0 == 2) = true := beq_iff_eq.mpr c22
    have c22b1 : (a0 != 2) = false := bne_eq_false_iff_eq.mpr c22
    clear c22
    (first | rw [c22b0] | (simp only [i64_w, i32_w]; rw [c22b0]) | skip)
    have H' := Aside0.mk H
    clear H
    have hnb23 := NB192_184.out
    have hnc23 := NB184_192.out
    have hnb24 := NB192_185.out
    have hnc24 := NB185_192.out
    have hnb25 := NB192_186.out
    have hnc25 := NB186_192.out
    have hnb26 := NB192_191.out
    have hnc26 := NB191_192.out
    have hnb27 := NB192_193.out
    have hnc27 := NB193_192.out
    have hcz28_0 : w20.cell? ⟨gb192, 0, none⟩ = some (.bool t189) := bc BK192 0
    have hcz28_1 : w20.cell? ⟨gb192, 1, none⟩ = some (.int .u64 t190) := bc BK192 1
    have hfz28_0 := blk_frozen BK192.out 0
    have hfz28_1 := blk_frozen BK192.out 1
    go_wp2
    go_meet
    case rel => exact ⟨_, (!t189), H', ⟨by first | omega | exact Nat.le_refl _⟩, ⟨by (with_reducible repeat (first | refine blk_drewN ?_ _ | refine blk_drew ?_ | refine blk_alloc ?_ _)); refine blk_far ?_ NB184_192.out _; (with_reducible repeat (first | refine blk_drewN ?_ _ | refine blk_drew ?_ | refine blk_alloc ?_ _)); exact BK184.out⟩, ⟨by (with_reducible repeat (first | refine blk_drewN ?_ _ | refine blk_drew ?_ | refine blk_alloc ?_ _)); refine blk_far ?_ NB185_192.out _; (with_reducible repeat (first | refine blk_drewN ?_ _ | refine blk_drew ?_ | refine blk_alloc ?_ _)); exact BK185.out⟩, ⟨by (with_reducible repeat (first | refine blk_drewN ?_ _ | refine blk_drew ?_ | refine blk_alloc ?_ _)); refine blk_far ?_ NB186_192.out _; (with_reducible repeat (first | refine blk_drewN ?_ _ | refine blk_drew ?_ | refine blk_alloc ?_ _)); exact BK186.out⟩, ⟨by (with_reducible repeat (first | refine blk_drewN ?_ _ | refine blk_drew ?_ | refine blk_alloc ?_ _)); refine blk_far ?_ NB191_192.out _; (with_reducible repeat (first | refine blk_drewN ?_ _ | refine blk_drew ?_ | refine blk_alloc ?_ _)); exact BK191.out⟩, ⟨by (with_reducible repeat (first | refine blk_drewN ?_ _ | refine blk_drew ?_ | refine blk_alloc ?_ _)); refine blk_put (cs := #[.bool t189, .int .u64 t190]) ?_ 0 _ rfl; (with_reducible repeat (first | refine blk_drewN ?_ _ | refine blk_drew ?_ | refine blk_alloc ?_ _)); exact BK192.out⟩, ⟨by (with_reducible repeat (first | refine blk_drewN ?_ _ | refine blk_drew ?_ | refine blk_alloc ?_ _)); refine blk_far ?_ NB193_192.out _; (with_reducible repeat (first | refine blk_drewN ?_ _ | refine blk_drew ?_ | refine blk_alloc ?_ _)); exact BK193.out⟩, ⟨bs HB⟩⟩
   ·rw [if_neg c22] at H
    have c22b0 : (a0 == 2) = false := beq_eq_false_iff_ne.mpr c22
    have c22b1 : (a0 != 2) = true := bne_iff_ne.mpr c22
    (first | rw [c22b0] | (simp only [i64_w, i32_w]; rw [c22b0]) | skip)
    by_cases c29 : a0 = 1
    ·rw [if_pos c29] at H
     have c29b0 : (a0 == 1) = true := beq_iff_eq.mpr c29
     have c29b1 : (a0 != 1) = false := bne_eq_false_iff_eq.mpr c29
     clear c29
     have H' := Aside0.mk H
     clear H
     go_wp2
     go_meet
     case rel => exact ⟨_, (t189), H', ⟨by first | omega | exact Nat.le_refl _⟩, ⟨by (with_reducible repeat (first | refine blk_drewN ?_ _ | refine blk_drew ?_ | refine blk_alloc ?_ _)); exact BK184.out⟩, ⟨by (with_reducible repeat (first | refine blk_drewN ?_ _ | refine blk_drew ?_ | refine blk_alloc ?_ _)); exact BK185.out⟩, ⟨by (with_reducible repeat (first | refine blk_drewN ?_ _ | refine blk_drew ?_ | refine blk_alloc ?_ _)); exact BK186.out⟩, ⟨by (with_reducible repeat (first | refine blk_drewN ?_ _ | refine blk_drew ?_ | refine blk_alloc ?_ _)); exact BK191.out⟩, ⟨by (with_reducible repeat (first | refine blk_drewN ?_ _ | refine blk_drew ?_ | refine blk_alloc ?_ _)); exact BK192.out⟩, ⟨by (with_reducible repeat (first | refine blk_drewN ?_ _ | refine blk_drew ?_ | refine blk_alloc ?_ _)); exact BK193.out⟩, ⟨bs HB⟩⟩
    ·rw [if_neg c29] at H
     have c29b0 : (a0 == 1) = false := beq_eq_false_iff_ne.mpr c29
     have c29b1 : (a0 != 1) = true := bne_iff_ne.mpr c29
     by_cases c30 : a0 = 3
     ·rw [if_pos c30] at H
      have c30b0 : (a0 == 3) = true := beq_iff_eq.mpr c30
      have c30b1 : (a0 != 3) = false := bne_eq_false_iff_eq.mpr c30
      clear c30
      replace H := Option.bind_eq_some_iff.mp H
      obtain ⟨⟨t194, t195, t196⟩, A310, H⟩ := H
      replace H : (value_integers.j1 k t196 a1_0 a1_1 a1_2 t194 t195) = some (r1, r2, r3, r4) := H
      have A31 := Aside0.mk A310
      clear A310
      have H' := Aside0.mk H
      clear H
      have hnb32 := NB191_184.out
      have hnc32 := NB184_191.out
      have hnb33 := NB191_185.out
      have hnc33 := NB185_191.out
      have hnb34 := NB191_186.out
      have hnc34 := NB186_191.out
      have hnb35 := NB191_192.out
      have hnc35 := NB192_191.out
      have hnb36 := NB191_193.out
      have hnc36 := NB193_191.out
      have hcz37_0 : w20.cell? ⟨gb191, 0, none⟩ = some (.bool t187) := bc BK191 0
      have hcz37_1 : w20.cell? ⟨gb191, 1, none⟩ = some (.int .u64 t188) := bc BK191 1
      have hfz37_0 := blk_frozen BK191.out 0
      have hfz37_1 := blk_frozen BK191.out 1
      have hnb38 := NB192_184.out
      have hnc38 := NB184_192.out
      have hnb39 := NB192_185.out
      have hnc39 := NB185_192.out
      have hnb40 := NB192_186.out
      have hnc40 := NB186_192.out
      have hnb41 := NB192_193.out
      have hnc41 := NB193_192.out
      have hcz42_0 : w20.cell? ⟨gb192, 0, none⟩ = some (.bool t189) := bc BK192 0
      have hcz42_1 : w20.cell? ⟨gb192, 1, none⟩ = some (.int .u64 t190) := bc BK192 1
      have hfz42_0 := blk_frozen BK192.out 0
      have hfz42_1 := blk_frozen BK192.out 1
      go_wp2_with (first | ((with_reducible refine gate_callee (f := 70) rfl ?_); refine goesL_ (some 38) rfl rfl Try.func70 (by kernel_rfl) rfl #[.agg #[.bool t187, .int .u64 t188], .agg #[.bool t189, .int .u64 t190]] rfl (by (try simp only [List.map_toArray, List.map_cons, List.map_nil]); first | done | rfl | (simp only [List.length_drop, List.length_take]; rfl)) ?_; (with_reducible refine (value_times.calls t187 t188 t189 t190 t194 t195 t196 _ A31.out).mono ?_); rintro e w43 ⟨rfl, hb⟩; refine ⟨_, rfl, ?_⟩; have n0_ := kb BK184 hb; have n1_ := kb BK185 hb; have n2_ := kb BK186 hb; have n3_ := kb BK191 hb; have n4_ := kb BK192 hb; have n5_ := kb BK193 hb; have n6_ := bt HB hb; clear BK184; clear BK185; clear BK186; clear BK191; clear BK192; clear BK193; clear HB; have BK184 := n0_; have BK185 := n1_; have BK186 := n2_; have BK191 := n3_; have BK192 := n4_; have BK193 := n5_; have HB := n6_; clear n0_ n1_ n2_ n3_ n4_ n5_ n6_; (try clear hb); (try clear hb2); (try clear hk); (try clear hi); have hnb44 := NB193_184.out; have hnc44 := NB184_193.out; have hnb45 := NB193_185.out; have hnc45 := NB185_193.out; have hnb46 := NB193_186.out; have hnc46 := NB186_193.out; have hcz47_0 : w43.cell? ⟨gb193, 0, none⟩ = some (.bool false) := bc BK193 0; have hcz47_1 : w43.cell? ⟨gb193, 1, none⟩ = some (.int .u64 0) := bc BK193 1; have hfz47_0 := blk_frozen BK193.out 0; have hfz47_1 := blk_frozen BK193.out 1))
      go_meet
      case rel => exact ⟨_, (t196), (0), (0), ((⟨#[]⟩ : ByteArray)), (t189), (t194), (t195), (by first | rfl | (simp; done) | (simp [*]; done)), H', ⟨by first | omega | exact Nat.le_refl _⟩, ⟨by (with_reducible repeat (first | refine blk_drewN ?_ _ | refine blk_drew ?_ | refine blk_alloc ?_ _)); refine blk_far ?_ NB184_193.out _; (with_reducible repeat (first | refine blk_drewN ?_ _ | refine blk_drew ?_ | refine blk_alloc ?_ _)); refine blk_far ?_ NB184_193.out _; (with_reducible repeat (first | refine blk_drewN ?_ _ | refine blk_drew ?_ | refine blk_alloc ?_ _)); exact BK184.out⟩, ⟨by (with_reducible repeat (first | refine blk_drewN ?_ _ | refine blk_drew ?_ | refine blk_alloc ?_ _)); refine blk_far ?_ NB185_193.out _; (with_reducible repeat (first | refine blk_drewN ?_ _ | refine blk_drew ?_ | refine blk_alloc ?_ _)); refine blk_far ?_ NB185_193.out _; (with_reducible repeat (first | refine blk_drewN ?_ _ | refine blk_drew ?_ | refine blk_alloc ?_ _)); exact BK185.out⟩, ⟨by (with_reducible repeat (first | refine blk_drewN ?_ _ | refine blk_drew ?_ | refine blk_alloc ?_ _)); refine blk_far ?_ NB186_193.out _; (with_reducible repeat (first | refine blk_drewN ?_ _ | refine blk_drew ?_ | refine blk_alloc ?_ _)); refine blk_far ?_ NB186_193.out _; (with_reducible repeat (first | refine blk_drewN ?_ _ | refine blk_drew ?_ | refine blk_alloc ?_ _)); exact BK186.out⟩, ⟨by (with_reducible repeat (first | refine blk_drewN ?_ _ | refine blk_drew ?_ | refine blk_alloc ?_ _)); refine blk_far ?_ NB191_193.out _; (with_reducible repeat (first | refine blk_drewN ?_ _ | refine blk_drew ?_ | refine blk_alloc ?_ _)); refine blk_far ?_ NB191_193.out _; (with_reducible repeat (first | refine blk_drewN ?_ _ | refine blk_drew ?_ | refine blk_alloc ?_ _)); exact BK191.out⟩, ⟨by (with_reducible repeat (first | refine blk_drewN ?_ _ | refine blk_drew ?_ | refine blk_alloc ?_ _)); refine blk_far ?_ NB192_193.out _; (with_reducible repeat (first | refine blk_drewN ?_ _ | refine blk_drew ?_ | refine blk_alloc ?_ _)); refine blk_far ?_ NB192_193.out _; (with_reducible repeat (first | refine blk_drewN ?_ _ | refine blk_drew ?_ | refine blk_alloc ?_ _)); exact BK192.out⟩, ⟨by (with_reducible repeat (first | refine blk_drewN ?_ _ | refine blk_drew ?_ | refine blk_alloc ?_ _)); refine blk_put (cs := #[.bool t194, .int .u64 0]) ?_ 1 _ rfl; (with_reducible repeat (first | refine blk_drewN ?_ _ | refine blk_drew ?_ | refine blk_alloc ?_ _)); refine blk_put (cs := #[.bool false, .int .u64 0]) ?_ 0 _ rfl; (with_reducible repeat (first | refine blk_drewN ?_ _ | refine blk_drew ?_ | refine blk_alloc ?_ _)); exact BK193.out⟩, ⟨bs HB⟩⟩
     ·rw [if_neg c30] at H
      have c30b0 : (a0 == 3) = false := beq_eq_false_iff_ne.mpr c30
      have c30b1 : (a0 != 3) = true := bne_iff_ne.mpr c30
      by_cases c48 : a0 = 4
      ·rw [if_pos c48] at H
       have c48b0 : (a0 == 4) = true := beq_iff_eq.mpr c48
       have c48b1 : (a0 != 4) = false := bne_eq_false_iff_eq.mpr c48
       clear c48
       by_cases c49 : t190 = 0
       ·rw [if_pos c49] at H
        have c49b0 : (t190 == 0) = true := beq_iff_eq.mpr c49
        have c49b1 : (t190 != 0) = false := bne_eq_false_iff_eq.mpr c49
        clear c49
        simp only [Option.some.injEq, Prod.mk.injEq] at H
        obtain ⟨rfl, rfl, rfl, rfl⟩ := H
        have hnb50 := NB192_184.out
        have hnc50 := NB184_192.out
        have hnb51 := NB192_185.out
        have hnc51 := NB185_192.out
        have hnb52 := NB192_186.out
        have hnc52 := NB186_192.out
        have hnb53 := NB192_191.out
        have hnc53 := NB191_192.out
        have hnb54 := NB192_193.out
        have hnc54 := NB193_192.out
        have hcz55_0 : w20.cell? ⟨gb192, 0, none⟩ = some (.bool t189) := bc BK192 0
        have hcz55_1 : w20.cell? ⟨gb192, 1, none⟩ = some (.int .u64 t190) := bc BK192 1
        have hfz55_0 := blk_frozen BK192.out 0
        have hfz55_1 := blk_frozen BK192.out 1
        have hnb56 := NB186_184.out
        have hnc56 := NB184_186.out
        have hnb57 := NB186_185.out
        have hnc57 := NB185_186.out
        have hnb58 := NB186_191.out
        have hnc58 := NB191_186.out
        have hnb59 := NB186_193.out
        have hnc59 := NB193_186.out
        have hcz60_0 : w20.cell? ⟨gb186, 0, none⟩ = some (.int .u8 0) := bc BK186 0
        have hcz60_1 : w20.cell? ⟨gb186, 1, none⟩ = some (.int .u64 0) := bc BK186 1
        have hcz60_2 : w20.cell? ⟨gb186, 2, none⟩ = some (.string (⟨#[]⟩ : ByteArray)) := bc BK186 2
        have hfz60_0 := blk_frozen BK186.out 0
        have hfz60_1 := blk_frozen BK186.out 1
        have hfz60_2 := blk_frozen BK186.out 2
        go_wp2
        refine bodyPost_ret (results_ct rfl _ _ gb186 27 #[.int .u8 0, .int .u64 0, .string (⟨#[]⟩ : ByteArray)] (0, 0) _ rfl (by (with_reducible repeat (first | refine blk_drewN ?_ _ | refine blk_drew ?_ | refine blk_alloc ?_ _)); refine blk_put (cs := #[.int .u8 0, .int .u64 0, .string (⟨#[]⟩ : ByteArray)]) ?_ 2 _ rfl; (with_reducible repeat (first | refine blk_drewN ?_ _ | refine blk_drew ?_ | refine blk_alloc ?_ _)); refine blk_put (cs := #[.int .u8 0, .int .u64 0, .string (⟨#[]⟩ : ByteArray)]) ?_ 1 _ rfl; (with_reducible repeat (first | refine blk_drewN ?_ _ | refine blk_drew ?_ | refine blk_alloc ?_ _)); refine blk_put (cs := #[.int .u8 0, .int .u64 0, .string (⟨#[]⟩ : ByteArray)]) ?_ 0 _ rfl; (with_reducible repeat (first | refine blk_drewN ?_ _ | refine blk_drew ?_ | refine blk_alloc ?_ _)); exact BK186.out) Try.underlying27 rfl (by kernel_rfl)) rfl ?_
        exact ⟨by first | rfl | (simp [errW_none, errW_some] <;> rfl) | (simp [*, errW_none, errW_some] <;> rfl), bs HB⟩
       ·rw [if_neg c49] at H
        have c49b0 : (t190 == 0) = false := beq_eq_false_iff_ne.mpr c49
        have c49b1 : (t190 != 0) = true := bne_iff_ne.mpr c49
        have H' := Aside0.mk H
        clear H
        have hnb61 := NB192_184.out
        have hnc61 := NB184_192.out
        have hnb62 := NB192_185.out
        have hnc62 := NB185_192.out
        have hnb63 := NB192_186.out
        have hnc63 := NB186_192.out
        have hnb64 := NB192_191.out
        have hnc64 := NB191_192.out
        have hnb65 := NB192_193.out
        have hnc65 := NB193_192.out
        have hcz66_0 : w20.cell? ⟨gb192, 0, none⟩ = some (.bool t189) := bc BK192 0
        have hcz66_1 : w20.cell? ⟨gb192, 1, none⟩ = some (.int .u64 t190) := bc BK192 1
        have hfz66_0 := blk_frozen BK192.out 0
        have hfz66_1 := blk_frozen BK192.out 1
        try go_wp2
        have n0_ := Aside0.mk (blk_drew BK184.out)
        have n1_ := Aside0.mk (blk_drew BK185.out)
        have n2_ := Aside0.mk (blk_drew BK186.out)
        have n3_ := Aside0.mk (blk_drew BK191.out)
        have n4_ := Aside0.mk (blk_drew BK192.out)
        have n5_ := Aside0.mk (blk_drew BK193.out)
        have n6_ := Aside0.mk (below_drew1 HB.out)
        clear BK184
        clear BK185
        clear BK186
        clear BK191
        clear BK192
        clear BK193
        clear HB
        have BK184 := n0_
        have BK185 := n1_
        have BK186 := n2_
        have BK191 := n3_
        have BK192 := n4_
        have BK193 := n5_
        have HB := n6_
        clear n0_ n1_ n2_ n3_ n4_ n5_ n6_
        refine start_ (n := 12) (S := fun w' => w'.cell? ⟨gb191, 0, none⟩ = some (.bool t187) ∧ w'.cell? ⟨gb191, 1, none⟩ = some (.int .u64 t188) ∧ w'.cell? ⟨gb192, 0, none⟩ = some (.bool t189) ∧ w'.cell? ⟨gb192, 1, none⟩ = some (.int .u64 t190)) (ds := []) #[false, false, false, false, false, false, false, false, false, false, false, false] (by kernel_rfl) rfl rfl ⟨bc BK191 0, bc BK191 1, bc BK192 0, bc BK192 1⟩ (fun hHeld => ?_); refine with_tabW value_integers.tab14 value_integers.bits14 (fun HT_ HW_ => ?_)
        generalize w20.drew = w67 at BK184 BK185 BK186 BK191 BK192 BK193 HB hHeld ⊢
        refine pure_ (i := 0) (N := some 45) (v := ?_) (a' := ?_) #[true, false, false, false, false, false, false, false, false, false, false, false] rfl rfl (any_of HT_.out (by kernel_rfl)) (fun _ _ _ h => h) (Or.inl ⟨by rfl, ?_⟩) ?_ ?_
        rotate_left
        ·intro w'
         go_simp
         with_reducible rfl
        rotate_left
        ·simp only [Act.put, List.setIfInBounds_toArray, List.set_cons_zero, List.set_cons_succ, i64_w, i32_w]
         rfl
        refine pure_ (i := 2) (N := some 47) (v := ?_) (a' := ?_) #[true, false, true, false, false, false, false, false, false, false, false, false] rfl rfl (any_of HT_.out (by kernel_rfl)) (fun _ _ _ h => h) (Or.inl ⟨by rfl, ?_⟩) ?_ ?_
        rotate_left
        ·intro w'
         go_simp
         with_reducible rfl
        rotate_left
        ·simp only [Act.put, List.setIfInBounds_toArray, List.set_cons_zero, List.set_cons_succ, i64_w, i32_w]
         rfl
        refine pure_ (i := 5) (N := some 50) (v := ?_) (a' := ?_) #[true, false, true, false, false, true, false, false, false, false, false, false] rfl rfl (any_of HT_.out (by kernel_rfl)) (fun _ _ _ h => h) (Or.inl ⟨by rfl, ?_⟩) ?_ ?_
        rotate_left
        ·intro w'
         go_simp
         with_reducible rfl
        rotate_left
        ·simp only [Act.put, List.setIfInBounds_toArray, List.set_cons_zero, List.set_cons_succ, i64_w, i32_w]
         rfl
        refine pure_ (i := 7) (N := some 52) (v := ?_) (a' := ?_) #[true, false, true, false, false, true, false, true, false, false, false, false] rfl rfl (any_of HT_.out (by kernel_rfl)) (fun _ _ _ h => h) (Or.inl ⟨by rfl, ?_⟩) ?_ ?_
        rotate_left
        ·intro w'
         go_simp
         with_reducible rfl
        rotate_left
        ·simp only [Act.put, List.setIfInBounds_toArray, List.set_cons_zero, List.set_cons_succ, i64_w, i32_w]
         rfl
        refine take_ (i := 1) (N := some 46) (v := ?_) (a' := ?_) #[true, true, true, false, false, true, false, true, false, false, false, false] rfl rfl (take_ofW HT_.out HW_.out (by kernel_rfl)) (fun _ _ _ h => h) (Or.inl ⟨by rfl, ?_⟩) hHeld ?_ ?_
        rotate_left
        ·rintro w' ⟨s0, s1, s2, s3⟩
         go_simp
         with_reducible rfl
        rotate_left
        ·simp only [Act.put, List.setIfInBounds_toArray, List.set_cons_zero, List.set_cons_succ, i64_w, i32_w]
         rfl
        refine take_ (i := 3) (N := some 48) (v := ?_) (a' := ?_) #[true, true, true, true, false, true, false, true, false, false, false, false] rfl rfl (take_ofW HT_.out HW_.out (by kernel_rfl)) (fun _ _ _ h => h) (Or.inl ⟨by rfl, ?_⟩) hHeld ?_ ?_
        rotate_left
        ·rintro w' ⟨s0, s1, s2, s3⟩
         go_simp
         with_reducible rfl
        rotate_left
        ·simp only [Act.put, List.setIfInBounds_toArray, List.set_cons_zero, List.set_cons_succ, i64_w, i32_w]
         rfl
        refine pure_ (i := 4) (N := some 49) (v := ?_) (a' := ?_) #[true, true, true, true, true, true, false, true, false, false, false, false] rfl rfl (any_of HT_.out (by kernel_rfl)) (fun _ _ _ h => h) (Or.inl ⟨by rfl, ?_⟩) ?_ ?_
        rotate_left
        ·intro w'
         go_simp
         with_reducible rfl
        rotate_left
        ·simp only [Act.put, List.setIfInBounds_toArray, List.set_cons_zero, List.set_cons_succ, i64_w, i32_w]
         rfl
        refine take_ (i := 6) (N := some 51) (v := ?_) (a' := ?_) #[true, true, true, true, true, true, true, true, false, false, false, false] rfl rfl (take_ofW HT_.out HW_.out (by kernel_rfl)) (fun _ _ _ h => h) (Or.inl ⟨by rfl, ?_⟩) hHeld ?_ ?_
        rotate_left
        ·rintro w' ⟨s0, s1, s2, s3⟩
         go_simp
         with_reducible rfl
        rotate_left
        ·simp only [Act.put, List.setIfInBounds_toArray, List.set_cons_zero, List.set_cons_succ, i64_w, i32_w]
         rfl
        refine take_ (i := 8) (N := some 53) (v := ?_) (a' := ?_) #[true, true, true, true, true, true, true, true, true, false, false, false] rfl rfl (take_ofW HT_.out HW_.out (by kernel_rfl)) (fun _ _ _ h => h) (Or.inl ⟨by rfl, ?_⟩) hHeld ?_ ?_
        rotate_left
        ·rintro w' ⟨s0, s1, s2, s3⟩
         go_simp
         with_reducible rfl
        rotate_left
        ·simp only [Act.put, List.setIfInBounds_toArray, List.set_cons_zero, List.set_cons_succ, i64_w, i32_w]
         rfl
        refine pure_ (i := 9) (N := some 54) (v := ?_) (a' := ?_) #[true, true, true, true, true, true, true, true, true, true, false, false] rfl rfl (any_of HT_.out (by kernel_rfl)) (fun _ _ _ h => h) (Or.inl ⟨by rfl, ?_⟩) ?_ ?_
        rotate_left
        ·intro w'
         go_simp
         with_reducible rfl
        rotate_left
        ·simp only [Act.put, List.setIfInBounds_toArray, List.set_cons_zero, List.set_cons_succ, i64_w, i32_w]
         rfl
        refine pure_ (i := 10) (N := some 55) (v := ?_) (a' := ?_) #[true, true, true, true, true, true, true, true, true, true, true, false] rfl rfl (any_of HT_.out (by kernel_rfl)) (fun _ _ _ h => h) (Or.inl ⟨by rfl, ?_⟩) ?_ ?_
        rotate_left
        ·intro w'
         go_simp
         with_reducible rfl
        rotate_left
        ·simp only [Act.put, List.setIfInBounds_toArray, List.set_cons_zero, List.set_cons_succ, i64_w, i32_w]
         rfl
        refine one_ (i := 11) (N := none) #[true, true, true, true, true, true, true, true, true, true, true, true] rfl rfl (one_of HT_.out (by kernel_rfl)) (by decide) (fun K hK => ?_)
        have hs68 : w67.cell? ⟨gb193, 0, none⟩ = some (.bool false) := bc BK193 0
        have hfs68 := blk_frozen BK193.out 0
        have hns68_0 := NB184_193.out
        have hns68_1 := NB185_193.out
        have hns68_2 := NB186_193.out
        have hns68_3 := NB191_193.out
        have hns68_4 := NB192_193.out
        have hms68_0 := NB193_184.out
        have hms68_1 := NB193_185.out
        have hms68_2 := NB193_186.out
        have hms68_3 := NB193_191.out
        have hms68_4 := NB193_192.out
        have hs69 : w67.cell? ⟨gb193, 1, none⟩ = some (.int .u64 0) := bc BK193 1
        have hfs69 := blk_frozen BK193.out 1
        have hns69_0 := NB184_193.out
        have hns69_1 := NB185_193.out
        have hns69_2 := NB186_193.out
        have hns69_3 := NB191_193.out
        have hns69_4 := NB192_193.out
        have hms69_0 := NB193_184.out
        have hms69_1 := NB193_185.out
        have hms69_2 := NB193_186.out
        have hms69_3 := NB193_191.out
        have hms69_4 := NB193_192.out
        refine skip_ (w1 := ?_) (by rfl) rfl ?_ ?_
        rotate_left
        ·go_simp
         rfl
        refine hK.out _ _ ⟨((cell_far (p := ⟨gb193, _, none⟩) NB191_193.out _).trans (((cell_far (p := ⟨gb193, _, none⟩) NB191_193.out _).trans (hHeld.1)))), ((cell_far (p := ⟨gb193, _, none⟩) NB191_193.out _).trans (((cell_far (p := ⟨gb193, _, none⟩) NB191_193.out _).trans (hHeld.2.1)))), ((cell_far (p := ⟨gb193, _, none⟩) NB192_193.out _).trans (((cell_far (p := ⟨gb193, _, none⟩) NB192_193.out _).trans (hHeld.2.2.1)))), ((cell_far (p := ⟨gb193, _, none⟩) NB192_193.out _).trans (((cell_far (p := ⟨gb193, _, none⟩) NB192_193.out _).trans (hHeld.2.2.2))))⟩ (fun hHeld => ?_)
        clear hK K
        refine done_ (done_of HT_.out (by kernel_rfl)) ?_
        try go_wp2
        go_meet
        case rel => exact ⟨_, (true), (0), (0), ((⟨#[]⟩ : ByteArray)), (t189), ((t187 != t189)), (IntKind.u64.wrap (Int.tdiv t188 t190)), (by first | rfl | (simp; done) | (simp [*]; done)), H', ⟨by first | omega | exact Nat.le_refl _⟩, ⟨by (with_reducible repeat (first | refine blk_drewN ?_ _ | refine blk_drew ?_ | refine blk_alloc ?_ _)); refine blk_far ?_ NB184_193.out _; (with_reducible repeat (first | refine blk_drewN ?_ _ | refine blk_drew ?_ | refine blk_alloc ?_ _)); refine blk_far ?_ NB184_193.out _; (with_reducible repeat (first | refine blk_drewN ?_ _ | refine blk_drew ?_ | refine blk_alloc ?_ _)); exact BK184.out⟩, ⟨by (with_reducible repeat (first | refine blk_drewN ?_ _ | refine blk_drew ?_ | refine blk_alloc ?_ _)); refine blk_far ?_ NB185_193.out _; (with_reducible repeat (first | refine blk_drewN ?_ _ | refine blk_drew ?_ | refine blk_alloc ?_ _)); refine blk_far ?_ NB185_193.out _; (with_reducible repeat (first | refine blk_drewN ?_ _ | refine blk_drew ?_ | refine blk_alloc ?_ _)); exact BK185.out⟩, ⟨by (with_reducible repeat (first | refine blk_drewN ?_ _ | refine blk_drew ?_ | refine blk_alloc ?_ _)); refine blk_far ?_ NB186_193.out _; (with_reducible repeat (first | refine blk_drewN ?_ _ | refine blk_drew ?_ | refine blk_alloc ?_ _)); refine blk_far ?_ NB186_193.out _; (with_reducible repeat (first | refine blk_drewN ?_ _ | refine blk_drew ?_ | refine blk_alloc ?_ _)); exact BK186.out⟩, ⟨by (with_reducible repeat (first | refine blk_drewN ?_ _ | refine blk_drew ?_ | refine blk_alloc ?_ _)); refine blk_far ?_ NB191_193.out _; (with_reducible repeat (first | refine blk_drewN ?_ _ | refine blk_drew ?_ | refine blk_alloc ?_ _)); refine blk_far ?_ NB191_193.out _; (with_reducible repeat (first | refine blk_drewN ?_ _ | refine blk_drew ?_ | refine blk_alloc ?_ _)); exact BK191.out⟩, ⟨by (with_reducible repeat (first | refine blk_drewN ?_ _ | refine blk_drew ?_ | refine blk_alloc ?_ _)); refine blk_far ?_ NB192_193.out _; (with_reducible repeat (first | refine blk_drewN ?_ _ | refine blk_drew ?_ | refine blk_alloc ?_ _)); refine blk_far ?_ NB192_193.out _; (with_reducible repeat (first | refine blk_drewN ?_ _ | refine blk_drew ?_ | refine blk_alloc ?_ _)); exact BK192.out⟩, ⟨by (with_reducible repeat (first | refine blk_drewN ?_ _ | refine blk_drew ?_ | refine blk_alloc ?_ _)); refine blk_put (cs := #[.bool (t187 != t189), .int .u64 0]) ?_ 1 _ rfl; (with_reducible repeat (first | refine blk_drewN ?_ _ | refine blk_drew ?_ | refine blk_alloc ?_ _)); refine blk_put (cs := #[.bool false, .int .u64 0]) ?_ 0 _ rfl; (with_reducible repeat (first | refine blk_drewN ?_ _ | refine blk_drew ?_ | refine blk_alloc ?_ _)); exact BK193.out⟩, ⟨bs HB⟩⟩
      ·rw [if_neg c48] at H
       have c48b0 : (a0 == 4) = false := beq_eq_false_iff_ne.mpr c48
       have c48b1 : (a0 != 4) = true := bne_iff_ne.mpr c48
       by_cases c70 : t190 = 0
       ·rw [if_pos c70] at H
        have c70b0 : (t190 == 0) = true := beq_iff_eq.mpr c70
        have c70b1 : (t190 != 0) = false := bne_eq_false_iff_eq.mpr c70
        clear c70
        simp only [Option.some.injEq, Prod.mk.injEq] at H
        obtain ⟨rfl, rfl, rfl, rfl⟩ := H
        have hnb71 := NB192_184.out
        have hnc71 := NB184_192.out
        have hnb72 := NB192_185.out
        have hnc72 := NB185_192.out
        have hnb73 := NB192_186.out
        have hnc73 := NB186_192.out
        have hnb74 := NB192_191.out
        have hnc74 := NB191_192.out
        have hnb75 := NB192_193.out
        have hnc75 := NB193_192.out
        have hcz76_0 : w20.cell? ⟨gb192, 0, none⟩ = some (.bool t189) := bc BK192 0
        have hcz76_1 : w20.cell? ⟨gb192, 1, none⟩ = some (.int .u64 t190) := bc BK192 1
        have hfz76_0 := blk_frozen BK192.out 0
        have hfz76_1 := blk_frozen BK192.out 1
        have hnb77 := NB186_184.out
        have hnc77 := NB184_186.out
        have hnb78 := NB186_185.out
        have hnc78 := NB185_186.out
        have hnb79 := NB186_191.out
        have hnc79 := NB191_186.out
        have hnb80 := NB186_193.out
        have hnc80 := NB193_186.out
        have hcz81_0 : w20.cell? ⟨gb186, 0, none⟩ = some (.int .u8 0) := bc BK186 0
        have hcz81_1 : w20.cell? ⟨gb186, 1, none⟩ = some (.int .u64 0) := bc BK186 1
        have hcz81_2 : w20.cell? ⟨gb186, 2, none⟩ = some (.string (⟨#[]⟩ : ByteArray)) := bc BK186 2
        have hfz81_0 := blk_frozen BK186.out 0
        have hfz81_1 := blk_frozen BK186.out 1
        have hfz81_2 := blk_frozen BK186.out 2
        go_wp2
        refine bodyPost_ret (results_ct rfl _ _ gb186 27 #[.int .u8 0, .int .u64 0, .string (⟨#[]⟩ : ByteArray)] (0, 0) _ rfl (by (with_reducible repeat (first | refine blk_drewN ?_ _ | refine blk_drew ?_ | refine blk_alloc ?_ _)); refine blk_put (cs := #[.int .u8 0, .int .u64 0, .string (⟨#[]⟩ : ByteArray)]) ?_ 2 _ rfl; (with_reducible repeat (first | refine blk_drewN ?_ _ | refine blk_drew ?_ | refine blk_alloc ?_ _)); refine blk_put (cs := #[.int .u8 0, .int .u64 0, .string (⟨#[]⟩ : ByteArray)]) ?_ 1 _ rfl; (with_reducible repeat (first | refine blk_drewN ?_ _ | refine blk_drew ?_ | refine blk_alloc ?_ _)); refine blk_put (cs := #[.int .u8 0, .int .u64 0, .string (⟨#[]⟩ : ByteArray)]) ?_ 0 _ rfl; (with_reducible repeat (first | refine blk_drewN ?_ _ | refine blk_drew ?_ | refine blk_alloc ?_ _)); exact BK186.out) Try.underlying27 rfl (by kernel_rfl)) rfl ?_
        exact ⟨by first | rfl | (simp [errW_none, errW_some] <;> rfl) | (simp [*, errW_none, errW_some] <;> rfl), bs HB⟩
       ·rw [if_neg c70] at H
        have c70b0 : (t190 == 0) = false := beq_eq_false_iff_ne.mpr c70
        have c70b1 : (t190 != 0) = true := bne_iff_ne.mpr c70
        have H' := Aside0.mk H
        clear H
        have hnb82 := NB192_184.out
        have hnc82 := NB184_192.out
        have hnb83 := NB192_185.out
        have hnc83 := NB185_192.out
        have hnb84 := NB192_186.out
        have hnc84 := NB186_192.out
        have hnb85 := NB192_191.out
        have hnc85 := NB191_192.out
        have hnb86 := NB192_193.out
        have hnc86 := NB193_192.out
        have hcz87_0 : w20.cell? ⟨gb192, 0, none⟩ = some (.bool t189) := bc BK192 0
        have hcz87_1 : w20.cell? ⟨gb192, 1, none⟩ = some (.int .u64 t190) := bc BK192 1
        have hfz87_0 := blk_frozen BK192.out 0
        have hfz87_1 := blk_frozen BK192.out 1
        try go_wp2
        have n0_ := Aside0.mk (blk_drew BK184.out)
        have n1_ := Aside0.mk (blk_drew BK185.out)
        have n2_ := Aside0.mk (blk_drew BK186.out)
        have n3_ := Aside0.mk (blk_drew BK191.out)
        have n4_ := Aside0.mk (blk_drew BK192.out)
        have n5_ := Aside0.mk (blk_drew BK193.out)
        have n6_ := Aside0.mk (below_drew1 HB.out)
        clear BK184
        clear BK185
        clear BK186
        clear BK191
        clear BK192
        clear BK193
        clear HB
        have BK184 := n0_
        have BK185 := n1_
        have BK186 := n2_
        have BK191 := n3_
        have BK192 := n4_
        have BK193 := n5_
        have HB := n6_
        clear n0_ n1_ n2_ n3_ n4_ n5_ n6_
        refine start_ (n := 9) (S := fun w' => w'.cell? ⟨gb191, 0, none⟩ = some (.bool t187) ∧ w'.cell? ⟨gb191, 1, none⟩ = some (.int .u64 t188) ∧ w'.cell? ⟨gb192, 0, none⟩ = some (.bool t189) ∧ w'.cell? ⟨gb192, 1, none⟩ = some (.int .u64 t190)) (ds := []) #[false, false, false, false, false, false, false, false, false] (by kernel_rfl) rfl rfl ⟨bc BK191 0, bc BK191 1, bc BK192 0, bc BK192 1⟩ (fun hHeld => ?_); refine with_tabW value_integers.tab17 value_integers.bits17 (fun HT_ HW_ => ?_)
        generalize w20.drew = w88 at BK184 BK185 BK186 BK191 BK192 BK193 HB hHeld ⊢
        refine pure_ (i := 0) (N := some 60) (v := ?_) (a' := ?_) #[true, false, false, false, false, false, false, false, false] rfl rfl (any_of HT_.out (by kernel_rfl)) (fun _ _ _ h => h) (Or.inl ⟨by rfl, ?_⟩) ?_ ?_
        rotate_left
        ·intro w'
         go_simp
         with_reducible rfl
        rotate_left
        ·simp only [Act.put, List.setIfInBounds_toArray, List.set_cons_zero, List.set_cons_succ, i64_w, i32_w]
         rfl
        refine pure_ (i := 2) (N := some 62) (v := ?_) (a' := ?_) #[true, false, true, false, false, false, false, false, false] rfl rfl (any_of HT_.out (by kernel_rfl)) (fun _ _ _ h => h) (Or.inl ⟨by rfl, ?_⟩) ?_ ?_
        rotate_left
        ·intro w'
         go_simp
         with_reducible rfl
        rotate_left
        ·simp only [Act.put, List.setIfInBounds_toArray, List.set_cons_zero, List.set_cons_succ, i64_w, i32_w]
         rfl
        refine pure_ (i := 4) (N := some 64) (v := ?_) (a' := ?_) #[true, false, true, false, true, false, false, false, false] rfl rfl (any_of HT_.out (by kernel_rfl)) (fun _ _ _ h => h) (Or.inl ⟨by rfl, ?_⟩) ?_ ?_
        rotate_left
        ·intro w'
         go_simp
         with_reducible rfl
        rotate_left
        ·simp only [Act.put, List.setIfInBounds_toArray, List.set_cons_zero, List.set_cons_succ, i64_w, i32_w]
         rfl
        refine take_ (i := 1) (N := some 61) (v := ?_) (a' := ?_) #[true, true, true, false, true, false, false, false, false] rfl rfl (take_ofW HT_.out HW_.out (by kernel_rfl)) (fun _ _ _ h => h) (Or.inl ⟨by rfl, ?_⟩) hHeld ?_ ?_
        rotate_left
        ·rintro w' ⟨s0, s1, s2, s3⟩
         go_simp
         with_reducible rfl
        rotate_left
        ·simp only [Act.put, List.setIfInBounds_toArray, List.set_cons_zero, List.set_cons_succ, i64_w, i32_w]
         rfl
        refine take_ (i := 3) (N := some 63) (v := ?_) (a' := ?_) #[true, true, true, true, true, false, false, false, false] rfl rfl (take_ofW HT_.out HW_.out (by kernel_rfl)) (fun _ _ _ h => h) (Or.inl ⟨by rfl, ?_⟩) hHeld ?_ ?_
        rotate_left
        ·rintro w' ⟨s0, s1, s2, s3⟩
         go_simp
         with_reducible rfl
        rotate_left
        ·simp only [Act.put, List.setIfInBounds_toArray, List.set_cons_zero, List.set_cons_succ, i64_w, i32_w]
         rfl
        refine take_ (i := 5) (N := some 65) (v := ?_) (a' := ?_) #[true, true, true, true, true, true, false, false, false] rfl rfl (take_ofW HT_.out HW_.out (by kernel_rfl)) (fun _ _ _ h => h) (Or.inl ⟨by rfl, ?_⟩) hHeld ?_ ?_
        rotate_left
        ·rintro w' ⟨s0, s1, s2, s3⟩
         go_simp
         with_reducible rfl
        rotate_left
        ·simp only [Act.put, List.setIfInBounds_toArray, List.set_cons_zero, List.set_cons_succ, i64_w, i32_w]
         rfl
        refine pure_ (i := 6) (N := some 66) (v := ?_) (a' := ?_) #[true, true, true, true, true, true, true, false, false] rfl rfl (any_of HT_.out (by kernel_rfl)) (fun _ _ _ h => h) (Or.inl ⟨by rfl, ?_⟩) ?_ ?_
        rotate_left
        ·intro w'
         go_simp
         with_reducible rfl
        rotate_left
        ·simp only [Act.put, List.setIfInBounds_toArray, List.set_cons_zero, List.set_cons_succ, i64_w, i32_w]
         rfl
        refine pure_ (i := 7) (N := some 67) (v := ?_) (a' := ?_) #[true, true, true, true, true, true, true, true, false] rfl rfl (any_of HT_.out (by kernel_rfl)) (fun _ _ _ h => h) (Or.inl ⟨by rfl, ?_⟩) ?_ ?_
        rotate_left
        ·intro w'
         go_simp
         with_reducible rfl
        rotate_left
        ·simp only [Act.put, List.setIfInBounds_toArray, List.set_cons_zero, List.set_cons_succ, i64_w, i32_w]
         rfl
        refine one_ (i := 8) (N := none) #[true, true, true, true, true, true, true, true, true] rfl rfl (one_of HT_.out (by kernel_rfl)) (by decide) (fun K hK => ?_)
        have hs89 : w88.cell? ⟨gb193, 0, none⟩ = some (.bool false) := bc BK193 0
        have hfs89 := blk_frozen BK193.out 0
        have hns89_0 := NB184_193.out
        have hns89_1 := NB185_193.out
        have hns89_2 := NB186_193.out
        have hns89_3 := NB191_193.out
        have hns89_4 := NB192_193.out
        have hms89_0 := NB193_184.out
        have hms89_1 := NB193_185.out
        have hms89_2 := NB193_186.out
        have hms89_3 := NB193_191.out
        have hms89_4 := NB193_192.out
        have hs90 : w88.cell? ⟨gb193, 1, none⟩ = some (.int .u64 0) := bc BK193 1
        have hfs90 := blk_frozen BK193.out 1
        have hns90_0 := NB184_193.out
        have hns90_1 := NB185_193.out
        have hns90_2 := NB186_193.out
        have hns90_3 := NB191_193.out
        have hns90_4 := NB192_193.out
        have hms90_0 := NB193_184.out
        have hms90_1 := NB193_185.out
        have hms90_2 := NB193_186.out
        have hms90_3 := NB193_191.out
        have hms90_4 := NB193_192.out
        refine skip_ (w1 := ?_) (by rfl) rfl ?_ ?_
        rotate_left
        ·go_simp
         rfl
        refine hK.out _ _ ⟨((cell_far (p := ⟨gb193, _, none⟩) NB191_193.out _).trans (((cell_far (p := ⟨gb193, _, none⟩) NB191_193.out _).trans (hHeld.1)))), ((cell_far (p := ⟨gb193, _, none⟩) NB191_193.out _).trans (((cell_far (p := ⟨gb193, _, none⟩) NB191_193.out _).trans (hHeld.2.1)))), ((cell_far (p := ⟨gb193, _, none⟩) NB192_193.out _).trans (((cell_far (p := ⟨gb193, _, none⟩) NB192_193.out _).trans (hHeld.2.2.1)))), ((cell_far (p := ⟨gb193, _, none⟩) NB192_193.out _).trans (((cell_far (p := ⟨gb193, _, none⟩) NB192_193.out _).trans (hHeld.2.2.2))))⟩ (fun hHeld => ?_)
        clear hK K
        refine done_ (done_of HT_.out (by kernel_rfl)) ?_
        try go_wp2
        go_meet
        case rel => exact ⟨_, (true), (0), (0), ((⟨#[]⟩ : ByteArray)), (t189), (t187), (Int.tmod t188 t190), (by first | rfl | (simp; done) | (simp [*]; done)), H', ⟨by first | omega | exact Nat.le_refl _⟩, ⟨by (with_reducible repeat (first | refine blk_drewN ?_ _ | refine blk_drew ?_ | refine blk_alloc ?_ _)); refine blk_far ?_ NB184_193.out _; (with_reducible repeat (first | refine blk_drewN ?_ _ | refine blk_drew ?_ | refine blk_alloc ?_ _)); refine blk_far ?_ NB184_193.out _; (with_reducible repeat (first | refine blk_drewN ?_ _ | refine blk_drew ?_ | refine blk_alloc ?_ _)); exact BK184.out⟩, ⟨by (with_reducible repeat (first | refine blk_drewN ?_ _ | refine blk_drew ?_ | refine blk_alloc ?_ _)); refine blk_far ?_ NB185_193.out _; (with_reducible repeat (first | refine blk_drewN ?_ _ | refine blk_drew ?_ | refine blk_alloc ?_ _)); refine blk_far ?_ NB185_193.out _; (with_reducible repeat (first | refine blk_drewN ?_ _ | refine blk_drew ?_ | refine blk_alloc ?_ _)); exact BK185.out⟩, ⟨by (with_reducible repeat (first | refine blk_drewN ?_ _ | refine blk_drew ?_ | refine blk_alloc ?_ _)); refine blk_far ?_ NB186_193.out _; (with_reducible repeat (first | refine blk_drewN ?_ _ | refine blk_drew ?_ | refine blk_alloc ?_ _)); refine blk_far ?_ NB186_193.out _; (with_reducible repeat (first | refine blk_drewN ?_ _ | refine blk_drew ?_ | refine blk_alloc ?_ _)); exact BK186.out⟩, ⟨by (with_reducible repeat (first | refine blk_drewN ?_ _ | refine blk_drew ?_ | refine blk_alloc ?_ _)); refine blk_far ?_ NB191_193.out _; (with_reducible repeat (first | refine blk_drewN ?_ _ | refine blk_drew ?_ | refine blk_alloc ?_ _)); refine blk_far ?_ NB191_193.out _; (with_reducible repeat (first | refine blk_drewN ?_ _ | refine blk_drew ?_ | refine blk_alloc ?_ _)); exact BK191.out⟩, ⟨by (with_reducible repeat (first | refine blk_drewN ?_ _ | refine blk_drew ?_ | refine blk_alloc ?_ _)); refine blk_far ?_ NB192_193.out _; (with_reducible repeat (first | refine blk_drewN ?_ _ | refine blk_drew ?_ | refine blk_alloc ?_ _)); refine blk_far ?_ NB192_193.out _; (with_reducible repeat (first | refine blk_drewN ?_ _ | refine blk_drew ?_ | refine blk_alloc ?_ _)); exact BK192.out⟩, ⟨by (with_reducible repeat (first | refine blk_drewN ?_ _ | refine blk_drew ?_ | refine blk_alloc ?_ _)); refine blk_put (cs := #[.bool t187, .int .u64 0]) ?_ 1 _ rfl; (with_reducible repeat (first | refine blk_drewN ?_ _ | refine blk_drew ?_ | refine blk_alloc ?_ _)); refine blk_put (cs := #[.bool false, .int .u64 0]) ?_ 0 _ rfl; (with_reducible repeat (first | refine blk_drewN ?_ _ | refine blk_drew ?_ | refine blk_alloc ?_ _)); exact BK193.out⟩, ⟨bs HB⟩⟩
  case rest =>
   clear HC21
   (try clear c2);(try clear p2);(try clear c3);(try clear c4);(try clear c5);(try clear c6);(try clear c7);(try clear c8);(try clear c22);(try clear c22b0);(try clear c22b1);(try clear c23);(try clear c24);(try clear c25);(try clear c26);(try clear c27);(try clear c29);(try clear c29b0);(try clear c29b1);(try clear c30);(try clear c30b0);(try clear c30b1);(try clear c32);(try clear c33);(try clear c34);(try clear c35);(try clear c36);(try clear c38);(try clear c39);(try clear c40);(try clear c41);(try clear c44);(try clear c45);(try clear c46);(try clear c48);(try clear c48b0);(try clear c48b1);(try clear c49);(try clear c49b0);(try clear c49b1);(try clear c50);(try clear c51);(try clear c52);(try clear c53);(try clear c54);(try clear c56);(try clear c57);(try clear c58);(try clear c59);(try clear c61);(try clear c62);(try clear c63);(try clear c64);(try clear c65);(try clear c70);(try clear c70b0);(try clear c70b1);(try clear c71);(try clear c72);(try clear c73);(try clear c74);(try clear c75);(try clear c77);(try clear c78);(try clear c79);(try clear c80);(try clear c82);(try clear c83);(try clear c84);(try clear c85);(try clear c86);(try clear hcz28_0);(try clear hcz28_1);(try clear hcz37_0);(try clear hcz37_1);(try clear hcz42_0);(try clear hcz42_1);(try clear hcz47_0);(try clear hcz47_1);(try clear hcz55_0);(try clear hcz55_1);(try clear hcz60_0);(try clear hcz60_1);(try clear hcz60_2);(try clear hcz66_0);(try clear hcz66_1);(try clear hcz76_0);(try clear hcz76_1);(try clear hcz81_0);(try clear hcz81_1);(try clear hcz81_2);(try clear hcz87_0);(try clear hcz87_1);(try clear hfz28_0);(try clear hfz28_1);(try clear hfz37_0);(try clear hfz37_1);(try clear hfz42_0);(try clear hfz42_1);(try clear hfz47_0);(try clear hfz47_1);(try clear hfz55_0);(try clear hfz55_1);(try clear hfz60_0);(try clear hfz60_1);(try clear hfz60_2);(try clear hfz66_0);(try clear hfz66_1);(try clear hfz76_0);(try clear hfz76_1);(try clear hfz81_0);(try clear hfz81_1);(try clear hfz81_2);(try clear hfz87_0);(try clear hfz87_1)
   obtain ⟨kq, x193000_20, HA, HJ20, BK184, BK185, BK186, BK191, BK192, BK193, HB⟩ := hcut
   cases kq with
   | zero => exact absurd HA.out (by simp [value_integers.j0])
   | succ kj20 =>
    have H := HA.out
    clear HA
    simp only [value_integers.j0] at H
    replace H := Option.bind_eq_some_iff.mp H
    obtain ⟨⟨t197, t198, t199⟩, A910, H⟩ := H
    replace H : (value_integers.j1 kj20 t199 a1_0 a1_1 a1_2 t197 t198) = some (r1, r2, r3, r4) := H
    have A91 := Aside0.mk A910
    clear A910
    have H' := Aside0.mk H
    clear H
    have hnb92 := NB191_184.out
    have hnc92 := NB184_191.out
    have hnb93 := NB191_185.out
    have hnc93 := NB185_191.out
    have hnb94 := NB191_186.out
    have hnc94 := NB186_191.out
    have hnb95 := NB191_192.out
    have hnc95 := NB192_191.out
    have hnb96 := NB191_193.out
    have hnc96 := NB193_191.out
    have hcz97_0 : wc.cell? ⟨gb191, 0, none⟩ = some (.bool t187) := bc BK191 0
    have hcz97_1 : wc.cell? ⟨gb191, 1, none⟩ = some (.int .u64 t188) := bc BK191 1
    have hfz97_0 := blk_frozen BK191.out 0
    have hfz97_1 := blk_frozen BK191.out 1
    have hnb98 := NB192_184.out
    have hnc98 := NB184_192.out
    have hnb99 := NB192_185.out
    have hnc99 := NB185_192.out
    have hnb100 := NB192_186.out
    have hnc100 := NB186_192.out
    have hnb101 := NB192_193.out
    have hnc101 := NB193_192.out
    have hcz102_0 : wc.cell? ⟨gb192, 0, none⟩ = some (.bool x193000_20) := bc BK192 0
    have hcz102_1 : wc.cell? ⟨gb192, 1, none⟩ = some (.int .u64 t190) := bc BK192 1
    have hfz102_0 := blk_frozen BK192.out 0
    have hfz102_1 := blk_frozen BK192.out 1
    go_wp2_with (first | ((with_reducible refine gate_callee (f := 69) rfl ?_); refine goesL_ (some 32) rfl rfl Try.func69 (by kernel_rfl) rfl #[.agg #[.bool t187, .int .u64 t188], .agg #[.bool x193000_20, .int .u64 t190]] rfl (by (try simp only [List.map_toArray, List.map_cons, List.map_nil]); first | done | rfl | (simp only [List.length_drop, List.length_take]; rfl)) ?_; (with_reducible refine (value_plus.calls t187 t188 x193000_20 t190 t197 t198 t199 _ A91.out).mono ?_); rintro e w103 ⟨rfl, hb⟩; refine ⟨_, rfl, ?_⟩; have n0_ := kb BK184 hb; have n1_ := kb BK185 hb; have n2_ := kb BK186 hb; have n3_ := kb BK191 hb; have n4_ := kb BK192 hb; have n5_ := kb BK193 hb; have n6_ := bt HB hb; clear BK184; clear BK185; clear BK186; clear BK191; clear BK192; clear BK193; clear HB; have BK184 := n0_; have BK185 := n1_; have BK186 := n2_; have BK191 := n3_; have BK192 := n4_; have BK193 := n5_; have HB := n6_; clear n0_ n1_ n2_ n3_ n4_ n5_ n6_; (try clear hb); (try clear hb2); (try clear hk); (try clear hi); have hnb104 := NB193_184.out; have hnc104 := NB184_193.out; have hnb105 := NB193_185.out; have hnc105 := NB185_193.out; have hnb106 := NB193_186.out; have hnc106 := NB186_193.out; have hcz107_0 : w103.cell? ⟨gb193, 0, none⟩ = some (.bool false) := bc BK193 0; have hcz107_1 : w103.cell? ⟨gb193, 1, none⟩ = some (.int .u64 0) := bc BK193 1; have hfz107_0 := blk_frozen BK193.out 0; have hfz107_1 := blk_frozen BK193.out 1))
    go_meet
    case rel => exact ⟨_, (t199), (0), (0), ((⟨#[]⟩ : ByteArray)), (x193000_20), (t197), (t198), (by first | rfl | (simp; done) | (simp [*]; done)), H', ⟨by have := HJ20.out; first | omega | exact Nat.le_refl _⟩, ⟨by (with_reducible repeat (first | refine blk_drewN ?_ _ | refine blk_drew ?_ | refine blk_alloc ?_ _)); refine blk_far ?_ NB184_193.out _; (with_reducible repeat (first | refine blk_drewN ?_ _ | refine blk_drew ?_ | refine blk_alloc ?_ _)); refine blk_far ?_ NB184_193.out _; (with_reducible repeat (first | refine blk_drewN ?_ _ | refine blk_drew ?_ | refine blk_alloc ?_ _)); exact BK184.out⟩, ⟨by (with_reducible repeat (first | refine blk_drewN ?_ _ | refine blk_drew ?_ | refine blk_alloc ?_ _)); refine blk_far ?_ NB185_193.out _; (with_reducible repeat (first | refine blk_drewN ?_ _ | refine blk_drew ?_ | refine blk_alloc ?_ _)); refine blk_far ?_ NB185_193.out _; (with_reducible repeat (first | refine blk_drewN ?_ _ | refine blk_drew ?_ | refine blk_alloc ?_ _)); exact BK185.out⟩, ⟨by (with_reducible repeat (first | refine blk_drewN ?_ _ | refine blk_drew ?_ | refine blk_alloc ?_ _)); refine blk_far ?_ NB186_193.out _; (with_reducible repeat (first | refine blk_drewN ?_ _ | refine blk_drew ?_ | refine blk_alloc ?_ _)); refine blk_far ?_ NB186_193.out _; (with_reducible repeat (first | refine blk_drewN ?_ _ | refine blk_drew ?_ | refine blk_alloc ?_ _)); exact BK186.out⟩, ⟨by (with_reducible repeat (first | refine blk_drewN ?_ _ | refine blk_drew ?_ | refine blk_alloc ?_ _)); refine blk_far ?_ NB191_193.out _; (with_reducible repeat (first | refine blk_drewN ?_ _ | refine blk_drew ?_ | refine blk_alloc ?_ _)); refine blk_far ?_ NB191_193.out _; (with_reducible repeat (first | refine blk_drewN ?_ _ | refine blk_drew ?_ | refine blk_alloc ?_ _)); exact BK191.out⟩, ⟨by (with_reducible repeat (first | refine blk_drewN ?_ _ | refine blk_drew ?_ | refine blk_alloc ?_ _)); refine blk_far ?_ NB192_193.out _; (with_reducible repeat (first | refine blk_drewN ?_ _ | refine blk_drew ?_ | refine blk_alloc ?_ _)); refine blk_far ?_ NB192_193.out _; (with_reducible repeat (first | refine blk_drewN ?_ _ | refine blk_drew ?_ | refine blk_alloc ?_ _)); exact BK192.out⟩, ⟨by (with_reducible repeat (first | refine blk_drewN ?_ _ | refine blk_drew ?_ | refine blk_alloc ?_ _)); refine blk_put (cs := #[.bool t197, .int .u64 0]) ?_ 1 _ rfl; (with_reducible repeat (first | refine blk_drewN ?_ _ | refine blk_drew ?_ | refine blk_alloc ?_ _)); refine blk_put (cs := #[.bool false, .int .u64 0]) ?_ 0 _ rfl; (with_reducible repeat (first | refine blk_drewN ?_ _ | refine blk_drew ?_ | refine blk_alloc ?_ _)); exact BK193.out⟩, ⟨bs HB⟩⟩
 case rest =>
  clear HC6
  (try clear c1);(try clear c2);(try clear p2);(try clear c3);(try clear c4);(try clear c5);(try clear c6);(try clear c7);(try clear c8);(try clear c9);(try clear c10);(try clear c22);(try clear c22b0);(try clear c22b1);(try clear c23);(try clear c24);(try clear c25);(try clear c26);(try clear c27);(try clear c29);(try clear c29b0);(try clear c29b1);(try clear c30);(try clear c30b0);(try clear c30b1);(try clear c32);(try clear c33);(try clear c34);(try clear c35);(try clear c36);(try clear c38);(try clear c39);(try clear c40);(try clear c41);(try clear c44);(try clear c45);(try clear c46);(try clear c48);(try clear c48b0);(try clear c48b1);(try clear c49);(try clear c49b0);(try clear c49b1);(try clear c50);(try clear c51);(try clear c52);(try clear c53);(try clear c54);(try clear c56);(try clear c57);(try clear c58);(try clear c59);(try clear c61);(try clear c62);(try clear c63);(try clear c64);(try clear c65);(try clear c69);(try clear c70);(try clear c70b0);(try clear c70b1);(try clear c71);(try clear c72);(try clear c73);(try clear c74);(try clear c75);(try clear c77);(try clear c78);(try clear c79);(try clear c80);(try clear c82);(try clear c83);(try clear c84);(try clear c85);(try clear c86);(try clear c92);(try clear c93);(try clear c94);(try clear c95);(try clear c96);(try clear c98);(try clear c99);(try clear c100);(try clear c101);(try clear c104);(try clear c105);(try clear c106);(try clear hcz102_0);(try clear hcz102_1);(try clear hcz107_0);(try clear hcz107_1);(try clear hcz28_0);(try clear hcz28_1);(try clear hcz37_0);(try clear hcz37_1);(try clear hcz42_0);(try clear hcz42_1);(try clear hcz47_0);(try clear hcz47_1);(try clear hcz55_0);(try clear hcz55_1);(try clear hcz60_0);(try clear hcz60_1);(try clear hcz60_2);(try clear hcz66_0);(try clear hcz66_1);(try clear hcz76_0);(try clear hcz76_1);(try clear hcz81_0);(try clear hcz81_1);(try clear hcz81_2);(try clear hcz87_0);(try clear hcz87_1);(try clear hcz97_0);(try clear hcz97_1);(try clear hfz102_0);(try clear hfz102_1);(try clear hfz107_0);(try clear hfz107_1);(try clear hfz28_0);(try clear hfz28_1);(try clear hfz37_0);(try clear hfz37_1);(try clear hfz42_0);(try clear hfz42_1);(try clear hfz47_0);(try clear hfz47_1);(try clear hfz55_0);(try clear hfz55_1);(try clear hfz60_0);(try clear hfz60_1);(try clear hfz60_2);(try clear hfz66_0);(try clear hfz66_1);(try clear hfz76_0);(try clear hfz76_1);(try clear hfz81_0);(try clear hfz81_1);(try clear hfz81_2);(try clear hfz87_0);(try clear hfz87_1);(try clear hfz97_0);(try clear hfz97_1);(try clear p2)
  obtain ⟨kq, x10_5, x187000_5, x187001_5, x187002_5, x193000_5, x194000_5, x194001_5, rfl, HA, HJ5, BK184, BK185, BK186, BK191, BK192, BK193, HB⟩ := hcut
  cases kq with
  | zero => exact absurd HA.out (by simp [value_integers.j1])
  | succ kj5 =>
   have H := HA.out
   clear HA
   simp only [value_integers.j1] at H
   by_cases c108 : x10_5 = true
   ·subst c108
    have H1 : ((value_wide_of.f kj5 x194000_5 x194001_5 a1_0 1).bind fun bt200 => (some (bt200.1, bt200.2.1, bt200.2.2.1, bt200.2.2.2))) = some (r1, r2, r3, r4) := by rw [if_pos rfl] at H; exact H
    clear H
    have H := H1
    clear H1
    replace H := Option.bind_eq_some_iff.mp H
    obtain ⟨⟨t200, t201, t202, t203⟩, A1090, H⟩ := H
    replace H : (some (t200, t201, t202, t203)) = some (r1, r2, r3, r4) := H
    have A109 := Aside0.mk A1090
    clear A1090
    simp only [Option.some.injEq, Prod.mk.injEq] at H
    obtain ⟨rfl, rfl, rfl, rfl⟩ := H
    have hnb110 := NB193_184.out
    have hnc110 := NB184_193.out
    have hnb111 := NB193_185.out
    have hnc111 := NB185_193.out
    have hnb112 := NB193_186.out
    have hnc112 := NB186_193.out
    have hnb113 := NB193_191.out
    have hnc113 := NB191_193.out
    have hnb114 := NB193_192.out
    have hnc114 := NB192_193.out
    have hcz115_0 : wc.cell? ⟨gb193, 0, none⟩ = some (.bool x194000_5) := bc BK193 0
    have hcz115_1 : wc.cell? ⟨gb193, 1, none⟩ = some (.int .u64 x194001_5) := bc BK193 1
    have hfz115_0 := blk_frozen BK193.out 0
    have hfz115_1 := blk_frozen BK193.out 1
    have hnb116 := NB184_185.out
    have hnc116 := NB185_184.out
    have hnb117 := NB184_186.out
    have hnc117 := NB186_184.out
    have hnb118 := NB184_191.out
    have hnc118 := NB191_184.out
    have hnb119 := NB184_192.out
    have hnc119 := NB192_184.out
    have hcz120_0 : wc.cell? ⟨gb184, 0, none⟩ = some (.int .u8 a1_0) := bc BK184 0
    have hcz120_1 : wc.cell? ⟨gb184, 1, none⟩ = some (.int .u64 a1_1) := bc BK184 1
    have hcz120_2 : wc.cell? ⟨gb184, 2, none⟩ = some (.string a1_2) := bc BK184 2
    have hfz120_0 := blk_frozen BK184.out 0
    have hfz120_1 := blk_frozen BK184.out 1
    have hfz120_2 := blk_frozen BK184.out 2
    go_wp2_with (first | ((with_reducible refine gate_callee (f := 41) rfl ?_); refine goesL_ (some 74) rfl rfl Try.func41 (by kernel_rfl) rfl #[.agg #[.bool x194000_5, .int .u64 x194001_5], .int .u8 a1_0, .int .i64 1] rfl (by (try simp only [List.map_toArray, List.map_cons, List.map_nil]); first | done | rfl | (simp only [List.length_drop, List.length_take]; rfl)) ?_; (with_reducible refine (value_wide_of.calls kj5 x194000_5 x194001_5 a1_0 1 t200 t201 t202 t203 _ A109.out).mono ?_); rintro e w121 ⟨rfl, hb⟩; refine ⟨_, rfl, ?_⟩; have n0_ := kb BK184 hb; have n1_ := kb BK185 hb; have n2_ := kb BK186 hb; have n3_ := kb BK191 hb; have n4_ := kb BK192 hb; have n5_ := kb BK193 hb; have n6_ := bt HB hb; clear BK184; clear BK185; clear BK186; clear BK191; clear BK192; clear BK193; clear HB; have BK184 := n0_; have BK185 := n1_; have BK186 := n2_; have BK191 := n3_; have BK192 := n4_; have BK193 := n5_; have HB := n6_; clear n0_ n1_ n2_ n3_ n4_ n5_ n6_; (try clear hb); (try clear hb2); (try clear hk); (try clear hi); have hnb122 := NB186_185.out; have hnc122 := NB185_186.out; have hnb123 := NB186_191.out; have hnc123 := NB191_186.out; have hnb124 := NB186_192.out; have hnc124 := NB192_186.out; have hcz125_0 : w121.cell? ⟨gb186, 0, none⟩ = some (.int .u8 x187000_5) := bc BK186 0; have hcz125_1 : w121.cell? ⟨gb186, 1, none⟩ = some (.int .u64 x187001_5) := bc BK186 1; have hcz125_2 : w121.cell? ⟨gb186, 2, none⟩ = some (.string x187002_5) := bc BK186 2; have hfz125_0 := blk_frozen BK186.out 0; have hfz125_1 := blk_frozen BK186.out 1; have hfz125_2 := blk_frozen BK186.out 2))
    refine bodyPost_ret (results_ct rfl _ _ gb186 27 #[.int .u8 t200, .int .u64 t201, .string t202] (0, 0) _ rfl (by (with_reducible repeat (first | refine blk_drewN ?_ _ | refine blk_drew ?_ | refine blk_alloc ?_ _)); refine blk_put (cs := #[.int .u8 t200, .int .u64 t201, .string x187002_5]) ?_ 2 _ rfl; (with_reducible repeat (first | refine blk_drewN ?_ _ | refine blk_drew ?_ | refine blk_alloc ?_ _)); refine blk_put (cs := #[.int .u8 t200, .int .u64 x187001_5, .string x187002_5]) ?_ 1 _ rfl; (with_reducible repeat (first | refine blk_drewN ?_ _ | refine blk_drew ?_ | refine blk_alloc ?_ _)); refine blk_put (cs := #[.int .u8 x187000_5, .int .u64 x187001_5, .string x187002_5]) ?_ 0 _ rfl; (with_reducible repeat (first | refine blk_drewN ?_ _ | refine blk_drew ?_ | refine blk_alloc ?_ _)); exact BK186.out) Try.underlying27 rfl (by kernel_rfl)) rfl ?_
    exact ⟨by first | rfl | (simp [errW_none, errW_some] <;> rfl) | (simp [*, errW_none, errW_some] <;> rfl), bs HB⟩
   ·replace c108 := Bool.eq_false_iff.mpr c108
    subst c108
    have H1 : (some (0, 0, (⟨#[]⟩ : ByteArray), 1)) = some (r1, r2, r3, r4) := by rw [if_neg (show ¬ (false = true) by decide)] at H; exact H
    clear H
    have H := H1
    clear H1
    simp only [Option.some.injEq, Prod.mk.injEq] at H
    obtain ⟨rfl, rfl, rfl, rfl⟩ := H
    have hnb126 := NB186_184.out
    have hnc126 := NB184_186.out
    have hnb127 := NB186_185.out
    have hnc127 := NB185_186.out
    have hnb128 := NB186_191.out
    have hnc128 := NB191_186.out
    have hnb129 := NB186_192.out
    have hnc129 := NB192_186.out
    have hnb130 := NB186_193.out
    have hnc130 := NB193_186.out
    have hcz131_0 : wc.cell? ⟨gb186, 0, none⟩ = some (.int .u8 x187000_5) := bc BK186 0
    have hcz131_1 : wc.cell? ⟨gb186, 1, none⟩ = some (.int .u64 x187001_5) := bc BK186 1
    have hcz131_2 : wc.cell? ⟨gb186, 2, none⟩ = some (.string x187002_5) := bc BK186 2
    have hfz131_0 := blk_frozen BK186.out 0
    have hfz131_1 := blk_frozen BK186.out 1
    have hfz131_2 := blk_frozen BK186.out 2
    go_wp2
    refine bodyPost_ret (results_ct rfl _ _ gb186 27 #[.int .u8 0, .int .u64 0, .string (⟨#[]⟩ : ByteArray)] (0, 0) _ rfl (by (with_reducible repeat (first | refine blk_drewN ?_ _ | refine blk_drew ?_ | refine blk_alloc ?_ _)); refine blk_put (cs := #[.int .u8 0, .int .u64 0, .string x187002_5]) ?_ 2 _ rfl; (with_reducible repeat (first | refine blk_drewN ?_ _ | refine blk_drew ?_ | refine blk_alloc ?_ _)); refine blk_put (cs := #[.int .u8 0, .int .u64 x187001_5, .string x187002_5]) ?_ 1 _ rfl; (with_reducible repeat (first | refine blk_drewN ?_ _ | refine blk_drew ?_ | refine blk_alloc ?_ _)); refine blk_put (cs := #[.int .u8 x187000_5, .int .u64 x187001_5, .string x187002_5]) ?_ 0 _ rfl; (with_reducible repeat (first | refine blk_drewN ?_ _ | refine blk_drew ?_ | refine blk_alloc ?_ _)); exact BK186.out) Try.underlying27 rfl (by kernel_rfl)) rfl ?_
    exact ⟨by first | rfl | (simp [errW_none, errW_some] <;> rfl) | (simp [*, errW_none, errW_some] <;> rfl), bs HB⟩

end Go.Proofs.Ytlmmkaddlflepaa.PReck
