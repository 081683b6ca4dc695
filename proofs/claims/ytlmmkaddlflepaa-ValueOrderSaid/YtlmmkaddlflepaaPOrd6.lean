-- by mkprint.py, a program of this session's own
import Derived.Test.YtlmmkaddlflepaaPOrd0
import Derived.Test.YtlmmkaddlflepaaPOrd4
import Derived.Test.YtlmmkaddlflepaaPOrd5
namespace Go.Proofs.Ytlmmkaddlflepaa.POrd
open Go.RowKit Go.Proofs.YtlmmkaddlflepaaW.PrintWords Go.Proofs.YtlmmkaddlflepaaW.PrintLast Go.Proofs.YtlmmkaddlflepaaW.PrintMore
attribute [local go_sem] max2_int min2_int max_two min_two max_three min_three max_four min_four   -- for this text's walks alone
set_option linter.unusedVariables false
set_option linter.unusedSimpArgs false

attribute [local go_sem] cell_isSome un_neg_float str_gtr str_leq str_geq ext34 ext52
/-! ### value_integers: function 56 -/
mutual
def value_integers.j1 : Nat → Bool → Int → Int → ByteArray → Bool → Int → Option (Int × Int × ByteArray × Int)
 | 0, _, _, _, _, _, _ => none
 | k + 1, x10, x188000, x188001, x188002, x197000, x197001 => if x10 = true then ((value_wide_of.f k x197000 x197001 x188000 1).bind fun bt203 => (some (bt203.1, bt203.2.1, bt203.2.2.1, bt203.2.2.2))) else (some (0, 0, (⟨#[]⟩ : ByteArray), 1))
def value_integers.j0 : Nat → Int → Int → ByteArray → Bool → Int → Bool → Int → Option (Int × Int × ByteArray × Int)
 | 0, _, _, _, _, _, _, _ => none
 | k + 1, x188000, x188001, x188002, x195000, x195001, x196000, x196001 => (value_plus.f x195000 x195001 x196000 x196001).bind fun bt200 => (value_integers.j1 k bt200.2.2 x188000 x188001 x188002 bt200.1 bt200.2.1)
end
def value_integers.f (k : Nat) (a0 : Int) (a1_0 : Int) (a1_1 : Int) (a1_2 : ByteArray) (a2_0 : Int) (a2_1 : Int) (a2_2 : ByteArray) : Option (Int × Int × ByteArray × Int) := (value_sized.f a1_0 a1_1 a1_2).bind fun bt190 => ((value_sized.f a2_0 a2_1 a2_2).bind fun bt192 => (if a0 = 2 then (value_integers.j0 k a1_0 a1_1 a1_2 bt190.1 bt190.2 (!bt192.1) bt192.2) else (if a0 = 1 then (value_integers.j0 k a1_0 a1_1 a1_2 bt190.1 bt190.2 bt192.1 bt192.2) else (if a0 = 3 then ((value_times.f bt190.1 bt190.2 bt192.1 bt192.2).bind fun bt197 => (value_integers.j1 k bt197.2.2 a1_0 a1_1 a1_2 bt197.1 bt197.2.1)) else (if a0 = 4 then (if bt192.2 = 0 then (some (0, 0, (⟨#[]⟩ : ByteArray), 2)) else (value_integers.j1 k true a1_0 a1_1 a1_2 (bt190.1 != bt192.1) (IntKind.u64.wrap (Int.tdiv bt190.2 bt192.2)))) else (if bt192.2 = 0 then (some (0, 0, (⟨#[]⟩ : ByteArray), 2)) else (value_integers.j1 k true a1_0 a1_1 a1_2 bt190.1 (Int.tmod bt190.2 bt192.2))))))))
theorem value_integers.mono_l : ∀ k, (∀ y0 y1 y2 y3 y4 y5, LeO (value_integers.j1 k y0 y1 y2 y3 y4 y5) (value_integers.j1 (k + 1) y0 y1 y2 y3 y4 y5)) ∧ (∀ y0 y1 y2 y3 y4 y5 y6, LeO (value_integers.j0 k y0 y1 y2 y3 y4 y5 y6) (value_integers.j0 (k + 1) y0 y1 y2 y3 y4 y5 y6))
 | 0 => ⟨fun _ _ _ _ _ _ r h => by simp [value_integers.j1] at h, fun _ _ _ _ _ _ _ r h => by simp [value_integers.j0] at h⟩
 | k + 1 => by
  obtain ⟨ih0, ih1⟩ := value_integers.mono_l k
  refine ⟨?_, ?_⟩
  ·intro y0 y1 y2 y3 y4 y5
   unfold value_integers.j1
   repeat' first
   | (with_reducible exact ih0 _ _ _ _ _ _)
   | (with_reducible exact ih1 _ _ _ _ _ _ _)
   | (with_reducible exact value_wide_of.mono _ _ _ _ _)
   | (with_reducible exact LeO.refl _)
   | (with_reducible exact LeO.none _)
   | (with_reducible refine LeO.ite ?_ ?_)
   | (with_reducible refine LeO.bind ?_ (fun _ => ?_))
   | exact ih0 _ _ _ _ _ _
   | exact ih1 _ _ _ _ _ _ _
   | exact value_wide_of.mono _ _ _ _ _
   | exact LeO.none _
   | refine LeO.ite ?_ ?_
   | refine LeO.bind ?_ (fun _ => ?_)
  ·intro y0 y1 y2 y3 y4 y5 y6
   unfold value_integers.j0
   repeat' first
   | (with_reducible exact ih0 _ _ _ _ _ _)
   | (with_reducible exact ih1 _ _ _ _ _ _ _)
   | (with_reducible exact value_wide_of.mono _ _ _ _ _)
   | (with_reducible exact LeO.refl _)
   | (with_reducible exact LeO.none _)
   | (with_reducible refine LeO.ite ?_ ?_)
   | (with_reducible refine LeO.bind ?_ (fun _ => ?_))
   | exact ih0 _ _ _ _ _ _
   | exact ih1 _ _ _ _ _ _ _
   | exact value_wide_of.mono _ _ _ _ _
   | exact LeO.none _
   | refine LeO.ite ?_ ?_
   | refine LeO.bind ?_ (fun _ => ?_)
theorem value_integers.mono : ∀ a0 a1 a2 a3 a4 a5 a6 k, LeO (value_integers.f k a0 a1 a2 a3 a4 a5 a6) (value_integers.f (k + 1) a0 a1 a2 a3 a4 a5 a6) := by
 intro a0 a1 a2 a3 a4 a5 a6 k
 obtain ⟨ih0, ih1⟩ := value_integers.mono_l k
 unfold value_integers.f
 repeat' first
   | (with_reducible exact ih0 _ _ _ _ _ _)
   | (with_reducible exact ih1 _ _ _ _ _ _ _)
   | (with_reducible exact value_wide_of.mono _ _ _ _ _)
   | (with_reducible exact LeO.refl _)
   | (with_reducible exact LeO.none _)
   | (with_reducible refine LeO.ite ?_ ?_)
   | (with_reducible refine LeO.bind ?_ (fun _ => ?_))
   | exact ih0 _ _ _ _ _ _
   | exact ih1 _ _ _ _ _ _ _
   | exact value_wide_of.mono _ _ _ _ _
   | exact LeO.none _
   | refine LeO.ite ?_ ?_
   | refine LeO.bind ?_ (fun _ => ?_)
def value_integers.T1 : Bool × List (List Nat × List Nat) := (true, [([], []), ([0], [0]), ([], []), ([2, 1], [2]), ([], []), ([], []), ([4, 1, 3, 0, 1, 4, 5], [1, 4]), ([5, 3, 6, 0, 1, 2, 3, 4, 5, 6], [3, 5])])
def value_integers.B1 : List Nat := [0, 1, 0, 7, 0, 0, 63, 127]
theorem value_integers.tab1 : rtab .any (opsOf Try.f56 1) = value_integers.T1 := by kernel_rfl
theorem value_integers.bits1 : waitsOk value_integers.T1.2 value_integers.B1 = true := by kernel_rfl
def value_integers.T14 : Bool × List (List Nat × List Nat) := (true, [([], []), ([0], [0]), ([], []), ([2], [2]), ([1, 3], [1, 3]), ([], []), ([5], [5]), ([], []), ([7], [7]), ([6, 8], [6, 8]), ([4, 9], [4, 9]), ([10, 0, 1, 2, 3, 4, 5, 6, 7, 8, 9, 10], [10])])
def value_integers.B14 : List Nat := [0, 1, 0, 4, 15, 0, 32, 0, 128, 480, 1023, 2047]
theorem value_integers.tab14 : rtab .any (opsOf Try.f56 14) = value_integers.T14 := by kernel_rfl
theorem value_integers.bits14 : waitsOk value_integers.T14.2 value_integers.B14 = true := by kernel_rfl
def value_integers.T17 : Bool × List (List Nat × List Nat) := (true, [([], []), ([0], [0]), ([], []), ([2], [2]), ([], []), ([4], [4]), ([3, 5], [3, 5]), ([1, 6], [1, 6]), ([7, 0, 1, 2, 3, 4, 5, 6, 7], [7])])
def value_integers.B17 : List Nat := [0, 1, 0, 4, 0, 16, 60, 127, 255]
theorem value_integers.tab17 : rtab .any (opsOf Try.f56 17) = value_integers.T17 := by kernel_rfl
theorem value_integers.bits17 : waitsOk value_integers.T17.2 value_integers.B17 = true := by kernel_rfl
set_option maxHeartbeats 8000000 in
set_option maxRecDepth 100000 in
theorem value_integers.calls (k : Nat) (a0 : Int) (a1_0 : Int) (a1_1 : Int) (a1_2 : ByteArray) (a2_0 : Int) (a2_1 : Int) (a2_2 : ByteArray) (r1 : Int) (r2 : Int) (r3 : ByteArray) (r4 : Int) (w : World) (h : value_integers.f k a0 a1_0 a1_1 a1_2 a2_0 a2_1 a2_2 = some (r1, r2, r3, r4)) :
  Calls Try.prog 56 #[.int .i64 a0, .agg #[.int .u8 a1_0, .int .u64 a1_1, .string a1_2], .agg #[.int .u8 a2_0, .int .u64 a2_1, .string a2_2]] w fun e w' => e = .returned (.tuple #[.agg #[.int .u8 r1, .int .u64 r2, .string r3], .int .i64 r4]) ∧ Below w.heap.size w w' := by
 have hu27 := Try.underlying27
 have hu58 := Try.underlying58
 have HB := Aside0.mk (Below.refl w.heap.size w)
 have H : ((value_sized.f a1_0 a1_1 a1_2).bind fun bt190 => ((value_sized.f a2_0 a2_1 a2_2).bind fun bt192 => (if a0 = 2 then (value_integers.j0 k a1_0 a1_1 a1_2 bt190.1 bt190.2 (!bt192.1) bt192.2) else (if a0 = 1 then (value_integers.j0 k a1_0 a1_1 a1_2 bt190.1 bt190.2 bt192.1 bt192.2) else (if a0 = 3 then ((value_times.f bt190.1 bt190.2 bt192.1 bt192.2).bind fun bt197 => (value_integers.j1 k bt197.2.2 a1_0 a1_1 a1_2 bt197.1 bt197.2.1)) else (if a0 = 4 then (if bt192.2 = 0 then (some (0, 0, (⟨#[]⟩ : ByteArray), 2)) else (value_integers.j1 k true a1_0 a1_1 a1_2 (bt190.1 != bt192.1) (IntKind.u64.wrap (Int.tdiv bt190.2 bt192.2)))) else (if bt192.2 = 0 then (some (0, 0, (⟨#[]⟩ : ByteArray), 2)) else (value_integers.j1 k true a1_0 a1_1 a1_2 bt190.1 (Int.tmod bt190.2 bt192.2))))))))) = some (r1, r2, r3, r4) := h
 clear h
 replace H := Option.bind_eq_some_iff.mp H
 obtain ⟨⟨t190, t191⟩, A40, H⟩ := H
 replace H : ((value_sized.f a2_0 a2_1 a2_2).bind fun bt192 => (if a0 = 2 then (value_integers.j0 k a1_0 a1_1 a1_2 t190 t191 (!bt192.1) bt192.2) else (if a0 = 1 then (value_integers.j0 k a1_0 a1_1 a1_2 t190 t191 bt192.1 bt192.2) else (if a0 = 3 then ((value_times.f t190 t191 bt192.1 bt192.2).bind fun bt197 => (value_integers.j1 k bt197.2.2 a1_0 a1_1 a1_2 bt197.1 bt197.2.1)) else (if a0 = 4 then (if bt192.2 = 0 then (some (0, 0, (⟨#[]⟩ : ByteArray), 2)) else (value_integers.j1 k true a1_0 a1_1 a1_2 (t190 != bt192.1) (IntKind.u64.wrap (Int.tdiv t191 bt192.2)))) else (if bt192.2 = 0 then (some (0, 0, (⟨#[]⟩ : ByteArray), 2)) else (value_integers.j1 k true a1_0 a1_1 a1_2 t190 (Int.tmod t191 bt192.2)))))))) = some (r1, r2, r3, r4) := H
 have A4 := Aside0.mk A40
 clear A40
 replace H := Option.bind_eq_some_iff.mp H
 obtain ⟨⟨t192, t193⟩, A50, H⟩ := H
 replace H : (if a0 = 2 then (value_integers.j0 k a1_0 a1_1 a1_2 t190 t191 (!t192) t193) else (if a0 = 1 then (value_integers.j0 k a1_0 a1_1 a1_2 t190 t191 t192 t193) else (if a0 = 3 then ((value_times.f t190 t191 t192 t193).bind fun bt197 => (value_integers.j1 k bt197.2.2 a1_0 a1_1 a1_2 bt197.1 bt197.2.1)) else (if a0 = 4 then (if t193 = 0 then (some (0, 0, (⟨#[]⟩ : ByteArray), 2)) else (value_integers.j1 k true a1_0 a1_1 a1_2 (t190 != t192) (IntKind.u64.wrap (Int.tdiv t191 t193)))) else (if t193 = 0 then (some (0, 0, (⟨#[]⟩ : ByteArray), 2)) else (value_integers.j1 k true a1_0 a1_1 a1_2 t190 (Int.tmod t191 t193))))))) = some (r1, r2, r3, r4) := H
 have A5 := Aside0.mk A50
 clear A50
 have HC6 := Aside0.mk H
 clear H
 go_enter Try.func56, Try.ntmps56
 try go_wp2_with (first | ((with_reducible refine gate_dst (N := 4) rfl ?_); refine box_event ?hg (N := 4) ?hd (cs := #[.int .u8 a1_0, .int .u64 a1_1, .string a1_2]) (t := 27) ?hr ?_; (case hd => rfl); (case hg => rfl); (case hr => first | (go_simp; done) | (go_simp; rfl)); intro gb187 hg w7 hbox hb; have n0_ := bt HB hb; have n1_ := Aside0.mk (hbox); have n2_ := gs hg HB; have n3_ := gs hg HB; clear HB; have HB := n0_; have BK187 := n1_; have GW187 := n2_; have GE187 := n3_; clear n0_ n1_ n2_ n3_; clear hb hbox hg) | ((with_reducible refine gate_dst (N := 5) rfl ?_); refine box_event ?hg (N := 5) ?hd (cs := #[.int .u8 a2_0, .int .u64 a2_1, .string a2_2]) (t := 27) ?hr ?_; (case hd => rfl); (case hg => rfl); (case hr => first | (go_simp; done) | (go_simp; rfl)); intro gb188 hg w8 hbox hb; have n0_ := kb BK187 hb; have n1_ := bt HB hb; have n2_ := Aside0.mk (hbox); have n3_ := gs hg HB; have n4_ := gs hg HB; have n5_ := nl hg BK187; have n6_ := ng hg BK187; clear BK187; clear HB; have BK187 := n0_; have HB := n1_; have BK188 := n2_; have GW188 := n3_; have GE188 := n4_; have NB187_188 := n5_; have NB188_187 := n6_; clear n0_ n1_ n2_ n3_ n4_ n5_ n6_; clear hb hbox hg) | ((with_reducible refine gate_dst (N := 6) rfl ?_); refine box_event ?hg (N := 6) ?hd (cs := #[.int .u8 0, .int .u64 0, .string (⟨#[]⟩ : ByteArray)]) (t := 27) ?hr ?_; (case hd => rfl); (case hg => rfl); (case hr => first | (go_simp; done) | (go_simp; rfl)); intro gb189 hg w9 hbox hb; have n0_ := kb BK187 hb; have n1_ := kb BK188 hb; have n2_ := bt HB hb; have n3_ := Aside0.mk (hbox); have n4_ := gs hg HB; have n5_ := gs hg HB; have n6_ := nl hg BK187; have n7_ := ng hg BK187; have n8_ := nl hg BK188; have n9_ := ng hg BK188; clear BK187; clear BK188; clear HB; have BK187 := n0_; have BK188 := n1_; have HB := n2_; have BK189 := n3_; have GW189 := n4_; have GE189 := n5_; have NB187_189 := n6_; have NB189_187 := n7_; have NB188_189 := n8_; have NB189_188 := n9_; clear n0_ n1_ n2_ n3_ n4_ n5_ n6_ n7_ n8_ n9_; clear hb hbox hg))
 have n0_ := Aside0.mk (blk_drew BK187.out)
 have n1_ := Aside0.mk (blk_drew BK188.out)
 have n2_ := Aside0.mk (blk_drew BK189.out)
 have n3_ := Aside0.mk (below_drew1 HB.out)
 clear BK187
 clear BK188
 clear BK189
 clear HB
 have BK187 := n0_
 have BK188 := n1_
 have BK189 := n2_
 have HB := n3_
 clear n0_ n1_ n2_ n3_
 refine start_ (n := 8) (S := fun w' => w'.cell? ⟨gb187, 0, none⟩ = some (.int .u8 a1_0) ∧ w'.cell? ⟨gb187, 1, none⟩ = some (.int .u64 a1_1) ∧ w'.cell? ⟨gb187, 2, none⟩ = some (.string a1_2) ∧ w'.cell? ⟨gb188, 0, none⟩ = some (.int .u8 a2_0) ∧ w'.cell? ⟨gb188, 1, none⟩ = some (.int .u64 a2_1) ∧ w'.cell? ⟨gb188, 2, none⟩ = some (.string a2_2)) (ds := []) #[false, false, false, false, false, false, false, false] (by kernel_rfl) rfl rfl ⟨bc BK187 0, bc BK187 1, bc BK187 2, bc BK188 0, bc BK188 1, bc BK188 2⟩ (fun hHeld => ?_); refine with_tabW value_integers.tab1 value_integers.bits1 (fun HT_ HW_ => ?_)
 generalize w9.drew = w10 at BK187 BK188 BK189 HB hHeld ⊢
 refine take_ (i := 0) (N := some 12) (v := ?_) (a' := ?_) #[true, false, false, false, false, false, false, false] rfl rfl (take_ofW HT_.out HW_.out (by kernel_rfl)) (fun _ _ _ h => h) (Or.inl ⟨by rfl, ?_⟩) hHeld ?_ ?_
 rotate_left
 ·rintro w' ⟨s0, s1, s2, s3, s4, s5⟩
  go_simp
  with_reducible rfl
 rotate_left
 ·simp only [Act.put, List.setIfInBounds_toArray, List.set_cons_zero, List.set_cons_succ, i64_w, i32_w]
  rfl
 refine take_ (i := 2) (N := some 14) (v := ?_) (a' := ?_) #[true, false, true, false, false, false, false, false] rfl rfl (take_ofW HT_.out HW_.out (by kernel_rfl)) (fun _ _ _ h => h) (Or.inl ⟨by rfl, ?_⟩) hHeld ?_ ?_
 rotate_left
 ·rintro w' ⟨s0, s1, s2, s3, s4, s5⟩
  go_simp
  with_reducible rfl
 rotate_left
 ·simp only [Act.put, List.setIfInBounds_toArray, List.set_cons_zero, List.set_cons_succ, i64_w, i32_w]
  rfl
 refine join_ (σ := Nat × Nat) 2 #[true, true, true, true, true, true, false, false] (fun s_ => [(13, .agg #[.bool t190, .int .u64 t191]), (15, .agg #[.bool t192, .int .u64 t193]), (8, .pointer (some ⟨s_.1, 0, none⟩)), (9, .pointer (some ⟨s_.2, 0, none⟩))]) (fun s_ w' => (w'.cell? ⟨gb187, 0, none⟩ = some (.int .u8 a1_0) ∧ w'.cell? ⟨gb187, 1, none⟩ = some (.int .u64 a1_1) ∧ w'.cell? ⟨gb187, 2, none⟩ = some (.string a1_2) ∧ w'.cell? ⟨gb188, 0, none⟩ = some (.int .u8 a2_0) ∧ w'.cell? ⟨gb188, 1, none⟩ = some (.int .u64 a2_1) ∧ w'.cell? ⟨gb188, 2, none⟩ = some (.string a2_2)) ∧ (w'.heap[gb187]? = some (.cells #[.int .u8 a1_0, .int .u64 a1_1, .string a1_2] 27 (0, 0))) ∧ (w'.heap[gb188]? = some (.cells #[.int .u8 a2_0, .int .u64 a2_1, .string a2_2] 27 (0, 0))) ∧ (w'.heap[gb189]? = some (.cells #[.int .u8 0, .int .u64 0, .string (⟨#[]⟩ : ByteArray)] 27 (0, 0))) ∧ (w'.heap[s_.1]? = some (.cells #[.bool false, .int .u64 0] 58 (0, 0))) ∧ (w'.heap[s_.2]? = some (.cells #[.bool false, .int .u64 0] 58 (0, 0))) ∧ (w.heap.size ≤ s_.1) ∧ (w.heap.size ≤ s_.1) ∧ (gb187 ≠ s_.1) ∧ (s_.1 ≠ gb187) ∧ (gb188 ≠ s_.1) ∧ (s_.1 ≠ gb188) ∧ (gb189 ≠ s_.1) ∧ (s_.1 ≠ gb189) ∧ (s_.2 ≠ s_.1) ∧ (s_.1 ≠ s_.2) ∧ (w.heap.size ≤ s_.2) ∧ (w.heap.size ≤ s_.2) ∧ (gb187 ≠ s_.2) ∧ (s_.2 ≠ gb187) ∧ (gb188 ≠ s_.2) ∧ (s_.2 ≠ gb188) ∧ (gb189 ≠ s_.2) ∧ (s_.2 ≠ gb189) ∧ (Below w.heap.size w w')) ?_ ?_
 rotate_left
 ·intro hJ1_3_4_5
  refine join_ (σ := Nat) 3 #[true, true, true, true, true, false, false, false] (fun s_ => [(13, .agg #[.bool t190, .int .u64 t191]), (15, .agg #[.bool t192, .int .u64 t193]), (8, .pointer (some ⟨s_, 0, none⟩))]) (fun s_ w' => (w'.cell? ⟨gb187, 0, none⟩ = some (.int .u8 a1_0) ∧ w'.cell? ⟨gb187, 1, none⟩ = some (.int .u64 a1_1) ∧ w'.cell? ⟨gb187, 2, none⟩ = some (.string a1_2) ∧ w'.cell? ⟨gb188, 0, none⟩ = some (.int .u8 a2_0) ∧ w'.cell? ⟨gb188, 1, none⟩ = some (.int .u64 a2_1) ∧ w'.cell? ⟨gb188, 2, none⟩ = some (.string a2_2)) ∧ (w'.heap[gb187]? = some (.cells #[.int .u8 a1_0, .int .u64 a1_1, .string a1_2] 27 (0, 0))) ∧ (w'.heap[gb188]? = some (.cells #[.int .u8 a2_0, .int .u64 a2_1, .string a2_2] 27 (0, 0))) ∧ (w'.heap[gb189]? = some (.cells #[.int .u8 0, .int .u64 0, .string (⟨#[]⟩ : ByteArray)] 27 (0, 0))) ∧ (w'.heap[s_]? = some (.cells #[.bool false, .int .u64 0] 58 (0, 0))) ∧ (w.heap.size ≤ s_) ∧ (w.heap.size ≤ s_) ∧ (gb187 ≠ s_) ∧ (s_ ≠ gb187) ∧ (gb188 ≠ s_) ∧ (s_ ≠ gb188) ∧ (gb189 ≠ s_) ∧ (s_ ≠ gb189) ∧ (Below w.heap.size w w')) ?_ ?_
  rotate_left
  ·intro hJ1_3_4
   refine join_ (σ := Nat) 3 #[true, true, true, true, false, true, false, false] (fun s_ => [(13, .agg #[.bool t190, .int .u64 t191]), (15, .agg #[.bool t192, .int .u64 t193]), (9, .pointer (some ⟨s_, 0, none⟩))]) (fun s_ w' => (w'.cell? ⟨gb187, 0, none⟩ = some (.int .u8 a1_0) ∧ w'.cell? ⟨gb187, 1, none⟩ = some (.int .u64 a1_1) ∧ w'.cell? ⟨gb187, 2, none⟩ = some (.string a1_2) ∧ w'.cell? ⟨gb188, 0, none⟩ = some (.int .u8 a2_0) ∧ w'.cell? ⟨gb188, 1, none⟩ = some (.int .u64 a2_1) ∧ w'.cell? ⟨gb188, 2, none⟩ = some (.string a2_2)) ∧ (w'.heap[gb187]? = some (.cells #[.int .u8 a1_0, .int .u64 a1_1, .string a1_2] 27 (0, 0))) ∧ (w'.heap[gb188]? = some (.cells #[.int .u8 a2_0, .int .u64 a2_1, .string a2_2] 27 (0, 0))) ∧ (w'.heap[gb189]? = some (.cells #[.int .u8 0, .int .u64 0, .string (⟨#[]⟩ : ByteArray)] 27 (0, 0))) ∧ (w'.heap[s_]? = some (.cells #[.bool false, .int .u64 0] 58 (0, 0))) ∧ (w.heap.size ≤ s_) ∧ (w.heap.size ≤ s_) ∧ (gb187 ≠ s_) ∧ (s_ ≠ gb187) ∧ (gb188 ≠ s_) ∧ (s_ ≠ gb188) ∧ (gb189 ≠ s_) ∧ (s_ ≠ gb189) ∧ (Below w.heap.size w w')) ?_ ?_
   rotate_left
   ·intro hJ1_3_5
    refine join_ (σ := Nat × Nat) 3 #[true, true, true, false, true, true, false, false] (fun s_ => [(13, .agg #[.bool t190, .int .u64 t191]), (8, .pointer (some ⟨s_.1, 0, none⟩)), (9, .pointer (some ⟨s_.2, 0, none⟩))]) (fun s_ w' => (w'.cell? ⟨gb187, 0, none⟩ = some (.int .u8 a1_0) ∧ w'.cell? ⟨gb187, 1, none⟩ = some (.int .u64 a1_1) ∧ w'.cell? ⟨gb187, 2, none⟩ = some (.string a1_2) ∧ w'.cell? ⟨gb188, 0, none⟩ = some (.int .u8 a2_0) ∧ w'.cell? ⟨gb188, 1, none⟩ = some (.int .u64 a2_1) ∧ w'.cell? ⟨gb188, 2, none⟩ = some (.string a2_2)) ∧ (w'.heap[gb187]? = some (.cells #[.int .u8 a1_0, .int .u64 a1_1, .string a1_2] 27 (0, 0))) ∧ (w'.heap[gb188]? = some (.cells #[.int .u8 a2_0, .int .u64 a2_1, .string a2_2] 27 (0, 0))) ∧ (w'.heap[gb189]? = some (.cells #[.int .u8 0, .int .u64 0, .string (⟨#[]⟩ : ByteArray)] 27 (0, 0))) ∧ (w'.heap[s_.1]? = some (.cells #[.bool false, .int .u64 0] 58 (0, 0))) ∧ (w'.heap[s_.2]? = some (.cells #[.bool false, .int .u64 0] 58 (0, 0))) ∧ (w.heap.size ≤ s_.1) ∧ (w.heap.size ≤ s_.1) ∧ (gb187 ≠ s_.1) ∧ (s_.1 ≠ gb187) ∧ (gb188 ≠ s_.1) ∧ (s_.1 ≠ gb188) ∧ (gb189 ≠ s_.1) ∧ (s_.1 ≠ gb189) ∧ (s_.2 ≠ s_.1) ∧ (s_.1 ≠ s_.2) ∧ (w.heap.size ≤ s_.2) ∧ (w.heap.size ≤ s_.2) ∧ (gb187 ≠ s_.2) ∧ (s_.2 ≠ gb187) ∧ (gb188 ≠ s_.2) ∧ (s_.2 ≠ gb188) ∧ (gb189 ≠ s_.2) ∧ (s_.2 ≠ gb189) ∧ (Below w.heap.size w w')) ?_ ?_
    rotate_left
    ·intro hJ1_4_5
     refine join_ (σ := Unit) 4 #[true, true, true, true, false, false, false, false] (fun s_ => [(13, .agg #[.bool t190, .int .u64 t191]), (15, .agg #[.bool t192, .int .u64 t193])]) (fun s_ w' => (w'.cell? ⟨gb187, 0, none⟩ = some (.int .u8 a1_0) ∧ w'.cell? ⟨gb187, 1, none⟩ = some (.int .u64 a1_1) ∧ w'.cell? ⟨gb187, 2, none⟩ = some (.string a1_2) ∧ w'.cell? ⟨gb188, 0, none⟩ = some (.int .u8 a2_0) ∧ w'.cell? ⟨gb188, 1, none⟩ = some (.int .u64 a2_1) ∧ w'.cell? ⟨gb188, 2, none⟩ = some (.string a2_2)) ∧ (w'.heap[gb187]? = some (.cells #[.int .u8 a1_0, .int .u64 a1_1, .string a1_2] 27 (0, 0))) ∧ (w'.heap[gb188]? = some (.cells #[.int .u8 a2_0, .int .u64 a2_1, .string a2_2] 27 (0, 0))) ∧ (w'.heap[gb189]? = some (.cells #[.int .u8 0, .int .u64 0, .string (⟨#[]⟩ : ByteArray)] 27 (0, 0))) ∧ (Below w.heap.size w w')) ?_ ?_
     rotate_left
     ·intro hJ1_3
      refine join_ (σ := Nat) 4 #[true, true, true, false, true, false, false, false] (fun s_ => [(13, .agg #[.bool t190, .int .u64 t191]), (8, .pointer (some ⟨s_, 0, none⟩))]) (fun s_ w' => (w'.cell? ⟨gb187, 0, none⟩ = some (.int .u8 a1_0) ∧ w'.cell? ⟨gb187, 1, none⟩ = some (.int .u64 a1_1) ∧ w'.cell? ⟨gb187, 2, none⟩ = some (.string a1_2) ∧ w'.cell? ⟨gb188, 0, none⟩ = some (.int .u8 a2_0) ∧ w'.cell? ⟨gb188, 1, none⟩ = some (.int .u64 a2_1) ∧ w'.cell? ⟨gb188, 2, none⟩ = some (.string a2_2)) ∧ (w'.heap[gb187]? = some (.cells #[.int .u8 a1_0, .int .u64 a1_1, .string a1_2] 27 (0, 0))) ∧ (w'.heap[gb188]? = some (.cells #[.int .u8 a2_0, .int .u64 a2_1, .string a2_2] 27 (0, 0))) ∧ (w'.heap[gb189]? = some (.cells #[.int .u8 0, .int .u64 0, .string (⟨#[]⟩ : ByteArray)] 27 (0, 0))) ∧ (w'.heap[s_]? = some (.cells #[.bool false, .int .u64 0] 58 (0, 0))) ∧ (w.heap.size ≤ s_) ∧ (w.heap.size ≤ s_) ∧ (gb187 ≠ s_) ∧ (s_ ≠ gb187) ∧ (gb188 ≠ s_) ∧ (s_ ≠ gb188) ∧ (gb189 ≠ s_) ∧ (s_ ≠ gb189) ∧ (Below w.heap.size w w')) ?_ ?_
      rotate_left
      ·intro hJ1_4
       refine join_ (σ := Nat) 4 #[true, true, true, false, false, true, false, false] (fun s_ => [(13, .agg #[.bool t190, .int .u64 t191]), (9, .pointer (some ⟨s_, 0, none⟩))]) (fun s_ w' => (w'.cell? ⟨gb187, 0, none⟩ = some (.int .u8 a1_0) ∧ w'.cell? ⟨gb187, 1, none⟩ = some (.int .u64 a1_1) ∧ w'.cell? ⟨gb187, 2, none⟩ = some (.string a1_2) ∧ w'.cell? ⟨gb188, 0, none⟩ = some (.int .u8 a2_0) ∧ w'.cell? ⟨gb188, 1, none⟩ = some (.int .u64 a2_1) ∧ w'.cell? ⟨gb188, 2, none⟩ = some (.string a2_2)) ∧ (w'.heap[gb187]? = some (.cells #[.int .u8 a1_0, .int .u64 a1_1, .string a1_2] 27 (0, 0))) ∧ (w'.heap[gb188]? = some (.cells #[.int .u8 a2_0, .int .u64 a2_1, .string a2_2] 27 (0, 0))) ∧ (w'.heap[gb189]? = some (.cells #[.int .u8 0, .int .u64 0, .string (⟨#[]⟩ : ByteArray)] 27 (0, 0))) ∧ (w'.heap[s_]? = some (.cells #[.bool false, .int .u64 0] 58 (0, 0))) ∧ (w.heap.size ≤ s_) ∧ (w.heap.size ≤ s_) ∧ (gb187 ≠ s_) ∧ (s_ ≠ gb187) ∧ (gb188 ≠ s_) ∧ (s_ ≠ gb188) ∧ (gb189 ≠ s_) ∧ (s_ ≠ gb189) ∧ (Below w.heap.size w w')) ?_ ?_
       rotate_left
       ·intro hJ1_5
        refine join_ (σ := Nat × Nat) 4 #[true, false, true, false, true, true, false, false] (fun s_ => [(8, .pointer (some ⟨s_.1, 0, none⟩)), (9, .pointer (some ⟨s_.2, 0, none⟩))]) (fun s_ w' => (w'.cell? ⟨gb187, 0, none⟩ = some (.int .u8 a1_0) ∧ w'.cell? ⟨gb187, 1, none⟩ = some (.int .u64 a1_1) ∧ w'.cell? ⟨gb187, 2, none⟩ = some (.string a1_2) ∧ w'.cell? ⟨gb188, 0, none⟩ = some (.int .u8 a2_0) ∧ w'.cell? ⟨gb188, 1, none⟩ = some (.int .u64 a2_1) ∧ w'.cell? ⟨gb188, 2, none⟩ = some (.string a2_2)) ∧ (w'.heap[gb187]? = some (.cells #[.int .u8 a1_0, .int .u64 a1_1, .string a1_2] 27 (0, 0))) ∧ (w'.heap[gb188]? = some (.cells #[.int .u8 a2_0, .int .u64 a2_1, .string a2_2] 27 (0, 0))) ∧ (w'.heap[gb189]? = some (.cells #[.int .u8 0, .int .u64 0, .string (⟨#[]⟩ : ByteArray)] 27 (0, 0))) ∧ (w'.heap[s_.1]? = some (.cells #[.bool false, .int .u64 0] 58 (0, 0))) ∧ (w'.heap[s_.2]? = some (.cells #[.bool false, .int .u64 0] 58 (0, 0))) ∧ (w.heap.size ≤ s_.1) ∧ (w.heap.size ≤ s_.1) ∧ (gb187 ≠ s_.1) ∧ (s_.1 ≠ gb187) ∧ (gb188 ≠ s_.1) ∧ (s_.1 ≠ gb188) ∧ (gb189 ≠ s_.1) ∧ (s_.1 ≠ gb189) ∧ (s_.2 ≠ s_.1) ∧ (s_.1 ≠ s_.2) ∧ (w.heap.size ≤ s_.2) ∧ (w.heap.size ≤ s_.2) ∧ (gb187 ≠ s_.2) ∧ (s_.2 ≠ gb187) ∧ (gb188 ≠ s_.2) ∧ (s_.2 ≠ gb188) ∧ (gb189 ≠ s_.2) ∧ (s_.2 ≠ gb189) ∧ (Below w.heap.size w w')) ?_ ?_
        rotate_left
        ·intro hJ4_5
         refine join_ (σ := Unit) 5 #[true, true, true, false, false, false, false, false] (fun s_ => [(13, .agg #[.bool t190, .int .u64 t191])]) (fun s_ w' => (w'.cell? ⟨gb187, 0, none⟩ = some (.int .u8 a1_0) ∧ w'.cell? ⟨gb187, 1, none⟩ = some (.int .u64 a1_1) ∧ w'.cell? ⟨gb187, 2, none⟩ = some (.string a1_2) ∧ w'.cell? ⟨gb188, 0, none⟩ = some (.int .u8 a2_0) ∧ w'.cell? ⟨gb188, 1, none⟩ = some (.int .u64 a2_1) ∧ w'.cell? ⟨gb188, 2, none⟩ = some (.string a2_2)) ∧ (w'.heap[gb187]? = some (.cells #[.int .u8 a1_0, .int .u64 a1_1, .string a1_2] 27 (0, 0))) ∧ (w'.heap[gb188]? = some (.cells #[.int .u8 a2_0, .int .u64 a2_1, .string a2_2] 27 (0, 0))) ∧ (w'.heap[gb189]? = some (.cells #[.int .u8 0, .int .u64 0, .string (⟨#[]⟩ : ByteArray)] 27 (0, 0))) ∧ (Below w.heap.size w w')) ?_ ?_
         rotate_left
         ·intro hJ1
          refine join_ (σ := Nat) 5 #[true, false, true, false, true, false, false, false] (fun s_ => [(8, .pointer (some ⟨s_, 0, none⟩))]) (fun s_ w' => (w'.cell? ⟨gb187, 0, none⟩ = some (.int .u8 a1_0) ∧ w'.cell? ⟨gb187, 1, none⟩ = some (.int .u64 a1_1) ∧ w'.cell? ⟨gb187, 2, none⟩ = some (.string a1_2) ∧ w'.cell? ⟨gb188, 0, none⟩ = some (.int .u8 a2_0) ∧ w'.cell? ⟨gb188, 1, none⟩ = some (.int .u64 a2_1) ∧ w'.cell? ⟨gb188, 2, none⟩ = some (.string a2_2)) ∧ (w'.heap[gb187]? = some (.cells #[.int .u8 a1_0, .int .u64 a1_1, .string a1_2] 27 (0, 0))) ∧ (w'.heap[gb188]? = some (.cells #[.int .u8 a2_0, .int .u64 a2_1, .string a2_2] 27 (0, 0))) ∧ (w'.heap[gb189]? = some (.cells #[.int .u8 0, .int .u64 0, .string (⟨#[]⟩ : ByteArray)] 27 (0, 0))) ∧ (w'.heap[s_]? = some (.cells #[.bool false, .int .u64 0] 58 (0, 0))) ∧ (w.heap.size ≤ s_) ∧ (w.heap.size ≤ s_) ∧ (gb187 ≠ s_) ∧ (s_ ≠ gb187) ∧ (gb188 ≠ s_) ∧ (s_ ≠ gb188) ∧ (gb189 ≠ s_) ∧ (s_ ≠ gb189) ∧ (Below w.heap.size w w')) ?_ ?_
          rotate_left
          ·intro hJ4
           refine join_ (σ := Nat) 5 #[true, false, true, false, false, true, false, false] (fun s_ => [(9, .pointer (some ⟨s_, 0, none⟩))]) (fun s_ w' => (w'.cell? ⟨gb187, 0, none⟩ = some (.int .u8 a1_0) ∧ w'.cell? ⟨gb187, 1, none⟩ = some (.int .u64 a1_1) ∧ w'.cell? ⟨gb187, 2, none⟩ = some (.string a1_2) ∧ w'.cell? ⟨gb188, 0, none⟩ = some (.int .u8 a2_0) ∧ w'.cell? ⟨gb188, 1, none⟩ = some (.int .u64 a2_1) ∧ w'.cell? ⟨gb188, 2, none⟩ = some (.string a2_2)) ∧ (w'.heap[gb187]? = some (.cells #[.int .u8 a1_0, .int .u64 a1_1, .string a1_2] 27 (0, 0))) ∧ (w'.heap[gb188]? = some (.cells #[.int .u8 a2_0, .int .u64 a2_1, .string a2_2] 27 (0, 0))) ∧ (w'.heap[gb189]? = some (.cells #[.int .u8 0, .int .u64 0, .string (⟨#[]⟩ : ByteArray)] 27 (0, 0))) ∧ (w'.heap[s_]? = some (.cells #[.bool false, .int .u64 0] 58 (0, 0))) ∧ (w.heap.size ≤ s_) ∧ (w.heap.size ≤ s_) ∧ (gb187 ≠ s_) ∧ (s_ ≠ gb187) ∧ (gb188 ≠ s_) ∧ (s_ ≠ gb188) ∧ (gb189 ≠ s_) ∧ (s_ ≠ gb189) ∧ (Below w.heap.size w w')) ?_ ?_
           rotate_left
           ·intro hJ5
            refine three_ (i := 1) (j := 4) (k := 5) (Ni := some 13) (Nj := some 8) (Nk := some 9) #[true, true, true, false, false, false, false, false] #[true, false, true, false, true, false, false, false] #[true, false, true, false, false, true, false, false] rfl rfl rfl rfl rfl rfl (three_of HT_.out (by kernel_rfl)) (by decide) (by decide) (by decide) (fun K hK => ?_) (fun K hK => ?_) (fun K hK => ?_)
            ·skip
             refine goes_ Try.func68 (by kernel_rfl) rfl #[.agg #[.int .u8 a1_0, .int .u64 a1_1, .string a1_2]] (by rfl) rfl rfl (by (try simp only [List.map_toArray, List.map_cons, List.map_nil]); first | done | rfl | (simp only [List.length_drop, List.length_take]; rfl)) ?_
             with_reducible refine (value_sized.calls a1_0 a1_1 a1_2 t190 t191 _ A4.out).mono ?_
             rintro e w11 ⟨rfl, hb⟩
             refine ⟨_, rfl, ?_⟩
             have n0_ := kb BK187 hb
             have n1_ := kb BK188 hb
             have n2_ := kb BK189 hb
             have n3_ := bt HB hb
             clear BK187
             clear BK188
             clear BK189
             clear HB
             have BK187 := n0_
             have BK188 := n1_
             have BK189 := n2_
             have HB := n3_
             clear n0_ n1_ n2_ n3_
             (try clear hb)
             (try clear hb2)
             (try clear hk)
             (try clear hi)
             refine hK.out _ _ ⟨bc BK187 0, bc BK187 1, bc BK187 2, bc BK188 0, bc BK188 1, bc BK188 2⟩ (fun hHeld => ?_)
             clear hK K
             refine norm_ (a' := ?_) ?_ ?_
             rotate_left
             ·show Act.put _ (some 13) _ = _
              simp only [Act.put, List.setIfInBounds_toArray, List.set_cons_zero, List.set_cons_succ, i64_w, i32_w]
              rfl
             exact norm_ (by first | (simp only [putAll, Act.put, List.setIfInBounds_toArray, List.set_cons_zero, List.set_cons_succ]; done) | (simp only [putAll, Act.put, List.setIfInBounds_toArray, List.set_cons_zero, List.set_cons_succ]; rfl)) (hJ1 () _ ⟨hHeld, (pb BK187), (pb BK188), (pb BK189), (bs HB)⟩)
            ·skip
             refine box_step ?hg (N := 8) ?hd (cs := #[.bool false, .int .u64 0]) (t := 58) ?hr ?_; (case hd => rfl); (case hg => rfl); (case hr => first | (go_simp; done) | (go_simp; rfl))
             intro gb194 hg w11 hbox hb
             have n0_ := kb BK187 hb
             have n1_ := kb BK188 hb
             have n2_ := kb BK189 hb
             have n3_ := bt HB hb
             have n4_ := Aside0.mk (hbox)
             have n5_ := gs hg HB
             have n6_ := gs hg HB
             have n7_ := nl hg BK187
             have n8_ := ng hg BK187
             have n9_ := nl hg BK188
             have n10_ := ng hg BK188
             have n11_ := nl hg BK189
             have n12_ := ng hg BK189
             clear BK187
             clear BK188
             clear BK189
             clear HB
             have BK187 := n0_
             have BK188 := n1_
             have BK189 := n2_
             have HB := n3_
             have BK194 := n4_
             have GW194 := n5_
             have GE194 := n6_
             have NB187_194 := n7_
             have NB194_187 := n8_
             have NB188_194 := n9_
             have NB194_188 := n10_
             have NB189_194 := n11_
             have NB194_189 := n12_
             clear n0_ n1_ n2_ n3_ n4_ n5_ n6_ n7_ n8_ n9_ n10_ n11_ n12_
             clear hb hbox hg
             refine hK.out _ _ ⟨bc BK187 0, bc BK187 1, bc BK187 2, bc BK188 0, bc BK188 1, bc BK188 2⟩ (fun hHeld => ?_)
             clear hK K
             refine norm_ (a' := ?_) ?_ ?_
             rotate_left
             ·show Act.put _ (some 8) _ = _
              simp only [Act.put, List.setIfInBounds_toArray, List.set_cons_zero, List.set_cons_succ, i64_w, i32_w]
              rfl
             exact norm_ (by first | (simp only [putAll, Act.put, List.setIfInBounds_toArray, List.set_cons_zero, List.set_cons_succ]; done) | (simp only [putAll, Act.put, List.setIfInBounds_toArray, List.set_cons_zero, List.set_cons_succ]; rfl)) (hJ4 (gb194) _ ⟨hHeld, (pb BK187), (pb BK188), (pb BK189), (pb BK194), GW194.out, GE194.out, NB187_194.out, NB194_187.out, NB188_194.out, NB194_188.out, NB189_194.out, NB194_189.out, (bs HB)⟩)
            ·skip
             refine box_step ?hg (N := 9) ?hd (cs := #[.bool false, .int .u64 0]) (t := 58) ?hr ?_; (case hd => rfl); (case hg => rfl); (case hr => first | (go_simp; done) | (go_simp; rfl))
             intro gb195 hg w11 hbox hb
             have n0_ := kb BK187 hb
             have n1_ := kb BK188 hb
             have n2_ := kb BK189 hb
             have n3_ := bt HB hb
             have n4_ := Aside0.mk (hbox)
             have n5_ := gs hg HB
             have n6_ := gs hg HB
             have n7_ := nl hg BK187
             have n8_ := ng hg BK187
             have n9_ := nl hg BK188
             have n10_ := ng hg BK188
             have n11_ := nl hg BK189
             have n12_ := ng hg BK189
             clear BK187
             clear BK188
             clear BK189
             clear HB
             have BK187 := n0_
             have BK188 := n1_
             have BK189 := n2_
             have HB := n3_
             have BK195 := n4_
             have GW195 := n5_
             have GE195 := n6_
             have NB187_195 := n7_
             have NB195_187 := n8_
             have NB188_195 := n9_
             have NB195_188 := n10_
             have NB189_195 := n11_
             have NB195_189 := n12_
             clear n0_ n1_ n2_ n3_ n4_ n5_ n6_ n7_ n8_ n9_ n10_ n11_ n12_
             clear hb hbox hg
             refine hK.out _ _ ⟨bc BK187 0, bc BK187 1, bc BK187 2, bc BK188 0, bc BK188 1, bc BK188 2⟩ (fun hHeld => ?_)
             clear hK K
             refine norm_ (a' := ?_) ?_ ?_
             rotate_left
             ·show Act.put _ (some 9) _ = _
              simp only [Act.put, List.setIfInBounds_toArray, List.set_cons_zero, List.set_cons_succ, i64_w, i32_w]
              rfl
             exact norm_ (by first | (simp only [putAll, Act.put, List.setIfInBounds_toArray, List.set_cons_zero, List.set_cons_succ]; done) | (simp only [putAll, Act.put, List.setIfInBounds_toArray, List.set_cons_zero, List.set_cons_succ]; rfl)) (hJ5 (gb195) _ ⟨hHeld, (pb BK187), (pb BK188), (pb BK189), (pb BK195), GW195.out, GE195.out, NB187_195.out, NB195_187.out, NB188_195.out, NB195_188.out, NB189_195.out, NB195_189.out, (bs HB)⟩)
           ·skip
            rintro gb195 w12 ⟨hS_, h0_, h1_, h2_, h3_, h4_, h5_, h6_, h7_, h8_, h9_, h10_, h11_, h12_⟩
            have n0_ : Aside0 (w12.heap[gb187]? = some (.cells #[.int .u8 a1_0, .int .u64 a1_1, .string a1_2] 27 (0, 0))) := ⟨h0_⟩
            have n1_ : Aside0 (w12.heap[gb188]? = some (.cells #[.int .u8 a2_0, .int .u64 a2_1, .string a2_2] 27 (0, 0))) := ⟨h1_⟩
            have n2_ : Aside0 (w12.heap[gb189]? = some (.cells #[.int .u8 0, .int .u64 0, .string (⟨#[]⟩ : ByteArray)] 27 (0, 0))) := ⟨h2_⟩
            have n3_ : Aside0 (w12.heap[gb195]? = some (.cells #[.bool false, .int .u64 0] 58 (0, 0))) := ⟨h3_⟩
            have n4_ : Aside0 (w.heap.size ≤ gb195) := ⟨h4_⟩
            have n5_ : Aside0 (w.heap.size ≤ gb195) := ⟨h5_⟩
            have n6_ : Aside0 (gb187 ≠ gb195) := ⟨h6_⟩
            have n7_ : Aside0 (gb195 ≠ gb187) := ⟨h7_⟩
            have n8_ : Aside0 (gb188 ≠ gb195) := ⟨h8_⟩
            have n9_ : Aside0 (gb195 ≠ gb188) := ⟨h9_⟩
            have n10_ : Aside0 (gb189 ≠ gb195) := ⟨h10_⟩
            have n11_ : Aside0 (gb195 ≠ gb189) := ⟨h11_⟩
            have n12_ : Aside0 (Below w.heap.size w w12) := ⟨h12_⟩
            clear BK187
            clear BK188
            clear BK189
            clear HB
            clear h0_ h1_ h2_ h3_ h4_ h5_ h6_ h7_ h8_ h9_ h10_ h11_ h12_
            have BK187 := n0_
            have BK188 := n1_
            have BK189 := n2_
            have BK195 := n3_
            have GW195 := n4_
            have GE195 := n5_
            have NB187_195 := n6_
            have NB195_187 := n7_
            have NB188_195 := n8_
            have NB195_188 := n9_
            have NB189_195 := n10_
            have NB195_189 := n11_
            have HB := n12_
            clear n0_ n1_ n2_ n3_ n4_ n5_ n6_ n7_ n8_ n9_ n10_ n11_ n12_
            have hHeld : w12.cell? ⟨gb187, 0, none⟩ = some (.int .u8 a1_0) ∧ w12.cell? ⟨gb187, 1, none⟩ = some (.int .u64 a1_1) ∧ w12.cell? ⟨gb187, 2, none⟩ = some (.string a1_2) ∧ w12.cell? ⟨gb188, 0, none⟩ = some (.int .u8 a2_0) ∧ w12.cell? ⟨gb188, 1, none⟩ = some (.int .u64 a2_1) ∧ w12.cell? ⟨gb188, 2, none⟩ = some (.string a2_2) := hS_
            refine norm_ (a' := ?_) ?_ ?_
            rotate_left
            ·simp only [putAll, Act.put, List.setIfInBounds_toArray, List.set_cons_zero, List.set_cons_succ]
             rfl
            refine two_ (i := 1) (j := 4) (Ni := some 13) (Nj := some 8) #[true, true, true, false, false, true, false, false] #[true, false, true, false, true, true, false, false] rfl rfl rfl rfl (two_of HT_.out (by kernel_rfl)) (by decide) (by decide) (fun K hK => ?_) (fun K hK => ?_)
            ·skip
             refine goes_ Try.func68 (by kernel_rfl) rfl #[.agg #[.int .u8 a1_0, .int .u64 a1_1, .string a1_2]] (by rfl) rfl rfl (by (try simp only [List.map_toArray, List.map_cons, List.map_nil]); first | done | rfl | (simp only [List.length_drop, List.length_take]; rfl)) ?_
             with_reducible refine (value_sized.calls a1_0 a1_1 a1_2 t190 t191 _ A4.out).mono ?_
             rintro e w13 ⟨rfl, hb⟩
             refine ⟨_, rfl, ?_⟩
             have n0_ := kb BK187 hb
             have n1_ := kb BK188 hb
             have n2_ := kb BK189 hb
             have n3_ := kb BK195 hb
             have n4_ := bt HB hb
             clear BK187
             clear BK188
             clear BK189
             clear BK195
             clear HB
             have BK187 := n0_
             have BK188 := n1_
             have BK189 := n2_
             have BK195 := n3_
             have HB := n4_
             clear n0_ n1_ n2_ n3_ n4_
             (try clear hb)
             (try clear hb2)
             (try clear hk)
             (try clear hi)
             refine hK.out _ _ ⟨bc BK187 0, bc BK187 1, bc BK187 2, bc BK188 0, bc BK188 1, bc BK188 2⟩ (fun hHeld => ?_)
             clear hK K
             refine norm_ (a' := ?_) ?_ ?_
             rotate_left
             ·show Act.put _ (some 13) _ = _
              simp only [Act.put, List.setIfInBounds_toArray, List.set_cons_zero, List.set_cons_succ, i64_w, i32_w]
              rfl
             exact norm_ (by first | (simp only [putAll, Act.put, List.setIfInBounds_toArray, List.set_cons_zero, List.set_cons_succ]; done) | (simp only [putAll, Act.put, List.setIfInBounds_toArray, List.set_cons_zero, List.set_cons_succ]; rfl)) (hJ1_5 (gb195) _ ⟨hHeld, (pb BK187), (pb BK188), (pb BK189), (pb BK195), GW195.out, GE195.out, NB187_195.out, NB195_187.out, NB188_195.out, NB195_188.out, NB189_195.out, NB195_189.out, (bs HB)⟩)
            ·skip
             refine box_step ?hg (N := 8) ?hd (cs := #[.bool false, .int .u64 0]) (t := 58) ?hr ?_; (case hd => rfl); (case hg => rfl); (case hr => first | (go_simp; done) | (go_simp; rfl))
             intro gb194 hg w13 hbox hb
             have n0_ := kb BK187 hb
             have n1_ := kb BK188 hb
             have n2_ := kb BK189 hb
             have n3_ := kb BK195 hb
             have n4_ := bt HB hb
             have n5_ := Aside0.mk (hbox)
             have n6_ := gs hg HB
             have n7_ := gs hg HB
             have n8_ := nl hg BK187
             have n9_ := ng hg BK187
             have n10_ := nl hg BK188
             have n11_ := ng hg BK188
             have n12_ := nl hg BK189
             have n13_ := ng hg BK189
             have n14_ := nl hg BK195
             have n15_ := ng hg BK195
             clear BK187
             clear BK188
             clear BK189
             clear BK195
             clear HB
             have BK187 := n0_
             have BK188 := n1_
             have BK189 := n2_
             have BK195 := n3_
             have HB := n4_
             have BK194 := n5_
             have GW194 := n6_
             have GE194 := n7_
             have NB187_194 := n8_
             have NB194_187 := n9_
             have NB188_194 := n10_
             have NB194_188 := n11_
             have NB189_194 := n12_
             have NB194_189 := n13_
             have NB195_194 := n14_
             have NB194_195 := n15_
             clear n0_ n1_ n2_ n3_ n4_ n5_ n6_ n7_ n8_ n9_ n10_ n11_ n12_ n13_ n14_ n15_
             clear hb hbox hg
             refine hK.out _ _ ⟨bc BK187 0, bc BK187 1, bc BK187 2, bc BK188 0, bc BK188 1, bc BK188 2⟩ (fun hHeld => ?_)
             clear hK K
             refine norm_ (a' := ?_) ?_ ?_
             rotate_left
             ·show Act.put _ (some 8) _ = _
              simp only [Act.put, List.setIfInBounds_toArray, List.set_cons_zero, List.set_cons_succ, i64_w, i32_w]
              rfl
             exact norm_ (by first | (simp only [putAll, Act.put, List.setIfInBounds_toArray, List.set_cons_zero, List.set_cons_succ]; done) | (simp only [putAll, Act.put, List.setIfInBounds_toArray, List.set_cons_zero, List.set_cons_succ]; rfl)) (hJ4_5 (gb194, gb195) _ ⟨hHeld, (pb BK187), (pb BK188), (pb BK189), (pb BK194), (pb BK195), GW194.out, GE194.out, NB187_194.out, NB194_187.out, NB188_194.out, NB194_188.out, NB189_194.out, NB194_189.out, NB195_194.out, NB194_195.out, GW195.out, GE195.out, NB187_195.out, NB195_187.out, NB188_195.out, NB195_188.out, NB189_195.out, NB195_189.out, (bs HB)⟩)
          ·skip
           rintro gb194 w12 ⟨hS_, h0_, h1_, h2_, h3_, h4_, h5_, h6_, h7_, h8_, h9_, h10_, h11_, h12_⟩
           have n0_ : Aside0 (w12.heap[gb187]? = some (.cells #[.int .u8 a1_0, .int .u64 a1_1, .string a1_2] 27 (0, 0))) := ⟨h0_⟩
           have n1_ : Aside0 (w12.heap[gb188]? = some (.cells #[.int .u8 a2_0, .int .u64 a2_1, .string a2_2] 27 (0, 0))) := ⟨h1_⟩
           have n2_ : Aside0 (w12.heap[gb189]? = some (.cells #[.int .u8 0, .int .u64 0, .string (⟨#[]⟩ : ByteArray)] 27 (0, 0))) := ⟨h2_⟩
           have n3_ : Aside0 (w12.heap[gb194]? = some (.cells #[.bool false, .int .u64 0] 58 (0, 0))) := ⟨h3_⟩
           have n4_ : Aside0 (w.heap.size ≤ gb194) := ⟨h4_⟩
           have n5_ : Aside0 (w.heap.size ≤ gb194) := ⟨h5_⟩
           have n6_ : Aside0 (gb187 ≠ gb194) := ⟨h6_⟩
           have n7_ : Aside0 (gb194 ≠ gb187) := ⟨h7_⟩
           have n8_ : Aside0 (gb188 ≠ gb194) := ⟨h8_⟩
           have n9_ : Aside0 (gb194 ≠ gb188) := ⟨h9_⟩
           have n10_ : Aside0 (gb189 ≠ gb194) := ⟨h10_⟩
           have n11_ : Aside0 (gb194 ≠ gb189) := ⟨h11_⟩
           have n12_ : Aside0 (Below w.heap.size w w12) := ⟨h12_⟩
           clear BK187
           clear BK188
           clear BK189
           clear HB
           clear h0_ h1_ h2_ h3_ h4_ h5_ h6_ h7_ h8_ h9_ h10_ h11_ h12_
           have BK187 := n0_
           have BK188 := n1_
           have BK189 := n2_
           have BK194 := n3_
           have GW194 := n4_
           have GE194 := n5_
           have NB187_194 := n6_
           have NB194_187 := n7_
           have NB188_194 := n8_
           have NB194_188 := n9_
           have NB189_194 := n10_
           have NB194_189 := n11_
           have HB := n12_
           clear n0_ n1_ n2_ n3_ n4_ n5_ n6_ n7_ n8_ n9_ n10_ n11_ n12_
           have hHeld : w12.cell? ⟨gb187, 0, none⟩ = some (.int .u8 a1_0) ∧ w12.cell? ⟨gb187, 1, none⟩ = some (.int .u64 a1_1) ∧ w12.cell? ⟨gb187, 2, none⟩ = some (.string a1_2) ∧ w12.cell? ⟨gb188, 0, none⟩ = some (.int .u8 a2_0) ∧ w12.cell? ⟨gb188, 1, none⟩ = some (.int .u64 a2_1) ∧ w12.cell? ⟨gb188, 2, none⟩ = some (.string a2_2) := hS_
           refine norm_ (a' := ?_) ?_ ?_
           rotate_left
           ·simp only [putAll, Act.put, List.setIfInBounds_toArray, List.set_cons_zero, List.set_cons_succ]
            rfl
           refine two_ (i := 1) (j := 5) (Ni := some 13) (Nj := some 9) #[true, true, true, false, true, false, false, false] #[true, false, true, false, true, true, false, false] rfl rfl rfl rfl (two_of HT_.out (by kernel_rfl)) (by decide) (by decide) (fun K hK => ?_) (fun K hK => ?_)
           ·skip
            refine goes_ Try.func68 (by kernel_rfl) rfl #[.agg #[.int .u8 a1_0, .int .u64 a1_1, .string a1_2]] (by rfl) rfl rfl (by (try simp only [List.map_toArray, List.map_cons, List.map_nil]); first | done | rfl | (simp only [List.length_drop, List.length_take]; rfl)) ?_
            with_reducible refine (value_sized.calls a1_0 a1_1 a1_2 t190 t191 _ A4.out).mono ?_
            rintro e w13 ⟨rfl, hb⟩
            refine ⟨_, rfl, ?_⟩
            have n0_ := kb BK187 hb
            have n1_ := kb BK188 hb
            have n2_ := kb BK189 hb
            have n3_ := kb BK194 hb
            have n4_ := bt HB hb
            clear BK187
            clear BK188
            clear BK189
            clear BK194
            clear HB
            have BK187 := n0_
            have BK188 := n1_
            have BK189 := n2_
            have BK194 := n3_
            have HB := n4_
            clear n0_ n1_ n2_ n3_ n4_
            (try clear hb)
            (try clear hb2)
            (try clear hk)
            (try clear hi)
            refine hK.out _ _ ⟨bc BK187 0, bc BK187 1, bc BK187 2, bc BK188 0, bc BK188 1, bc BK188 2⟩ (fun hHeld => ?_)
            clear hK K
            refine norm_ (a' := ?_) ?_ ?_
            rotate_left
            ·show Act.put _ (some 13) _ = _
             simp only [Act.put, List.setIfInBounds_toArray, List.set_cons_zero, List.set_cons_succ, i64_w, i32_w]
             rfl
            exact norm_ (by first | (simp only [putAll, Act.put, List.setIfInBounds_toArray, List.set_cons_zero, List.set_cons_succ]; done) | (simp only [putAll, Act.put, List.setIfInBounds_toArray, List.set_cons_zero, List.set_cons_succ]; rfl)) (hJ1_4 (gb194) _ ⟨hHeld, (pb BK187), (pb BK188), (pb BK189), (pb BK194), GW194.out, GE194.out, NB187_194.out, NB194_187.out, NB188_194.out, NB194_188.out, NB189_194.out, NB194_189.out, (bs HB)⟩)
           ·skip
            refine box_step ?hg (N := 9) ?hd (cs := #[.bool false, .int .u64 0]) (t := 58) ?hr ?_; (case hd => rfl); (case hg => rfl); (case hr => first | (go_simp; done) | (go_simp; rfl))
            intro gb195 hg w13 hbox hb
            have n0_ := kb BK187 hb
            have n1_ := kb BK188 hb
            have n2_ := kb BK189 hb
            have n3_ := kb BK194 hb
            have n4_ := bt HB hb
            have n5_ := Aside0.mk (hbox)
            have n6_ := gs hg HB
            have n7_ := gs hg HB
            have n8_ := nl hg BK187
            have n9_ := ng hg BK187
            have n10_ := nl hg BK188
            have n11_ := ng hg BK188
            have n12_ := nl hg BK189
            have n13_ := ng hg BK189
            have n14_ := nl hg BK194
            have n15_ := ng hg BK194
            clear BK187
            clear BK188
            clear BK189
            clear BK194
            clear HB
            have BK187 := n0_
            have BK188 := n1_
            have BK189 := n2_
            have BK194 := n3_
            have HB := n4_
            have BK195 := n5_
            have GW195 := n6_
            have GE195 := n7_
            have NB187_195 := n8_
            have NB195_187 := n9_
            have NB188_195 := n10_
            have NB195_188 := n11_
            have NB189_195 := n12_
            have NB195_189 := n13_
            have NB194_195 := n14_
            have NB195_194 := n15_
            clear n0_ n1_ n2_ n3_ n4_ n5_ n6_ n7_ n8_ n9_ n10_ n11_ n12_ n13_ n14_ n15_
            clear hb hbox hg
            refine hK.out _ _ ⟨bc BK187 0, bc BK187 1, bc BK187 2, bc BK188 0, bc BK188 1, bc BK188 2⟩ (fun hHeld => ?_)
            clear hK K
            refine norm_ (a' := ?_) ?_ ?_
            rotate_left
            ·show Act.put _ (some 9) _ = _
             simp only [Act.put, List.setIfInBounds_toArray, List.set_cons_zero, List.set_cons_succ, i64_w, i32_w]
             rfl
            exact norm_ (by first | (simp only [putAll, Act.put, List.setIfInBounds_toArray, List.set_cons_zero, List.set_cons_succ]; done) | (simp only [putAll, Act.put, List.setIfInBounds_toArray, List.set_cons_zero, List.set_cons_succ]; rfl)) (hJ4_5 (gb194, gb195) _ ⟨hHeld, (pb BK187), (pb BK188), (pb BK189), (pb BK194), (pb BK195), GW194.out, GE194.out, NB187_194.out, NB194_187.out, NB188_194.out, NB194_188.out, NB189_194.out, NB194_189.out, NB195_194.out, NB194_195.out, GW195.out, GE195.out, NB187_195.out, NB195_187.out, NB188_195.out, NB195_188.out, NB189_195.out, NB195_189.out, (bs HB)⟩)
         ·skip
          rintro _ w12 ⟨hS_, h0_, h1_, h2_, h3_⟩
          have n0_ : Aside0 (w12.heap[gb187]? = some (.cells #[.int .u8 a1_0, .int .u64 a1_1, .string a1_2] 27 (0, 0))) := ⟨h0_⟩
          have n1_ : Aside0 (w12.heap[gb188]? = some (.cells #[.int .u8 a2_0, .int .u64 a2_1, .string a2_2] 27 (0, 0))) := ⟨h1_⟩
          have n2_ : Aside0 (w12.heap[gb189]? = some (.cells #[.int .u8 0, .int .u64 0, .string (⟨#[]⟩ : ByteArray)] 27 (0, 0))) := ⟨h2_⟩
          have n3_ : Aside0 (Below w.heap.size w w12) := ⟨h3_⟩
          clear BK187
          clear BK188
          clear BK189
          clear HB
          clear h0_ h1_ h2_ h3_
          have BK187 := n0_
          have BK188 := n1_
          have BK189 := n2_
          have HB := n3_
          clear n0_ n1_ n2_ n3_
          have hHeld : w12.cell? ⟨gb187, 0, none⟩ = some (.int .u8 a1_0) ∧ w12.cell? ⟨gb187, 1, none⟩ = some (.int .u64 a1_1) ∧ w12.cell? ⟨gb187, 2, none⟩ = some (.string a1_2) ∧ w12.cell? ⟨gb188, 0, none⟩ = some (.int .u8 a2_0) ∧ w12.cell? ⟨gb188, 1, none⟩ = some (.int .u64 a2_1) ∧ w12.cell? ⟨gb188, 2, none⟩ = some (.string a2_2) := hS_
          refine norm_ (a' := ?_) ?_ ?_
          rotate_left
          ·simp only [putAll, Act.put, List.setIfInBounds_toArray, List.set_cons_zero, List.set_cons_succ]
           rfl
          refine three_ (i := 3) (j := 4) (k := 5) (Ni := some 15) (Nj := some 8) (Nk := some 9) #[true, true, true, true, false, false, false, false] #[true, true, true, false, true, false, false, false] #[true, true, true, false, false, true, false, false] rfl rfl rfl rfl rfl rfl (three_of HT_.out (by kernel_rfl)) (by decide) (by decide) (by decide) (fun K hK => ?_) (fun K hK => ?_) (fun K hK => ?_)
          ·skip
           refine goes_ Try.func68 (by kernel_rfl) rfl #[.agg #[.int .u8 a2_0, .int .u64 a2_1, .string a2_2]] (by rfl) rfl rfl (by (try simp only [List.map_toArray, List.map_cons, List.map_nil]); first | done | rfl | (simp only [List.length_drop, List.length_take]; rfl)) ?_
           with_reducible refine (value_sized.calls a2_0 a2_1 a2_2 t192 t193 _ A5.out).mono ?_
           rintro e w13 ⟨rfl, hb⟩
           refine ⟨_, rfl, ?_⟩
           have n0_ := kb BK187 hb
           have n1_ := kb BK188 hb
           have n2_ := kb BK189 hb
           have n3_ := bt HB hb
           clear BK187
           clear BK188
           clear BK189
           clear HB
           have BK187 := n0_
           have BK188 := n1_
           have BK189 := n2_
           have HB := n3_
           clear n0_ n1_ n2_ n3_
           (try clear hb)
           (try clear hb2)
           (try clear hk)
           (try clear hi)
           refine hK.out _ _ ⟨bc BK187 0, bc BK187 1, bc BK187 2, bc BK188 0, bc BK188 1, bc BK188 2⟩ (fun hHeld => ?_)
           clear hK K
           refine norm_ (a' := ?_) ?_ ?_
           rotate_left
           ·show Act.put _ (some 15) _ = _
            simp only [Act.put, List.setIfInBounds_toArray, List.set_cons_zero, List.set_cons_succ, i64_w, i32_w]
            rfl
           exact norm_ (by first | (simp only [putAll, Act.put, List.setIfInBounds_toArray, List.set_cons_zero, List.set_cons_succ]; done) | (simp only [putAll, Act.put, List.setIfInBounds_toArray, List.set_cons_zero, List.set_cons_succ]; rfl)) (hJ1_3 () _ ⟨hHeld, (pb BK187), (pb BK188), (pb BK189), (bs HB)⟩)
          ·skip
           refine box_step ?hg (N := 8) ?hd (cs := #[.bool false, .int .u64 0]) (t := 58) ?hr ?_; (case hd => rfl); (case hg => rfl); (case hr => first | (go_simp; done) | (go_simp; rfl))
           intro gb194 hg w13 hbox hb
           have n0_ := kb BK187 hb
           have n1_ := kb BK188 hb
           have n2_ := kb BK189 hb
           have n3_ := bt HB hb
           have n4_ := Aside0.mk (hbox)
           have n5_ := gs hg HB
           have n6_ := gs hg HB
           have n7_ := nl hg BK187
           have n8_ := ng hg BK187
           have n9_ := nl hg BK188
           have n10_ := ng hg BK188
           have n11_ := nl hg BK189
           have n12_ := ng hg BK189
           clear BK187
           clear BK188
           clear BK189
           clear HB
           have BK187 := n0_
           have BK188 := n1_
           have BK189 := n2_
           have HB := n3_
           have BK194 := n4_
           have GW194 := n5_
           have GE194 := n6_
           have NB187_194 := n7_
           have NB194_187 := n8_
           have NB188_194 := n9_
           have NB194_188 := n10_
           have NB189_194 := n11_
           have NB194_189 := n12_
           clear n0_ n1_ n2_ n3_ n4_ n5_ n6_ n7_ n8_ n9_ n10_ n11_ n12_
           clear hb hbox hg
           refine hK.out _ _ ⟨bc BK187 0, bc BK187 1, bc BK187 2, bc BK188 0, bc BK188 1, bc BK188 2⟩ (fun hHeld => ?_)
           clear hK K
           refine norm_ (a' := ?_) ?_ ?_
           rotate_left
           ·show Act.put _ (some 8) _ = _
            simp only [Act.put, List.setIfInBounds_toArray, List.set_cons_zero, List.set_cons_succ, i64_w, i32_w]
            rfl
           exact norm_ (by first | (simp only [putAll, Act.put, List.setIfInBounds_toArray, List.set_cons_zero, List.set_cons_succ]; done) | (simp only [putAll, Act.put, List.setIfInBounds_toArray, List.set_cons_zero, List.set_cons_succ]; rfl)) (hJ1_4 (gb194) _ ⟨hHeld, (pb BK187), (pb BK188), (pb BK189), (pb BK194), GW194.out, GE194.out, NB187_194.out, NB194_187.out, NB188_194.out, NB194_188.out, NB189_194.out, NB194_189.out, (bs HB)⟩)
          ·skip
           refine box_step ?hg (N := 9) ?hd (cs := #[.bool false, .int .u64 0]) (t := 58) ?hr ?_; (case hd => rfl); (case hg => rfl); (case hr => first | (go_simp; done) | (go_simp; rfl))
           intro gb195 hg w13 hbox hb
           have n0_ := kb BK187 hb
           have n1_ := kb BK188 hb
           have n2_ := kb BK189 hb
           have n3_ := bt HB hb
           have n4_ := Aside0.mk (hbox)
           have n5_ := gs hg HB
           have n6_ := gs hg HB
           have n7_ := nl hg BK187
           have n8_ := ng hg BK187
           have n9_ := nl hg BK188
           have n10_ := ng hg BK188
           have n11_ := nl hg BK189
           have n12_ := ng hg BK189
           clear BK187
           clear BK188
           clear BK189
           clear HB
           have BK187 := n0_
           have BK188 := n1_
           have BK189 := n2_
           have HB := n3_
           have BK195 := n4_
           have GW195 := n5_
           have GE195 := n6_
           have NB187_195 := n7_
           have NB195_187 := n8_
           have NB188_195 := n9_
           have NB195_188 := n10_
           have NB189_195 := n11_
           have NB195_189 := n12_
           clear n0_ n1_ n2_ n3_ n4_ n5_ n6_ n7_ n8_ n9_ n10_ n11_ n12_
           clear hb hbox hg
           refine hK.out _ _ ⟨bc BK187 0, bc BK187 1, bc BK187 2, bc BK188 0, bc BK188 1, bc BK188 2⟩ (fun hHeld => ?_)
           clear hK K
           refine norm_ (a' := ?_) ?_ ?_
           rotate_left
           ·show Act.put _ (some 9) _ = _
            simp only [Act.put, List.setIfInBounds_toArray, List.set_cons_zero, List.set_cons_succ, i64_w, i32_w]
            rfl
           exact norm_ (by first | (simp only [putAll, Act.put, List.setIfInBounds_toArray, List.set_cons_zero, List.set_cons_succ]; done) | (simp only [putAll, Act.put, List.setIfInBounds_toArray, List.set_cons_zero, List.set_cons_succ]; rfl)) (hJ1_5 (gb195) _ ⟨hHeld, (pb BK187), (pb BK188), (pb BK189), (pb BK195), GW195.out, GE195.out, NB187_195.out, NB195_187.out, NB188_195.out, NB195_188.out, NB189_195.out, NB195_189.out, (bs HB)⟩)
        ·skip
         rintro ⟨gb194, gb195⟩ w13 ⟨hS_, h0_, h1_, h2_, h3_, h4_, h5_, h6_, h7_, h8_, h9_, h10_, h11_, h12_, h13_, h14_, h15_, h16_, h17_, h18_, h19_, h20_, h21_, h22_, h23_⟩
         have n0_ : Aside0 (w13.heap[gb187]? = some (.cells #[.int .u8 a1_0, .int .u64 a1_1, .string a1_2] 27 (0, 0))) := ⟨h0_⟩
         have n1_ : Aside0 (w13.heap[gb188]? = some (.cells #[.int .u8 a2_0, .int .u64 a2_1, .string a2_2] 27 (0, 0))) := ⟨h1_⟩
         have n2_ : Aside0 (w13.heap[gb189]? = some (.cells #[.int .u8 0, .int .u64 0, .string (⟨#[]⟩ : ByteArray)] 27 (0, 0))) := ⟨h2_⟩
         have n3_ : Aside0 (w13.heap[gb194]? = some (.cells #[.bool false, .int .u64 0] 58 (0, 0))) := ⟨h3_⟩
         have n4_ : Aside0 (w13.heap[gb195]? = some (.cells #[.bool false, .int .u64 0] 58 (0, 0))) := ⟨h4_⟩
         have n5_ : Aside0 (w.heap.size ≤ gb194) := ⟨h5_⟩
         have n6_ : Aside0 (w.heap.size ≤ gb194) := ⟨h6_⟩
         have n7_ : Aside0 (gb187 ≠ gb194) := ⟨h7_⟩
         have n8_ : Aside0 (gb194 ≠ gb187) := ⟨h8_⟩
         have n9_ : Aside0 (gb188 ≠ gb194) := ⟨h9_⟩
         have n10_ : Aside0 (gb194 ≠ gb188) := ⟨h10_⟩
         have n11_ : Aside0 (gb189 ≠ gb194) := ⟨h11_⟩
         have n12_ : Aside0 (gb194 ≠ gb189) := ⟨h12_⟩
         have n13_ : Aside0 (gb195 ≠ gb194) := ⟨h13_⟩
         have n14_ : Aside0 (gb194 ≠ gb195) := ⟨h14_⟩
         have n15_ : Aside0 (w.heap.size ≤ gb195) := ⟨h15_⟩
         have n16_ : Aside0 (w.heap.size ≤ gb195) := ⟨h16_⟩
         have n17_ : Aside0 (gb187 ≠ gb195) := ⟨h17_⟩
         have n18_ : Aside0 (gb195 ≠ gb187) := ⟨h18_⟩
         have n19_ : Aside0 (gb188 ≠ gb195) := ⟨h19_⟩
         have n20_ : Aside0 (gb195 ≠ gb188) := ⟨h20_⟩
         have n21_ : Aside0 (gb189 ≠ gb195) := ⟨h21_⟩
         have n22_ : Aside0 (gb195 ≠ gb189) := ⟨h22_⟩
         have n23_ : Aside0 (Below w.heap.size w w13) := ⟨h23_⟩
         clear BK187
         clear BK188
         clear BK189
         clear HB
         clear h0_ h1_ h2_ h3_ h4_ h5_ h6_ h7_ h8_ h9_ h10_ h11_ h12_ h13_ h14_ h15_ h16_ h17_ h18_ h19_ h20_ h21_ h22_ h23_
         have BK187 := n0_
         have BK188 := n1_
         have BK189 := n2_
         have BK194 := n3_
         have BK195 := n4_
         have GW194 := n5_
         have GE194 := n6_
         have NB187_194 := n7_
         have NB194_187 := n8_
         have NB188_194 := n9_
         have NB194_188 := n10_
         have NB189_194 := n11_
         have NB194_189 := n12_
         have NB195_194 := n13_
         have NB194_195 := n14_
         have GW195 := n15_
         have GE195 := n16_
         have NB187_195 := n17_
         have NB195_187 := n18_
         have NB188_195 := n19_
         have NB195_188 := n20_
         have NB189_195 := n21_
         have NB195_189 := n22_
         have HB := n23_
         clear n0_ n1_ n2_ n3_ n4_ n5_ n6_ n7_ n8_ n9_ n10_ n11_ n12_ n13_ n14_ n15_ n16_ n17_ n18_ n19_ n20_ n21_ n22_ n23_
         have hHeld : w13.cell? ⟨gb187, 0, none⟩ = some (.int .u8 a1_0) ∧ w13.cell? ⟨gb187, 1, none⟩ = some (.int .u64 a1_1) ∧ w13.cell? ⟨gb187, 2, none⟩ = some (.string a1_2) ∧ w13.cell? ⟨gb188, 0, none⟩ = some (.int .u8 a2_0) ∧ w13.cell? ⟨gb188, 1, none⟩ = some (.int .u64 a2_1) ∧ w13.cell? ⟨gb188, 2, none⟩ = some (.string a2_2) := hS_
         refine norm_ (a' := ?_) ?_ ?_
         rotate_left
         ·simp only [putAll, Act.put, List.setIfInBounds_toArray, List.set_cons_zero, List.set_cons_succ]
          rfl
         refine one_ (i := 1) (N := some 13) #[true, true, true, false, true, true, false, false] rfl rfl (one_of HT_.out (by kernel_rfl)) (by decide) (fun K hK => ?_)
         refine goes_ Try.func68 (by kernel_rfl) rfl #[.agg #[.int .u8 a1_0, .int .u64 a1_1, .string a1_2]] (by rfl) rfl rfl (by (try simp only [List.map_toArray, List.map_cons, List.map_nil]); first | done | rfl | (simp only [List.length_drop, List.length_take]; rfl)) ?_
         with_reducible refine (value_sized.calls a1_0 a1_1 a1_2 t190 t191 _ A4.out).mono ?_
         rintro e w14 ⟨rfl, hb⟩
         refine ⟨_, rfl, ?_⟩
         have n0_ := kb BK187 hb
         have n1_ := kb BK188 hb
         have n2_ := kb BK189 hb
         have n3_ := kb BK194 hb
         have n4_ := kb BK195 hb
         have n5_ := bt HB hb
         clear BK187
         clear BK188
         clear BK189
         clear BK194
         clear BK195
         clear HB
         have BK187 := n0_
         have BK188 := n1_
         have BK189 := n2_
         have BK194 := n3_
         have BK195 := n4_
         have HB := n5_
         clear n0_ n1_ n2_ n3_ n4_ n5_
         (try clear hb)
         (try clear hb2)
         (try clear hk)
         (try clear hi)
         refine hK.out _ _ ⟨bc BK187 0, bc BK187 1, bc BK187 2, bc BK188 0, bc BK188 1, bc BK188 2⟩ (fun hHeld => ?_)
         clear hK K
         refine norm_ (a' := ?_) ?_ ?_
         rotate_left
         ·show Act.put _ (some 13) _ = _
          simp only [Act.put, List.setIfInBounds_toArray, List.set_cons_zero, List.set_cons_succ, i64_w, i32_w]
          rfl
         exact norm_ (by first | (simp only [putAll, Act.put, List.setIfInBounds_toArray, List.set_cons_zero, List.set_cons_succ]; done) | (simp only [putAll, Act.put, List.setIfInBounds_toArray, List.set_cons_zero, List.set_cons_succ]; rfl)) (hJ1_4_5 (gb194, gb195) _ ⟨hHeld, (pb BK187), (pb BK188), (pb BK189), (pb BK194), (pb BK195), GW194.out, GE194.out, NB187_194.out, NB194_187.out, NB188_194.out, NB194_188.out, NB189_194.out, NB194_189.out, NB195_194.out, NB194_195.out, GW195.out, GE195.out, NB187_195.out, NB195_187.out, NB188_195.out, NB195_188.out, NB189_195.out, NB195_189.out, (bs HB)⟩)
       ·skip
        rintro gb195 w13 ⟨hS_, h0_, h1_, h2_, h3_, h4_, h5_, h6_, h7_, h8_, h9_, h10_, h11_, h12_⟩
        have n0_ : Aside0 (w13.heap[gb187]? = some (.cells #[.int .u8 a1_0, .int .u64 a1_1, .string a1_2] 27 (0, 0))) := ⟨h0_⟩
        have n1_ : Aside0 (w13.heap[gb188]? = some (.cells #[.int .u8 a2_0, .int .u64 a2_1, .string a2_2] 27 (0, 0))) := ⟨h1_⟩
        have n2_ : Aside0 (w13.heap[gb189]? = some (.cells #[.int .u8 0, .int .u64 0, .string (⟨#[]⟩ : ByteArray)] 27 (0, 0))) := ⟨h2_⟩
        have n3_ : Aside0 (w13.heap[gb195]? = some (.cells #[.bool false, .int .u64 0] 58 (0, 0))) := ⟨h3_⟩
        have n4_ : Aside0 (w.heap.size ≤ gb195) := ⟨h4_⟩
        have n5_ : Aside0 (w.heap.size ≤ gb195) := ⟨h5_⟩
        have n6_ : Aside0 (gb187 ≠ gb195) := ⟨h6_⟩
        have n7_ : Aside0 (gb195 ≠ gb187) := ⟨h7_⟩
        have n8_ : Aside0 (gb188 ≠ gb195) := ⟨h8_⟩
        have n9_ : Aside0 (gb195 ≠ gb188) := ⟨h9_⟩
        have n10_ : Aside0 (gb189 ≠ gb195) := ⟨h10_⟩
        have n11_ : Aside0 (gb195 ≠ gb189) := ⟨h11_⟩
        have n12_ : Aside0 (Below w.heap.size w w13) := ⟨h12_⟩
        clear BK187
        clear BK188
        clear BK189
        clear HB
        clear h0_ h1_ h2_ h3_ h4_ h5_ h6_ h7_ h8_ h9_ h10_ h11_ h12_
        have BK187 := n0_
        have BK188 := n1_
        have BK189 := n2_
        have BK195 := n3_
        have GW195 := n4_
        have GE195 := n5_
        have NB187_195 := n6_
        have NB195_187 := n7_
        have NB188_195 := n8_
        have NB195_188 := n9_
        have NB189_195 := n10_
        have NB195_189 := n11_
        have HB := n12_
        clear n0_ n1_ n2_ n3_ n4_ n5_ n6_ n7_ n8_ n9_ n10_ n11_ n12_
        have hHeld : w13.cell? ⟨gb187, 0, none⟩ = some (.int .u8 a1_0) ∧ w13.cell? ⟨gb187, 1, none⟩ = some (.int .u64 a1_1) ∧ w13.cell? ⟨gb187, 2, none⟩ = some (.string a1_2) ∧ w13.cell? ⟨gb188, 0, none⟩ = some (.int .u8 a2_0) ∧ w13.cell? ⟨gb188, 1, none⟩ = some (.int .u64 a2_1) ∧ w13.cell? ⟨gb188, 2, none⟩ = some (.string a2_2) := hS_
        refine norm_ (a' := ?_) ?_ ?_
        rotate_left
        ·simp only [putAll, Act.put, List.setIfInBounds_toArray, List.set_cons_zero, List.set_cons_succ]
         rfl
        refine two_ (i := 3) (j := 4) (Ni := some 15) (Nj := some 8) #[true, true, true, true, false, true, false, false] #[true, true, true, false, true, true, false, false] rfl rfl rfl rfl (two_of HT_.out (by kernel_rfl)) (by decide) (by decide) (fun K hK => ?_) (fun K hK => ?_)
        ·skip
         refine goes_ Try.func68 (by kernel_rfl) rfl #[.agg #[.int .u8 a2_0, .int .u64 a2_1, .string a2_2]] (by rfl) rfl rfl (by (try simp only [List.map_toArray, List.map_cons, List.map_nil]); first | done | rfl | (simp only [List.length_drop, List.length_take]; rfl)) ?_
         with_reducible refine (value_sized.calls a2_0 a2_1 a2_2 t192 t193 _ A5.out).mono ?_
         rintro e w14 ⟨rfl, hb⟩
         refine ⟨_, rfl, ?_⟩
         have n0_ := kb BK187 hb
         have n1_ := kb BK188 hb
         have n2_ := kb BK189 hb
         have n3_ := kb BK195 hb
         have n4_ := bt HB hb
         clear BK187
         clear BK188
         clear BK189
         clear BK195
         clear HB
         have BK187 := n0_
         have BK188 := n1_
         have BK189 := n2_
         have BK195 := n3_
         have HB := n4_
         clear n0_ n1_ n2_ n3_ n4_
         (try clear hb)
         (try clear hb2)
         (try clear hk)
         (try clear hi)
         refine hK.out _ _ ⟨bc BK187 0, bc BK187 1, bc BK187 2, bc BK188 0, bc BK188 1, bc BK188 2⟩ (fun hHeld => ?_)
         clear hK K
         refine norm_ (a' := ?_) ?_ ?_
         rotate_left
         ·show Act.put _ (some 15) _ = _
          simp only [Act.put, List.setIfInBounds_toArray, List.set_cons_zero, List.set_cons_succ, i64_w, i32_w]
          rfl
         exact norm_ (by first | (simp only [putAll, Act.put, List.setIfInBounds_toArray, List.set_cons_zero, List.set_cons_succ]; done) | (simp only [putAll, Act.put, List.setIfInBounds_toArray, List.set_cons_zero, List.set_cons_succ]; rfl)) (hJ1_3_5 (gb195) _ ⟨hHeld, (pb BK187), (pb BK188), (pb BK189), (pb BK195), GW195.out, GE195.out, NB187_195.out, NB195_187.out, NB188_195.out, NB195_188.out, NB189_195.out, NB195_189.out, (bs HB)⟩)
        ·skip
         refine box_step ?hg (N := 8) ?hd (cs := #[.bool false, .int .u64 0]) (t := 58) ?hr ?_; (case hd => rfl); (case hg => rfl); (case hr => first | (go_simp; done) | (go_simp; rfl))
         intro gb194 hg w14 hbox hb
         have n0_ := kb BK187 hb
         have n1_ := kb BK188 hb
         have n2_ := kb BK189 hb
         have n3_ := kb BK195 hb
         have n4_ := bt HB hb
         have n5_ := Aside0.mk (hbox)
         have n6_ := gs hg HB
         have n7_ := gs hg HB
         have n8_ := nl hg BK187
         have n9_ := ng hg BK187
         have n10_ := nl hg BK188
         have n11_ := ng hg BK188
         have n12_ := nl hg BK189
         have n13_ := ng hg BK189
         have n14_ := nl hg BK195
         have n15_ := ng hg BK195
         clear BK187
         clear BK188
         clear BK189
         clear BK195
         clear HB
         have BK187 := n0_
         have BK188 := n1_
         have BK189 := n2_
         have BK195 := n3_
         have HB := n4_
         have BK194 := n5_
         have GW194 := n6_
         have GE194 := n7_
         have NB187_194 := n8_
         have NB194_187 := n9_
         have NB188_194 := n10_
         have NB194_188 := n11_
         have NB189_194 := n12_
         have NB194_189 := n13_
         have NB195_194 := n14_
         have NB194_195 := n15_
         clear n0_ n1_ n2_ n3_ n4_ n5_ n6_ n7_ n8_ n9_ n10_ n11_ n12_ n13_ n14_ n15_
         clear hb hbox hg
         refine hK.out _ _ ⟨bc BK187 0, bc BK187 1, bc BK187 2, bc BK188 0, bc BK188 1, bc BK188 2⟩ (fun hHeld => ?_)
         clear hK K
         refine norm_ (a' := ?_) ?_ ?_
         rotate_left
         ·show Act.put _ (some 8) _ = _
          simp only [Act.put, List.setIfInBounds_toArray, List.set_cons_zero, List.set_cons_succ, i64_w, i32_w]
          rfl
         exact norm_ (by first | (simp only [putAll, Act.put, List.setIfInBounds_toArray, List.set_cons_zero, List.set_cons_succ]; done) | (simp only [putAll, Act.put, List.setIfInBounds_toArray, List.set_cons_zero, List.set_cons_succ]; rfl)) (hJ1_4_5 (gb194, gb195) _ ⟨hHeld, (pb BK187), (pb BK188), (pb BK189), (pb BK194), (pb BK195), GW194.out, GE194.out, NB187_194.out, NB194_187.out, NB188_194.out, NB194_188.out, NB189_194.out, NB194_189.out, NB195_194.out, NB194_195.out, GW195.out, GE195.out, NB187_195.out, NB195_187.out, NB188_195.out, NB195_188.out, NB189_195.out, NB195_189.out, (bs HB)⟩)
      ·skip
       rintro gb194 w13 ⟨hS_, h0_, h1_, h2_, h3_, h4_, h5_, h6_, h7_, h8_, h9_, h10_, h11_, h12_⟩
       have n0_ : Aside0 (w13.heap[gb187]? = some (.cells #[.int .u8 a1_0, .int .u64 a1_1, .string a1_2] 27 (0, 0))) := ⟨h0_⟩
       have n1_ : Aside0 (w13.heap[gb188]? = some (.cells #[.int .u8 a2_0, .int .u64 a2_1, .string a2_2] 27 (0, 0))) := ⟨h1_⟩
       have n2_ : Aside0 (w13.heap[gb189]? = some (.cells #[.int .u8 0, .int .u64 0, .string (⟨#[]⟩ : ByteArray)] 27 (0, 0))) := ⟨h2_⟩
       have n3_ : Aside0 (w13.heap[gb194]? = some (.cells #[.bool false, .int .u64 0] 58 (0, 0))) := ⟨h3_⟩
       have n4_ : Aside0 (w.heap.size ≤ gb194) := ⟨h4_⟩
       have n5_ : Aside0 (w.heap.size ≤ gb194) := ⟨h5_⟩
       have n6_ : Aside0 (gb187 ≠ gb194) := ⟨h6_⟩
       have n7_ : Aside0 (gb194 ≠ gb187) := ⟨h7_⟩
       have n8_ : Aside0 (gb188 ≠ gb194) := ⟨h8_⟩
       have n9_ : Aside0 (gb194 ≠ gb188) := ⟨h9_⟩
       have n10_ : Aside0 (gb189 ≠ gb194) := ⟨h10_⟩
       have n11_ : Aside0 (gb194 ≠ gb189) := ⟨h11_⟩
       have n12_ : Aside0 (Below w.heap.size w w13) := ⟨h12_⟩
       clear BK187
       clear BK188
       clear BK189
       clear HB
       clear h0_ h1_ h2_ h3_ h4_ h5_ h6_ h7_ h8_ h9_ h10_ h11_ h12_
       have BK187 := n0_
       have BK188 := n1_
       have BK189 := n2_
       have BK194 := n3_
       have GW194 := n4_
       have GE194 := n5_
       have NB187_194 := n6_
       have NB194_187 := n7_
       have NB188_194 := n8_
       have NB194_188 := n9_
       have NB189_194 := n10_
       have NB194_189 := n11_
       have HB := n12_
       clear n0_ n1_ n2_ n3_ n4_ n5_ n6_ n7_ n8_ n9_ n10_ n11_ n12_
       have hHeld : w13.cell? ⟨gb187, 0, none⟩ = some (.int .u8 a1_0) ∧ w13.cell? ⟨gb187, 1, none⟩ = some (.int .u64 a1_1) ∧ w13.cell? ⟨gb187, 2, none⟩ = some (.string a1_2) ∧ w13.cell? ⟨gb188, 0, none⟩ = some (.int .u8 a2_0) ∧ w13.cell? ⟨gb188, 1, none⟩ = some (.int .u64 a2_1) ∧ w13.cell? ⟨gb188, 2, none⟩ = some (.string a2_2) := hS_
       refine norm_ (a' := ?_) ?_ ?_
       rotate_left
       ·simp only [putAll, Act.put, List.setIfInBounds_toArray, List.set_cons_zero, List.set_cons_succ]
        rfl
       refine two_ (i := 3) (j := 5) (Ni := some 15) (Nj := some 9) #[true, true, true, true, true, false, false, false] #[true, true, true, false, true, true, false, false] rfl rfl rfl rfl (two_of HT_.out (by kernel_rfl)) (by decide) (by decide) (fun K hK => ?_) (fun K hK => ?_)
       ·skip
        refine goes_ Try.func68 (by kernel_rfl) rfl #[.agg #[.int .u8 a2_0, .int .u64 a2_1, .string a2_2]] (by rfl) rfl rfl (by (try simp only [List.map_toArray, List.map_cons, List.map_nil]); first | done | rfl | (simp only [List.length_drop, List.length_take]; rfl)) ?_
        with_reducible refine (value_sized.calls a2_0 a2_1 a2_2 t192 t193 _ A5.out).mono ?_
        rintro e w14 ⟨rfl, hb⟩
        refine ⟨_, rfl, ?_⟩
        have n0_ := kb BK187 hb
        have n1_ := kb BK188 hb
        have n2_ := kb BK189 hb
        have n3_ := kb BK194 hb
        have n4_ := bt HB hb
        clear BK187
        clear BK188
        clear BK189
        clear BK194
        clear HB
        have BK187 := n0_
        have BK188 := n1_
        have BK189 := n2_
        have BK194 := n3_
        have HB := n4_
        clear n0_ n1_ n2_ n3_ n4_
        (try clear hb)
        (try clear hb2)
        (try clear hk)
        (try clear hi)
        refine hK.out _ _ ⟨bc BK187 0, bc BK187 1, bc BK187 2, bc BK188 0, bc BK188 1, bc BK188 2⟩ (fun hHeld => ?_)
        clear hK K
        refine norm_ (a' := ?_) ?_ ?_
        rotate_left
        ·show Act.put _ (some 15) _ = _
         simp only [Act.put, List.setIfInBounds_toArray, List.set_cons_zero, List.set_cons_succ, i64_w, i32_w]
         rfl
        exact norm_ (by first | (simp only [putAll, Act.put, List.setIfInBounds_toArray, List.set_cons_zero, List.set_cons_succ]; done) | (simp only [putAll, Act.put, List.setIfInBounds_toArray, List.set_cons_zero, List.set_cons_succ]; rfl)) (hJ1_3_4 (gb194) _ ⟨hHeld, (pb BK187), (pb BK188), (pb BK189), (pb BK194), GW194.out, GE194.out, NB187_194.out, NB194_187.out, NB188_194.out, NB194_188.out, NB189_194.out, NB194_189.out, (bs HB)⟩)
       ·skip
        refine box_step ?hg (N := 9) ?hd (cs := #[.bool false, .int .u64 0]) (t := 58) ?hr ?_; (case hd => rfl); (case hg => rfl); (case hr => first | (go_simp; done) | (go_simp; rfl))
        intro gb195 hg w14 hbox hb
        have n0_ := kb BK187 hb
        have n1_ := kb BK188 hb
        have n2_ := kb BK189 hb
        have n3_ := kb BK194 hb
        have n4_ := bt HB hb
        have n5_ := Aside0.mk (hbox)
        have n6_ := gs hg HB
        have n7_ := gs hg HB
        have n8_ := nl hg BK187
        have n9_ := ng hg BK187
        have n10_ := nl hg BK188
        have n11_ := ng hg BK188
        have n12_ := nl hg BK189
        have n13_ := ng hg BK189
        have n14_ := nl hg BK194
        have n15_ := ng hg BK194
        clear BK187
        clear BK188
        clear BK189
        clear BK194
        clear HB
        have BK187 := n0_
        have BK188 := n1_
        have BK189 := n2_
        have BK194 := n3_
        have HB := n4_
        have BK195 := n5_
        have GW195 := n6_
        have GE195 := n7_
        have NB187_195 := n8_
        have NB195_187 := n9_
        have NB188_195 := n10_
        have NB195_188 := n11_
        have NB189_195 := n12_
        have NB195_189 := n13_
        have NB194_195 := n14_
        have NB195_194 := n15_
        clear n0_ n1_ n2_ n3_ n4_ n5_ n6_ n7_ n8_ n9_ n10_ n11_ n12_ n13_ n14_ n15_
        clear hb hbox hg
        refine hK.out _ _ ⟨bc BK187 0, bc BK187 1, bc BK187 2, bc BK188 0, bc BK188 1, bc BK188 2⟩ (fun hHeld => ?_)
        clear hK K
        refine norm_ (a' := ?_) ?_ ?_
        rotate_left
        ·show Act.put _ (some 9) _ = _
         simp only [Act.put, List.setIfInBounds_toArray, List.set_cons_zero, List.set_cons_succ, i64_w, i32_w]
         rfl
        exact norm_ (by first | (simp only [putAll, Act.put, List.setIfInBounds_toArray, List.set_cons_zero, List.set_cons_succ]; done) | (simp only [putAll, Act.put, List.setIfInBounds_toArray, List.set_cons_zero, List.set_cons_succ]; rfl)) (hJ1_4_5 (gb194, gb195) _ ⟨hHeld, (pb BK187), (pb BK188), (pb BK189), (pb BK194), (pb BK195), GW194.out, GE194.out, NB187_194.out, NB194_187.out, NB188_194.out, NB194_188.out, NB189_194.out, NB194_189.out, NB195_194.out, NB194_195.out, GW195.out, GE195.out, NB187_195.out, NB195_187.out, NB188_195.out, NB195_188.out, NB189_195.out, NB195_189.out, (bs HB)⟩)
     ·skip
      rintro _ w13 ⟨hS_, h0_, h1_, h2_, h3_⟩
      have n0_ : Aside0 (w13.heap[gb187]? = some (.cells #[.int .u8 a1_0, .int .u64 a1_1, .string a1_2] 27 (0, 0))) := ⟨h0_⟩
      have n1_ : Aside0 (w13.heap[gb188]? = some (.cells #[.int .u8 a2_0, .int .u64 a2_1, .string a2_2] 27 (0, 0))) := ⟨h1_⟩
      have n2_ : Aside0 (w13.heap[gb189]? = some (.cells #[.int .u8 0, .int .u64 0, .string (⟨#[]⟩ : ByteArray)] 27 (0, 0))) := ⟨h2_⟩
      have n3_ : Aside0 (Below w.heap.size w w13) := ⟨h3_⟩
      clear BK187
      clear BK188
      clear BK189
      clear HB
      clear h0_ h1_ h2_ h3_
      have BK187 := n0_
      have BK188 := n1_
      have BK189 := n2_
      have HB := n3_
      clear n0_ n1_ n2_ n3_
      have hHeld : w13.cell? ⟨gb187, 0, none⟩ = some (.int .u8 a1_0) ∧ w13.cell? ⟨gb187, 1, none⟩ = some (.int .u64 a1_1) ∧ w13.cell? ⟨gb187, 2, none⟩ = some (.string a1_2) ∧ w13.cell? ⟨gb188, 0, none⟩ = some (.int .u8 a2_0) ∧ w13.cell? ⟨gb188, 1, none⟩ = some (.int .u64 a2_1) ∧ w13.cell? ⟨gb188, 2, none⟩ = some (.string a2_2) := hS_
      refine norm_ (a' := ?_) ?_ ?_
      rotate_left
      ·simp only [putAll, Act.put, List.setIfInBounds_toArray, List.set_cons_zero, List.set_cons_succ]
       rfl
      refine two_ (i := 4) (j := 5) (Ni := some 8) (Nj := some 9) #[true, true, true, true, true, false, false, false] #[true, true, true, true, false, true, false, false] rfl rfl rfl rfl (two_of HT_.out (by kernel_rfl)) (by decide) (by decide) (fun K hK => ?_) (fun K hK => ?_)
      ·skip
       refine box_step ?hg (N := 8) ?hd (cs := #[.bool false, .int .u64 0]) (t := 58) ?hr ?_; (case hd => rfl); (case hg => rfl); (case hr => first | (go_simp; done) | (go_simp; rfl))
       intro gb194 hg w14 hbox hb
       have n0_ := kb BK187 hb
       have n1_ := kb BK188 hb
       have n2_ := kb BK189 hb
       have n3_ := bt HB hb
       have n4_ := Aside0.mk (hbox)
       have n5_ := gs hg HB
       have n6_ := gs hg HB
       have n7_ := nl hg BK187
       have n8_ := ng hg BK187
       have n9_ := nl hg BK188
       have n10_ := ng hg BK188
       have n11_ := nl hg BK189
       have n12_ := ng hg BK189
       clear BK187
       clear BK188
       clear BK189
       clear HB
       have BK187 := n0_
       have BK188 := n1_
       have BK189 := n2_
       have HB := n3_
       have BK194 := n4_
       have GW194 := n5_
       have GE194 := n6_
       have NB187_194 := n7_
       have NB194_187 := n8_
       have NB188_194 := n9_
       have NB194_188 := n10_
       have NB189_194 := n11_
       have NB194_189 := n12_
       clear n0_ n1_ n2_ n3_ n4_ n5_ n6_ n7_ n8_ n9_ n10_ n11_ n12_
       clear hb hbox hg
       refine hK.out _ _ ⟨bc BK187 0, bc BK187 1, bc BK187 2, bc BK188 0, bc BK188 1, bc BK188 2⟩ (fun hHeld => ?_)
       clear hK K
       refine norm_ (a' := ?_) ?_ ?_
       rotate_left
       ·show Act.put _ (some 8) _ = _
        simp only [Act.put, List.setIfInBounds_toArray, List.set_cons_zero, List.set_cons_succ, i64_w, i32_w]
        rfl
       exact norm_ (by first | (simp only [putAll, Act.put, List.setIfInBounds_toArray, List.set_cons_zero, List.set_cons_succ]; done) | (simp only [putAll, Act.put, List.setIfInBounds_toArray, List.set_cons_zero, List.set_cons_succ]; rfl)) (hJ1_3_4 (gb194) _ ⟨hHeld, (pb BK187), (pb BK188), (pb BK189), (pb BK194), GW194.out, GE194.out, NB187_194.out, NB194_187.out, NB188_194.out, NB194_188.out, NB189_194.out, NB194_189.out, (bs HB)⟩)
      ·skip
       refine box_step ?hg (N := 9) ?hd (cs := #[.bool false, .int .u64 0]) (t := 58) ?hr ?_; (case hd => rfl); (case hg => rfl); (case hr => first | (go_simp; done) | (go_simp; rfl))
       intro gb195 hg w14 hbox hb
       have n0_ := kb BK187 hb
       have n1_ := kb BK188 hb
       have n2_ := kb BK189 hb
       have n3_ := bt HB hb
       have n4_ := Aside0.mk (hbox)
       have n5_ := gs hg HB
       have n6_ := gs hg HB
       have n7_ := nl hg BK187
       have n8_ := ng hg BK187
       have n9_ := nl hg BK188
       have n10_ := ng hg BK188
       have n11_ := nl hg BK189
       have n12_ := ng hg BK189
       clear BK187
       clear BK188
       clear BK189
       clear HB
       have BK187 := n0_
       have BK188 := n1_
       have BK189 := n2_
       have HB := n3_
       have BK195 := n4_
       have GW195 := n5_
       have GE195 := n6_
       have NB187_195 := n7_
       have NB195_187 := n8_
       have NB188_195 := n9_
       have NB195_188 := n10_
       have NB189_195 := n11_
       have NB195_189 := n12_
       clear n0_ n1_ n2_ n3_ n4_ n5_ n6_ n7_ n8_ n9_ n10_ n11_ n12_
       clear hb hbox hg
       refine hK.out _ _ ⟨bc BK187 0, bc BK187 1, bc BK187 2, bc BK188 0, bc BK188 1, bc BK188 2⟩ (fun hHeld => ?_)
       clear hK K
       refine norm_ (a' := ?_) ?_ ?_
       rotate_left
       ·show Act.put _ (some 9) _ = _
        simp only [Act.put, List.setIfInBounds_toArray, List.set_cons_zero, List.set_cons_succ, i64_w, i32_w]
        rfl
       exact norm_ (by first | (simp only [putAll, Act.put, List.setIfInBounds_toArray, List.set_cons_zero, List.set_cons_succ]; done) | (simp only [putAll, Act.put, List.setIfInBounds_toArray, List.set_cons_zero, List.set_cons_succ]; rfl)) (hJ1_3_5 (gb195) _ ⟨hHeld, (pb BK187), (pb BK188), (pb BK189), (pb BK195), GW195.out, GE195.out, NB187_195.out, NB195_187.out, NB188_195.out, NB195_188.out, NB189_195.out, NB195_189.out, (bs HB)⟩)
    ·skip
     rintro ⟨gb194, gb195⟩ w14 ⟨hS_, h0_, h1_, h2_, h3_, h4_, h5_, h6_, h7_, h8_, h9_, h10_, h11_, h12_, h13_, h14_, h15_, h16_, h17_, h18_, h19_, h20_, h21_, h22_, h23_⟩
     have n0_ : Aside0 (w14.heap[gb187]? = some (.cells #[.int .u8 a1_0, .int .u64 a1_1, .string a1_2] 27 (0, 0))) := ⟨h0_⟩
     have n1_ : Aside0 (w14.heap[gb188]? = some (.cells #[.int .u8 a2_0, .int .u64 a2_1, .string a2_2] 27 (0, 0))) := ⟨h1_⟩
     have n2_ : Aside0 (w14.heap[gb189]? = some (.cells #[.int .u8 0, .int .u64 0, .string (⟨#[]⟩ : ByteArray)] 27 (0, 0))) := ⟨h2_⟩
     have n3_ : Aside0 (w14.heap[gb194]? = some (.cells #[.bool false, .int .u64 0] 58 (0, 0))) := ⟨h3_⟩
     have n4_ : Aside0 (w14.heap[gb195]? = some (.cells #[.bool false, .int .u64 0] 58 (0, 0))) := ⟨h4_⟩
     have n5_ : Aside0 (w.heap.size ≤ gb194) := ⟨h5_⟩
     have n6_ : Aside0 (w.heap.size ≤ gb194) := ⟨h6_⟩
     have n7_ : Aside0 (gb187 ≠ gb194) := ⟨h7_⟩
     have n8_ : Aside0 (gb194 ≠ gb187) := ⟨h8_⟩
     have n9_ : Aside0 (gb188 ≠ gb194) := ⟨h9_⟩
     have n10_ : Aside0 (gb194 ≠ gb188) := ⟨h10_⟩
     have n11_ : Aside0 (gb189 ≠ gb194) := ⟨h11_⟩
     have n12_ : Aside0 (gb194 ≠ gb189) := ⟨h12_⟩
     have n13_ : Aside0 (gb195 ≠ gb194) := ⟨h13_⟩
     have n14_ : Aside0 (gb194 ≠ gb195) := ⟨h14_⟩
     have n15_ : Aside0 (w.heap.size ≤ gb195) := ⟨h15_⟩
     have n16_ : Aside0 (w.heap.size ≤ gb195) := ⟨h16_⟩
     have n17_ : Aside0 (gb187 ≠ gb195) := ⟨h17_⟩
     have n18_ : Aside0 (gb195 ≠ gb187) := ⟨h18_⟩
     have n19_ : Aside0 (gb188 ≠ gb195) := ⟨h19_⟩
     have n20_ : Aside0 (gb195 ≠ gb188) := ⟨h20_⟩
     have n21_ : Aside0 (gb189 ≠ gb195) := ⟨h21_⟩
     have n22_ : Aside0 (gb195 ≠ gb189) := ⟨h22_⟩
     have n23_ : Aside0 (Below w.heap.size w w14) := ⟨h23_⟩
     clear BK187
     clear BK188
     clear BK189
     clear HB
     clear h0_ h1_ h2_ h3_ h4_ h5_ h6_ h7_ h8_ h9_ h10_ h11_ h12_ h13_ h14_ h15_ h16_ h17_ h18_ h19_ h20_ h21_ h22_ h23_
     have BK187 := n0_
     have BK188 := n1_
     have BK189 := n2_
     have BK194 := n3_
     have BK195 := n4_
     have GW194 := n5_
     have GE194 := n6_
     have NB187_194 := n7_
     have NB194_187 := n8_
     have NB188_194 := n9_
     have NB194_188 := n10_
     have NB189_194 := n11_
     have NB194_189 := n12_
     have NB195_194 := n13_
     have NB194_195 := n14_
     have GW195 := n15_
     have GE195 := n16_
     have NB187_195 := n17_
     have NB195_187 := n18_
     have NB188_195 := n19_
     have NB195_188 := n20_
     have NB189_195 := n21_
     have NB195_189 := n22_
     have HB := n23_
     clear n0_ n1_ n2_ n3_ n4_ n5_ n6_ n7_ n8_ n9_ n10_ n11_ n12_ n13_ n14_ n15_ n16_ n17_ n18_ n19_ n20_ n21_ n22_ n23_
     have hHeld : w14.cell? ⟨gb187, 0, none⟩ = some (.int .u8 a1_0) ∧ w14.cell? ⟨gb187, 1, none⟩ = some (.int .u64 a1_1) ∧ w14.cell? ⟨gb187, 2, none⟩ = some (.string a1_2) ∧ w14.cell? ⟨gb188, 0, none⟩ = some (.int .u8 a2_0) ∧ w14.cell? ⟨gb188, 1, none⟩ = some (.int .u64 a2_1) ∧ w14.cell? ⟨gb188, 2, none⟩ = some (.string a2_2) := hS_
     refine norm_ (a' := ?_) ?_ ?_
     rotate_left
     ·simp only [putAll, Act.put, List.setIfInBounds_toArray, List.set_cons_zero, List.set_cons_succ]
      rfl
     refine one_ (i := 3) (N := some 15) #[true, true, true, true, true, true, false, false] rfl rfl (one_of HT_.out (by kernel_rfl)) (by decide) (fun K hK => ?_)
     refine goes_ Try.func68 (by kernel_rfl) rfl #[.agg #[.int .u8 a2_0, .int .u64 a2_1, .string a2_2]] (by rfl) rfl rfl (by (try simp only [List.map_toArray, List.map_cons, List.map_nil]); first | done | rfl | (simp only [List.length_drop, List.length_take]; rfl)) ?_
     with_reducible refine (value_sized.calls a2_0 a2_1 a2_2 t192 t193 _ A5.out).mono ?_
     rintro e w15 ⟨rfl, hb⟩
     refine ⟨_, rfl, ?_⟩
     have n0_ := kb BK187 hb
     have n1_ := kb BK188 hb
     have n2_ := kb BK189 hb
     have n3_ := kb BK194 hb
     have n4_ := kb BK195 hb
     have n5_ := bt HB hb
     clear BK187
     clear BK188
     clear BK189
     clear BK194
     clear BK195
     clear HB
     have BK187 := n0_
     have BK188 := n1_
     have BK189 := n2_
     have BK194 := n3_
     have BK195 := n4_
     have HB := n5_
     clear n0_ n1_ n2_ n3_ n4_ n5_
     (try clear hb)
     (try clear hb2)
     (try clear hk)
     (try clear hi)
     refine hK.out _ _ ⟨bc BK187 0, bc BK187 1, bc BK187 2, bc BK188 0, bc BK188 1, bc BK188 2⟩ (fun hHeld => ?_)
     clear hK K
     refine norm_ (a' := ?_) ?_ ?_
     rotate_left
     ·show Act.put _ (some 15) _ = _
      simp only [Act.put, List.setIfInBounds_toArray, List.set_cons_zero, List.set_cons_succ, i64_w, i32_w]
      rfl
     exact norm_ (by first | (simp only [putAll, Act.put, List.setIfInBounds_toArray, List.set_cons_zero, List.set_cons_succ]; done) | (simp only [putAll, Act.put, List.setIfInBounds_toArray, List.set_cons_zero, List.set_cons_succ]; rfl)) (hJ1_3_4_5 (gb194, gb195) _ ⟨hHeld, (pb BK187), (pb BK188), (pb BK189), (pb BK194), (pb BK195), GW194.out, GE194.out, NB187_194.out, NB194_187.out, NB188_194.out, NB194_188.out, NB189_194.out, NB194_189.out, NB195_194.out, NB194_195.out, GW195.out, GE195.out, NB187_195.out, NB195_187.out, NB188_195.out, NB195_188.out, NB189_195.out, NB195_189.out, (bs HB)⟩)
   ·skip
    rintro gb195 w14 ⟨hS_, h0_, h1_, h2_, h3_, h4_, h5_, h6_, h7_, h8_, h9_, h10_, h11_, h12_⟩
    have n0_ : Aside0 (w14.heap[gb187]? = some (.cells #[.int .u8 a1_0, .int .u64 a1_1, .string a1_2] 27 (0, 0))) := ⟨h0_⟩
    have n1_ : Aside0 (w14.heap[gb188]? = some (.cells #[.int .u8 a2_0, .int .u64 a2_1, .string a2_2] 27 (0, 0))) := ⟨h1_⟩
    have n2_ : Aside0 (w14.heap[gb189]? = some (.cells #[.int .u8 0, .int .u64 0, .string (⟨#[]⟩ : ByteArray)] 27 (0, 0))) := ⟨h2_⟩
    have n3_ : Aside0 (w14.heap[gb195]? = some (.cells #[.bool false, .int .u64 0] 58 (0, 0))) := ⟨h3_⟩
    have n4_ : Aside0 (w.heap.size ≤ gb195) := ⟨h4_⟩
    have n5_ : Aside0 (w.heap.size ≤ gb195) := ⟨h5_⟩
    have n6_ : Aside0 (gb187 ≠ gb195) := ⟨h6_⟩
    have n7_ : Aside0 (gb195 ≠ gb187) := ⟨h7_⟩
    have n8_ : Aside0 (gb188 ≠ gb195) := ⟨h8_⟩
    have n9_ : Aside0 (gb195 ≠ gb188) := ⟨h9_⟩
    have n10_ : Aside0 (gb189 ≠ gb195) := ⟨h10_⟩
    have n11_ : Aside0 (gb195 ≠ gb189) := ⟨h11_⟩
    have n12_ : Aside0 (Below w.heap.size w w14) := ⟨h12_⟩
    clear BK187
    clear BK188
    clear BK189
    clear HB
    clear h0_ h1_ h2_ h3_ h4_ h5_ h6_ h7_ h8_ h9_ h10_ h11_ h12_
    have BK187 := n0_
    have BK188 := n1_
    have BK189 := n2_
    have BK195 := n3_
    have GW195 := n4_
    have GE195 := n5_
    have NB187_195 := n6_
    have NB195_187 := n7_
    have NB188_195 := n8_
    have NB195_188 := n9_
    have NB189_195 := n10_
    have NB195_189 := n11_
    have HB := n12_
    clear n0_ n1_ n2_ n3_ n4_ n5_ n6_ n7_ n8_ n9_ n10_ n11_ n12_
    have hHeld : w14.cell? ⟨gb187, 0, none⟩ = some (.int .u8 a1_0) ∧ w14.cell? ⟨gb187, 1, none⟩ = some (.int .u64 a1_1) ∧ w14.cell? ⟨gb187, 2, none⟩ = some (.string a1_2) ∧ w14.cell? ⟨gb188, 0, none⟩ = some (.int .u8 a2_0) ∧ w14.cell? ⟨gb188, 1, none⟩ = some (.int .u64 a2_1) ∧ w14.cell? ⟨gb188, 2, none⟩ = some (.string a2_2) := hS_
    refine norm_ (a' := ?_) ?_ ?_
    rotate_left
    ·simp only [putAll, Act.put, List.setIfInBounds_toArray, List.set_cons_zero, List.set_cons_succ]
     rfl
    refine one_ (i := 4) (N := some 8) #[true, true, true, true, true, true, false, false] rfl rfl (one_of HT_.out (by kernel_rfl)) (by decide) (fun K hK => ?_)
    refine box_step ?hg (N := 8) ?hd (cs := #[.bool false, .int .u64 0]) (t := 58) ?hr ?_; (case hd => rfl); (case hg => rfl); (case hr => first | (go_simp; done) | (go_simp; rfl))
    intro gb194 hg w15 hbox hb
    have n0_ := kb BK187 hb
    have n1_ := kb BK188 hb
    have n2_ := kb BK189 hb
    have n3_ := kb BK195 hb
    have n4_ := bt HB hb
    have n5_ := Aside0.mk (hbox)
    have n6_ := gs hg HB
    have n7_ := gs hg HB
    have n8_ := nl hg BK187
    have n9_ := ng hg BK187
    have n10_ := nl hg BK188
    have n11_ := ng hg BK188
    have n12_ := nl hg BK189
    have n13_ := ng hg BK189
    have n14_ := nl hg BK195
    have n15_ := ng hg BK195
    clear BK187
    clear BK188
    clear BK189
    clear BK195
    clear HB
    have BK187 := n0_
    have BK188 := n1_
    have BK189 := n2_
    have BK195 := n3_
    have HB := n4_
    have BK194 := n5_
    have GW194 := n6_
    have GE194 := n7_
    have NB187_194 := n8_
    have NB194_187 := n9_
    have NB188_194 := n10_
    have NB194_188 := n11_
    have NB189_194 := n12_
    have NB194_189 := n13_
    have NB195_194 := n14_
    have NB194_195 := n15_
    clear n0_ n1_ n2_ n3_ n4_ n5_ n6_ n7_ n8_ n9_ n10_ n11_ n12_ n13_ n14_ n15_
    clear hb hbox hg
    refine hK.out _ _ ⟨bc BK187 0, bc BK187 1, bc BK187 2, bc BK188 0, bc BK188 1, bc BK188 2⟩ (fun hHeld => ?_)
    clear hK K
    refine norm_ (a' := ?_) ?_ ?_
    rotate_left
    ·show Act.put _ (some 8) _ = _
     simp only [Act.put, List.setIfInBounds_toArray, List.set_cons_zero, List.set_cons_succ, i64_w, i32_w]
     rfl
    exact norm_ (by first | (simp only [putAll, Act.put, List.setIfInBounds_toArray, List.set_cons_zero, List.set_cons_succ]; done) | (simp only [putAll, Act.put, List.setIfInBounds_toArray, List.set_cons_zero, List.set_cons_succ]; rfl)) (hJ1_3_4_5 (gb194, gb195) _ ⟨hHeld, (pb BK187), (pb BK188), (pb BK189), (pb BK194), (pb BK195), GW194.out, GE194.out, NB187_194.out, NB194_187.out, NB188_194.out, NB194_188.out, NB189_194.out, NB194_189.out, NB195_194.out, NB194_195.out, GW195.out, GE195.out, NB187_195.out, NB195_187.out, NB188_195.out, NB195_188.out, NB189_195.out, NB195_189.out, (bs HB)⟩)
  ·skip
   rintro gb194 w14 ⟨hS_, h0_, h1_, h2_, h3_, h4_, h5_, h6_, h7_, h8_, h9_, h10_, h11_, h12_⟩
   have n0_ : Aside0 (w14.heap[gb187]? = some (.cells #[.int .u8 a1_0, .int .u64 a1_1, .string a1_2] 27 (0, 0))) := ⟨h0_⟩
   have n1_ : Aside0 (w14.heap[gb188]? = some (.cells #[.int .u8 a2_0, .int .u64 a2_1, .string a2_2] 27 (0, 0))) := ⟨h1_⟩
   have n2_ : Aside0 (w14.heap[gb189]? = some (.cells #[.int .u8 0, .int .u64 0, .string (⟨#[]⟩ : ByteArray)] 27 (0, 0))) := ⟨h2_⟩
   have n3_ : Aside0 (w14.heap[gb194]? = some (.cells #[.bool false, .int .u64 0] 58 (0, 0))) := ⟨h3_⟩
   have n4_ : Aside0 (w.heap.size ≤ gb194) := ⟨h4_⟩
   have n5_ : Aside0 (w.heap.size ≤ gb194) := ⟨h5_⟩
   have n6_ : Aside0 (gb187 ≠ gb194) := ⟨h6_⟩
   have n7_ : Aside0 (gb194 ≠ gb187) := ⟨h7_⟩
   have n8_ : Aside0 (gb188 ≠ gb194) := ⟨h8_⟩
   have n9_ : Aside0 (gb194 ≠ gb188) := ⟨h9_⟩
   have n10_ : Aside0 (gb189 ≠ gb194) := ⟨h10_⟩
   have n11_ : Aside0 (gb194 ≠ gb189) := ⟨h11_⟩
   have n12_ : Aside0 (Below w.heap.size w w14) := ⟨h12_⟩
   clear BK187
   clear BK188
   clear BK189
   clear HB
   clear h0_ h1_ h2_ h3_ h4_ h5_ h6_ h7_ h8_ h9_ h10_ h11_ h12_
   have BK187 := n0_
   have BK188 := n1_
   have BK189 := n2_
   have BK194 := n3_
   have GW194 := n4_
   have GE194 := n5_
   have NB187_194 := n6_
   have NB194_187 := n7_
   have NB188_194 := n8_
   have NB194_188 := n9_
   have NB189_194 := n10_
   have NB194_189 := n11_
   have HB := n12_
   clear n0_ n1_ n2_ n3_ n4_ n5_ n6_ n7_ n8_ n9_ n10_ n11_ n12_
   have hHeld : w14.cell? ⟨gb187, 0, none⟩ = some (.int .u8 a1_0) ∧ w14.cell? ⟨gb187, 1, none⟩ = some (.int .u64 a1_1) ∧ w14.cell? ⟨gb187, 2, none⟩ = some (.string a1_2) ∧ w14.cell? ⟨gb188, 0, none⟩ = some (.int .u8 a2_0) ∧ w14.cell? ⟨gb188, 1, none⟩ = some (.int .u64 a2_1) ∧ w14.cell? ⟨gb188, 2, none⟩ = some (.string a2_2) := hS_
   refine norm_ (a' := ?_) ?_ ?_
   rotate_left
   ·simp only [putAll, Act.put, List.setIfInBounds_toArray, List.set_cons_zero, List.set_cons_succ]
    rfl
   refine one_ (i := 5) (N := some 9) #[true, true, true, true, true, true, false, false] rfl rfl (one_of HT_.out (by kernel_rfl)) (by decide) (fun K hK => ?_)
   refine box_step ?hg (N := 9) ?hd (cs := #[.bool false, .int .u64 0]) (t := 58) ?hr ?_; (case hd => rfl); (case hg => rfl); (case hr => first | (go_simp; done) | (go_simp; rfl))
   intro gb195 hg w15 hbox hb
   have n0_ := kb BK187 hb
   have n1_ := kb BK188 hb
   have n2_ := kb BK189 hb
   have n3_ := kb BK194 hb
   have n4_ := bt HB hb
   have n5_ := Aside0.mk (hbox)
   have n6_ := gs hg HB
   have n7_ := gs hg HB
   have n8_ := nl hg BK187
   have n9_ := ng hg BK187
   have n10_ := nl hg BK188
   have n11_ := ng hg BK188
   have n12_ := nl hg BK189
   have n13_ := ng hg BK189
   have n14_ := nl hg BK194
   have n15_ := ng hg BK194
   clear BK187
   clear BK188
   clear BK189
   clear BK194
   clear HB
   have BK187 := n0_
   have BK188 := n1_
   have BK189 := n2_
   have BK194 := n3_
   have HB := n4_
   have BK195 := n5_
   have GW195 := n6_
   have GE195 := n7_
   have NB187_195 := n8_
   have NB195_187 := n9_
   have NB188_195 := n10_
   have NB195_188 := n11_
   have NB189_195 := n12_
   have NB195_189 := n13_
   have NB194_195 := n14_
   have NB195_194 := n15_
   clear n0_ n1_ n2_ n3_ n4_ n5_ n6_ n7_ n8_ n9_ n10_ n11_ n12_ n13_ n14_ n15_
   clear hb hbox hg
   refine hK.out _ _ ⟨bc BK187 0, bc BK187 1, bc BK187 2, bc BK188 0, bc BK188 1, bc BK188 2⟩ (fun hHeld => ?_)
   clear hK K
   refine norm_ (a' := ?_) ?_ ?_
   rotate_left
   ·show Act.put _ (some 9) _ = _
    simp only [Act.put, List.setIfInBounds_toArray, List.set_cons_zero, List.set_cons_succ, i64_w, i32_w]
    rfl
   exact norm_ (by first | (simp only [putAll, Act.put, List.setIfInBounds_toArray, List.set_cons_zero, List.set_cons_succ]; done) | (simp only [putAll, Act.put, List.setIfInBounds_toArray, List.set_cons_zero, List.set_cons_succ]; rfl)) (hJ1_3_4_5 (gb194, gb195) _ ⟨hHeld, (pb BK187), (pb BK188), (pb BK189), (pb BK194), (pb BK195), GW194.out, GE194.out, NB187_194.out, NB194_187.out, NB188_194.out, NB194_188.out, NB189_194.out, NB194_189.out, NB195_194.out, NB194_195.out, GW195.out, GE195.out, NB187_195.out, NB195_187.out, NB188_195.out, NB195_188.out, NB189_195.out, NB195_189.out, (bs HB)⟩)
 rintro ⟨gb194, gb195⟩ w15 ⟨hS_, h0_, h1_, h2_, h3_, h4_, h5_, h6_, h7_, h8_, h9_, h10_, h11_, h12_, h13_, h14_, h15_, h16_, h17_, h18_, h19_, h20_, h21_, h22_, h23_⟩
 have n0_ : Aside0 (w15.heap[gb187]? = some (.cells #[.int .u8 a1_0, .int .u64 a1_1, .string a1_2] 27 (0, 0))) := ⟨h0_⟩
 have n1_ : Aside0 (w15.heap[gb188]? = some (.cells #[.int .u8 a2_0, .int .u64 a2_1, .string a2_2] 27 (0, 0))) := ⟨h1_⟩
 have n2_ : Aside0 (w15.heap[gb189]? = some (.cells #[.int .u8 0, .int .u64 0, .string (⟨#[]⟩ : ByteArray)] 27 (0, 0))) := ⟨h2_⟩
 have n3_ : Aside0 (w15.heap[gb194]? = some (.cells #[.bool false, .int .u64 0] 58 (0, 0))) := ⟨h3_⟩
 have n4_ : Aside0 (w15.heap[gb195]? = some (.cells #[.bool false, .int .u64 0] 58 (0, 0))) := ⟨h4_⟩
 have n5_ : Aside0 (w.heap.size ≤ gb194) := ⟨h5_⟩
 have n6_ : Aside0 (w.heap.size ≤ gb194) := ⟨h6_⟩
 have n7_ : Aside0 (gb187 ≠ gb194) := ⟨h7_⟩
 have n8_ : Aside0 (gb194 ≠ gb187) := ⟨h8_⟩
 have n9_ : Aside0 (gb188 ≠ gb194) := ⟨h9_⟩
 have n10_ : Aside0 (gb194 ≠ gb188) := ⟨h10_⟩
 have n11_ : Aside0 (gb189 ≠ gb194) := ⟨h11_⟩
 have n12_ : Aside0 (gb194 ≠ gb189) := ⟨h12_⟩
 have n13_ : Aside0 (gb195 ≠ gb194) := ⟨h13_⟩
 have n14_ : Aside0 (gb194 ≠ gb195) := ⟨h14_⟩
 have n15_ : Aside0 (w.heap.size ≤ gb195) := ⟨h15_⟩
 have n16_ : Aside0 (w.heap.size ≤ gb195) := ⟨h16_⟩
 have n17_ : Aside0 (gb187 ≠ gb195) := ⟨h17_⟩
 have n18_ : Aside0 (gb195 ≠ gb187) := ⟨h18_⟩
 have n19_ : Aside0 (gb188 ≠ gb195) := ⟨h19_⟩
 have n20_ : Aside0 (gb195 ≠ gb188) := ⟨h20_⟩
 have n21_ : Aside0 (gb189 ≠ gb195) := ⟨h21_⟩
 have n22_ : Aside0 (gb195 ≠ gb189) := ⟨h22_⟩
 have n23_ : Aside0 (Below w.heap.size w w15) := ⟨h23_⟩
 clear BK187
 clear BK188
 clear BK189
 clear HB
 clear h0_ h1_ h2_ h3_ h4_ h5_ h6_ h7_ h8_ h9_ h10_ h11_ h12_ h13_ h14_ h15_ h16_ h17_ h18_ h19_ h20_ h21_ h22_ h23_
 have BK187 := n0_
 have BK188 := n1_
 have BK189 := n2_
 have BK194 := n3_
 have BK195 := n4_
 have GW194 := n5_
 have GE194 := n6_
 have NB187_194 := n7_
 have NB194_187 := n8_
 have NB188_194 := n9_
 have NB194_188 := n10_
 have NB189_194 := n11_
 have NB194_189 := n12_
 have NB195_194 := n13_
 have NB194_195 := n14_
 have GW195 := n15_
 have GE195 := n16_
 have NB187_195 := n17_
 have NB195_187 := n18_
 have NB188_195 := n19_
 have NB195_188 := n20_
 have NB189_195 := n21_
 have NB195_189 := n22_
 have HB := n23_
 clear n0_ n1_ n2_ n3_ n4_ n5_ n6_ n7_ n8_ n9_ n10_ n11_ n12_ n13_ n14_ n15_ n16_ n17_ n18_ n19_ n20_ n21_ n22_ n23_
 have hHeld : w15.cell? ⟨gb187, 0, none⟩ = some (.int .u8 a1_0) ∧ w15.cell? ⟨gb187, 1, none⟩ = some (.int .u64 a1_1) ∧ w15.cell? ⟨gb187, 2, none⟩ = some (.string a1_2) ∧ w15.cell? ⟨gb188, 0, none⟩ = some (.int .u8 a2_0) ∧ w15.cell? ⟨gb188, 1, none⟩ = some (.int .u64 a2_1) ∧ w15.cell? ⟨gb188, 2, none⟩ = some (.string a2_2) := hS_
 refine norm_ (a' := ?_) ?_ ?_
 rotate_left
 ·simp only [putAll, Act.put, List.setIfInBounds_toArray, List.set_cons_zero, List.set_cons_succ]
  rfl
 refine one_ (i := 6) (N := none) #[true, true, true, true, true, true, true, false] rfl rfl (one_of HT_.out (by kernel_rfl)) (by decide) (fun K hK => ?_)
 have hs16 : w15.cell? ⟨gb194, 0, none⟩ = some (.bool false) := bc BK194 0
 have hfs16 := blk_frozen BK194.out 0
 have hns16_0 := NB187_194.out
 have hns16_1 := NB188_194.out
 have hns16_2 := NB189_194.out
 have hns16_4 := NB195_194.out
 have hms16_0 := NB194_187.out
 have hms16_1 := NB194_188.out
 have hms16_2 := NB194_189.out
 have hms16_4 := NB194_195.out
 have hs17 : w15.cell? ⟨gb194, 1, none⟩ = some (.int .u64 0) := bc BK194 1
 have hfs17 := blk_frozen BK194.out 1
 have hns17_0 := NB187_194.out
 have hns17_1 := NB188_194.out
 have hns17_2 := NB189_194.out
 have hns17_4 := NB195_194.out
 have hms17_0 := NB194_187.out
 have hms17_1 := NB194_188.out
 have hms17_2 := NB194_189.out
 have hms17_4 := NB194_195.out
 refine skip_ (w1 := ?_) (by rfl) rfl ?_ ?_
 rotate_left
 ·go_simp
  rfl
 refine hK.out _ _ ⟨((cell_far (p := ⟨gb194, _, none⟩) NB187_194.out _).trans (((cell_far (p := ⟨gb194, _, none⟩) NB187_194.out _).trans (hHeld.1)))), ((cell_far (p := ⟨gb194, _, none⟩) NB187_194.out _).trans (((cell_far (p := ⟨gb194, _, none⟩) NB187_194.out _).trans (hHeld.2.1)))), ((cell_far (p := ⟨gb194, _, none⟩) NB187_194.out _).trans (((cell_far (p := ⟨gb194, _, none⟩) NB187_194.out _).trans (hHeld.2.2.1)))), ((cell_far (p := ⟨gb194, _, none⟩) NB188_194.out _).trans (((cell_far (p := ⟨gb194, _, none⟩) NB188_194.out _).trans (hHeld.2.2.2.1)))), ((cell_far (p := ⟨gb194, _, none⟩) NB188_194.out _).trans (((cell_far (p := ⟨gb194, _, none⟩) NB188_194.out _).trans (hHeld.2.2.2.2.1)))), ((cell_far (p := ⟨gb194, _, none⟩) NB188_194.out _).trans (((cell_far (p := ⟨gb194, _, none⟩) NB188_194.out _).trans (hHeld.2.2.2.2.2))))⟩ (fun hHeld => ?_)
 clear hK K
 refine one_ (i := 7) (N := none) #[true, true, true, true, true, true, true, true] rfl rfl (one_of HT_.out (by kernel_rfl)) (by decide) (fun K hK => ?_)
 have hs18 : w15.cell? ⟨gb195, 0, none⟩ = some (.bool false) := bc BK195 0
 have hfs18 := blk_frozen BK195.out 0
 have hns18_0 := NB187_195.out
 have hns18_1 := NB188_195.out
 have hns18_2 := NB189_195.out
 have hns18_3 := NB194_195.out
 have hms18_0 := NB195_187.out
 have hms18_1 := NB195_188.out
 have hms18_2 := NB195_189.out
 have hms18_3 := NB195_194.out
 have hs19 : w15.cell? ⟨gb195, 1, none⟩ = some (.int .u64 0) := bc BK195 1
 have hfs19 := blk_frozen BK195.out 1
 have hns19_0 := NB187_195.out
 have hns19_1 := NB188_195.out
 have hns19_2 := NB189_195.out
 have hns19_3 := NB194_195.out
 have hms19_0 := NB195_187.out
 have hms19_1 := NB195_188.out
 have hms19_2 := NB195_189.out
 have hms19_3 := NB195_194.out
 refine skip_ (w1 := ?_) (by rfl) rfl ?_ ?_
 rotate_left
 ·go_simp
  rfl
 refine hK.out _ _ ⟨((cell_far (p := ⟨gb195, _, none⟩) NB187_195.out _).trans (((cell_far (p := ⟨gb195, _, none⟩) NB187_195.out _).trans (hHeld.1)))), ((cell_far (p := ⟨gb195, _, none⟩) NB187_195.out _).trans (((cell_far (p := ⟨gb195, _, none⟩) NB187_195.out _).trans (hHeld.2.1)))), ((cell_far (p := ⟨gb195, _, none⟩) NB187_195.out _).trans (((cell_far (p := ⟨gb195, _, none⟩) NB187_195.out _).trans (hHeld.2.2.1)))), ((cell_far (p := ⟨gb195, _, none⟩) NB188_195.out _).trans (((cell_far (p := ⟨gb195, _, none⟩) NB188_195.out _).trans (hHeld.2.2.2.1)))), ((cell_far (p := ⟨gb195, _, none⟩) NB188_195.out _).trans (((cell_far (p := ⟨gb195, _, none⟩) NB188_195.out _).trans (hHeld.2.2.2.2.1)))), ((cell_far (p := ⟨gb195, _, none⟩) NB188_195.out _).trans (((cell_far (p := ⟨gb195, _, none⟩) NB188_195.out _).trans (hHeld.2.2.2.2.2))))⟩ (fun hHeld => ?_)
 clear hK K
 refine done_ (done_of HT_.out (by kernel_rfl)) ?_
 go_upto_block 0 with (first | ((with_reducible refine gate_dst (N := 11) rfl ?_); refine box_event ?hg (N := 11) ?hd (cs := #[.bool false, .int .u64 0]) (t := 58) ?hr ?_; (case hd => rfl); (case hg => rfl); (case hr => first | (go_simp; done) | (go_simp; rfl)); intro gb196 hg w20 hbox hb; have n0_ := Aside0.mk (blk_below (g := gb187) (o := .cells #[.int .u8 a1_0, .int .u64 a1_1, .string a1_2] 27 (0, 0)) (by (with_reducible repeat (first | refine blk_drewN ?_ _ | refine blk_drew ?_ | refine blk_alloc ?_ _)); refine blk_far ?_ NB187_195.out _; (with_reducible repeat (first | refine blk_drewN ?_ _ | refine blk_drew ?_ | refine blk_alloc ?_ _)); refine blk_far ?_ NB187_195.out _; (with_reducible repeat (first | refine blk_drewN ?_ _ | refine blk_drew ?_ | refine blk_alloc ?_ _)); refine blk_far ?_ NB187_194.out _; (with_reducible repeat (first | refine blk_drewN ?_ _ | refine blk_drew ?_ | refine blk_alloc ?_ _)); refine blk_far ?_ NB187_194.out _; (with_reducible repeat (first | refine blk_drewN ?_ _ | refine blk_drew ?_ | refine blk_alloc ?_ _)); exact BK187.out) hb); have n1_ := Aside0.mk (blk_below (g := gb188) (o := .cells #[.int .u8 a2_0, .int .u64 a2_1, .string a2_2] 27 (0, 0)) (by (with_reducible repeat (first | refine blk_drewN ?_ _ | refine blk_drew ?_ | refine blk_alloc ?_ _)); refine blk_far ?_ NB188_195.out _; (with_reducible repeat (first | refine blk_drewN ?_ _ | refine blk_drew ?_ | refine blk_alloc ?_ _)); refine blk_far ?_ NB188_195.out _; (with_reducible repeat (first | refine blk_drewN ?_ _ | refine blk_drew ?_ | refine blk_alloc ?_ _)); refine blk_far ?_ NB188_194.out _; (with_reducible repeat (first | refine blk_drewN ?_ _ | refine blk_drew ?_ | refine blk_alloc ?_ _)); refine blk_far ?_ NB188_194.out _; (with_reducible repeat (first | refine blk_drewN ?_ _ | refine blk_drew ?_ | refine blk_alloc ?_ _)); exact BK188.out) hb); have n2_ := Aside0.mk (blk_below (g := gb189) (o := .cells #[.int .u8 0, .int .u64 0, .string (⟨#[]⟩ : ByteArray)] 27 (0, 0)) (by (with_reducible repeat (first | refine blk_drewN ?_ _ | refine blk_drew ?_ | refine blk_alloc ?_ _)); refine blk_far ?_ NB189_195.out _; (with_reducible repeat (first | refine blk_drewN ?_ _ | refine blk_drew ?_ | refine blk_alloc ?_ _)); refine blk_far ?_ NB189_195.out _; (with_reducible repeat (first | refine blk_drewN ?_ _ | refine blk_drew ?_ | refine blk_alloc ?_ _)); refine blk_far ?_ NB189_194.out _; (with_reducible repeat (first | refine blk_drewN ?_ _ | refine blk_drew ?_ | refine blk_alloc ?_ _)); refine blk_far ?_ NB189_194.out _; (with_reducible repeat (first | refine blk_drewN ?_ _ | refine blk_drew ?_ | refine blk_alloc ?_ _)); exact BK189.out) hb); have n3_ := Aside0.mk (blk_below (g := gb194) (o := .cells #[.bool t190, .int .u64 t191] 58 (0, 0)) (by (with_reducible repeat (first | refine blk_drewN ?_ _ | refine blk_drew ?_ | refine blk_alloc ?_ _)); refine blk_far ?_ NB194_195.out _; (with_reducible repeat (first | refine blk_drewN ?_ _ | refine blk_drew ?_ | refine blk_alloc ?_ _)); refine blk_far ?_ NB194_195.out _; (with_reducible repeat (first | refine blk_drewN ?_ _ | refine blk_drew ?_ | refine blk_alloc ?_ _)); refine blk_put (cs := #[.bool t190, .int .u64 0]) ?_ 1 _ rfl; (with_reducible repeat (first | refine blk_drewN ?_ _ | refine blk_drew ?_ | refine blk_alloc ?_ _)); refine blk_put (cs := #[.bool false, .int .u64 0]) ?_ 0 _ rfl; (with_reducible repeat (first | refine blk_drewN ?_ _ | refine blk_drew ?_ | refine blk_alloc ?_ _)); exact BK194.out) hb); have n4_ := Aside0.mk (blk_below (g := gb195) (o := .cells #[.bool t192, .int .u64 t193] 58 (0, 0)) (by (with_reducible repeat (first | refine blk_drewN ?_ _ | refine blk_drew ?_ | refine blk_alloc ?_ _)); refine blk_put (cs := #[.bool t192, .int .u64 0]) ?_ 1 _ rfl; (with_reducible repeat (first | refine blk_drewN ?_ _ | refine blk_drew ?_ | refine blk_alloc ?_ _)); refine blk_put (cs := #[.bool false, .int .u64 0]) ?_ 0 _ rfl; (with_reducible repeat (first | refine blk_drewN ?_ _ | refine blk_drew ?_ | refine blk_alloc ?_ _)); refine blk_far ?_ NB195_194.out _; (with_reducible repeat (first | refine blk_drewN ?_ _ | refine blk_drew ?_ | refine blk_alloc ?_ _)); refine blk_far ?_ NB195_194.out _; (with_reducible repeat (first | refine blk_drewN ?_ _ | refine blk_drew ?_ | refine blk_alloc ?_ _)); exact BK195.out) hb); have n5_ := bt HB hb; have n6_ := Aside0.mk (hbox); have n7_ := gs hg HB; have n8_ := gs hg HB; have n9_ := Aside0.mk ((by rw [hg]; exact Nat.ne_of_lt (blk_lt (g := gb187) (o := .cells #[.int .u8 a1_0, .int .u64 a1_1, .string a1_2] 27 (0, 0)) (by (with_reducible repeat (first | refine blk_drewN ?_ _ | refine blk_drew ?_ | refine blk_alloc ?_ _)); refine blk_far ?_ NB187_195.out _; (with_reducible repeat (first | refine blk_drewN ?_ _ | refine blk_drew ?_ | refine blk_alloc ?_ _)); refine blk_far ?_ NB187_195.out _; (with_reducible repeat (first | refine blk_drewN ?_ _ | refine blk_drew ?_ | refine blk_alloc ?_ _)); refine blk_far ?_ NB187_194.out _; (with_reducible repeat (first | refine blk_drewN ?_ _ | refine blk_drew ?_ | refine blk_alloc ?_ _)); refine blk_far ?_ NB187_194.out _; (with_reducible repeat (first | refine blk_drewN ?_ _ | refine blk_drew ?_ | refine blk_alloc ?_ _)); exact BK187.out)) : gb187 ≠ gb196)); have n10_ := Aside0.mk ((by rw [hg]; exact Nat.ne_of_gt (blk_lt (g := gb187) (o := .cells #[.int .u8 a1_0, .int .u64 a1_1, .string a1_2] 27 (0, 0)) (by (with_reducible repeat (first | refine blk_drewN ?_ _ | refine blk_drew ?_ | refine blk_alloc ?_ _)); refine blk_far ?_ NB187_195.out _; (with_reducible repeat (first | refine blk_drewN ?_ _ | refine blk_drew ?_ | refine blk_alloc ?_ _)); refine blk_far ?_ NB187_195.out _; (with_reducible repeat (first | refine blk_drewN ?_ _ | refine blk_drew ?_ | refine blk_alloc ?_ _)); refine blk_far ?_ NB187_194.out _; (with_reducible repeat (first | refine blk_drewN ?_ _ | refine blk_drew ?_ | refine blk_alloc ?_ _)); refine blk_far ?_ NB187_194.out _; (with_reducible repeat (first | refine blk_drewN ?_ _ | refine blk_drew ?_ | refine blk_alloc ?_ _)); exact BK187.out)) : gb196 ≠ gb187)); have n11_ := Aside0.mk ((by rw [hg]; exact Nat.ne_of_lt (blk_lt (g := gb188) (o := .cells #[.int .u8 a2_0, .int .u64 a2_1, .string a2_2] 27 (0, 0)) (by (with_reducible repeat (first | refine blk_drewN ?_ _ | refine blk_drew ?_ | refine blk_alloc ?_ _)); refine blk_far ?_ NB188_195.out _; (with_reducible repeat (first | refine blk_drewN ?_ _ | refine blk_drew ?_ | refine blk_alloc ?_ _)); refine blk_far ?_ NB188_195.out _; (with_reducible repeat (first | refine blk_drewN ?_ _ | refine blk_drew ?_ | refine blk_alloc ?_ _)); refine blk_far ?_ NB188_194.out _; (with_reducible repeat (first | refine blk_drewN ?_ _ | refine blk_drew ?_ | refine blk_alloc ?_ _)); refine blk_far ?_ NB188_194.out _; (with_reducible repeat (first | refine blk_drewN ?_ _ | refine blk_drew ?_ | refine blk_alloc ?_ _)); exact BK188.out)) : gb188 ≠ gb196)); have n12_ := Aside0.mk ((by rw [hg]; exact Nat.ne_of_gt (blk_lt (g := gb188) (o := .cells #[.int .u8 a2_0, .int .u64 a2_1, .string a2_2] 27 (0, 0)) (by (with_reducible repeat (first | refine blk_drewN ?_ _ | refine blk_drew ?_ | refine blk_alloc ?_ _)); refine blk_far ?_ NB188_195.out _; (with_reducible repeat (first | refine blk_drewN ?_ _ | refine blk_drew ?_ | refine blk_alloc ?_ _)); refine blk_far ?_ NB188_195.out _; (with_reducible repeat (first | refine blk_drewN ?_ _ | refine blk_drew ?_ | refine blk_alloc ?_ _)); refine blk_far ?_ NB188_194.out _; (with_reducible repeat (first | refine blk_drewN ?_ _ | refine blk_drew ?_ | refine blk_alloc ?_ _)); refine blk_far ?_ NB188_194.out _; (with_reducible repeat (first | refine blk_drewN ?_ _ | refine blk_drew ?_ | refine blk_alloc ?_ _)); exact BK188.out)) : gb196 ≠ gb188)); have n13_ := Aside0.mk ((by rw [hg]; exact Nat.ne_of_lt (blk_lt (g := gb189) (o := .cells #[.int .u8 0, .int .u64 0, .string (⟨#[]⟩ : ByteArray)] 27 (0, 0)) (by (with_reducible repeat (first | refine blk_drewN ?_ _ | refine blk_drew ?_ | refine blk_alloc ?_ _)); refine blk_far ?_ NB189_195.out _; (with_reducible repeat (first | refine blk_drewN ?_ _ | refine blk_drew ?_ | refine blk_alloc ?_ _)); refine blk_far ?_ NB189_195.out _; (with_reducible repeat (first | refine blk_drewN ?_ _ | refine blk_drew ?_ | refine blk_alloc ?_ _)); refine blk_far ?_ NB189_194.out _; (with_reducible repeat (first | refine blk_drewN ?_ _ | refine blk_drew ?_ | refine blk_alloc ?_ _)); refine blk_far ?_ NB189_194.out _; (with_reducible repeat (first | refine blk_drewN ?_ _ | refine blk_drew ?_ | refine blk_alloc ?_ _)); exact BK189.out)) : gb189 ≠ gb196)); have n14_ := Aside0.mk ((by rw [hg]; exact Nat.ne_of_gt (blk_lt (g := gb189) (o := .cells #[.int .u8 0, .int .u64 0, .string (⟨#[]⟩ : ByteArray)] 27 (0, 0)) (by (with_reducible repeat (first | refine blk_drewN ?_ _ | refine blk_drew ?_ | refine blk_alloc ?_ _)); refine blk_far ?_ NB189_195.out _; (with_reducible repeat (first | refine blk_drewN ?_ _ | refine blk_drew ?_ | refine blk_alloc ?_ _)); refine blk_far ?_ NB189_195.out _; (with_reducible repeat (first | refine blk_drewN ?_ _ | refine blk_drew ?_ | refine blk_alloc ?_ _)); refine blk_far ?_ NB189_194.out _; (with_reducible repeat (first | refine blk_drewN ?_ _ | refine blk_drew ?_ | refine blk_alloc ?_ _)); refine blk_far ?_ NB189_194.out _; (with_reducible repeat (first | refine blk_drewN ?_ _ | refine blk_drew ?_ | refine blk_alloc ?_ _)); exact BK189.out)) : gb196 ≠ gb189)); have n15_ := Aside0.mk ((by rw [hg]; exact Nat.ne_of_lt (blk_lt (g := gb194) (o := .cells #[.bool t190, .int .u64 t191] 58 (0, 0)) (by (with_reducible repeat (first | refine blk_drewN ?_ _ | refine blk_drew ?_ | refine blk_alloc ?_ _)); refine blk_far ?_ NB194_195.out _; (with_reducible repeat (first | refine blk_drewN ?_ _ | refine blk_drew ?_ | refine blk_alloc ?_ _)); refine blk_far ?_ NB194_195.out _; (with_reducible repeat (first | refine blk_drewN ?_ _ | refine blk_drew ?_ | refine blk_alloc ?_ _)); refine blk_put (cs := #[.bool t190, .int .u64 0]) ?_ 1 _ rfl; (with_reducible repeat (first | refine blk_drewN ?_ _ | refine blk_drew ?_ | refine blk_alloc ?_ _)); refine blk_put (cs := #[.bool false, .int .u64 0]) ?_ 0 _ rfl; (with_reducible repeat (first | refine blk_drewN ?_ _ | refine blk_drew ?_ | refine blk_alloc ?_ _)); exact BK194.out)) : gb194 ≠ gb196)); have n16_ := Aside0.mk ((by rw [hg]; exact Nat.ne_of_gt (blk_lt (g := gb194) (o := .cells #[.bool t190, .int .u64 t191] 58 (0, 0)) (by (with_reducible repeat (first | refine blk_drewN ?_ _ | refine blk_drew ?_ | refine blk_alloc ?_ _)); refine blk_far ?_ NB194_195.out _; (with_reducible repeat (first | refine blk_drewN ?_ _ | refine blk_drew ?_ | refine blk_alloc ?_ _)); refine blk_far ?_ NB194_195.out _; (with_reducible repeat (first | refine blk_drewN ?_ _ | refine blk_drew ?_ | refine blk_alloc ?_ _)); refine blk_put (cs := #[.bool t190, .int .u64 0]) ?_ 1 _ rfl; (with_reducible repeat (first | refine blk_drewN ?_ _ | refine blk_drew ?_ | refine blk_alloc ?_ _)); refine blk_put (cs := #[.bool false, .int .u64 0]) ?_ 0 _ rfl; (with_reducible repeat (first | refine blk_drewN ?_ _ | refine blk_drew ?_ | refine blk_alloc ?_ _)); exact BK194.out)) : gb196 ≠ gb194)); have n17_ := Aside0.mk ((by rw [hg]; exact Nat.ne_of_lt (blk_lt (g := gb195) (o := .cells #[.bool t192, .int .u64 t193] 58 (0, 0)) (by (with_reducible repeat (first | refine blk_drewN ?_ _ | refine blk_drew ?_ | refine blk_alloc ?_ _)); refine blk_put (cs := #[.bool t192, .int .u64 0]) ?_ 1 _ rfl; (with_reducible repeat (first | refine blk_drewN ?_ _ | refine blk_drew ?_ | refine blk_alloc ?_ _)); refine blk_put (cs := #[.bool false, .int .u64 0]) ?_ 0 _ rfl; (with_reducible repeat (first | refine blk_drewN ?_ _ | refine blk_drew ?_ | refine blk_alloc ?_ _)); refine blk_far ?_ NB195_194.out _; (with_reducible repeat (first | refine blk_drewN ?_ _ | refine blk_drew ?_ | refine blk_alloc ?_ _)); refine blk_far ?_ NB195_194.out _; (with_reducible repeat (first | refine blk_drewN ?_ _ | refine blk_drew ?_ | refine blk_alloc ?_ _)); exact BK195.out)) : gb195 ≠ gb196)); have n18_ := Aside0.mk ((by rw [hg]; exact Nat.ne_of_gt (blk_lt (g := gb195) (o := .cells #[.bool t192, .int .u64 t193] 58 (0, 0)) (by (with_reducible repeat (first | refine blk_drewN ?_ _ | refine blk_drew ?_ | refine blk_alloc ?_ _)); refine blk_put (cs := #[.bool t192, .int .u64 0]) ?_ 1 _ rfl; (with_reducible repeat (first | refine blk_drewN ?_ _ | refine blk_drew ?_ | refine blk_alloc ?_ _)); refine blk_put (cs := #[.bool false, .int .u64 0]) ?_ 0 _ rfl; (with_reducible repeat (first | refine blk_drewN ?_ _ | refine blk_drew ?_ | refine blk_alloc ?_ _)); refine blk_far ?_ NB195_194.out _; (with_reducible repeat (first | refine blk_drewN ?_ _ | refine blk_drew ?_ | refine blk_alloc ?_ _)); refine blk_far ?_ NB195_194.out _; (with_reducible repeat (first | refine blk_drewN ?_ _ | refine blk_drew ?_ | refine blk_alloc ?_ _)); exact BK195.out)) : gb196 ≠ gb195)); clear BK187; clear BK188; clear BK189; clear BK194; clear BK195; clear HB; have BK187 := n0_; have BK188 := n1_; have BK189 := n2_; have BK194 := n3_; have BK195 := n4_; have HB := n5_; have BK196 := n6_; have GW196 := n7_; have GE196 := n8_; have NB187_196 := n9_; have NB196_187 := n10_; have NB188_196 := n11_; have NB196_188 := n12_; have NB189_196 := n13_; have NB196_189 := n14_; have NB194_196 := n15_; have NB196_194 := n16_; have NB195_196 := n17_; have NB196_195 := n18_; clear n0_ n1_ n2_ n3_ n4_ n5_ n6_ n7_ n8_ n9_ n10_ n11_ n12_ n13_ n14_ n15_ n16_ n17_ n18_; clear hb hbox hg))
 (try simp only [Act.put, List.setIfInBounds_toArray, List.set_cons_zero, List.set_cons_succ])
 go_cut [10] (fun v10 wc => ∃ (kq : Nat) (x10_5 : Bool) (x190000_5 : Int) (x190001_5 : Int) (x190002_5 : ByteArray) (x196000_5 : Bool) (x197000_5 : Bool) (x197001_5 : Int), v10 = .bool x10_5 ∧ Aside0 (value_integers.j1 kq x10_5 a1_0 a1_1 a1_2 x197000_5 x197001_5 = some (r1, r2, r3, r4)) ∧ Aside0 (kq ≤ k) ∧ Aside0 (wc.heap[gb187]? = some (.cells #[.int .u8 a1_0, .int .u64 a1_1, .string a1_2] 27 (0, 0))) ∧ Aside0 (wc.heap[gb188]? = some (.cells #[.int .u8 a2_0, .int .u64 a2_1, .string a2_2] 27 (0, 0))) ∧ Aside0 (wc.heap[gb189]? = some (.cells #[.int .u8 x190000_5, .int .u64 x190001_5, .string x190002_5] 27 (0, 0))) ∧ Aside0 (wc.heap[gb194]? = some (.cells #[.bool t190, .int .u64 t191] 58 (0, 0))) ∧ Aside0 (wc.heap[gb195]? = some (.cells #[.bool x196000_5, .int .u64 t193] 58 (0, 0))) ∧ Aside0 (wc.heap[gb196]? = some (.cells #[.bool x197000_5, .int .u64 x197001_5] 58 (0, 0))) ∧ Aside0 (Below w.heap.size w wc))
 case first =>
  have H := HC6.out
  clear HC6
  have HC21 := Aside0.mk H
  clear H
  go_upto_block 2 with (fail)
  go_cut [] (fun wc => ∃ (kq : Nat) (x196000_20 : Bool), Aside0 (value_integers.j0 kq a1_0 a1_1 a1_2 t190 t191 x196000_20 t193 = some (r1, r2, r3, r4)) ∧ Aside0 (kq ≤ k) ∧ Aside0 (wc.heap[gb187]? = some (.cells #[.int .u8 a1_0, .int .u64 a1_1, .string a1_2] 27 (0, 0))) ∧ Aside0 (wc.heap[gb188]? = some (.cells #[.int .u8 a2_0, .int .u64 a2_1, .string a2_2] 27 (0, 0))) ∧ Aside0 (wc.heap[gb189]? = some (.cells #[.int .u8 0, .int .u64 0, .string (⟨#[]⟩ : ByteArray)] 27 (0, 0))) ∧ Aside0 (wc.heap[gb194]? = some (.cells #[.bool t190, .int .u64 t191] 58 (0, 0))) ∧ Aside0 (wc.heap[gb195]? = some (.cells #[.bool x196000_20, .int .u64 t193] 58 (0, 0))) ∧ Aside0 (wc.heap[gb196]? = some (.cells #[.bool false, .int .u64 0] 58 (0, 0))) ∧ Aside0 (Below w.heap.size w wc))
  case first =>
   have H := HC21.out
   clear HC21
   by_cases c22 : a0 = 2
   ·rw [if_pos c22] at H
    have c22b0 : (a0 == 2) = true := beq_iff_eq.mpr c22
    have c22b1 : (a0 != 2) = false := bne_eq_false_iff_eq.mpr c22
    clear c22
    (first | rw [c22b0] | (simp only [i64_w, i32_w]; rw [c22b0]) | skip)
    have H' := Aside0.mk H
    clear H
    have hnb23 := NB195_187.out
    have hnc23 := NB187_195.out
    have hnb24 := NB195_188.out
    have hnc24 := NB188_195.out
    have hnb25 := NB195_189.out
    have hnc25 := NB189_195.out
    have hnb26 := NB195_194.out
    have hnc26 := NB194_195.out
    have hnb27 := NB195_196.out
    have hnc27 := NB196_195.out
    have hcz28_0 : w20.cell? ⟨gb195, 0, none⟩ = some (.bool t192) := bc BK195 0
    have hcz28_1 : w20.cell? ⟨gb195, 1, none⟩ = some (.int .u64 t193) := bc BK195 1
    have hfz28_0 := blk_frozen BK195.out 0
    have hfz28_1 := blk_frozen BK195.out 1
    go_wp2
    go_meet
    case rel => exact ⟨_, (!t192), H', ⟨by first | omega | exact Nat.le_refl _⟩, ⟨by (with_reducible repeat (first | refine blk_drewN ?_ _ | refine blk_drew ?_ | refine blk_alloc ?_ _)); refine blk_far ?_ NB187_195.out _; (with_reducible repeat (first | refine blk_drewN ?_ _ | refine blk_drew ?_ | refine blk_alloc ?_ _)); exact BK187.out⟩, ⟨by (with_reducible repeat (first | refine blk_drewN ?_ _ | refine blk_drew ?_ | refine blk_alloc ?_ _)); refine blk_far ?_ NB188_195.out _; (with_reducible repeat (first | refine blk_drewN ?_ _ | refine blk_drew ?_ | refine blk_alloc ?_ _)); exact BK188.out⟩, ⟨by (with_reducible repeat (first | refine blk_drewN ?_ _ | refine blk_drew ?_ | refine blk_alloc ?_ _)); refine blk_far ?_ NB189_195.out _; (with_reducible repeat (first | refine blk_drewN ?_ _ | refine blk_drew ?_ | refine blk_alloc ?_ _)); exact BK189.out⟩, ⟨by (with_reducible repeat (first | refine blk_drewN ?_ _ | refine blk_drew ?_ | refine blk_alloc ?_ _)); refine blk_far ?_ NB194_195.out _; (with_reducible repeat (first | refine blk_drewN ?_ _ | refine blk_drew ?_ | refine blk_alloc ?_ _)); exact BK194.out⟩, ⟨by (with_reducible repeat (first | refine blk_drewN ?_ _ | refine blk_drew ?_ | refine blk_alloc ?_ _)); refine blk_put (cs := #[.bool t192, .int .u64 t193]) ?_ 0 _ rfl; (with_reducible repeat (first | refine blk_drewN ?_ _ | refine blk_drew ?_ | refine blk_alloc ?_ _)); exact BK195.out⟩, ⟨by (with_reducible repeat (first | refine blk_drewN ?_ _ | refine blk_drew ?_ | refine blk_alloc ?_ _)); refine blk_far ?_ NB196_195.out _; (with_reducible repeat (first | refine blk_drewN ?_ _ | refine blk_drew ?_ | refine blk_alloc ?_ _)); exact BK196.out⟩, ⟨bs HB⟩⟩
   ·rw [if_neg c22] at H
    have c22b0 : (a0 == 2) = false := beq_eq_false_iff_ne.mpr c22
    have c22b1 : (a0 != 2) = true := bne_iff_ne.mpr c22
    (first | rw [c22b0] | (simp only [i64_w, i32_w]; rw [c22b0]) | skip)
    by_cases c29 : a0 = 1
    ·rw [if_pos c29] at H
     have c29b0 : (a0 == 1) = true := beq_iff_eq.mpr c29
     have c29b1 : (a0 != 1) = false := bne_eq_false_iff_eq.mpr c29
     clear c29
     have H' := Aside0.mk H
     clear H
     go_wp2
     go_meet
     case rel => exact ⟨_, (t192), H', ⟨by first | omega | exact Nat.le_refl _⟩, ⟨by (with_reducible repeat (first | refine blk_drewN ?_ _ | refine blk_drew ?_ | refine blk_alloc ?_ _)); exact BK187.out⟩, ⟨by (with_reducible repeat (first | refine blk_drewN ?_ _ | refine blk_drew ?_ | refine blk_alloc ?_ _)); exact BK188.out⟩, ⟨by (with_reducible repeat (first | refine blk_drewN ?_ _ | refine blk_drew ?_ | refine blk_alloc ?_ _)); exact BK189.out⟩, ⟨by (with_reducible repeat (first | refine blk_drewN ?_ _ | refine blk_drew ?_ | refine blk_alloc ?_ _)); exact BK194.out⟩, ⟨by (with_reducible repeat (first | refine blk_drewN ?_ _ | refine blk_drew ?_ | refine blk_alloc ?_ _)); exact BK195.out⟩, ⟨by (with_reducible repeat (first | refine blk_drewN ?_ _ | refine blk_drew ?_ | refine blk_alloc ?_ _)); exact BK196.out⟩, ⟨bs HB⟩⟩
    ·rw [if_neg c29] at H
     have c29b0 : (a0 == 1) = false := beq_eq_false_iff_ne.mpr c29
     have c29b1 : (a0 != 1) = true := bne_iff_ne.mpr c29
     by_cases c30 : a0 = 3
     ·rw [if_pos c30] at H
      have c30b0 : (a0 == 3) = true := beq_iff_eq.mpr c30
      have c30b1 : (a0 != 3) = false := bne_eq_false_iff_eq.mpr c30
      clear c30
      replace H := Option.bind_eq_some_iff.mp H
      obtain ⟨⟨t197, t198, t199⟩, A310, H⟩ := H
      replace H : (value_integers.j1 k t199 a1_0 a1_1 a1_2 t197 t198) = some (r1, r2, r3, r4) := H
      have A31 := Aside0.mk A310
      clear A310
      have H' := Aside0.mk H
      clear H
      have hnb32 := NB194_187.out
      have hnc32 := NB187_194.out
      have hnb33 := NB194_188.out
      have hnc33 := NB188_194.out
      have hnb34 := NB194_189.out
      have hnc34 := NB189_194.out
      have hnb35 := NB194_195.out
      have hnc35 := NB195_194.out
      have hnb36 := NB194_196.out
      have hnc36 := NB196_194.out
      have hcz37_0 : w20.cell? ⟨gb194, 0, none⟩ = some (.bool t190) := bc BK194 0
      have hcz37_1 : w20.cell? ⟨gb194, 1, none⟩ = some (.int .u64 t191) := bc BK194 1
      have hfz37_0 := blk_frozen BK194.out 0
      have hfz37_1 := blk_frozen BK194.out 1
      have hnb38 := NB195_187.out
      have hnc38 := NB187_195.out
      have hnb39 := NB195_188.out
      have hnc39 := NB188_195.out
      have hnb40 := NB195_189.out
      have hnc40 := NB189_195.out
      have hnb41 := NB195_196.out
      have hnc41 := NB196_195.out
      have hcz42_0 : w20.cell? ⟨gb195, 0, none⟩ = some (.bool t192) := bc BK195 0
      have hcz42_1 : w20.cell? ⟨gb195, 1, none⟩ = some (.int .u64 t193) := bc BK195 1
      have hfz42_0 := blk_frozen BK195.out 0
      have hfz42_1 := blk_frozen BK195.out 1
      go_wp2_with (first | ((with_reducible refine gate_callee (f := 70) rfl ?_); refine goesL_ (some 38) rfl rfl Try.func70 (by kernel_rfl) rfl #[.agg #[.bool t190, .int .u64 t191], .agg #[.bool t192, .int .u64 t193]] rfl (by (try simp only [List.map_toArray, List.map_cons, List.map_nil]); first | done | rfl | (simp only [List.length_drop, List.length_take]; rfl)) ?_; (with_reducible refine (value_times.calls t190 t191 t192 t193 t197 t198 t199 _ A31.out).mono ?_); rintro e w43 ⟨rfl, hb⟩; refine ⟨_, rfl, ?_⟩; have n0_ := kb BK187 hb; have n1_ := kb BK188 hb; have n2_ := kb BK189 hb; have n3_ := kb BK194 hb; have n4_ := kb BK195 hb; have n5_ := kb BK196 hb; have n6_ := bt HB hb; clear BK187; clear BK188; clear BK189; clear BK194; clear BK195; clear BK196; clear HB; have BK187 := n0_; have BK188 := n1_; have BK189 := n2_; have BK194 := n3_; have BK195 := n4_; have BK196 := n5_; have HB := n6_; clear n0_ n1_ n2_ n3_ n4_ n5_ n6_; (try clear hb); (try clear hb2); (try clear hk); (try clear hi); have hnb44 := NB196_187.out; have hnc44 := NB187_196.out; have hnb45 := NB196_188.out; have hnc45 := NB188_196.out; have hnb46 := NB196_189.out; have hnc46 := NB189_196.out; have hcz47_0 : w43.cell? ⟨gb196, 0, none⟩ = some (.bool false) := bc BK196 0; have hcz47_1 : w43.cell? ⟨gb196, 1, none⟩ = some (.int .u64 0) := bc BK196 1; have hfz47_0 := blk_frozen BK196.out 0; have hfz47_1 := blk_frozen BK196.out 1))
      go_meet
      case rel => exact ⟨_, (t199), (0), (0), ((⟨#[]⟩ : ByteArray)), (t192), (t197), (t198), (by first | rfl | (simp; done) | (simp [*]; done)), H', ⟨by first | omega | exact Nat.le_refl _⟩, ⟨by (with_reducible repeat (first | refine blk_drewN ?_ _ | refine blk_drew ?_ | refine blk_alloc ?_ _)); refine blk_far ?_ NB187_196.out _; (with_reducible repeat (first | refine blk_drewN ?_ _ | refine blk_drew ?_ | refine blk_alloc ?_ _)); refine blk_far ?_ NB187_196.out _; (with_reducible repeat (first | refine blk_drewN ?_ _ | refine blk_drew ?_ | refine blk_alloc ?_ _)); exact BK187.out⟩, ⟨by (with_reducible repeat (first | refine blk_drewN ?_ _ | refine blk_drew ?_ | refine blk_alloc ?_ _)); refine blk_far ?_ NB188_196.out _; (with_reducible repeat (first | refine blk_drewN ?_ _ | refine blk_drew ?_ | refine blk_alloc ?_ _)); refine blk_far ?_ NB188_196.out _; (with_reducible repeat (first | refine blk_drewN ?_ _ | refine blk_drew ?_ | refine blk_alloc ?_ _)); exact BK188.out⟩, ⟨by (with_reducible repeat (first | refine blk_drewN ?_ _ | refine blk_drew ?_ | refine blk_alloc ?_ _)); refine blk_far ?_ NB189_196.out _; (with_reducible repeat (first | refine blk_drewN ?_ _ | refine blk_drew ?_ | refine blk_alloc ?_ _)); refine blk_far ?_ NB189_196.out _; (with_reducible repeat (first | refine blk_drewN ?_ _ | refine blk_drew ?_ | refine blk_alloc ?_ _)); exact BK189.out⟩, ⟨by (with_reducible repeat (first | refine blk_drewN ?_ _ | refine blk_drew ?_ | refine blk_alloc ?_ _)); refine blk_far ?_ NB194_196.out _; (with_reducible repeat (first | refine blk_drewN ?_ _ | refine blk_drew ?_ | refine blk_alloc ?_ _)); refine blk_far ?_ NB194_196.out _; (with_reducible repeat (first | refine blk_drewN ?_ _ | refine blk_drew ?_ | refine blk_alloc ?_ _)); exact BK194.out⟩, ⟨by (with_reducible repeat (first | refine blk_drewN ?_ _ | refine blk_drew ?_ | refine blk_alloc ?_ _)); refine blk_far ?_ NB195_196.out _; (with_reducible repeat (first | refine blk_drewN ?_ _ | refine blk_drew ?_ | refine blk_alloc ?_ _)); refine blk_far ?_ NB195_196.out _; (with_reducible repeat (first | refine blk_drewN ?_ _ | refine blk_drew ?_ | refine blk_alloc ?_ _)); exact BK195.out⟩, ⟨by (with_reducible repeat (first | refine blk_drewN ?_ _ | refine blk_drew ?_ | refine blk_alloc ?_ _)); refine blk_put (cs := #[.bool t197, .int .u64 0]) ?_ 1 _ rfl; (with_reducible repeat (first | refine blk_drewN ?_ _ | refine blk_drew ?_ | refine blk_alloc ?_ _)); refine blk_put (cs := #[.bool false, .int .u64 0]) ?_ 0 _ rfl; (with_reducible repeat (first | refine blk_drewN ?_ _ | refine blk_drew ?_ | refine blk_alloc ?_ _)); exact BK196.out⟩, ⟨bs HB⟩⟩
     ·rw [if_neg c30] at H
      have c30b0 : (a0 == 3) = false := beq_eq_false_iff_ne.mpr c30
      have c30b1 : (a0 != 3) = true := bne_iff_ne.mpr c30
      by_cases c48 : a0 = 4
      ·rw [if_pos c48] at H
       have c48b0 : (a0 == 4) = true := beq_iff_eq.mpr c48
       have c48b1 : (a0 != 4) = false := bne_eq_false_iff_eq.mpr c48
       clear c48
       by_cases c49 : t193 = 0
       ·rw [if_pos c49] at H
        have c49b0 : (t193 == 0) = true := beq_iff_eq.mpr c49
        have c49b1 : (t193 != 0) = false := bne_eq_false_iff_eq.mpr c49
        clear c49
        simp only [Option.some.injEq, Prod.mk.injEq] at H
        obtain ⟨rfl, rfl, rfl, rfl⟩ := H
        have hnb50 := NB195_187.out
        have hnc50 := NB187_195.out
        have hnb51 := NB195_188.out
        have hnc51 := NB188_195.out
        have hnb52 := NB195_189.out
        have hnc52 := NB189_195.out
        have hnb53 := NB195_194.out
        have hnc53 := NB194_195.out
        have hnb54 := NB195_196.out
        have hnc54 := NB196_195.out
        have hcz55_0 : w20.cell? ⟨gb195, 0, none⟩ = some (.bool t192) := bc BK195 0
        have hcz55_1 : w20.cell? ⟨gb195, 1, none⟩ = some (.int .u64 t193) := bc BK195 1
        have hfz55_0 := blk_frozen BK195.out 0
        have hfz55_1 := blk_frozen BK195.out 1
        have hnb56 := NB189_187.out
        have hnc56 := NB187_189.out
        have hnb57 := NB189_188.out
        have hnc57 := NB188_189.out
        have hnb58 := NB189_194.out
        have hnc58 := NB194_189.out
        have hnb59 := NB189_196.out
        have hnc59 := NB196_189.out
        have hcz60_0 : w20.cell? ⟨gb189, 0, none⟩ = some (.int .u8 0) := bc BK189 0
        have hcz60_1 : w20.cell? ⟨gb189, 1, none⟩ = some (.int .u64 0) := bc BK189 1
        have hcz60_2 : w20.cell? ⟨gb189, 2, none⟩ = some (.string (⟨#[]⟩ : ByteArray)) := bc BK189 2
        have hfz60_0 := blk_frozen BK189.out 0
        have hfz60_1 := blk_frozen BK189.out 1
        have hfz60_2 := blk_frozen BK189.out 2
        go_wp2
        refine bodyPost_ret (results_ct rfl _ _ gb189 27 #[.int .u8 0, .int .u64 0, .string (⟨#[]⟩ : ByteArray)] (0, 0) _ rfl (by (with_reducible repeat (first | refine blk_drewN ?_ _ | refine blk_drew ?_ | refine blk_alloc ?_ _)); refine blk_put (cs := #[.int .u8 0, .int .u64 0, .string (⟨#[]⟩ : ByteArray)]) ?_ 2 _ rfl; (with_reducible repeat (first | refine blk_drewN ?_ _ | refine blk_drew ?_ | refine blk_alloc ?_ _)); refine blk_put (cs := #[.int .u8 0, .int .u64 0, .string (⟨#[]⟩ : ByteArray)]) ?_ 1 _ rfl; (with_reducible repeat (first | refine blk_drewN ?_ _ | refine blk_drew ?_ | refine blk_alloc ?_ _)); refine blk_put (cs := #[.int .u8 0, .int .u64 0, .string (⟨#[]⟩ : ByteArray)]) ?_ 0 _ rfl; (with_reducible repeat (first | refine blk_drewN ?_ _ | refine blk_drew ?_ | refine blk_alloc ?_ _)); exact BK189.out) Try.underlying27 rfl (by kernel_rfl)) rfl ?_
        exact ⟨by first | rfl | (simp [errW_none, errW_some] <;> rfl) | (simp [*, errW_none, errW_some] <;> rfl), bs HB⟩
       ·rw [if_neg c49] at H
        have c49b0 : (t193 == 0) = false := beq_eq_false_iff_ne.mpr c49
        have c49b1 : (t193 != 0) = true := bne_iff_ne.mpr c49
        have H' := Aside0.mk H
        clear H
        have hnb61 := NB195_187.out
        have hnc61 := NB187_195.out
        have hnb62 := NB195_188.out
        have hnc62 := NB188_195.out
        have hnb63 := NB195_189.out
        have hnc63 := NB189_195.out
        have hnb64 := NB195_194.out
        have hnc64 := NB194_195.out
        have hnb65 := NB195_196.out
        have hnc65 := NB196_195.out
        have hcz66_0 : w20.cell? ⟨gb195, 0, none⟩ = some (.bool t192) := bc BK195 0
        have hcz66_1 : w20.cell? ⟨gb195, 1, none⟩ = some (.int .u64 t193) := bc BK195 1
        have hfz66_0 := blk_frozen BK195.out 0
        have hfz66_1 := blk_frozen BK195.out 1
        try go_wp2
        have n0_ := Aside0.mk (blk_drew BK187.out)
        have n1_ := Aside0.mk (blk_drew BK188.out)
        have n2_ := Aside0.mk (blk_drew BK189.out)
        have n3_ := Aside0.mk (blk_drew BK194.out)
        have n4_ := Aside0.mk (blk_drew BK195.out)
        have n5_ := Aside0.mk (blk_drew BK196.out)
        have n6_ := Aside0.mk (below_drew1 HB.out)
        clear BK187
        clear BK188
        clear BK189
        clear BK194
        clear BK195
        clear BK196
        clear HB
        have BK187 := n0_
        have BK188 := n1_
        have BK189 := n2_
        have BK194 := n3_
        have BK195 := n4_
        have BK196 := n5_
        have HB := n6_
        clear n0_ n1_ n2_ n3_ n4_ n5_ n6_
        refine start_ (n := 12) (S := fun w' => w'.cell? ⟨gb194, 0, none⟩ = some (.bool t190) ∧ w'.cell? ⟨gb194, 1, none⟩ = some (.int .u64 t191) ∧ w'.cell? ⟨gb195, 0, none⟩ = some (.bool t192) ∧ w'.cell? ⟨gb195, 1, none⟩ = some (.int .u64 t193)) (ds := []) #[false, false, false, false, false, false, false, false, false, false, false, false] (by kernel_rfl) rfl rfl ⟨bc BK194 0, bc BK194 1, bc BK195 0, bc BK195 1⟩ (fun hHeld => ?_); refine with_tabW value_integers.tab14 value_integers.bits14 (fun HT_ HW_ => ?_)
        generalize w20.drew = w67 at BK187 BK188 BK189 BK194 BK195 BK196 HB hHeld ⊢
        refine pure_ (i := 0) (N := some 45) (v := ?_) (a' := ?_) #[true, false, false, false, false, false, false, false, false, false, false, false] rfl rfl (any_of HT_.out (by kernel_rfl)) (fun _ _ _ h => h) (Or.inl ⟨by rfl, ?_⟩) ?_ ?_
        rotate_left
        ·intro w'
         go_simp
         with_reducible rfl
        rotate_left
        ·simp only [Act.put, List.setIfInBounds_toArray, List.set_cons_zero, List.set_cons_succ, i64_w, i32_w]
         rfl
        refine pure_ (i := 2) (N := some 47) (v := ?_) (a' := ?_) #[true, false, true, false, false, false, false, false, false, false, false, false] rfl rfl (any_of HT_.out (by kernel_rfl)) (fun _ _ _ h => h) (Or.inl ⟨by rfl, ?_⟩) ?_ ?_
        rotate_left
        ·intro w'
         go_simp
         with_reducible rfl
        rotate_left
        ·simp only [Act.put, List.setIfInBounds_toArray, List.set_cons_zero, List.set_cons_succ, i64_w, i32_w]
         rfl
        refine pure_ (i := 5) (N := some 50) (v := ?_) (a' := ?_) #[true, false, true, false, false, true, false, false, false, false, false, false] rfl rfl (any_of HT_.out (by kernel_rfl)) (fun _ _ _ h => h) (Or.inl ⟨by rfl, ?_⟩) ?_ ?_
        rotate_left
        ·intro w'
         go_simp
         with_reducible rfl
        rotate_left
        ·simp only [Act.put, List.setIfInBounds_toArray, List.set_cons_zero, List.set_cons_succ, i64_w, i32_w]
         rfl
        refine pure_ (i := 7) (N := some 52) (v := ?_) (a' := ?_) #[true, false, true, false, false, true, false, true, false, false, false, false] rfl rfl (any_of HT_.out (by kernel_rfl)) (fun _ _ _ h => h) (Or.inl ⟨by rfl, ?_⟩) ?_ ?_
        rotate_left
        ·intro w'
         go_simp
         with_reducible rfl
        rotate_left
        ·simp only [Act.put, List.setIfInBounds_toArray, List.set_cons_zero, List.set_cons_succ, i64_w, i32_w]
         rfl
        refine take_ (i := 1) (N := some 46) (v := ?_) (a' := ?_) #[true, true, true, false, false, true, false, true, false, false, false, false] rfl rfl (take_ofW HT_.out HW_.out (by kernel_rfl)) (fun _ _ _ h => h) (Or.inl ⟨by rfl, ?_⟩) hHeld ?_ ?_
        rotate_left
        ·rintro w' ⟨s0, s1, s2, s3⟩
         go_simp
         with_reducible rfl
        rotate_left
        ·simp only [Act.put, List.setIfInBounds_toArray, List.set_cons_zero, List.set_cons_succ, i64_w, i32_w]
         rfl
        refine take_ (i := 3) (N := some 48) (v := ?_) (a' := ?_) #[true, true, true, true, false, true, false, true, false, false, false, false] rfl rfl (take_ofW HT_.out HW_.out (by kernel_rfl)) (fun _ _ _ h => h) (Or.inl ⟨by rfl, ?_⟩) hHeld ?_ ?_
        rotate_left
        ·rintro w' ⟨s0, s1, s2, s3⟩
         go_simp
         with_reducible rfl
        rotate_left
        ·simp only [Act.put, List.setIfInBounds_toArray, List.set_cons_zero, List.set_cons_succ, i64_w, i32_w]
         rfl
        refine pure_ (i := 4) (N := some 49) (v := ?_) (a' := ?_) #[true, true, true, true, true, true, false, true, false, false, false, false] rfl rfl (any_of HT_.out (by kernel_rfl)) (fun _ _ _ h => h) (Or.inl ⟨by rfl, ?_⟩) ?_ ?_
        rotate_left
        ·intro w'
         go_simp
         with_reducible rfl
        rotate_left
        ·simp only [Act.put, List.setIfInBounds_toArray, List.set_cons_zero, List.set_cons_succ, i64_w, i32_w]
         rfl
        refine take_ (i := 6) (N := some 51) (v := ?_) (a' := ?_) #[true, true, true, true, true, true, true, true, false, false, false, false] rfl rfl (take_ofW HT_.out HW_.out (by kernel_rfl)) (fun _ _ _ h => h) (Or.inl ⟨by rfl, ?_⟩) hHeld ?_ ?_
        rotate_left
        ·rintro w' ⟨s0, s1, s2, s3⟩
         go_simp
         with_reducible rfl
        rotate_left
        ·simp only [Act.put, List.setIfInBounds_toArray, List.set_cons_zero, List.set_cons_succ, i64_w, i32_w]
         rfl
        refine take_ (i := 8) (N := some 53) (v := ?_) (a' := ?_) #[true, true, true, true, true, true, true, true, true, false, false, false] rfl rfl (take_ofW HT_.out HW_.out (by kernel_rfl)) (fun _ _ _ h => h) (Or.inl ⟨by rfl, ?_⟩) hHeld ?_ ?_
        rotate_left
        ·rintro w' ⟨s0, s1, s2, s3⟩
         go_simp
         with_reducible rfl
        rotate_left
        ·simp only [Act.put, List.setIfInBounds_toArray, List.set_cons_zero, List.set_cons_succ, i64_w, i32_w]
         rfl
        refine pure_ (i := 9) (N := some 54) (v := ?_) (a' := ?_) #[true, true, true, true, true, true, true, true, true, true, false, false] rfl rfl (any_of HT_.out (by kernel_rfl)) (fun _ _ _ h => h) (Or.inl ⟨by rfl, ?_⟩) ?_ ?_
        rotate_left
        ·intro w'
         go_simp
         with_reducible rfl
        rotate_left
        ·simp only [Act.put, List.setIfInBounds_toArray, List.set_cons_zero, List.set_cons_succ, i64_w, i32_w]
         rfl
        refine pure_ (i := 10) (N := some 55) (v := ?_) (a' := ?_) #[true, true, true, true, true, true, true, true, true, true, true, false] rfl rfl (any_of HT_.out (by kernel_rfl)) (fun _ _ _ h => h) (Or.inl ⟨by rfl, ?_⟩) ?_ ?_
        rotate_left
        ·intro w'
         go_simp
         with_reducible rfl
        rotate_left
        ·simp only [Act.put, List.setIfInBounds_toArray, List.set_cons_zero, List.set_cons_succ, i64_w, i32_w]
         rfl
        refine one_ (i := 11) (N := none) #[true, true, true, true, true, true, true, true, true, true, true, true] rfl rfl (one_of HT_.out (by kernel_rfl)) (by decide) (fun K hK => ?_)
        have hs68 : w67.cell? ⟨gb196, 0, none⟩ = some (.bool false) := bc BK196 0
        have hfs68 := blk_frozen BK196.out 0
        have hns68_0 := NB187_196.out
        have hns68_1 := NB188_196.out
        have hns68_2 := NB189_196.out
        have hns68_3 := NB194_196.out
        have hns68_4 := NB195_196.out
        have hms68_0 := NB196_187.out
        have hms68_1 := NB196_188.out
        have hms68_2 := NB196_189.out
        have hms68_3 := NB196_194.out
        have hms68_4 := NB196_195.out
        have hs69 : w67.cell? ⟨gb196, 1, none⟩ = some (.int .u64 0) := bc BK196 1
        have hfs69 := blk_frozen BK196.out 1
        have hns69_0 := NB187_196.out
        have hns69_1 := NB188_196.out
        have hns69_2 := NB189_196.out
        have hns69_3 := NB194_196.out
        have hns69_4 := NB195_196.out
        have hms69_0 := NB196_187.out
        have hms69_1 := NB196_188.out
        have hms69_2 := NB196_189.out
        have hms69_3 := NB196_194.out
        have hms69_4 := NB196_195.out
        refine skip_ (w1 := ?_) (by rfl) rfl ?_ ?_
        rotate_left
        ·go_simp
         rfl
        refine hK.out _ _ ⟨((cell_far (p := ⟨gb196, _, none⟩) NB194_196.out _).trans (((cell_far (p := ⟨gb196, _, none⟩) NB194_196.out _).trans (hHeld.1)))), ((cell_far (p := ⟨gb196, _, none⟩) NB194_196.out _).trans (((cell_far (p := ⟨gb196, _, none⟩) NB194_196.out _).trans (hHeld.2.1)))), ((cell_far (p := ⟨gb196, _, none⟩) NB195_196.out _).trans (((cell_far (p := ⟨gb196, _, none⟩) NB195_196.out _).trans (hHeld.2.2.1)))), ((cell_far (p := ⟨gb196, _, none⟩) NB195_196.out _).trans (((cell_far (p := ⟨gb196, _, none⟩) NB195_196.out _).trans (hHeld.2.2.2))))⟩ (fun hHeld => ?_)
        clear hK K
        refine done_ (done_of HT_.out (by kernel_rfl)) ?_
        try go_wp2
        go_meet
        case rel => exact ⟨_, (true), (0), (0), ((⟨#[]⟩ : ByteArray)), (t192), ((t190 != t192)), (IntKind.u64.wrap (Int.tdiv t191 t193)), (by first | rfl | (simp; done) | (simp [*]; done)), H', ⟨by first | omega | exact Nat.le_refl _⟩, ⟨by (with_reducible repeat (first | refine blk_drewN ?_ _ | refine blk_drew ?_ | refine blk_alloc ?_ _)); refine blk_far ?_ NB187_196.out _; (with_reducible repeat (first | refine blk_drewN ?_ _ | refine blk_drew ?_ | refine blk_alloc ?_ _)); refine blk_far ?_ NB187_196.out _; (with_reducible repeat (first | refine blk_drewN ?_ _ | refine blk_drew ?_ | refine blk_alloc ?_ _)); exact BK187.out⟩, ⟨by (with_reducible repeat (first | refine blk_drewN ?_ _ | refine blk_drew ?_ | refine blk_alloc ?_ _)); refine blk_far ?_ NB188_196.out _; (with_reducible repeat (first | refine blk_drewN ?_ _ | refine blk_drew ?_ | refine blk_alloc ?_ _)); refine blk_far ?_ NB188_196.out _; (with_reducible repeat (first | refine blk_drewN ?_ _ | refine blk_drew ?_ | refine blk_alloc ?_ _)); exact BK188.out⟩, ⟨by (with_reducible repeat (first | refine blk_drewN ?_ _ | refine blk_drew ?_ | refine blk_alloc ?_ _)); refine blk_far ?_ NB189_196.out _; (with_reducible repeat (first | refine blk_drewN ?_ _ | refine blk_drew ?_ | refine blk_alloc ?_ _)); refine blk_far ?_ NB189_196.out _; (with_reducible repeat (first | refine blk_drewN ?_ _ | refine blk_drew ?_ | refine blk_alloc ?_ _)); exact BK189.out⟩, ⟨by (with_reducible repeat (first | refine blk_drewN ?_ _ | refine blk_drew ?_ | refine blk_alloc ?_ _)); refine blk_far ?_ NB194_196.out _; (with_reducible repeat (first | refine blk_drewN ?_ _ | refine blk_drew ?_ | refine blk_alloc ?_ _)); refine blk_far ?_ NB194_196.out _; (with_reducible repeat (first | refine blk_drewN ?_ _ | refine blk_drew ?_ | refine blk_alloc ?_ _)); exact BK194.out⟩, ⟨by (with_reducible repeat (first | refine blk_drewN ?_ _ | refine blk_drew ?_ | refine blk_alloc ?_ _)); refine blk_far ?_ NB195_196.out _; (with_reducible repeat (first | refine blk_drewN ?_ _ | refine blk_drew ?_ | refine blk_alloc ?_ _)); refine blk_far ?_ NB195_196.out _; (with_reducible repeat (first | refine blk_drewN ?_ _ | refine blk_drew ?_ | refine blk_alloc ?_ _)); exact BK195.out⟩, ⟨by (with_reducible repeat (first | refine blk_drewN ?_ _ | refine blk_drew ?_ | refine blk_alloc ?_ _)); refine blk_put (cs := #[.bool (t190 != t192), .int .u64 0]) ?_ 1 _ rfl; (with_reducible repeat (first | refine blk_drewN ?_ _ | refine blk_drew ?_ | refine blk_alloc ?_ _)); refine blk_put (cs := #[.bool false, .int .u64 0]) ?_ 0 _ rfl; (with_reducible repeat (first | refine blk_drewN ?_ _ | refine blk_drew ?_ | refine blk_alloc ?_ _)); exact BK196.out⟩, ⟨bs HB⟩⟩
      ·rw [if_neg c48] at H
       have c48b0 : (a0 == 4) = false := beq_eq_false_iff_ne.mpr c48
       have c48b1 : (a0 != 4) = true := bne_iff_ne.mpr c48
       by_cases c70 : t193 = 0
       ·rw [if_pos c70] at H
        have c70b0 : (t193 == 0) = true := beq_iff_eq.mpr c70
        have c70b1 : (t193 != 0) = false := bne_eq_false_iff_eq.mpr c70
        clear c70
        simp only [Option.some.injEq, Prod.mk.injEq] at H
        obtain ⟨rfl, rfl, rfl, rfl⟩ := H
        have hnb71 := NB195_187.out
        have hnc71 := NB187_195.out
        have hnb72 := NB195_188.out
        have hnc72 := NB188_195.out
        have hnb73 := NB195_189.out
        have hnc73 := NB189_195.out
        have hnb74 := NB195_194.out
        have hnc74 := NB194_195.out
        have hnb75 := NB195_196.out
        have hnc75 := NB196_195.out
        have hcz76_0 : w20.cell? ⟨gb195, 0, none⟩ = some (.bool t192) := bc BK195 0
        have hcz76_1 : w20.cell? ⟨gb195, 1, none⟩ = some (.int .u64 t193) := bc BK195 1
        have hfz76_0 := blk_frozen BK195.out 0
        have hfz76_1 := blk_frozen BK195.out 1
        have hnb77 := NB189_187.out
        have hnc77 := NB187_189.out
        have hnb78 := NB189_188.out
        have hnc78 := NB188_189.out
        have hnb79 := NB189_194.out
        have hnc79 := NB194_189.out
        have hnb80 := NB189_196.out
        have hnc80 := NB196_189.out
        have hcz81_0 : w20.cell? ⟨gb189, 0, none⟩ = some (.int .u8 0) := bc BK189 0
        have hcz81_1 : w20.cell? ⟨gb189, 1, none⟩ = some (.int .u64 0) := bc BK189 1
        have hcz81_2 : w20.cell? ⟨gb189, 2, none⟩ = some (.string (⟨#[]⟩ : ByteArray)) := bc BK189 2
        have hfz81_0 := blk_frozen BK189.out 0
        have hfz81_1 := blk_frozen BK189.out 1
        have hfz81_2 := blk_frozen BK189.out 2
        go_wp2
        refine bodyPost_ret (results_ct rfl _ _ gb189 27 #[.int .u8 0, .int .u64 0, .string (⟨#[]⟩ : ByteArray)] (0, 0) _ rfl (by (with_reducible repeat (first | refine blk_drewN ?_ _ | refine blk_drew ?_ | refine blk_alloc ?_ _)); refine blk_put (cs := #[.int .u8 0, .int .u64 0, .string (⟨#[]⟩ : ByteArray)]) ?_ 2 _ rfl; (with_reducible repeat (first | refine blk_drewN ?_ _ | refine blk_drew ?_ | refine blk_alloc ?_ _)); refine blk_put (cs := #[.int .u8 0, .int .u64 0, .string (⟨#[]⟩ : ByteArray)]) ?_ 1 _ rfl; (with_reducible repeat (first | refine blk_drewN ?_ _ | refine blk_drew ?_ | refine blk_alloc ?_ _)); refine blk_put (cs := #[.int .u8 0, .int .u64 0, .string (⟨#[]⟩ : ByteArray)]) ?_ 0 _ rfl; (with_reducible repeat (first | refine blk_drewN ?_ _ | refine blk_drew ?_ | refine blk_alloc ?_ _)); exact BK189.out) Try.underlying27 rfl (by kernel_rfl)) rfl ?_
        exact ⟨by first | rfl | (simp [errW_none, errW_some] <;> rfl) | (simp [*, errW_none, errW_some] <;> rfl), bs HB⟩
       ·rw [if_neg c70] at H
        have c70b0 : (t193 == 0) = false := beq_eq_false_iff_ne.mpr c70
        have c70b1 : (t193 != 0) = true := bne_iff_ne.mpr c70
        have H' := Aside0.mk H
        clear H
        have hnb82 := NB195_187.out
        have hnc82 := NB187_195.out
        have hnb83 := NB195_188.out
        have hnc83 := NB188_195.out
        have hnb84 := NB195_189.out
        have hnc84 := NB189_195.out
        have hnb85 := NB195_194.out
        have hnc85 := NB194_195.out
        have hnb86 := NB195_196.out
        have hnc86 := NB196_195.out
        have hcz87_0 : w20.cell? ⟨gb195, 0, none⟩ = some (.bool t192) := bc BK195 0
        have hcz87_1 : w20.cell? ⟨gb195, 1, none⟩ = some (.int .u64 t193) := bc BK195 1
        have hfz87_0 := blk_frozen BK195.out 0
        have hfz87_1 := blk_frozen BK195.out 1
        try go_wp2
        have n0_ := Aside0.mk (blk_drew BK187.out)
        have n1_ := Aside0.mk (blk_drew BK188.out)
        have n2_ := Aside0.mk (blk_drew BK189.out)
        have n3_ := Aside0.mk (blk_drew BK194.out)
        have n4_ := Aside0.mk (blk_drew BK195.out)
        have n5_ := Aside0.mk (blk_drew BK196.out)
        have n6_ := Aside0.mk (below_drew1 HB.out)
        clear BK187
        clear BK188
        clear BK189
        clear BK194
        clear BK195
        clear BK196
        clear HB
        have BK187 := n0_
        have BK188 := n1_
        have BK189 := n2_
        have BK194 := n3_
        have BK195 := n4_
        have BK196 := n5_
        have HB := n6_
        clear n0_ n1_ n2_ n3_ n4_ n5_ n6_
        refine start_ (n := 9) (S := fun w' => w'.cell? ⟨gb194, 0, none⟩ = some (.bool t190) ∧ w'.cell? ⟨gb194, 1, none⟩ = some (.int .u64 t191) ∧ w'.cell? ⟨gb195, 0, none⟩ = some (.bool t192) ∧ w'.cell? ⟨gb195, 1, none⟩ = some (.int .u64 t193)) (ds := []) #[false, false, false, false, false, false, false, false, false] (by kernel_rfl) rfl rfl ⟨bc BK194 0, bc BK194 1, bc BK195 0, bc BK195 1⟩ (fun hHeld => ?_); refine with_tabW value_integers.tab17 value_integers.bits17 (fun HT_ HW_ => ?_)
        generalize w20.drew = w88 at BK187 BK188 BK189 BK194 BK195 BK196 HB hHeld ⊢
        refine pure_ (i := 0) (N := some 60) (v := ?_) (a' := ?_) #[true, false, false, false, false, false, false, false, false] rfl rfl (any_of HT_.out (by kernel_rfl)) (fun _ _ _ h => h) (Or.inl ⟨by rfl, ?_⟩) ?_ ?_
        rotate_left
        ·intro w'
         go_simp
         with_reducible rfl
        rotate_left
        ·simp only [Act.put, List.setIfInBounds_toArray, List.set_cons_zero, List.set_cons_succ, i64_w, i32_w]
         rfl
        refine pure_ (i := 2) (N := some 62) (v := ?_) (a' := ?_) #[true, false, true, false, false, false, false, false, false] rfl rfl (any_of HT_.out (by kernel_rfl)) (fun _ _ _ h => h) (Or.inl ⟨by rfl, ?_⟩) ?_ ?_
        rotate_left
        ·intro w'
         go_simp
         with_reducible rfl
        rotate_left
        ·simp only [Act.put, List.setIfInBounds_toArray, List.set_cons_zero, List.set_cons_succ, i64_w, i32_w]
         rfl
        refine pure_ (i := 4) (N := some 64) (v := ?_) (a' := ?_) #[true, false, true, false, true, false, false, false, false] rfl rfl (any_of HT_.out (by kernel_rfl)) (fun _ _ _ h => h) (Or.inl ⟨by rfl, ?_⟩) ?_ ?_
        rotate_left
        ·intro w'
         go_simp
         with_reducible rfl
        rotate_left
        ·simp only [Act.put, List.setIfInBounds_toArray, List.set_cons_zero, List.set_cons_succ, i64_w, i32_w]
         rfl
        refine take_ (i := 1) (N := some 61) (v := ?_) (a' := ?_) #[true, true, true, false, true, false, false, false, false] rfl rfl (take_ofW HT_.out HW_.out (by kernel_rfl)) (fun _ _ _ h => h) (Or.inl ⟨by rfl, ?_⟩) hHeld ?_ ?_
        rotate_left
        ·rintro w' ⟨s0, s1, s2, s3⟩
         go_simp
         with_reducible rfl
        rotate_left
        ·simp only [Act.put, List.setIfInBounds_toArray, List.set_cons_zero, List.set_cons_succ, i64_w, i32_w]
         rfl
        refine take_ (i := 3) (N := some 63) (v := ?_) (a' := ?_) #[true, true, true, true, true, false, false, false, false] rfl rfl (take_ofW HT_.out HW_.out (by kernel_rfl)) (fun _ _ _ h => h) (Or.inl ⟨by rfl, ?_⟩) hHeld ?_ ?_
        rotate_left
        ·rintro w' ⟨s0, s1, s2, s3⟩
         go_simp
         with_reducible rfl
        rotate_left
        ·simp only [Act.put, List.setIfInBounds_toArray, List.set_cons_zero, List.set_cons_succ, i64_w, i32_w]
         rfl
        refine take_ (i := 5) (N := some 65) (v := ?_) (a' := ?_) #[true, true, true, true, true, true, false, false, false] rfl rfl (take_ofW HT_.out HW_.out (by kernel_rfl)) (fun _ _ _ h => h) (Or.inl ⟨by rfl, ?_⟩) hHeld ?_ ?_
        rotate_left
        ·rintro w' ⟨s0, s1, s2, s3⟩
         go_simp
         with_reducible rfl
        rotate_left
        ·simp only [Act.put, List.setIfInBounds_toArray, List.set_cons_zero, List.set_cons_succ, i64_w, i32_w]
         rfl
        refine pure_ (i := 6) (N := some 66) (v := ?_) (a' := ?_) #[true, true, true, true, true, true, true, false, false] rfl rfl (any_of HT_.out (by kernel_rfl)) (fun _ _ _ h => h) (Or.inl ⟨by rfl, ?_⟩) ?_ ?_
        rotate_left
        ·intro w'
         go_simp
         with_reducible rfl
        rotate_left
        ·simp only [Act.put, List.setIfInBounds_toArray, List.set_cons_zero, List.set_cons_succ, i64_w, i32_w]
         rfl
        refine pure_ (i := 7) (N := some 67) (v := ?_) (a' := ?_) #[true, true, true, true, true, true, true, true, false] rfl rfl (any_of HT_.out (by kernel_rfl)) (fun _ _ _ h => h) (Or.inl ⟨by rfl, ?_⟩) ?_ ?_
        rotate_left
        ·intro w'
         go_simp
         with_reducible rfl
        rotate_left
        ·simp only [Act.put, List.setIfInBounds_toArray, List.set_cons_zero, List.set_cons_succ, i64_w, i32_w]
         rfl
        refine one_ (i := 8) (N := none) #[true, true, true, true, true, true, true, true, true] rfl rfl (one_of HT_.out (by kernel_rfl)) (by decide) (fun K hK => ?_)
        have hs89 : w88.cell? ⟨gb196, 0, none⟩ = some (.bool false) := bc BK196 0
        have hfs89 := blk_frozen BK196.out 0
        have hns89_0 := NB187_196.out
        have hns89_1 := NB188_196.out
        have hns89_2 := NB189_196.out
        have hns89_3 := NB194_196.out
        have hns89_4 := NB195_196.out
        have hms89_0 := NB196_187.out
        have hms89_1 := NB196_188.out
        have hms89_2 := NB196_189.out
        have hms89_3 := NB196_194.out
        have hms89_4 := NB196_195.out
        have hs90 : w88.cell? ⟨gb196, 1, none⟩ = some (.int .u64 0) := bc BK196 1
        have hfs90 := blk_frozen BK196.out 1
        have hns90_0 := NB187_196.out
        have hns90_1 := NB188_196.out
        have hns90_2 := NB189_196.out
        have hns90_3 := NB194_196.out
        have hns90_4 := NB195_196.out
        have hms90_0 := NB196_187.out
        have hms90_1 := NB196_188.out
        have hms90_2 := NB196_189.out
        have hms90_3 := NB196_194.out
        have hms90_4 := NB196_195.out
        refine skip_ (w1 := ?_) (by rfl) rfl ?_ ?_
        rotate_left
        ·go_simp
         rfl
        refine hK.out _ _ ⟨((cell_far (p := ⟨gb196, _, none⟩) NB194_196.out _).trans (((cell_far (p := ⟨gb196, _, none⟩) NB194_196.out _).trans (hHeld.1)))), ((cell_far (p := ⟨gb196, _, none⟩) NB194_196.out _).trans (((cell_far (p := ⟨gb196, _, none⟩) NB194_196.out _).trans (hHeld.2.1)))), ((cell_far (p := ⟨gb196, _, none⟩) NB195_196.out _).trans (((cell_far (p := ⟨gb196, _, none⟩) NB195_196.out _).trans (hHeld.2.2.1)))), ((cell_far (p := ⟨gb196, _, none⟩) NB195_196.out _).trans (((cell_far (p := ⟨gb196, _, none⟩) NB195_196.out _).trans (hHeld.2.2.2))))⟩ (fun hHeld => ?_)
        clear hK K
        refine done_ (done_of HT_.out (by kernel_rfl)) ?_
        try go_wp2
        go_meet
        case rel => exact ⟨_, (true), (0), (0), ((⟨#[]⟩ : ByteArray)), (t192), (t190), (Int.tmod t191 t193), (by first | rfl | (simp; done) | (simp [*]; done)), H', ⟨by first | omega | exact Nat.le_refl _⟩, ⟨by (with_reducible repeat (first | refine blk_drewN ?_ _ | refine blk_drew ?_ | refine blk_alloc ?_ _)); refine blk_far ?_ NB187_196.out _; (with_reducible repeat (first | refine blk_drewN ?_ _ | refine blk_drew ?_ | refine blk_alloc ?_ _)); refine blk_far ?_ NB187_196.out _; (with_reducible repeat (first | refine blk_drewN ?_ _ | refine blk_drew ?_ | refine blk_alloc ?_ _)); exact BK187.out⟩, ⟨by (with_reducible repeat (first | refine blk_drewN ?_ _ | refine blk_drew ?_ | refine blk_alloc ?_ _)); refine blk_far ?_ NB188_196.out _; (with_reducible repeat (first | refine blk_drewN ?_ _ | refine blk_drew ?_ | refine blk_alloc ?_ _)); refine blk_far ?_ NB188_196.out _; (with_reducible repeat (first | refine blk_drewN ?_ _ | refine blk_drew ?_ | refine blk_alloc ?_ _)); exact BK188.out⟩, ⟨by (with_reducible repeat (first | refine blk_drewN ?_ _ | refine blk_drew ?_ | refine blk_alloc ?_ _)); refine blk_far ?_ NB189_196.out _; (with_reducible repeat (first | refine blk_drewN ?_ _ | refine blk_drew ?_ | refine blk_alloc ?_ _)); refine blk_far ?_ NB189_196.out _; (with_reducible repeat (first | refine blk_drewN ?_ _ | refine blk_drew ?_ | refine blk_alloc ?_ _)); exact BK189.out⟩, ⟨by (with_reducible repeat (first | refine blk_drewN ?_ _ | refine blk_drew ?_ | refine blk_alloc ?_ _)); refine blk_far ?_ NB194_196.out _; (with_reducible repeat (first | refine blk_drewN ?_ _ | refine blk_drew ?_ | refine blk_alloc ?_ _)); refine blk_far ?_ NB194_196.out _; (with_reducible repeat (first | refine blk_drewN ?_ _ | refine blk_drew ?_ | refine blk_alloc ?_ _)); exact BK194.out⟩, ⟨by (with_reducible repeat (first | refine blk_drewN ?_ _ | refine blk_drew ?_ | refine blk_alloc ?_ _)); refine blk_far ?_ NB195_196.out _; (with_reducible repeat (first | refine blk_drewN ?_ _ | refine blk_drew ?_ | refine blk_alloc ?_ _)); refine blk_far ?_ NB195_196.out _; (with_reducible repeat (first | refine blk_drewN ?_ _ | refine blk_drew ?_ | refine blk_alloc ?_ _)); exact BK195.out⟩, ⟨by (with_reducible repeat (first | refine blk_drewN ?_ _ | refine blk_drew ?_ | refine blk_alloc ?_ _)); refine blk_put (cs := #[.bool t190, .int .u64 0]) ?_ 1 _ rfl; (with_reducible repeat (first | refine blk_drewN ?_ _ | refine blk_drew ?_ | refine blk_alloc ?_ _)); refine blk_put (cs := #[.bool false, .int .u64 0]) ?_ 0 _ rfl; (with_reducible repeat (first | refine blk_drewN ?_ _ | refine blk_drew ?_ | refine blk_alloc ?_ _)); exact BK196.out⟩, ⟨bs HB⟩⟩
  case rest =>
   clear HC21
   (try clear c2);(try clear p2);(try clear c3);(try clear c4);(try clear c5);(try clear c6);(try clear c7);(try clear c8);(try clear c22);(try clear c22b0);(try clear c22b1);(try clear c23);(try clear c24);(try clear c25);(try clear c26);(try clear c27);(try clear c29);(try clear c29b0);(try clear c29b1);(try clear c30);(try clear c30b0);(try clear c30b1);(try clear c32);(try clear c33);(try clear c34);(try clear c35);(try clear c36);(try clear c38);(try clear c39);(try clear c40);(try clear c41);(try clear c44);(try clear c45);(try clear c46);(try clear c48);(try clear c48b0);(try clear c48b1);(try clear c49);(try clear c49b0);(try clear c49b1);(try clear c50);(try clear c51);(try clear c52);(try clear c53);(try clear c54);(try clear c56);(try clear c57);(try clear c58);(try clear c59);(try clear c61);(try clear c62);(try clear c63);(try clear c64);(try clear c65);(try clear c70);(try clear c70b0);(try clear c70b1);(try clear c71);(try clear c72);(try clear c73);(try clear c74);(try clear c75);(try clear c77);(try clear c78);(try clear c79);(try clear c80);(try clear c82);(try clear c83);(try clear c84);(try clear c85);(try clear c86);(try clear hcz28_0);(try clear hcz28_1);(try clear hcz37_0);(try clear hcz37_1);(try clear hcz42_0);(try clear hcz42_1);(try clear hcz47_0);(try clear hcz47_1);(try clear hcz55_0);(try clear hcz55_1);(try clear hcz60_0);(try clear hcz60_1);(try clear hcz60_2);(try clear hcz66_0);(try clear hcz66_1);(try clear hcz76_0);(try clear hcz76_1);(try clear hcz81_0);(try clear hcz81_1);(try clear hcz81_2);(try clear hcz87_0);(try clear hcz87_1);(try clear hfz28_0);(try clear hfz28_1);(try clear hfz37_0);(try clear hfz37_1);(try clear hfz42_0);(try clear hfz42_1);(try clear hfz47_0);(try clear hfz47_1);(try clear hfz55_0);(try clear hfz55_1);(try clear hfz60_0);(try clear hfz60_1);(try clear hfz60_2);(try clear hfz66_0);(try clear hfz66_1);(try clear hfz76_0);(try clear hfz76_1);(try clear hfz81_0);(try clear hfz81_1);(try clear hfz81_2);(try clear hfz87_0);(try clear hfz87_1)
   obtain ⟨kq, x196000_20, HA, HJ20, BK187, BK188, BK189, BK194, BK195, BK196, HB⟩ := hcut
   cases kq with
   | zero => exact absurd HA.out (by simp [value_integers.j0])
   | succ kj20 =>
    have H := HA.out
    clear HA
    simp only [value_integers.j0] at H
    replace H := Option.bind_eq_some_iff.mp H
    obtain ⟨⟨t200, t201, t202⟩, A910, H⟩ := H
    replace H : (value_integers.j1 kj20 t202 a1_0 a1_1 a1_2 t200 t201) = some (r1, r2, r3, r4) := H
    have A91 := Aside0.mk A910
    clear A910
    have H' := Aside0.mk H
    clear H
    have hnb92 := NB194_187.out
    have hnc92 := NB187_194.out
    have hnb93 := NB194_188.out
    have hnc93 := NB188_194.out
    have hnb94 := NB194_189.out
    have hnc94 := NB189_194.out
    have hnb95 := NB194_195.out
    have hnc95 := NB195_194.out
    have hnb96 := NB194_196.out
    have hnc96 := NB196_194.out
    have hcz97_0 : wc.cell? ⟨gb194, 0, none⟩ = some (.bool t190) := bc BK194 0
    have hcz97_1 : wc.cell? ⟨gb194, 1, none⟩ = some (.int .u64 t191) := bc BK194 1
    have hfz97_0 := blk_frozen BK194.out 0
    have hfz97_1 := blk_frozen BK194.out 1
    have hnb98 := NB195_187.out
    have hnc98 := NB187_195.out
    have hnb99 := NB195_188.out
    have hnc99 := NB188_195.out
    have hnb100 := NB195_189.out
    have hnc100 := NB189_195.out
    have hnb101 := NB195_196.out
    have hnc101 := NB196_195.out
    have hcz102_0 : wc.cell? ⟨gb195, 0, none⟩ = some (.bool x196000_20) := bc BK195 0
    have hcz102_1 : wc.cell? ⟨gb195, 1, none⟩ = some (.int .u64 t193) := bc BK195 1
    have hfz102_0 := blk_frozen BK195.out 0
    have hfz102_1 := blk_frozen BK195.out 1
    go_wp2_with (first | ((with_reducible refine gate_callee (f := 69) rfl ?_); refine goesL_ (some 32) rfl rfl Try.func69 (by kernel_rfl) rfl #[.agg #[.bool t190, .int .u64 t191], .agg #[.bool x196000_20, .int .u64 t193]] rfl (by (try simp only [List.map_toArray, List.map_cons, List.map_nil]); first | done | rfl | (simp only [List.length_drop, List.length_take]; rfl)) ?_; (with_reducible refine (value_plus.calls t190 t191 x196000_20 t193 t200 t201 t202 _ A91.out).mono ?_); rintro e w103 ⟨rfl, hb⟩; refine ⟨_, rfl, ?_⟩; have n0_ := kb BK187 hb; have n1_ := kb BK188 hb; have n2_ := kb BK189 hb; have n3_ := kb BK194 hb; have n4_ := kb BK195 hb; have n5_ := kb BK196 hb; have n6_ := bt HB hb; clear BK187; clear BK188; clear BK189; clear BK194; clear BK195; clear BK196; clear HB; have BK187 := n0_; have BK188 := n1_; have BK189 := n2_; have BK194 := n3_; have BK195 := n4_; have BK196 := n5_; have HB := n6_; clear n0_ n1_ n2_ n3_ n4_ n5_ n6_; (try clear hb); (try clear hb2); (try clear hk); (try clear hi); have hnb104 := NB196_187.out; have hnc104 := NB187_196.out; have hnb105 := NB196_188.out; have hnc105 := NB188_196.out; have hnb106 := NB196_189.out; have hnc106 := NB189_196.out; have hcz107_0 : w103.cell? ⟨gb196, 0, none⟩ = some (.bool false) := bc BK196 0; have hcz107_1 : w103.cell? ⟨gb196, 1, none⟩ = some (.int .u64 0) := bc BK196 1; have hfz107_0 := blk_frozen BK196.out 0; have hfz107_1 := blk_frozen BK196.out 1))
    go_meet
    case rel => exact ⟨_, (t202), (0), (0), ((⟨#[]⟩ : ByteArray)), (x196000_20), (t200), (t201), (by first | rfl | (simp; done) | (simp [*]; done)), H', ⟨by have := HJ20.out; first | omega | exact Nat.le_refl _⟩, ⟨by (with_reducible repeat (first | refine blk_drewN ?_ _ | refine blk_drew ?_ | refine blk_alloc ?_ _)); refine blk_far ?_ NB187_196.out _; (with_reducible repeat (first | refine blk_drewN ?_ _ | refine blk_drew ?_ | refine blk_alloc ?_ _)); refine blk_far ?_ NB187_196.out _; (with_reducible repeat (first | refine blk_drewN ?_ _ | refine blk_drew ?_ | refine blk_alloc ?_ _)); exact BK187.out⟩, ⟨by (with_reducible repeat (first | refine blk_drewN ?_ _ | refine blk_drew ?_ | refine blk_alloc ?_ _)); refine blk_far ?_ NB188_196.out _; (with_reducible repeat (first | refine blk_drewN ?_ _ | refine blk_drew ?_ | refine blk_alloc ?_ _)); refine blk_far ?_ NB188_196.out _; (with_reducible repeat (first | refine blk_drewN ?_ _ | refine blk_drew ?_ | refine blk_alloc ?_ _)); exact BK188.out⟩, ⟨by (with_reducible repeat (first | refine blk_drewN ?_ _ | refine blk_drew ?_ | refine blk_alloc ?_ _)); refine blk_far ?_ NB189_196.out _; (with_reducible repeat (first | refine blk_drewN ?_ _ | refine blk_drew ?_ | refine blk_alloc ?_ _)); refine blk_far ?_ NB189_196.out _; (with_reducible repeat (first | refine blk_drewN ?_ _ | refine blk_drew ?_ | refine blk_alloc ?_ _)); exact BK189.out⟩, ⟨by (with_reducible repeat (first | refine blk_drewN ?_ _ | refine blk_drew ?_ | refine blk_alloc ?_ _)); refine blk_far ?_ NB194_196.out _; (with_reducible repeat (first | refine blk_drewN ?_ _ | refine blk_drew ?_ | refine blk_alloc ?_ _)); refine blk_far ?_ NB194_196.out _; (with_reducible repeat (first | refine blk_drewN ?_ _ | refine blk_drew ?_ | refine blk_alloc ?_ _)); exact BK194.out⟩, ⟨by (with_reducible repeat (first | refine blk_drewN ?_ _ | refine blk_drew ?_ | refine blk_alloc ?_ _)); refine blk_far ?_ NB195_196.out _; (with_reducible repeat (first | refine blk_drewN ?_ _ | refine blk_drew ?_ | refine blk_alloc ?_ _)); refine blk_far ?_ NB195_196.out _; (with_reducible repeat (first | refine blk_drewN ?_ _ | refine blk_drew ?_ | refine blk_alloc ?_ _)); exact BK195.out⟩, ⟨by (with_reducible repeat (first | refine blk_drewN ?_ _ | refine blk_drew ?_ | refine blk_alloc ?_ _)); refine blk_put (cs := #[.bool t200, .int .u64 0]) ?_ 1 _ rfl; (with_reducible repeat (first | refine blk_drewN ?_ _ | refine blk_drew ?_ | refine blk_alloc ?_ _)); refine blk_put (cs := #[.bool false, .int .u64 0]) ?_ 0 _ rfl; (with_reducible repeat (first | refine blk_drewN ?_ _ | refine blk_drew ?_ | refine blk_alloc ?_ _)); exact BK196.out⟩, ⟨bs HB⟩⟩
 case rest =>
  clear HC6
  (try clear c1);(try clear c2);(try clear p2);(try clear c3);(try clear c4);(try clear c5);(try clear c6);(try clear c7);(try clear c8);(try clear c9);(try clear c10);(try clear c22);(try clear c22b0);(try clear c22b1);(try clear c23);(try clear c24);(try clear c25);(try clear c26);(try clear c27);(try clear c29);(try clear c29b0);(try clear c29b1);(try clear c30);(try clear c30b0);(try clear c30b1);(try clear c32);(try clear c33);(try clear c34);(try clear c35);(try clear c36);(try clear c38);(try clear c39);(try clear c40);(try clear c41);(try clear c44);(try clear c45);(try clear c46);(try clear c48);(try clear c48b0);(try clear c48b1);(try clear c49);(try clear c49b0);(try clear c49b1);(try clear c50);(try clear c51);(try clear c52);(try clear c53);(try clear c54);(try clear c56);(try clear c57);(try clear c58);(try clear c59);(try clear c61);(try clear c62);(try clear c63);(try clear c64);(try clear c65);(try clear c69);(try clear c70);(try clear c70b0);(try clear c70b1);(try clear c71);(try clear c72);(try clear c73);(try clear c74);(try clear c75);(try clear c77);(try clear c78);(try clear c79);(try clear c80);(try clear c82);(try clear c83);(try clear c84);(try clear c85);(try clear c86);(try clear c92);(try clear c93);(try clear c94);(try clear c95);(try clear c96);(try clear c98);(try clear c99);(try clear c100);(try clear c101);(try clear c104);(try clear c105);(try clear c106);(try clear hcz102_0);(try clear hcz102_1);(try clear hcz107_0);(try clear hcz107_1);(try clear hcz28_0);(try clear hcz28_1);(try clear hcz37_0);(try clear hcz37_1);(try clear hcz42_0);(try clear hcz42_1);(try clear hcz47_0);(try clear hcz47_1);(try clear hcz55_0);(try clear hcz55_1);(try clear hcz60_0);(try clear hcz60_1);(try clear hcz60_2);(try clear hcz66_0);(try clear hcz66_1);(try clear hcz76_0);(try clear hcz76_1);(try clear hcz81_0);(try clear hcz81_1);(try clear hcz81_2);(try clear hcz87_0);(try clear hcz87_1);(try clear hcz97_0);(try clear hcz97_1);(try clear hfz102_0);(try clear hfz102_1);(try clear hfz107_0);(try clear hfz107_1);(try clear hfz28_0);(try clear hfz28_1);(try clear hfz37_0);(try clear hfz37_1);(try clear hfz42_0);(try clear hfz42_1);(try clear hfz47_0);(try clear hfz47_1);(try clear hfz55_0);(try clear hfz55_1);(try clear hfz60_0);(try clear hfz60_1);(try clear hfz60_2);(try clear hfz66_0);(try clear hfz66_1);(try clear hfz76_0);(try clear hfz76_1);(try clear hfz81_0);(try clear hfz81_1);(try clear hfz81_2);(try clear hfz87_0);(try clear hfz87_1);(try clear hfz97_0);(try clear hfz97_1);(try clear p2)
  obtain ⟨kq, x10_5, x190000_5, x190001_5, x190002_5, x196000_5, x197000_5, x197001_5, rfl, HA, HJ5, BK187, BK188, BK189, BK194, BK195, BK196, HB⟩ := hcut
  cases kq with
  | zero => exact absurd HA.out (by simp [value_integers.j1])
  | succ kj5 =>
   have H := HA.out
   clear HA
   simp only [value_integers.j1] at H
   by_cases c108 : x10_5 = true
   ·subst c108
    have H1 : ((value_wide_of.f kj5 x197000_5 x197001_5 a1_0 1).bind fun bt203 => (some (bt203.1, bt203.2.1, bt203.2.2.1, bt203.2.2.2))) = some (r1, r2, r3, r4) := by rw [if_pos rfl] at H; exact H
    clear H
    have H := H1
    clear H1
    replace H := Option.bind_eq_some_iff.mp H
    obtain ⟨⟨t203, t204, t205, t206⟩, A1090, H⟩ := H
    replace H : (some (t203, t204, t205, t206)) = some (r1, r2, r3, r4) := H
    have A109 := Aside0.mk A1090
    clear A1090
    simp only [Option.some.injEq, Prod.mk.injEq] at H
    obtain ⟨rfl, rfl, rfl, rfl⟩ := H
    have hnb110 := NB196_187.out
    have hnc110 := NB187_196.out
    have hnb111 := NB196_188.out
    have hnc111 := NB188_196.out
    have hnb112 := NB196_189.out
    have hnc112 := NB189_196.out
    have hnb113 := NB196_194.out
    have hnc113 := NB194_196.out
    have hnb114 := NB196_195.out
    have hnc114 := NB195_196.out
    have hcz115_0 : wc.cell? ⟨gb196, 0, none⟩ = some (.bool x197000_5) := bc BK196 0
    have hcz115_1 : wc.cell? ⟨gb196, 1, none⟩ = some (.int .u64 x197001_5) := bc BK196 1
    have hfz115_0 := blk_frozen BK196.out 0
    have hfz115_1 := blk_frozen BK196.out 1
    have hnb116 := NB187_188.out
    have hnc116 := NB188_187.out
    have hnb117 := NB187_189.out
    have hnc117 := NB189_187.out
    have hnb118 := NB187_194.out
    have hnc118 := NB194_187.out
    have hnb119 := NB187_195.out
    have hnc119 := NB195_187.out
    have hcz120_0 : wc.cell? ⟨gb187, 0, none⟩ = some (.int .u8 a1_0) := bc BK187 0
    have hcz120_1 : wc.cell? ⟨gb187, 1, none⟩ = some (.int .u64 a1_1) := bc BK187 1
    have hcz120_2 : wc.cell? ⟨gb187, 2, none⟩ = some (.string a1_2) := bc BK187 2
    have hfz120_0 := blk_frozen BK187.out 0
    have hfz120_1 := blk_frozen BK187.out 1
    have hfz120_2 := blk_frozen BK187.out 2
    go_wp2_with (first | ((with_reducible refine gate_callee (f := 41) rfl ?_); refine goesL_ (some 74) rfl rfl Try.func41 (by kernel_rfl) rfl #[.agg #[.bool x197000_5, .int .u64 x197001_5], .int .u8 a1_0, .int .i64 1] rfl (by (try simp only [List.map_toArray, List.map_cons, List.map_nil]); first | done | rfl | (simp only [List.length_drop, List.length_take]; rfl)) ?_; (with_reducible refine (value_wide_of.calls kj5 x197000_5 x197001_5 a1_0 1 t203 t204 t205 t206 _ A109.out).mono ?_); rintro e w121 ⟨rfl, hb⟩; refine ⟨_, rfl, ?_⟩; have n0_ := kb BK187 hb; have n1_ := kb BK188 hb; have n2_ := kb BK189 hb; have n3_ := kb BK194 hb; have n4_ := kb BK195 hb; have n5_ := kb BK196 hb; have n6_ := bt HB hb; clear BK187; clear BK188; clear BK189; clear BK194; clear BK195; clear BK196; clear HB; have BK187 := n0_; have BK188 := n1_; have BK189 := n2_; have BK194 := n3_; have BK195 := n4_; have BK196 := n5_; have HB := n6_; clear n0_ n1_ n2_ n3_ n4_ n5_ n6_; (try clear hb); (try clear hb2); (try clear hk); (try clear hi); have hnb122 := NB189_188.out; have hnc122 := NB188_189.out; have hnb123 := NB189_194.out; have hnc123 := NB194_189.out; have hnb124 := NB189_195.out; have hnc124 := NB195_189.out; have hcz125_0 : w121.cell? ⟨gb189, 0, none⟩ = some (.int .u8 x190000_5) := bc BK189 0; have hcz125_1 : w121.cell? ⟨gb189, 1, none⟩ = some (.int .u64 x190001_5) := bc BK189 1; have hcz125_2 : w121.cell? ⟨gb189, 2, none⟩ = some (.string x190002_5) := bc BK189 2; have hfz125_0 := blk_frozen BK189.out 0; have hfz125_1 := blk_frozen BK189.out 1; have hfz125_2 := blk_frozen BK189.out 2))
    refine bodyPost_ret (results_ct rfl _ _ gb189 27 #[.int .u8 t203, .int .u64 t204, .string t205] (0, 0) _ rfl (by (with_reducible repeat (first | refine blk_drewN ?_ _ | refine blk_drew ?_ | refine blk_alloc ?_ _)); refine blk_put (cs := #[.int .u8 t203, .int .u64 t204, .string x190002_5]) ?_ 2 _ rfl; (with_reducible repeat (first | refine blk_drewN ?_ _ | refine blk_drew ?_ | refine blk_alloc ?_ _)); refine blk_put (cs := #[.int .u8 t203, .int .u64 x190001_5, .string x190002_5]) ?_ 1 _ rfl; (with_reducible repeat (first | refine blk_drewN ?_ _ | refine blk_drew ?_ | refine blk_alloc ?_ _)); refine blk_put (cs := #[.int .u8 x190000_5, .int .u64 x190001_5, .string x190002_5]) ?_ 0 _ rfl; (with_reducible repeat (first | refine blk_drewN ?_ _ | refine blk_drew ?_ | refine blk_alloc ?_ _)); exact BK189.out) Try.underlying27 rfl (by kernel_rfl)) rfl ?_
    exact ⟨by first | rfl | (simp [errW_none, errW_some] <;> rfl) | (simp [*, errW_none, errW_some] <;> rfl), bs HB⟩
   ·replace c108 := Bool.eq_false_iff.mpr c108
    subst c108
    have H1 : (some (0, 0, (⟨#[]⟩ : ByteArray), 1)) = some (r1, r2, r3, r4) := by rw [if_neg (show ¬ (false = true) by decide)] at H; exact H
    clear H
    have H := H1
    clear H1
    simp only [Option.some.injEq, Prod.mk.injEq] at H
    obtain ⟨rfl, rfl, rfl, rfl⟩ := H
    have hnb126 := NB189_187.out
    have hnc126 := NB187_189.out
    have hnb127 := NB189_188.out
    have hnc127 := NB188_189.out
    have hnb128 := NB189_194.out
    have hnc128 := NB194_189.out
    have hnb129 := NB189_195.out
    have hnc129 := NB195_189.out
    have hnb130 := NB189_196.out
    have hnc130 := NB196_189.out
    have hcz131_0 : wc.cell? ⟨gb189, 0, none⟩ = some (.int .u8 x190000_5) := bc BK189 0
    have hcz131_1 : wc.cell? ⟨gb189, 1, none⟩ = some (.int .u64 x190001_5) := bc BK189 1
    have hcz131_2 : wc.cell? ⟨gb189, 2, none⟩ = some (.string x190002_5) := bc BK189 2
    have hfz131_0 := blk_frozen BK189.out 0
    have hfz131_1 := blk_frozen BK189.out 1
    have hfz131_2 := blk_frozen BK189.out 2
    go_wp2
    refine bodyPost_ret (results_ct rfl _ _ gb189 27 #[.int .u8 0, .int .u64 0, .string (⟨#[]⟩ : ByteArray)] (0, 0) _ rfl (by (with_reducible repeat (first | refine blk_drewN ?_ _ | refine blk_drew ?_ | refine blk_alloc ?_ _)); refine blk_put (cs := #[.int .u8 0, .int .u64 0, .string x190002_5]) ?_ 2 _ rfl; (with_reducible repeat (first | refine blk_drewN ?_ _ | refine blk_drew ?_ | refine blk_alloc ?_ _)); refine blk_put (cs := #[.int .u8 0, .int .u64 x190001_5, .string x190002_5]) ?_ 1 _ rfl; (with_reducible repeat (first | refine blk_drewN ?_ _ | refine blk_drew ?_ | refine blk_alloc ?_ _)); refine blk_put (cs := #[.int .u8 x190000_5, .int .u64 x190001_5, .string x190002_5]) ?_ 0 _ rfl; (with_reducible repeat (first | refine blk_drewN ?_ _ | refine blk_drew ?_ | refine blk_alloc ?_ _)); exact BK189.out) Try.underlying27 rfl (by kernel_rfl)) rfl ?_
    exact ⟨by first | rfl | (simp [errW_none, errW_some] <;> rfl) | (simp [*, errW_none, errW_some] <;> rfl), bs HB⟩

end Go.Proofs.Ytlmmkaddlflepaa.POrd
