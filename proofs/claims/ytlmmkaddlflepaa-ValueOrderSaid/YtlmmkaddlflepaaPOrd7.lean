-- by mkprint.py, a program of this session's own
import Derived.Test.YtlmmkaddlflepaaPOrd0
import Derived.Test.YtlmmkaddlflepaaPOrd1
namespace Go.Proofs.Ytlmmkaddlflepaa.POrd
open Go.RowKit Go.Proofs.YtlmmkaddlflepaaW.PrintWords Go.Proofs.YtlmmkaddlflepaaW.PrintLast Go.Proofs.YtlmmkaddlflepaaW.PrintMore
attribute [local go_sem] max2_int min2_int max_two min_two max_three min_three max_four min_four   -- for this text's walks alone
set_option linter.unusedVariables false
set_option linter.unusedSimpArgs false

attribute [local go_sem] cell_isSome un_neg_float str_gtr str_leq str_geq ext34 ext52
/-! ### value_Lreal: function 22 -/
def value_Lreal.f (a0 : Nat) : Option (Int × Int × ByteArray) := (math_IsNaN.f a0).bind fun t208 => (if t208 = true then (some (18, 9221120237041090561, (⟨#[]⟩ : ByteArray))) else (some (18, (Int.ofNat a0), (⟨#[]⟩ : ByteArray))))
set_option maxHeartbeats 8000000 in
set_option maxRecDepth 100000 in
theorem value_Lreal.calls (a0 : Nat) (r1 : Int) (r2 : Int) (r3 : ByteArray) (w : World) (h : value_Lreal.f a0 = some (r1, r2, r3)) :
  Calls Try.prog 22 #[.float .f64 a0] w fun e w' => e = .returned (.agg #[.int .u8 r1, .int .u64 r2, .string r3]) ∧ Below w.heap.size w w' := by
 have hu27 := Try.underlying27
 have HB := Aside0.mk (Below.refl w.heap.size w)
 have H : ((math_IsNaN.f a0).bind fun t208 => (if t208 = true then (some (18, 9221120237041090561, (⟨#[]⟩ : ByteArray))) else (some (18, (Int.ofNat a0), (⟨#[]⟩ : ByteArray))))) = some (r1, r2, r3) := h
 clear h
 replace H := Option.bind_eq_some_iff.mp H
 obtain ⟨t208, A20, H⟩ := H
 replace H : (if t208 = true then (some (18, 9221120237041090561, (⟨#[]⟩ : ByteArray))) else (some (18, (Int.ofNat a0), (⟨#[]⟩ : ByteArray)))) = some (r1, r2, r3) := H
 have A2 := Aside0.mk A20
 clear A20
 by_cases c3 : t208 = true
 ·subst c3
  have H1 : (some (18, 9221120237041090561, (⟨#[]⟩ : ByteArray))) = some (r1, r2, r3) := by rw [if_pos rfl] at H; exact H
  clear H
  have H := H1
  clear H1
  simp only [Option.some.injEq, Prod.mk.injEq] at H
  obtain ⟨rfl, rfl, rfl⟩ := H
  go_enter Try.func22, Try.ntmps22
  go_wp2_with (first | ((with_reducible refine gate_dst (N := 2) rfl ?_); refine box_event ?hg (N := 2) ?hd (cs := #[.int .u8 0, .int .u64 0, .string (⟨#[]⟩ : ByteArray)]) (t := 27) ?hr ?_; (case hd => rfl); (case hg => rfl); (case hr => first | (go_simp; done) | (go_simp; rfl)); intro gb207 hg w4 hbox hb; have n0_ := bt HB hb; have n1_ := Aside0.mk (hbox); have n2_ := gs hg HB; have n3_ := gs hg HB; clear HB; have HB := n0_; have BK207 := n1_; have GW207 := n2_; have GE207 := n3_; clear n0_ n1_ n2_ n3_; clear hb hbox hg) | ((with_reducible refine gate_callee (f := 33) rfl ?_); refine goesL_ (some 4) rfl rfl Try.func33 (by kernel_rfl) rfl #[.float .f64 a0] rfl (by (try simp only [List.map_toArray, List.map_cons, List.map_nil]); first | done | rfl | (simp only [List.length_drop, List.length_take]; rfl)) ?_; (with_reducible refine (math_IsNaN.calls a0 true _ A2.out).mono ?_); rintro e w' ⟨rfl, ⟨nd, rfl⟩⟩; refine ⟨_, rfl, ?_⟩; (try (rw [drewN_self w4]; generalize hq_ : World.drewN w4 _ = w4; have n0_ : Aside0 (w4.heap[gb207]? = some (.cells #[.int .u8 0, .int .u64 0, .string (⟨#[]⟩ : ByteArray)] 27 (0, 0))) := ⟨by rw [← hq_]; exact (pb BK207)⟩; have n1_ : Aside0 (Below w.heap.size w w4) := ⟨by rw [← hq_]; exact (bs HB)⟩; clear BK207 HB hq_; have BK207 := n0_; have HB := n1_; clear n0_ n1_)); have hcz5_0 : w4.cell? ⟨gb207, 0, none⟩ = some (.int .u8 0) := bc BK207 0; have hcz5_1 : w4.cell? ⟨gb207, 1, none⟩ = some (.int .u64 0) := bc BK207 1; have hcz5_2 : w4.cell? ⟨gb207, 2, none⟩ = some (.string (⟨#[]⟩ : ByteArray)) := bc BK207 2; have hfz5_0 := blk_frozen BK207.out 0; have hfz5_1 := blk_frozen BK207.out 1; have hfz5_2 := blk_frozen BK207.out 2))
  refine bodyPost_ret (results_cell_row rfl _ _ gb207 27 #[.int .u8 18, .int .u64 9221120237041090561, .string (⟨#[]⟩ : ByteArray)] (0, 0) _ rfl (by (with_reducible repeat (first | refine blk_drewN ?_ _ | refine blk_drew ?_ | refine blk_alloc ?_ _)); refine blk_put (cs := #[.int .u8 18, .int .u64 9221120237041090561, .string (⟨#[]⟩ : ByteArray)]) ?_ 2 _ rfl; (with_reducible repeat (first | refine blk_drewN ?_ _ | refine blk_drew ?_ | refine blk_alloc ?_ _)); refine blk_put (cs := #[.int .u8 18, .int .u64 0, .string (⟨#[]⟩ : ByteArray)]) ?_ 1 _ rfl; (with_reducible repeat (first | refine blk_drewN ?_ _ | refine blk_drew ?_ | refine blk_alloc ?_ _)); refine blk_put (cs := #[.int .u8 0, .int .u64 0, .string (⟨#[]⟩ : ByteArray)]) ?_ 0 _ rfl; (with_reducible repeat (first | refine blk_drewN ?_ _ | refine blk_drew ?_ | refine blk_alloc ?_ _)); exact BK207.out) Try.underlying27 rfl (by kernel_rfl)) rfl ?_
  exact ⟨by first | rfl | (simp [errW_none, errW_some] <;> rfl) | (simp [*, errW_none, errW_some] <;> rfl), bs HB⟩
 ·replace c3 := Bool.eq_false_iff.mpr c3
  subst c3
  have H1 : (some (18, (Int.ofNat a0), (⟨#[]⟩ : ByteArray))) = some (r1, r2, r3) := by rw [if_neg (show ¬ (false = true) by decide)] at H; exact H
  clear H
  have H := H1
  clear H1
  simp only [Option.some.injEq, Prod.mk.injEq] at H
  obtain ⟨rfl, rfl, rfl⟩ := H
  go_enter Try.func22, Try.ntmps22
  go_wp2_with (first | ((with_reducible refine gate_dst (N := 2) rfl ?_); refine box_event ?hg (N := 2) ?hd (cs := #[.int .u8 0, .int .u64 0, .string (⟨#[]⟩ : ByteArray)]) (t := 27) ?hr ?_; (case hd => rfl); (case hg => rfl); (case hr => first | (go_simp; done) | (go_simp; rfl)); intro gb207 hg w6 hbox hb; have n0_ := bt HB hb; have n1_ := Aside0.mk (hbox); have n2_ := gs hg HB; have n3_ := gs hg HB; clear HB; have HB := n0_; have BK207 := n1_; have GW207 := n2_; have GE207 := n3_; clear n0_ n1_ n2_ n3_; clear hb hbox hg) | ((with_reducible refine gate_callee (f := 33) rfl ?_); refine goesL_ (some 4) rfl rfl Try.func33 (by kernel_rfl) rfl #[.float .f64 a0] rfl (by (try simp only [List.map_toArray, List.map_cons, List.map_nil]); first | done | rfl | (simp only [List.length_drop, List.length_take]; rfl)) ?_; (with_reducible refine (math_IsNaN.calls a0 false _ A2.out).mono ?_); rintro e w' ⟨rfl, ⟨nd, rfl⟩⟩; refine ⟨_, rfl, ?_⟩; (try (rw [drewN_self w6]; generalize hq_ : World.drewN w6 _ = w6; have n0_ : Aside0 (w6.heap[gb207]? = some (.cells #[.int .u8 0, .int .u64 0, .string (⟨#[]⟩ : ByteArray)] 27 (0, 0))) := ⟨by rw [← hq_]; exact (pb BK207)⟩; have n1_ : Aside0 (Below w.heap.size w w6) := ⟨by rw [← hq_]; exact (bs HB)⟩; clear BK207 HB hq_; have BK207 := n0_; have HB := n1_; clear n0_ n1_)); have hcz7_0 : w6.cell? ⟨gb207, 0, none⟩ = some (.int .u8 0) := bc BK207 0; have hcz7_1 : w6.cell? ⟨gb207, 1, none⟩ = some (.int .u64 0) := bc BK207 1; have hcz7_2 : w6.cell? ⟨gb207, 2, none⟩ = some (.string (⟨#[]⟩ : ByteArray)) := bc BK207 2; have hfz7_0 := blk_frozen BK207.out 0; have hfz7_1 := blk_frozen BK207.out 1; have hfz7_2 := blk_frozen BK207.out 2))
  refine bodyPost_ret (results_cell_row rfl _ _ gb207 27 #[.int .u8 18, .int .u64 (Int.ofNat a0), .string (⟨#[]⟩ : ByteArray)] (0, 0) _ rfl (by (with_reducible repeat (first | refine blk_drewN ?_ _ | refine blk_drew ?_ | refine blk_alloc ?_ _)); refine blk_put (cs := #[.int .u8 18, .int .u64 (Int.ofNat a0), .string (⟨#[]⟩ : ByteArray)]) ?_ 2 _ rfl; (with_reducible repeat (first | refine blk_drewN ?_ _ | refine blk_drew ?_ | refine blk_alloc ?_ _)); refine blk_put (cs := #[.int .u8 18, .int .u64 0, .string (⟨#[]⟩ : ByteArray)]) ?_ 1 _ rfl; (with_reducible repeat (first | refine blk_drewN ?_ _ | refine blk_drew ?_ | refine blk_alloc ?_ _)); refine blk_put (cs := #[.int .u8 0, .int .u64 0, .string (⟨#[]⟩ : ByteArray)]) ?_ 0 _ rfl; (with_reducible repeat (first | refine blk_drewN ?_ _ | refine blk_drew ?_ | refine blk_alloc ?_ _)); exact BK207.out) Try.underlying27 rfl (by kernel_rfl)) rfl ?_
  exact ⟨by first | rfl | (simp [errW_none, errW_some] <;> rfl) | (simp [*, errW_none, errW_some] <;> rfl), bs HB⟩

/-! ### value_floats: function 57 -/
/-- What an operation on two floats gives, as an LREAL's bits. -/
def value_floats.ar (op : BinOp) (x y : Nat) : Int := match floatBits op .f64 x y with | none => 9221120237041090561 | some r => if (FloatKind.f64.format.order r r != some Ordering.eq) = true then 9221120237041090561 else Int.ofNat r
theorem value_floats.nan (t : Nat) : (FloatKind.f64.format.order ((t % 2) * 2 ^ 63 + 0x7ff0000000000000 + 1 + (t / 2) % (2 ^ 52 - 1)) ((t % 2) * 2 ^ 63 + 0x7ff0000000000000 + 1 + (t / 2) % (2 ^ 52 - 1)) != some Ordering.eq) = true := by
 have hp : t % 2 = 0 ∨ t % 2 = 1 := by omega
 have hq : (t / 2) % (2 ^ 52 - 1) < 2 ^ 52 - 1 := Nat.mod_lt _ (by decide)
 generalize hn : (t % 2) * 2 ^ 63 + 0x7ff0000000000000 + 1 + (t / 2) % (2 ^ 52 - 1) = n
 have h2 : 9218868437227405312 < n % 9223372036854775808 := by
  generalize (t / 2) % (2 ^ 52 - 1) = q at *
  rcases hp with e | e <;> rw [e] at hn <;> omega
 unfold FloatKind.format Ieee.Format.order
 have rd : Ieee.double.read n = (if n % 9223372036854775808 < 4503599627370496 then .number (n / 9223372036854775808 % 2 == 1) (n % 9223372036854775808) Ieee.double.leastPlace
   else if n % 9223372036854775808 < 9218868437227405312 then .number (n / 9223372036854775808 % 2 == 1) (4503599627370496 + n % 9223372036854775808 % 4503599627370496) (Ieee.double.leastPlace + (n % 9223372036854775808 / 4503599627370496 - 1 : Nat))
   else if n % 9223372036854775808 = 9218868437227405312 then .infinity (n / 9223372036854775808 % 2 == 1) else .nan (n / 9223372036854775808 % 2 == 1) (n % 9223372036854775808 - 9218868437227405312)) := rfl
 rw [rd, if_neg (by omega), if_neg (by omega), if_neg (by omega)]
 rfl
theorem value_floats.lreal (op : BinOp) (x y : Nat) (r : Nat) (h : floatBits op .f64 x y = some r) : value_Lreal.f r = some (18, value_floats.ar op x y, ⟨#[]⟩) := by
 unfold value_Lreal.f math_IsNaN.f value_floats.ar
 rw [h]
 (try simp only [Option.bind_some])
 split <;> rfl
theorem value_floats.lnan (op : BinOp) (x y : Nat) (t : Nat) (h : floatBits op .f64 x y = none) : value_Lreal.f ((t % 2) * 2 ^ 63 + 0x7ff0000000000000 + 1 + (t / 2) % (2 ^ 52 - 1)) = some (18, value_floats.ar op x y, ⟨#[]⟩) := by
 unfold value_Lreal.f math_IsNaN.f value_floats.ar
 rw [h, value_floats.nan]
 rfl
theorem value_floats.run_none (op : BinOp) (hop : op = .add ∨ op = .sub ∨ op = .mul ∨ op = .quo) (t : TypeId) (x y : Nat) (h : floatBits op .f64 x y = none) (w : World) :
  (binOp op t (.float .f64 x) (.float .f64 y)).run Try.prog w = .ok (.float .f64 ((w.tape w.drawn (.nanBits .f64 x y) % 2) * 2 ^ 63 + 0x7ff0000000000000 + 1 + (w.tape w.drawn (.nanBits .f64 x y) / 2) % (2 ^ 52 - 1))) w.drew := by
 rcases hop with rfl | rfl | rfl | rfl
 all_goals
  unfold floatBits at h
  simp only at h
  simp [binOp, Op.floatArith, h]
  rfl
theorem value_floats.b0 (w : World) : (w.alloc (.cells #[.int .u8 0, .int .u64 0, .string ⟨#[]⟩] 27)).heap[w.heap.size]? = some (.cells #[.int .u8 0, .int .u64 0, .string ⟨#[]⟩] 27 (0, 0)) := (MapKept.heap_alloc w _).1
theorem value_floats.hb0 (w : World) : Below w.heap.size w (w.alloc (.cells #[.int .u8 0, .int .u64 0, .string ⟨#[]⟩] 27)) := (Below.refl _ _).alloc (Nat.le_refl _) _
set_option maxHeartbeats 8000000 in
set_option maxRecDepth 100000 in
theorem value_floats.add (x y : Nat) (w : World) : Calls Try.prog 57 #[.int .i64 1, .float .f64 x, .float .f64 y] w fun e w' => e = .returned (.tuple #[.agg #[.int .u8 18, .int .u64 (value_floats.ar .add x y), .string ⟨#[]⟩], .int .i64 0]) ∧ Below w.heap.size w w' := by
 have b0 := Aside0.mk (value_floats.b0 w)
 have hb0 := Aside0.mk (value_floats.hb0 w)
 cases hf : floatBits .add .f64 x y with
 | none =>
  have hr := fun (W : World) (t : TypeId) => value_floats.run_none .add (by simp) t x y hf W
  have HL := fun (t : Nat) (W : World) => value_Lreal.calls _ 18 (value_floats.ar .add x y) ⟨#[]⟩ W (value_floats.lnan .add x y t hf)
  clear hf
  go_enter Try.func57, Try.ntmps57
  go_wp2_with (go_at_call 22; refine (HL _ _).mono ?_; rintro e w1 ⟨rfl, hb⟩; have B1 := Aside0.mk (blk_below (g := w.heap.size) (o := .cells #[.int .u8 0, .int .u64 0, .string ⟨#[]⟩] 27 (0, 0)) (blk_drew b0.out) hb); have E1 := Aside0.mk (below_step (below_drew1 hb0.out) hb); clear hb; have c0 : w1.cell? ⟨w.heap.size, 0, none⟩ = some (.int .u8 0) := (blk_cell B1.out 0).trans rfl; have c1 : w1.cell? ⟨w.heap.size, 1, none⟩ = some (.int .u64 0) := (blk_cell B1.out 1).trans rfl; have c2 : w1.cell? ⟨w.heap.size, 2, none⟩ = some (.string ⟨#[]⟩) := (blk_cell B1.out 2).trans rfl; have f0 := blk_frozen B1.out 0; have f1 := blk_frozen B1.out 1; have f2 := blk_frozen B1.out 2)
  refine bodyPost_ret (results_ct rfl _ _ w.heap.size 27 #[.int .u8 18, .int .u64 (value_floats.ar .add x y), .string (⟨#[]⟩ : ByteArray)] (0, 0) _ rfl (by refine blk_put (cs := #[.int .u8 18, .int .u64 (value_floats.ar .add x y), .string (⟨#[]⟩ : ByteArray)]) ?_ 2 _ rfl; refine blk_put (cs := #[.int .u8 18, .int .u64 0, .string (⟨#[]⟩ : ByteArray)]) ?_ 1 _ rfl; refine blk_put (cs := #[.int .u8 0, .int .u64 0, .string (⟨#[]⟩ : ByteArray)]) ?_ 0 _ rfl; exact B1.out) Try.underlying27 rfl (by kernel_rfl)) rfl ?_
  exact ⟨rfl, below_set (below_set (below_set E1.out (Nat.le_refl _)) (Nat.le_refl _)) (Nat.le_refl _)⟩
 | some r =>
  have hr := fun (W : World) (t : TypeId) => run_float_arith (P := Try.prog) W .add t .f64 x y r hf
  have HL := fun (W : World) => value_Lreal.calls r 18 (value_floats.ar .add x y) ⟨#[]⟩ W (value_floats.lreal .add x y r hf)
  clear hf
  go_enter Try.func57, Try.ntmps57
  go_wp2_with (go_at_call 22; refine (HL _).mono ?_; rintro e w1 ⟨rfl, hb⟩; have B1 := Aside0.mk (blk_below (g := w.heap.size) (o := .cells #[.int .u8 0, .int .u64 0, .string ⟨#[]⟩] 27 (0, 0)) b0.out hb); have E1 := Aside0.mk (below_step hb0.out hb); clear hb; have c0 : w1.cell? ⟨w.heap.size, 0, none⟩ = some (.int .u8 0) := (blk_cell B1.out 0).trans rfl; have c1 : w1.cell? ⟨w.heap.size, 1, none⟩ = some (.int .u64 0) := (blk_cell B1.out 1).trans rfl; have c2 : w1.cell? ⟨w.heap.size, 2, none⟩ = some (.string ⟨#[]⟩) := (blk_cell B1.out 2).trans rfl; have f0 := blk_frozen B1.out 0; have f1 := blk_frozen B1.out 1; have f2 := blk_frozen B1.out 2)
  refine bodyPost_ret (results_ct rfl _ _ w.heap.size 27 #[.int .u8 18, .int .u64 (value_floats.ar .add x y), .string (⟨#[]⟩ : ByteArray)] (0, 0) _ rfl (by refine blk_put (cs := #[.int .u8 18, .int .u64 (value_floats.ar .add x y), .string (⟨#[]⟩ : ByteArray)]) ?_ 2 _ rfl; refine blk_put (cs := #[.int .u8 18, .int .u64 0, .string (⟨#[]⟩ : ByteArray)]) ?_ 1 _ rfl; refine blk_put (cs := #[.int .u8 0, .int .u64 0, .string (⟨#[]⟩ : ByteArray)]) ?_ 0 _ rfl; exact B1.out) Try.underlying27 rfl (by kernel_rfl)) rfl ?_
  exact ⟨rfl, below_set (below_set (below_set E1.out (Nat.le_refl _)) (Nat.le_refl _)) (Nat.le_refl _)⟩
set_option maxHeartbeats 8000000 in
set_option maxRecDepth 100000 in
theorem value_floats.sub (x y : Nat) (w : World) : Calls Try.prog 57 #[.int .i64 2, .float .f64 x, .float .f64 y] w fun e w' => e = .returned (.tuple #[.agg #[.int .u8 18, .int .u64 (value_floats.ar .sub x y), .string ⟨#[]⟩], .int .i64 0]) ∧ Below w.heap.size w w' := by
 have b0 := Aside0.mk (value_floats.b0 w)
 have hb0 := Aside0.mk (value_floats.hb0 w)
 cases hf : floatBits .sub .f64 x y with
 | none =>
  have hr := fun (W : World) (t : TypeId) => value_floats.run_none .sub (by simp) t x y hf W
  have HL := fun (t : Nat) (W : World) => value_Lreal.calls _ 18 (value_floats.ar .sub x y) ⟨#[]⟩ W (value_floats.lnan .sub x y t hf)
  clear hf
  go_enter Try.func57, Try.ntmps57
  go_wp2_with (go_at_call 22; refine (HL _ _).mono ?_; rintro e w1 ⟨rfl, hb⟩; have B1 := Aside0.mk (blk_below (g := w.heap.size) (o := .cells #[.int .u8 0, .int .u64 0, .string ⟨#[]⟩] 27 (0, 0)) (blk_drew b0.out) hb); have E1 := Aside0.mk (below_step (below_drew1 hb0.out) hb); clear hb; have c0 : w1.cell? ⟨w.heap.size, 0, none⟩ = some (.int .u8 0) := (blk_cell B1.out 0).trans rfl; have c1 : w1.cell? ⟨w.heap.size, 1, none⟩ = some (.int .u64 0) := (blk_cell B1.out 1).trans rfl; have c2 : w1.cell? ⟨w.heap.size, 2, none⟩ = some (.string ⟨#[]⟩) := (blk_cell B1.out 2).trans rfl; have f0 := blk_frozen B1.out 0; have f1 := blk_frozen B1.out 1; have f2 := blk_frozen B1.out 2)
  refine bodyPost_ret (results_ct rfl _ _ w.heap.size 27 #[.int .u8 18, .int .u64 (value_floats.ar .sub x y), .string (⟨#[]⟩ : ByteArray)] (0, 0) _ rfl (by refine blk_put (cs := #[.int .u8 18, .int .u64 (value_floats.ar .sub x y), .string (⟨#[]⟩ : ByteArray)]) ?_ 2 _ rfl; refine blk_put (cs := #[.int .u8 18, .int .u64 0, .string (⟨#[]⟩ : ByteArray)]) ?_ 1 _ rfl; refine blk_put (cs := #[.int .u8 0, .int .u64 0, .string (⟨#[]⟩ : ByteArray)]) ?_ 0 _ rfl; exact B1.out) Try.underlying27 rfl (by kernel_rfl)) rfl ?_
  exact ⟨rfl, below_set (below_set (below_set E1.out (Nat.le_refl _)) (Nat.le_refl _)) (Nat.le_refl _)⟩
 | some r =>
  have hr := fun (W : World) (t : TypeId) => run_float_arith (P := Try.prog) W .sub t .f64 x y r hf
  have HL := fun (W : World) => value_Lreal.calls r 18 (value_floats.ar .sub x y) ⟨#[]⟩ W (value_floats.lreal .sub x y r hf)
  clear hf
  go_enter Try.func57, Try.ntmps57
  go_wp2_with (go_at_call 22; refine (HL _).mono ?_; rintro e w1 ⟨rfl, hb⟩; have B1 := Aside0.mk (blk_below (g := w.heap.size) (o := .cells #[.int .u8 0, .int .u64 0, .string ⟨#[]⟩] 27 (0, 0)) b0.out hb); have E1 := Aside0.mk (below_step hb0.out hb); clear hb; have c0 : w1.cell? ⟨w.heap.size, 0, none⟩ = some (.int .u8 0) := (blk_cell B1.out 0).trans rfl; have c1 : w1.cell? ⟨w.heap.size, 1, none⟩ = some (.int .u64 0) := (blk_cell B1.out 1).trans rfl; have c2 : w1.cell? ⟨w.heap.size, 2, none⟩ = some (.string ⟨#[]⟩) := (blk_cell B1.out 2).trans rfl; have f0 := blk_frozen B1.out 0; have f1 := blk_frozen B1.out 1; have f2 := blk_frozen B1.out 2)
  refine bodyPost_ret (results_ct rfl _ _ w.heap.size 27 #[.int .u8 18, .int .u64 (value_floats.ar .sub x y), .string (⟨#[]⟩ : ByteArray)] (0, 0) _ rfl (by refine blk_put (cs := #[.int .u8 18, .int .u64 (value_floats.ar .sub x y), .string (⟨#[]⟩ : ByteArray)]) ?_ 2 _ rfl; refine blk_put (cs := #[.int .u8 18, .int .u64 0, .string (⟨#[]⟩ : ByteArray)]) ?_ 1 _ rfl; refine blk_put (cs := #[.int .u8 0, .int .u64 0, .string (⟨#[]⟩ : ByteArray)]) ?_ 0 _ rfl; exact B1.out) Try.underlying27 rfl (by kernel_rfl)) rfl ?_
  exact ⟨rfl, below_set (below_set (below_set E1.out (Nat.le_refl _)) (Nat.le_refl _)) (Nat.le_refl _)⟩
set_option maxHeartbeats 8000000 in
set_option maxRecDepth 100000 in
theorem value_floats.mul (x y : Nat) (w : World) : Calls Try.prog 57 #[.int .i64 3, .float .f64 x, .float .f64 y] w fun e w' => e = .returned (.tuple #[.agg #[.int .u8 18, .int .u64 (value_floats.ar .mul x y), .string ⟨#[]⟩], .int .i64 0]) ∧ Below w.heap.size w w' := by
 have b0 := Aside0.mk (value_floats.b0 w)
 have hb0 := Aside0.mk (value_floats.hb0 w)
 cases hf : floatBits .mul .f64 x y with
 | none =>
  have hr := fun (W : World) (t : TypeId) => value_floats.run_none .mul (by simp) t x y hf W
  have HL := fun (t : Nat) (W : World) => value_Lreal.calls _ 18 (value_floats.ar .mul x y) ⟨#[]⟩ W (value_floats.lnan .mul x y t hf)
  clear hf
  go_enter Try.func57, Try.ntmps57
  go_wp2_with (go_at_call 22; refine (HL _ _).mono ?_; rintro e w1 ⟨rfl, hb⟩; have B1 := Aside0.mk (blk_below (g := w.heap.size) (o := .cells #[.int .u8 0, .int .u64 0, .string ⟨#[]⟩] 27 (0, 0)) (blk_drew b0.out) hb); have E1 := Aside0.mk (below_step (below_drew1 hb0.out) hb); clear hb; have c0 : w1.cell? ⟨w.heap.size, 0, none⟩ = some (.int .u8 0) := (blk_cell B1.out 0).trans rfl; have c1 : w1.cell? ⟨w.heap.size, 1, none⟩ = some (.int .u64 0) := (blk_cell B1.out 1).trans rfl; have c2 : w1.cell? ⟨w.heap.size, 2, none⟩ = some (.string ⟨#[]⟩) := (blk_cell B1.out 2).trans rfl; have f0 := blk_frozen B1.out 0; have f1 := blk_frozen B1.out 1; have f2 := blk_frozen B1.out 2)
  refine bodyPost_ret (results_ct rfl _ _ w.heap.size 27 #[.int .u8 18, .int .u64 (value_floats.ar .mul x y), .string (⟨#[]⟩ : ByteArray)] (0, 0) _ rfl (by refine blk_put (cs := #[.int .u8 18, .int .u64 (value_floats.ar .mul x y), .string (⟨#[]⟩ : ByteArray)]) ?_ 2 _ rfl; refine blk_put (cs := #[.int .u8 18, .int .u64 0, .string (⟨#[]⟩ : ByteArray)]) ?_ 1 _ rfl; refine blk_put (cs := #[.int .u8 0, .int .u64 0, .string (⟨#[]⟩ : ByteArray)]) ?_ 0 _ rfl; exact B1.out) Try.underlying27 rfl (by kernel_rfl)) rfl ?_
  exact ⟨rfl, below_set (below_set (below_set E1.out (Nat.le_refl _)) (Nat.le_refl _)) (Nat.le_refl _)⟩
 | some r =>
  have hr := fun (W : World) (t : TypeId) => run_float_arith (P := Try.prog) W .mul t .f64 x y r hf
  have HL := fun (W : World) => value_Lreal.calls r 18 (value_floats.ar .mul x y) ⟨#[]⟩ W (value_floats.lreal .mul x y r hf)
  clear hf
  go_enter Try.func57, Try.ntmps57
  go_wp2_with (go_at_call 22; refine (HL _).mono ?_; rintro e w1 ⟨rfl, hb⟩; have B1 := Aside0.mk (blk_below (g := w.heap.size) (o := .cells #[.int .u8 0, .int .u64 0, .string ⟨#[]⟩] 27 (0, 0)) b0.out hb); have E1 := Aside0.mk (below_step hb0.out hb); clear hb; have c0 : w1.cell? ⟨w.heap.size, 0, none⟩ = some (.int .u8 0) := (blk_cell B1.out 0).trans rfl; have c1 : w1.cell? ⟨w.heap.size, 1, none⟩ = some (.int .u64 0) := (blk_cell B1.out 1).trans rfl; have c2 : w1.cell? ⟨w.heap.size, 2, none⟩ = some (.string ⟨#[]⟩) := (blk_cell B1.out 2).trans rfl; have f0 := blk_frozen B1.out 0; have f1 := blk_frozen B1.out 1; have f2 := blk_frozen B1.out 2)
  refine bodyPost_ret (results_ct rfl _ _ w.heap.size 27 #[.int .u8 18, .int .u64 (value_floats.ar .mul x y), .string (⟨#[]⟩ : ByteArray)] (0, 0) _ rfl (by refine blk_put (cs := #[.int .u8 18, .int .u64 (value_floats.ar .mul x y), .string (⟨#[]⟩ : ByteArray)]) ?_ 2 _ rfl; refine blk_put (cs := #[.int .u8 18, .int .u64 0, .string (⟨#[]⟩ : ByteArray)]) ?_ 1 _ rfl; refine blk_put (cs := #[.int .u8 0, .int .u64 0, .string (⟨#[]⟩ : ByteArray)]) ?_ 0 _ rfl; exact B1.out) Try.underlying27 rfl (by kernel_rfl)) rfl ?_
  exact ⟨rfl, below_set (below_set (below_set E1.out (Nat.le_refl _)) (Nat.le_refl _)) (Nat.le_refl _)⟩
set_option maxHeartbeats 8000000 in
set_option maxRecDepth 100000 in
theorem value_floats.quo (x y : Nat) (w : World) : Calls Try.prog 57 #[.int .i64 4, .float .f64 x, .float .f64 y] w fun e w' => e = .returned (.tuple #[.agg #[.int .u8 18, .int .u64 (value_floats.ar .quo x y), .string ⟨#[]⟩], .int .i64 0]) ∧ Below w.heap.size w w' := by
 have b0 := Aside0.mk (value_floats.b0 w)
 have hb0 := Aside0.mk (value_floats.hb0 w)
 cases hf : floatBits .quo .f64 x y with
 | none =>
  have hr := fun (W : World) (t : TypeId) => value_floats.run_none .quo (by simp) t x y hf W
  have HL := fun (t : Nat) (W : World) => value_Lreal.calls _ 18 (value_floats.ar .quo x y) ⟨#[]⟩ W (value_floats.lnan .quo x y t hf)
  clear hf
  go_enter Try.func57, Try.ntmps57
  go_wp2_with (go_at_call 22; refine (HL _ _).mono ?_; rintro e w1 ⟨rfl, hb⟩; have B1 := Aside0.mk (blk_below (g := w.heap.size) (o := .cells #[.int .u8 0, .int .u64 0, .string ⟨#[]⟩] 27 (0, 0)) (blk_drew b0.out) hb); have E1 := Aside0.mk (below_step (below_drew1 hb0.out) hb); clear hb; have c0 : w1.cell? ⟨w.heap.size, 0, none⟩ = some (.int .u8 0) := (blk_cell B1.out 0).trans rfl; have c1 : w1.cell? ⟨w.heap.size, 1, none⟩ = some (.int .u64 0) := (blk_cell B1.out 1).trans rfl; have c2 : w1.cell? ⟨w.heap.size, 2, none⟩ = some (.string ⟨#[]⟩) := (blk_cell B1.out 2).trans rfl; have f0 := blk_frozen B1.out 0; have f1 := blk_frozen B1.out 1; have f2 := blk_frozen B1.out 2)
  refine bodyPost_ret (results_ct rfl _ _ w.heap.size 27 #[.int .u8 18, .int .u64 (value_floats.ar .quo x y), .string (⟨#[]⟩ : ByteArray)] (0, 0) _ rfl (by refine blk_put (cs := #[.int .u8 18, .int .u64 (value_floats.ar .quo x y), .string (⟨#[]⟩ : ByteArray)]) ?_ 2 _ rfl; refine blk_put (cs := #[.int .u8 18, .int .u64 0, .string (⟨#[]⟩ : ByteArray)]) ?_ 1 _ rfl; refine blk_put (cs := #[.int .u8 0, .int .u64 0, .string (⟨#[]⟩ : ByteArray)]) ?_ 0 _ rfl; exact B1.out) Try.underlying27 rfl (by kernel_rfl)) rfl ?_
  exact ⟨rfl, below_set (below_set (below_set E1.out (Nat.le_refl _)) (Nat.le_refl _)) (Nat.le_refl _)⟩
 | some r =>
  have hr := fun (W : World) (t : TypeId) => run_float_arith (P := Try.prog) W .quo t .f64 x y r hf
  have HL := fun (W : World) => value_Lreal.calls r 18 (value_floats.ar .quo x y) ⟨#[]⟩ W (value_floats.lreal .quo x y r hf)
  clear hf
  go_enter Try.func57, Try.ntmps57
  go_wp2_with (go_at_call 22; refine (HL _).mono ?_; rintro e w1 ⟨rfl, hb⟩; have B1 := Aside0.mk (blk_below (g := w.heap.size) (o := .cells #[.int .u8 0, .int .u64 0, .string ⟨#[]⟩] 27 (0, 0)) b0.out hb); have E1 := Aside0.mk (below_step hb0.out hb); clear hb; have c0 : w1.cell? ⟨w.heap.size, 0, none⟩ = some (.int .u8 0) := (blk_cell B1.out 0).trans rfl; have c1 : w1.cell? ⟨w.heap.size, 1, none⟩ = some (.int .u64 0) := (blk_cell B1.out 1).trans rfl; have c2 : w1.cell? ⟨w.heap.size, 2, none⟩ = some (.string ⟨#[]⟩) := (blk_cell B1.out 2).trans rfl; have f0 := blk_frozen B1.out 0; have f1 := blk_frozen B1.out 1; have f2 := blk_frozen B1.out 2)
  refine bodyPost_ret (results_ct rfl _ _ w.heap.size 27 #[.int .u8 18, .int .u64 (value_floats.ar .quo x y), .string (⟨#[]⟩ : ByteArray)] (0, 0) _ rfl (by refine blk_put (cs := #[.int .u8 18, .int .u64 (value_floats.ar .quo x y), .string (⟨#[]⟩ : ByteArray)]) ?_ 2 _ rfl; refine blk_put (cs := #[.int .u8 18, .int .u64 0, .string (⟨#[]⟩ : ByteArray)]) ?_ 1 _ rfl; refine blk_put (cs := #[.int .u8 0, .int .u64 0, .string (⟨#[]⟩ : ByteArray)]) ?_ 0 _ rfl; exact B1.out) Try.underlying27 rfl (by kernel_rfl)) rfl ?_
  exact ⟨rfl, below_set (below_set (below_set E1.out (Nat.le_refl _)) (Nat.le_refl _)) (Nat.le_refl _)⟩
def value_floats.f (a0 : Int) (a1 a2 : Nat) : Option (Int × Int × ByteArray × Int) := if a0 = 1 then some (18, value_floats.ar .add a1 a2, ⟨#[]⟩, 0) else if a0 = 2 then some (18, value_floats.ar .sub a1 a2, ⟨#[]⟩, 0) else if a0 = 3 then some (18, value_floats.ar .mul a1 a2, ⟨#[]⟩, 0) else if a0 = 4 then some (18, value_floats.ar .quo a1 a2, ⟨#[]⟩, 0) else some (0, 0, ⟨#[]⟩, 8)
set_option maxHeartbeats 8000000 in
set_option maxRecDepth 100000 in
theorem value_floats.calls (a0 : Int) (a1 : Nat) (a2 : Nat) (r1 : Int) (r2 : Int) (r3 : ByteArray) (r4 : Int) (w : World) (h : value_floats.f a0 a1 a2 = some (r1, r2, r3, r4)) :
  Calls Try.prog 57 #[.int .i64 a0, .float .f64 a1, .float .f64 a2] w fun e w' => e = .returned (.tuple #[.agg #[.int .u8 r1, .int .u64 r2, .string r3], .int .i64 r4]) ∧ Below w.heap.size w w' := by
 unfold value_floats.f at h
 by_cases c1 : a0 = 1
 ·rw [if_pos c1] at h
  simp only [Option.some.injEq, Prod.mk.injEq] at h
  obtain ⟨rfl, rfl, rfl, rfl⟩ := h
  subst c1
  exact value_floats.add a1 a2 w
 rw [if_neg c1] at h
 by_cases c2 : a0 = 2
 ·rw [if_pos c2] at h
  simp only [Option.some.injEq, Prod.mk.injEq] at h
  obtain ⟨rfl, rfl, rfl, rfl⟩ := h
  subst c2
  exact value_floats.sub a1 a2 w
 rw [if_neg c2] at h
 by_cases c3 : a0 = 3
 ·rw [if_pos c3] at h
  simp only [Option.some.injEq, Prod.mk.injEq] at h
  obtain ⟨rfl, rfl, rfl, rfl⟩ := h
  subst c3
  exact value_floats.mul a1 a2 w
 rw [if_neg c3] at h
 by_cases c4 : a0 = 4
 ·rw [if_pos c4] at h
  simp only [Option.some.injEq, Prod.mk.injEq] at h
  obtain ⟨rfl, rfl, rfl, rfl⟩ := h
  subst c4
  exact value_floats.quo a1 a2 w
 rw [if_neg c4] at h
 simp only [Option.some.injEq, Prod.mk.injEq] at h
 obtain ⟨rfl, rfl, rfl, rfl⟩ := h
 have n1 : (a0 == 1) = false := by simpa using c1
 have n2 : (a0 == 2) = false := by simpa using c2
 have n3 : (a0 == 3) = false := by simpa using c3
 have n4 : (a0 == 4) = false := by simpa using c4
 clear c1 c2 c3 c4
 go_enter Try.func57, Try.ntmps57
 go_wp2
 exact bodyPost_ret (v := .tuple #[.agg #[.int .u8 0, .int .u64 0, .string ⟨#[]⟩], .int .i64 8]) (by simp [results, Try.results57, go_sem]) rfl ⟨rfl, value_floats.hb0 w⟩

/-! ### value_timed: function 58 -/
def value_timed.f (a0 : Int) : Option (Bool) := if a0 ≥ 14 then (some (decide (a0 ≤ 17))) else (some false)
set_option maxHeartbeats 8000000 in
set_option maxRecDepth 100000 in
theorem value_timed.calls (a0 : Int) (r : Bool) (w : World) (h : value_timed.f a0 = some r) :
  Calls Try.prog 58 #[.int .u8 a0] w fun e w' => e = .returned (.bool r) ∧ Drawn0 w w' := by
 have H : (if a0 ≥ 14 then (some (decide (a0 ≤ 17))) else (some false)) = some r := h
 clear h
 by_cases c2 : a0 ≥ 14
 ·rw [if_pos c2] at H
  have c2b0 : decide (14 ≤ a0) = true := decide_eq_true c2
  clear c2
  obtain rfl := Option.some.inj H
  go_enter Try.func58, Try.ntmps58
  go_wp2
  go_ret
  exact ⟨by first | rfl | (simp; done) | (simp [*]; done), by repeat (first | exact Drawn0.refl _ | apply Drawn0.step)⟩
 ·rw [if_neg c2] at H
  have c2b0 : decide (14 ≤ a0) = false := decide_eq_false c2
  clear c2
  obtain rfl := Option.some.inj H
  go_enter Try.func58, Try.ntmps58
  go_wp2
  go_ret
  exact ⟨by first | rfl | (simp; done) | (simp [*]; done), by repeat (first | exact Drawn0.refl _ | apply Drawn0.step)⟩

end Go.Proofs.Ytlmmkaddlflepaa.POrd
