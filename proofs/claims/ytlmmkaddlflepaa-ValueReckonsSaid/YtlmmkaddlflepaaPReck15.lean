-- by mkprint.py, a program of this session's own
import Derived.Test.YtlmmkaddlflepaaPReck0
import Derived.Test.YtlmmkaddlflepaaPReck14
namespace Go.Proofs.Ytlmmkaddlflepaa.PReck
open Go.RowKit Go.Proofs.YtlmmkaddlflepaaW.PrintWords Go.Proofs.YtlmmkaddlflepaaW.PrintLast Go.Proofs.YtlmmkaddlflepaaW.PrintMore
attribute [local go_sem] max2_int min2_int max_two min_two max_three min_three max_four min_four   -- for this text's walks alone
set_option linter.unusedVariables false
set_option linter.unusedSimpArgs false

attribute [local go_sem] cell_isSome un_neg_float str_gtr str_leq str_geq ext34 ext52
/-! ### relayref01_real: function 62 -/
/-- What an operation on two floats gives, as an LREAL's bits. -/
def relayref01_real.ar (op : BinOp) (x y : Nat) : Int := match floatBits op .f64 x y with | none => 9221120237041090561 | some r => if (FloatKind.f64.format.order r r != some Ordering.eq) = true then 9221120237041090561 else Int.ofNat r
theorem relayref01_real.nan (t : Nat) : (FloatKind.f64.format.order ((t % 2) * 2 ^ 63 + 0x7ff0000000000000 + 1 + (t / 2) % (2 ^ 52 - 1)) ((t % 2) * 2 ^ 63 + 0x7ff0000000000000 + 1 + (t / 2) % (2 ^ 52 - 1)) != some Ordering.eq) = true := by
 have hp : t % 2 = 0 ∨ t % 2 = 1 := by omega
 have hq : (t / 2) % (2 ^ 52 - 1) < 2 ^ 52 - 1 := Nat.mod_lt _ (by decide)
 generalize hn : (t % 2) * 2 ^ 63 + 0x7ff0000000000000 + 1 + (t / 2) % (2 ^ 52 - 1) = n
 have h2 : 9218868437227405312 < n % 9223372036854775808 := by
  generalize (t / 2) % (2 ^ 52 - 1) = q at *
  rcases hp with e | e <;> rw [e] at hn <;> omega
 unfold FloatKind.format Ieee.Format.order
 have rd : Ieee.double.read n = (if n % 9223372036854775808 < 4503599627370496 then .number (n / 9223372036854775808 % 2 == 1) (n % 9223372036854775808) Ieee.double.leastPlace
   else if n % 9223372036854775808 < 9218868437227405312 then .number (n / 9223372036854775808 % 2 == 1) (4503599627370496 + n % 9223372036854775808 % 4503599627370496) (Ieee.double.leastPlace + (n % 9223372036854775808 / 4503599627370496 - 1 : Nat))
   else if n % 9223372036854775808 = 9218868437227405312 then .infinity (n / 9223372036854775808 % 2 == 1) else .nan (n / 9223372036854775808 % 2 == 1) (n % 9223372036854775808 - 9218868437227405312)) := rfl
 rw [rd, if_neg (by omega), if_neg (by omega), if_neg (by omega)]
 rfl
theorem relayref01_real.lreal (op : BinOp) (x y : Nat) (r : Nat) (h : floatBits op .f64 x y = some r) : relayref01_Lreal.f r = some (18, relayref01_real.ar op x y, ⟨#[]⟩) := by
 unfold relayref01_Lreal.f  relayref01_real.ar
 rw [h]
 (try simp only [Option.bind_some])
 split <;> rfl
theorem relayref01_real.lnan (op : BinOp) (x y : Nat) (t : Nat) (h : floatBits op .f64 x y = none) : relayref01_Lreal.f ((t % 2) * 2 ^ 63 + 0x7ff0000000000000 + 1 + (t / 2) % (2 ^ 52 - 1)) = some (18, relayref01_real.ar op x y, ⟨#[]⟩) := by
 unfold relayref01_Lreal.f  relayref01_real.ar
 rw [h, relayref01_real.nan]
 rfl
theorem relayref01_real.run_none (op : BinOp) (hop : op = .add ∨ op = .sub ∨ op = .mul ∨ op = .quo) (t : TypeId) (x y : Nat) (h : floatBits op .f64 x y = none) (w : World) :
  (binOp op t (.float .f64 x) (.float .f64 y)).run Try.prog w = .ok (.float .f64 ((w.tape w.drawn (.nanBits .f64 x y) % 2) * 2 ^ 63 + 0x7ff0000000000000 + 1 + (w.tape w.drawn (.nanBits .f64 x y) / 2) % (2 ^ 52 - 1))) w.drew := by
 rcases hop with rfl | rfl | rfl | rfl
 all_goals
  unfold floatBits at h
  simp only at h
  simp [binOp, Op.floatArith, h]
  rfl
theorem relayref01_real.b0 (w : World) : (w.alloc (.cells #[.int .u8 0, .int .u64 0, .string ⟨#[]⟩] 27)).heap[w.heap.size]? = some (.cells #[.int .u8 0, .int .u64 0, .string ⟨#[]⟩] 27 (0, 0)) := (MapKept.heap_alloc w _).1
theorem relayref01_real.hb0 (w : World) : Below w.heap.size w (w.alloc (.cells #[.int .u8 0, .int .u64 0, .string ⟨#[]⟩] 27)) := (Below.refl _ _).alloc (Nat.le_refl _) _
set_option maxHeartbeats 8000000 in
set_option maxRecDepth 100000 in
theorem relayref01_real.add (x y : Nat) (w : World) : Calls Try.prog 62 #[.int .i64 1, .float .f64 x, .float .f64 y] w fun e w' => e = .returned (.agg #[.int .u8 18, .int .u64 (relayref01_real.ar .add x y), .string ⟨#[]⟩]) ∧ Below w.heap.size w w' := by
 have b0 := Aside0.mk (relayref01_real.b0 w)
 have hb0 := Aside0.mk (relayref01_real.hb0 w)
 cases hf : floatBits .add .f64 x y with
 | none =>
  have hr := fun (W : World) (t : TypeId) => relayref01_real.run_none .add (by simp) t x y hf W
  have HL := fun (t : Nat) (W : World) => relayref01_Lreal.calls _ 18 (relayref01_real.ar .add x y) ⟨#[]⟩ W (relayref01_real.lnan .add x y t hf)
  clear hf
  go_enter Try.func62, Try.ntmps62
  go_wp2_with (go_at_call 23; refine (HL _ _).mono ?_; rintro e w1 ⟨rfl, hb⟩; have B1 := Aside0.mk (blk_below (g := w.heap.size) (o := .cells #[.int .u8 0, .int .u64 0, .string ⟨#[]⟩] 27 (0, 0)) (blk_drew b0.out) hb); have E1 := Aside0.mk (below_step (below_drew1 hb0.out) hb); clear hb; have c0 : w1.cell? ⟨w.heap.size, 0, none⟩ = some (.int .u8 0) := (blk_cell B1.out 0).trans rfl; have c1 : w1.cell? ⟨w.heap.size, 1, none⟩ = some (.int .u64 0) := (blk_cell B1.out 1).trans rfl; have c2 : w1.cell? ⟨w.heap.size, 2, none⟩ = some (.string ⟨#[]⟩) := (blk_cell B1.out 2).trans rfl; have f0 := blk_frozen B1.out 0; have f1 := blk_frozen B1.out 1; have f2 := blk_frozen B1.out 2)
  refine bodyPost_ret (results_cell_row rfl _ _ w.heap.size 27 #[.int .u8 18, .int .u64 (relayref01_real.ar .add x y), .string (⟨#[]⟩ : ByteArray)] (0, 0) _ rfl (by refine blk_put (cs := #[.int .u8 18, .int .u64 (relayref01_real.ar .add x y), .string (⟨#[]⟩ : ByteArray)]) ?_ 2 _ rfl; refine blk_put (cs := #[.int .u8 18, .int .u64 0, .string (⟨#[]⟩ : ByteArray)]) ?_ 1 _ rfl; refine blk_put (cs := #[.int .u8 0, .int .u64 0, .string (⟨#[]⟩ : ByteArray)]) ?_ 0 _ rfl; exact B1.out) Try.underlying27 rfl (by kernel_rfl)) rfl ?_
  exact ⟨rfl, below_set (below_set (below_set E1.out (Nat.le_refl _)) (Nat.le_refl _)) (Nat.le_refl _)⟩
 | some r =>
  have hr := fun (W : World) (t : TypeId) => run_float_arith (P := Try.prog) W .add t .f64 x y r hf
  have HL := fun (W : World) => relayref01_Lreal.calls r 18 (relayref01_real.ar .add x y) ⟨#[]⟩ W (relayref01_real.lreal .add x y r hf)
  clear hf
  go_enter Try.func62, Try.ntmps62
  go_wp2_with (go_at_call 23; refine (HL _).mono ?_; rintro e w1 ⟨rfl, hb⟩; have B1 := Aside0.mk (blk_below (g := w.heap.size) (o := .cells #[.int .u8 0, .int .u64 0, .string ⟨#[]⟩] 27 (0, 0)) b0.out hb); have E1 := Aside0.mk (below_step hb0.out hb); clear hb; have c0 : w1.cell? ⟨w.heap.size, 0, none⟩ = some (.int .u8 0) := (blk_cell B1.out 0).trans rfl; have c1 : w1.cell? ⟨w.heap.size, 1, none⟩ = some (.int .u64 0) := (blk_cell B1.out 1).trans rfl; have c2 : w1.cell? ⟨w.heap.size, 2, none⟩ = some (.string ⟨#[]⟩) := (blk_cell B1.out 2).trans rfl; have f0 := blk_frozen B1.out 0; have f1 := blk_frozen B1.out 1; have f2 := blk_frozen B1.out 2)
  refine bodyPost_ret (results_cell_row rfl _ _ w.heap.size 27 #[.int .u8 18, .int .u64 (relayref01_real.ar .add x y), .string (⟨#[]⟩ : ByteArray)] (0, 0) _ rfl (by refine blk_put (cs := #[.int .u8 18, .int .u64 (relayref01_real.ar .add x y), .string (⟨#[]⟩ : ByteArray)]) ?_ 2 _ rfl; refine blk_put (cs := #[.int .u8 18, .int .u64 0, .string (⟨#[]⟩ : ByteArray)]) ?_ 1 _ rfl; refine blk_put (cs := #[.int .u8 0, .int .u64 0, .string (⟨#[]⟩ : ByteArray)]) ?_ 0 _ rfl; exact B1.out) Try.underlying27 rfl (by kernel_rfl)) rfl ?_
  exact ⟨rfl, below_set (below_set (below_set E1.out (Nat.le_refl _)) (Nat.le_refl _)) (Nat.le_refl _)⟩
set_option maxHeartbeats 8000000 in
set_option maxRecDepth 100000 in
theorem relayref01_real.sub (x y : Nat) (w : World) : Calls Try.prog 62 #[.int .i64 2, .float .f64 x, .float .f64 y] w fun e w' => e = .returned (.agg #[.int .u8 18, .int .u64 (relayref01_real.ar .sub x y), .string ⟨#[]⟩]) ∧ Below w.heap.size w w' := by
 have b0 := Aside0.mk (relayref01_real.b0 w)
 have hb0 := Aside0.mk (relayref01_real.hb0 w)
 cases hf : floatBits .sub .f64 x y with
 | none =>
  have hr := fun (W : World) (t : TypeId) => relayref01_real.run_none .sub (by simp) t x y hf W
  have HL := fun (t : Nat) (W : World) => relayref01_Lreal.calls _ 18 (relayref01_real.ar .sub x y) ⟨#[]⟩ W (relayref01_real.lnan .sub x y t hf)
  clear hf
  go_enter Try.func62, Try.ntmps62
  go_wp2_with (go_at_call 23; refine (HL _ _).mono ?_; rintro e w1 ⟨rfl, hb⟩; have B1 := Aside0.mk (blk_below (g := w.heap.size) (o := .cells #[.int .u8 0, .int .u64 0, .string ⟨#[]⟩] 27 (0, 0)) (blk_drew b0.out) hb); have E1 := Aside0.mk (below_step (below_drew1 hb0.out) hb); clear hb; have c0 : w1.cell? ⟨w.heap.size, 0, none⟩ = some (.int .u8 0) := (blk_cell B1.out 0).trans rfl; have c1 : w1.cell? ⟨w.heap.size, 1, none⟩ = some (.int .u64 0) := (blk_cell B1.out 1).trans rfl; have c2 : w1.cell? ⟨w.heap.size, 2, none⟩ = some (.string ⟨#[]⟩) := (blk_cell B1.out 2).trans rfl; have f0 := blk_frozen B1.out 0; have f1 := blk_frozen B1.out 1; have f2 := blk_frozen B1.out 2)
  refine bodyPost_ret (results_cell_row rfl _ _ w.heap.size 27 #[.int .u8 18, .int .u64 (relayref01_real.ar .sub x y), .string (⟨#[]⟩ : ByteArray)] (0, 0) _ rfl (by refine blk_put (cs := #[.int .u8 18, .int .u64 (relayref01_real.ar .sub x y), .string (⟨#[]⟩ : ByteArray)]) ?_ 2 _ rfl; refine blk_put (cs := #[.int .u8 18, .int .u64 0, .string (⟨#[]⟩ : ByteArray)]) ?_ 1 _ rfl; refine blk_put (cs := #[.int .u8 0, .int .u64 0, .string (⟨#[]⟩ : ByteArray)]) ?_ 0 _ rfl; exact B1.out) Try.underlying27 rfl (by kernel_rfl)) rfl ?_
  exact ⟨rfl, below_set (below_set (below_set E1.out (Nat.le_refl _)) (Nat.le_refl _)) (Nat.le_refl _)⟩
 | some r =>
  have hr := fun (W : World) (t : TypeId) => run_float_arith (P := Try.prog) W .sub t .f64 x y r hf
  have HL := fun (W : World) => relayref01_Lreal.calls r 18 (relayref01_real.ar .sub x y) ⟨#[]⟩ W (relayref01_real.lreal .sub x y r hf)
  clear hf
  go_enter Try.func62, Try.ntmps62
  go_wp2_with (go_at_call 23; refine (HL _).mono ?_; rintro e w1 ⟨rfl, hb⟩; have B1 := Aside0.mk (blk_below (g := w.heap.size) (o := .cells #[.int .u8 0, .int .u64 0, .string ⟨#[]⟩] 27 (0, 0)) b0.out hb); have E1 := Aside0.mk (below_step hb0.out hb); clear hb; have c0 : w1.cell? ⟨w.heap.size, 0, none⟩ = some (.int .u8 0) := (blk_cell B1.out 0).trans rfl; have c1 : w1.cell? ⟨w.heap.size, 1, none⟩ = some (.int .u64 0) := (blk_cell B1.out 1).trans rfl; have c2 : w1.cell? ⟨w.heap.size, 2, none⟩ = some (.string ⟨#[]⟩) := (blk_cell B1.out 2).trans rfl; have f0 := blk_frozen B1.out 0; have f1 := blk_frozen B1.out 1; have f2 := blk_frozen B1.out 2)
  refine bodyPost_ret (results_cell_row rfl _ _ w.heap.size 27 #[.int .u8 18, .int .u64 (relayref01_real.ar .sub x y), .string (⟨#[]⟩ : ByteArray)] (0, 0) _ rfl (by refine blk_put (cs := #[.int .u8 18, .int .u64 (relayref01_real.ar .sub x y), .string (⟨#[]⟩ : ByteArray)]) ?_ 2 _ rfl; refine blk_put (cs := #[.int .u8 18, .int .u64 0, .string (⟨#[]⟩ : ByteArray)]) ?_ 1 _ rfl; refine blk_put (cs := #[.int .u8 0, .int .u64 0, .string (⟨#[]⟩ : ByteArray)]) ?_ 0 _ rfl; exact B1.out) Try.underlying27 rfl (by kernel_rfl)) rfl ?_
  exact ⟨rfl, below_set (below_set (below_set E1.out (Nat.le_refl _)) (Nat.le_refl _)) (Nat.le_refl _)⟩
set_option maxHeartbeats 8000000 in
set_option maxRecDepth 100000 in
theorem relayref01_real.mul (x y : Nat) (w : World) : Calls Try.prog 62 #[.int .i64 3, .float .f64 x, .float .f64 y] w fun e w' => e = .returned (.agg #[.int .u8 18, .int .u64 (relayref01_real.ar .mul x y), .string ⟨#[]⟩]) ∧ Below w.heap.size w w' := by
 have b0 := Aside0.mk (relayref01_real.b0 w)
 have hb0 := Aside0.mk (relayref01_real.hb0 w)
 cases hf : floatBits .mul .f64 x y with
 | none =>
  have hr := fun (W : World) (t : TypeId) => relayref01_real.run_none .mul (by simp) t x y hf W
  have HL := fun (t : Nat) (W : World) => relayref01_Lreal.calls _ 18 (relayref01_real.ar .mul x y) ⟨#[]⟩ W (relayref01_real.lnan .mul x y t hf)
  clear hf
  go_enter Try.func62, Try.ntmps62
  go_wp2_with (go_at_call 23; refine (HL _ _).mono ?_; rintro e w1 ⟨rfl, hb⟩; have B1 := Aside0.mk (blk_below (g := w.heap.size) (o := .cells #[.int .u8 0, .int .u64 0, .string ⟨#[]⟩] 27 (0, 0)) (blk_drew b0.out) hb); have E1 := Aside0.mk (below_step (below_drew1 hb0.out) hb); clear hb; have c0 : w1.cell? ⟨w.heap.size, 0, none⟩ = some (.int .u8 0) := (blk_cell B1.out 0).trans rfl; have c1 : w1.cell? ⟨w.heap.size, 1, none⟩ = some (.int .u64 0) := (blk_cell B1.out 1).trans rfl; have c2 : w1.cell? ⟨w.heap.size, 2, none⟩ = some (.string ⟨#[]⟩) := (blk_cell B1.out 2).trans rfl; have f0 := blk_frozen B1.out 0; have f1 := blk_frozen B1.out 1; have f2 := blk_frozen B1.out 2)
  refine bodyPost_ret (results_cell_row rfl _ _ w.heap.size 27 #[.int .u8 18, .int .u64 (relayref01_real.ar .mul x y), .string (⟨#[]⟩ : ByteArray)] (0, 0) _ rfl (by refine blk_put (cs := #[.int .u8 18, .int .u64 (relayref01_real.ar .mul x y), .string (⟨#[]⟩ : ByteArray)]) ?_ 2 _ rfl; refine blk_put (cs := #[.int .u8 18, .int .u64 0, .string (⟨#[]⟩ : ByteArray)]) ?_ 1 _ rfl; refine blk_put (cs := #[.int .u8 0, .int .u64 0, .string (⟨#[]⟩ : ByteArray)]) ?_ 0 _ rfl; exact B1.out) Try.underlying27 rfl (by kernel_rfl)) rfl ?_
  exact ⟨rfl, below_set (below_set (below_set E1.out (Nat.le_refl _)) (Nat.le_refl _)) (Nat.le_refl _)⟩
 | some r =>
  have hr := fun (W : World) (t : TypeId) => run_float_arith (P := Try.prog) W .mul t .f64 x y r hf
  have HL := fun (W : World) => relayref01_Lreal.calls r 18 (relayref01_real.ar .mul x y) ⟨#[]⟩ W (relayref01_real.lreal .mul x y r hf)
  clear hf
  go_enter Try.func62, Try.ntmps62
  go_wp2_with (go_at_call 23; refine (HL _).mono ?_; rintro e w1 ⟨rfl, hb⟩; have B1 := Aside0.mk (blk_below (g := w.heap.size) (o := .cells #[.int .u8 0, .int .u64 0, .string ⟨#[]⟩] 27 (0, 0)) b0.out hb); have E1 := Aside0.mk (below_step hb0.out hb); clear hb; have c0 : w1.cell? ⟨w.heap.size, 0, none⟩ = some (.int .u8 0) := (blk_cell B1.out 0).trans rfl; have c1 : w1.cell? ⟨w.heap.size, 1, none⟩ = some (.int .u64 0) := (blk_cell B1.out 1).trans rfl; have c2 : w1.cell? ⟨w.heap.size, 2, none⟩ = some (.string ⟨#[]⟩) := (blk_cell B1.out 2).trans rfl; have f0 := blk_frozen B1.out 0; have f1 := blk_frozen B1.out 1; have f2 := blk_frozen B1.out 2)
  refine bodyPost_ret (results_cell_row rfl _ _ w.heap.size 27 #[.int .u8 18, .int .u64 (relayref01_real.ar .mul x y), .string (⟨#[]⟩ : ByteArray)] (0, 0) _ rfl (by refine blk_put (cs := #[.int .u8 18, .int .u64 (relayref01_real.ar .mul x y), .string (⟨#[]⟩ : ByteArray)]) ?_ 2 _ rfl; refine blk_put (cs := #[.int .u8 18, .int .u64 0, .string (⟨#[]⟩ : ByteArray)]) ?_ 1 _ rfl; refine blk_put (cs := #[.int .u8 0, .int .u64 0, .string (⟨#[]⟩ : ByteArray)]) ?_ 0 _ rfl; exact B1.out) Try.underlying27 rfl (by kernel_rfl)) rfl ?_
  exact ⟨rfl, below_set (below_set (below_set E1.out (Nat.le_refl _)) (Nat.le_refl _)) (Nat.le_refl _)⟩
set_option maxHeartbeats 8000000 in
set_option maxRecDepth 100000 in
theorem relayref01_real.quo (n : Int) (n1 : (n == 1) = false) (n2 : (n == 2) = false) (n3 : (n == 3) = false) (x y : Nat) (w : World) : Calls Try.prog 62 #[.int .i64 n, .float .f64 x, .float .f64 y] w fun e w' => e = .returned (.agg #[.int .u8 18, .int .u64 (relayref01_real.ar .quo x y), .string ⟨#[]⟩]) ∧ Below w.heap.size w w' := by
 have b0 := Aside0.mk (relayref01_real.b0 w)
 have hb0 := Aside0.mk (relayref01_real.hb0 w)
 cases hf : floatBits .quo .f64 x y with
 | none =>
  have hr := fun (W : World) (t : TypeId) => relayref01_real.run_none .quo (by simp) t x y hf W
  have HL := fun (t : Nat) (W : World) => relayref01_Lreal.calls _ 18 (relayref01_real.ar .quo x y) ⟨#[]⟩ W (relayref01_real.lnan .quo x y t hf)
  clear hf
  go_enter Try.func62, Try.ntmps62
  go_wp2_with (go_at_call 23; refine (HL _ _).mono ?_; rintro e w1 ⟨rfl, hb⟩; have B1 := Aside0.mk (blk_below (g := w.heap.size) (o := .cells #[.int .u8 0, .int .u64 0, .string ⟨#[]⟩] 27 (0, 0)) (blk_drew b0.out) hb); have E1 := Aside0.mk (below_step (below_drew1 hb0.out) hb); clear hb; have c0 : w1.cell? ⟨w.heap.size, 0, none⟩ = some (.int .u8 0) := (blk_cell B1.out 0).trans rfl; have c1 : w1.cell? ⟨w.heap.size, 1, none⟩ = some (.int .u64 0) := (blk_cell B1.out 1).trans rfl; have c2 : w1.cell? ⟨w.heap.size, 2, none⟩ = some (.string ⟨#[]⟩) := (blk_cell B1.out 2).trans rfl; have f0 := blk_frozen B1.out 0; have f1 := blk_frozen B1.out 1; have f2 := blk_frozen B1.out 2)
  refine bodyPost_ret (results_cell_row rfl _ _ w.heap.size 27 #[.int .u8 18, .int .u64 (relayref01_real.ar .quo x y), .string (⟨#[]⟩ : ByteArray)] (0, 0) _ rfl (by refine blk_put (cs := #[.int .u8 18, .int .u64 (relayref01_real.ar .quo x y), .string (⟨#[]⟩ : ByteArray)]) ?_ 2 _ rfl; refine blk_put (cs := #[.int .u8 18, .int .u64 0, .string (⟨#[]⟩ : ByteArray)]) ?_ 1 _ rfl; refine blk_put (cs := #[.int .u8 0, .int .u64 0, .string (⟨#[]⟩ : ByteArray)]) ?_ 0 _ rfl; exact B1.out) Try.underlying27 rfl (by kernel_rfl)) rfl ?_
  exact ⟨rfl, below_set (below_set (below_set E1.out (Nat.le_refl _)) (Nat.le_refl _)) (Nat.le_refl _)⟩
 | some r =>
  have hr := fun (W : World) (t : TypeId) => run_float_arith (P := Try.prog) W .quo t .f64 x y r hf
  have HL := fun (W : World) => relayref01_Lreal.calls r 18 (relayref01_real.ar .quo x y) ⟨#[]⟩ W (relayref01_real.lreal .quo x y r hf)
  clear hf
  go_enter Try.func62, Try.ntmps62
  go_wp2_with (go_at_call 23; refine (HL _).mono ?_; rintro e w1 ⟨rfl, hb⟩; have B1 := Aside0.mk (blk_below (g := w.heap.size) (o := .cells #[.int .u8 0, .int .u64 0, .string ⟨#[]⟩] 27 (0, 0)) b0.out hb); have E1 := Aside0.mk (below_step hb0.out hb); clear hb; have c0 : w1.cell? ⟨w.heap.size, 0, none⟩ = some (.int .u8 0) := (blk_cell B1.out 0).trans rfl; have c1 : w1.cell? ⟨w.heap.size, 1, none⟩ = some (.int .u64 0) := (blk_cell B1.out 1).trans rfl; have c2 : w1.cell? ⟨w.heap.size, 2, none⟩ = some (.string ⟨#[]⟩) := (blk_cell B1.out 2).trans rfl; have f0 := blk_frozen B1.out 0; have f1 := blk_frozen B1.out 1; have f2 := blk_frozen B1.out 2)
  refine bodyPost_ret (results_cell_row rfl _ _ w.heap.size 27 #[.int .u8 18, .int .u64 (relayref01_real.ar .quo x y), .string (⟨#[]⟩ : ByteArray)] (0, 0) _ rfl (by refine blk_put (cs := #[.int .u8 18, .int .u64 (relayref01_real.ar .quo x y), .string (⟨#[]⟩ : ByteArray)]) ?_ 2 _ rfl; refine blk_put (cs := #[.int .u8 18, .int .u64 0, .string (⟨#[]⟩ : ByteArray)]) ?_ 1 _ rfl; refine blk_put (cs := #[.int .u8 0, .int .u64 0, .string (⟨#[]⟩ : ByteArray)]) ?_ 0 _ rfl; exact B1.out) Try.underlying27 rfl (by kernel_rfl)) rfl ?_
  exact ⟨rfl, below_set (below_set (below_set E1.out (Nat.le_refl _)) (Nat.le_refl _)) (Nat.le_refl _)⟩
def relayref01_real.f (a0 : Int) (a1 a2 : Nat) : Option (Int × Int × ByteArray) := if a0 = 1 then some (18, relayref01_real.ar .add a1 a2, ⟨#[]⟩) else if a0 = 2 then some (18, relayref01_real.ar .sub a1 a2, ⟨#[]⟩) else if a0 = 3 then some (18, relayref01_real.ar .mul a1 a2, ⟨#[]⟩) else some (18, relayref01_real.ar .quo a1 a2, ⟨#[]⟩)
set_option maxHeartbeats 8000000 in
set_option maxRecDepth 100000 in
theorem relayref01_real.calls (a0 : Int) (a1 : Nat) (a2 : Nat) (r1 : Int) (r2 : Int) (r3 : ByteArray) (w : World) (h : relayref01_real.f a0 a1 a2 = some (r1, r2, r3)) :
  Calls Try.prog 62 #[.int .i64 a0, .float .f64 a1, .float .f64 a2] w fun e w' => e = .returned (.agg #[.int .u8 r1, .int .u64 r2, .string r3]) ∧ Below w.heap.size w w' := by
 unfold relayref01_real.f at h
 by_cases c1 : a0 = 1
 ·rw [if_pos c1] at h
  simp only [Option.some.injEq, Prod.mk.injEq] at h
  obtain ⟨rfl, rfl, rfl⟩ := h
  subst c1
  exact relayref01_real.add a1 a2 w
 rw [if_neg c1] at h
 by_cases c2 : a0 = 2
 ·rw [if_pos c2] at h
  simp only [Option.some.injEq, Prod.mk.injEq] at h
  obtain ⟨rfl, rfl, rfl⟩ := h
  subst c2
  exact relayref01_real.sub a1 a2 w
 rw [if_neg c2] at h
 by_cases c3 : a0 = 3
 ·rw [if_pos c3] at h
  simp only [Option.some.injEq, Prod.mk.injEq] at h
  obtain ⟨rfl, rfl, rfl⟩ := h
  subst c3
  exact relayref01_real.mul a1 a2 w
 rw [if_neg c3] at h
 simp only [Option.some.injEq, Prod.mk.injEq] at h
 obtain ⟨rfl, rfl, rfl⟩ := h
 exact relayref01_real.quo a0 (by simpa using c1) (by simpa using c2) (by simpa using c3) a1 a2 w

/-! ### relayref01_unsigned: function 63 -/
def relayref01_unsigned.j0 : Nat → Int → Int → Bool → Option (Int × Int)
 | 0, _, _, _ => none
 | k + 1, x1, x2, x34 => if x34 = true then (some (0, 0)) else (if x2 = 0 then (none) else (if (IntKind.u64.wrap (Int.tdiv (IntKind.u64.wrap (x1 * x2)) x2)) = x1 then (some (IntKind.u64.wrap (x1 * x2), 0)) else (some (0, 1))))
def relayref01_unsigned.f (k : Nat) (a0 : Int) (a1 : Int) (a2 : Int) : Option (Int × Int) := if a0 = 1 then (if (IntKind.u64.wrap (a1 + a2)) < a1 then (some (0, 1)) else (some (IntKind.u64.wrap (a1 + a2), 0))) else (if a0 = 2 then (if a2 > a1 then (some (0, 1)) else (some (IntKind.u64.wrap (a1 - a2), 0))) else (if a0 = 3 then (if a1 = 0 then (relayref01_unsigned.j0 k a1 a2 true) else (relayref01_unsigned.j0 k a1 a2 (a2 == 0))) else (if a2 = 0 then (some (0, 2)) else (if a0 = 4 then (some (IntKind.u64.wrap (Int.tdiv a1 a2), 0)) else (some (Int.tmod a1 a2, 0))))))
theorem relayref01_unsigned.mono_l : ∀ k, (∀ y0 y1 y2, LeO (relayref01_unsigned.j0 k y0 y1 y2) (relayref01_unsigned.j0 (k + 1) y0 y1 y2))
 | 0 => fun _ _ _ r h => by simp [relayref01_unsigned.j0] at h
 | k + 1 => by
  have ih0 := relayref01_unsigned.mono_l k
  ·intro y0 y1 y2
   unfold relayref01_unsigned.j0
   repeat' first
   | (with_reducible exact ih0 _ _ _)
   | (with_reducible exact LeO.refl _)
   | (with_reducible exact LeO.none _)
   | (with_reducible refine LeO.ite ?_ ?_)
   | (with_reducible refine LeO.bind ?_ (fun _ => ?_))
   | exact ih0 _ _ _
   | exact LeO.none _
   | refine LeO.ite ?_ ?_
   | refine LeO.bind ?_ (fun _ => ?_)
theorem relayref01_unsigned.mono : ∀ a0 a1 a2 k, LeO (relayref01_unsigned.f k a0 a1 a2) (relayref01_unsigned.f (k + 1) a0 a1 a2) := by
 intro a0 a1 a2 k
 have ih0 := relayref01_unsigned.mono_l k
 unfold relayref01_unsigned.f
 repeat' first
   | (with_reducible exact ih0 _ _ _)
   | (with_reducible exact LeO.refl _)
   | (with_reducible exact LeO.none _)
   | (with_reducible refine LeO.ite ?_ ?_)
   | (with_reducible refine LeO.bind ?_ (fun _ => ?_))
   | exact ih0 _ _ _
   | exact LeO.none _
   | refine LeO.ite ?_ ?_
   | refine LeO.bind ?_ (fun _ => ?_)
set_option maxHeartbeats 8000000 in
set_option maxRecDepth 100000 in
theorem relayref01_unsigned.calls (k : Nat) (a0 : Int) (a1 : Int) (a2 : Int) (r1 : Int) (r2 : Int) (w : World) (h : relayref01_unsigned.f k a0 a1 a2 = some (r1, r2)) :
  Calls Try.prog 63 #[.int .i64 a0, .int .u64 a1, .int .u64 a2] w fun e w' => e = .returned (.tuple #[.int .u64 r1, .int .i64 r2]) ∧ Drawn0 w w' := by
 have H : (if a0 = 1 then (if (IntKind.u64.wrap (a1 + a2)) < a1 then (some (0, 1)) else (some (IntKind.u64.wrap (a1 + a2), 0))) else (if a0 = 2 then (if a2 > a1 then (some (0, 1)) else (some (IntKind.u64.wrap (a1 - a2), 0))) else (if a0 = 3 then (if a1 = 0 then (relayref01_unsigned.j0 k a1 a2 true) else (relayref01_unsigned.j0 k a1 a2 (a2 == 0))) else (if a2 = 0 then (some (0, 2)) else (if a0 = 4 then (some (IntKind.u64.wrap (Int.tdiv a1 a2), 0)) else (some (Int.tmod a1 a2, 0))))))) = some (r1, r2) := h
 clear h
 by_cases c4 : a0 = 1
 ·rw [if_pos c4] at H
  have c4b0 : (a0 == 1) = true := beq_iff_eq.mpr c4
  have c4b1 : (a0 != 1) = false := bne_eq_false_iff_eq.mpr c4
  clear c4
  by_cases c5 : (IntKind.u64.wrap (a1 + a2)) < a1
  ·rw [if_pos c5] at H
   have c5b0 : decide ((IntKind.u64.wrap (a1 + a2)) < a1) = true := decide_eq_true c5
   clear c5
   simp only [Option.some.injEq, Prod.mk.injEq] at H
   obtain ⟨rfl, rfl⟩ := H
   go_enter Try.func63, Try.ntmps63
   go_wp2
   go_ret2
   exact ⟨by first | rfl | (simp; done) | (simp [*]; done), by repeat (first | exact Drawn0.refl _ | apply Drawn0.step)⟩
  ·rw [if_neg c5] at H
   have c5b0 : decide ((IntKind.u64.wrap (a1 + a2)) < a1) = false := decide_eq_false c5
   clear c5
   simp only [Option.some.injEq, Prod.mk.injEq] at H
   obtain ⟨rfl, rfl⟩ := H
   go_enter Try.func63, Try.ntmps63
   go_wp2
   go_ret2
   exact ⟨by first | rfl | (simp; done) | (simp [*]; done), by repeat (first | exact Drawn0.refl _ | apply Drawn0.step)⟩
 ·rw [if_neg c4] at H
  have c4b0 : (a0 == 1) = false := beq_eq_false_iff_ne.mpr c4
  have c4b1 : (a0 != 1) = true := bne_iff_ne.mpr c4
  by_cases c6 : a0 = 2
  ·rw [if_pos c6] at H
   have c6b0 : (a0 == 2) = true := beq_iff_eq.mpr c6
   have c6b1 : (a0 != 2) = false := bne_eq_false_iff_eq.mpr c6
   clear c6
   by_cases c7 : a2 > a1
   ·rw [if_pos c7] at H
    have c7b0 : decide (a1 < a2) = true := decide_eq_true c7
    clear c7
    simp only [Option.some.injEq, Prod.mk.injEq] at H
    obtain ⟨rfl, rfl⟩ := H
    go_enter Try.func63, Try.ntmps63
    go_wp2
    go_ret2
    exact ⟨by first | rfl | (simp; done) | (simp [*]; done), by repeat (first | exact Drawn0.refl _ | apply Drawn0.step)⟩
   ·rw [if_neg c7] at H
    have c7b0 : decide (a1 < a2) = false := decide_eq_false c7
    clear c7
    simp only [Option.some.injEq, Prod.mk.injEq] at H
    obtain ⟨rfl, rfl⟩ := H
    go_enter Try.func63, Try.ntmps63
    go_wp2
    go_ret2
    exact ⟨by first | rfl | (simp; done) | (simp [*]; done), by repeat (first | exact Drawn0.refl _ | apply Drawn0.step)⟩
  ·rw [if_neg c6] at H
   have c6b0 : (a0 == 2) = false := beq_eq_false_iff_ne.mpr c6
   have c6b1 : (a0 != 2) = true := bne_iff_ne.mpr c6
   by_cases c8 : a0 = 3
   ·rw [if_pos c8] at H
    have c8b0 : (a0 == 3) = true := beq_iff_eq.mpr c8
    have c8b1 : (a0 != 3) = false := bne_eq_false_iff_eq.mpr c8
    clear c8
    have HC9 := Aside0.mk H
    clear H
    go_enter Try.func63, Try.ntmps63
    go_upto_region 11 with (fail)
    go_cut [34] (fun v34 wc => ∃ (kq : Nat) (x34_8 : Bool), v34 = .bool x34_8 ∧ Aside0 (relayref01_unsigned.j0 kq a1 a2 x34_8 = some (r1, r2)) ∧ Aside0 (kq ≤ k) ∧ Drawn0 w wc)
    case first =>
     have H := HC9.out
     clear HC9
     by_cases c10 : a1 = 0
     ·rw [if_pos c10] at H
      have c10b0 : (a1 == 0) = true := beq_iff_eq.mpr c10
      have c10b1 : (a1 != 0) = false := bne_eq_false_iff_eq.mpr c10
      clear c10
      (first | rw [c10b0] | (simp only [i64_w, i32_w]; rw [c10b0]) | skip)
      have H' := Aside0.mk H
      clear H
      go_wp2
      go_meet
      case rel => exact ⟨_, (true), (by first | rfl | (simp; done) | (simp [*]; done)), H', ⟨by first | omega | exact Nat.le_refl _⟩, by repeat (first | exact Drawn0.refl _ | apply Drawn0.step)⟩
     ·rw [if_neg c10] at H
      have c10b0 : (a1 == 0) = false := beq_eq_false_iff_ne.mpr c10
      have c10b1 : (a1 != 0) = true := bne_iff_ne.mpr c10
      (first | rw [c10b0] | (simp only [i64_w, i32_w]; rw [c10b0]) | skip)
      have H' := Aside0.mk H
      clear H
      go_wp2
      go_meet
      case rel => exact ⟨_, ((a2 == 0)), (by first | rfl | (simp; done) | (simp [*]; done)), H', ⟨by first | omega | exact Nat.le_refl _⟩, by repeat (first | exact Drawn0.refl _ | apply Drawn0.step)⟩
    case rest =>
     clear HC9
     (try clear c1);(try clear p2);(try clear c4);(try clear c4b0);(try clear c4b1);(try clear c5);(try clear c5b0);(try clear c6);(try clear c6b0);(try clear c6b1);(try clear c7);(try clear c7b0);(try clear c8);(try clear c8b0);(try clear c8b1);(try clear c10);(try clear c10b0);(try clear c10b1)
     obtain ⟨kq, x34_8, rfl, HA, HJ8, ⟨mc8, rfl⟩⟩ := hcut
     cases kq with
     | zero => exact absurd HA.out (by simp [relayref01_unsigned.j0])
     | succ kj8 =>
      have H := HA.out
      clear HA
      simp only [relayref01_unsigned.j0] at H
      by_cases c11 : x34_8 = true
      ·subst c11
       have H1 : (some (0, 0)) = some (r1, r2) := by rw [if_pos rfl] at H; exact H
       clear H
       have H := H1
       clear H1
       simp only [Option.some.injEq, Prod.mk.injEq] at H
       obtain ⟨rfl, rfl⟩ := H
       go_wp2
       go_ret2
       exact ⟨by first | rfl | (simp; done) | (simp [*]; done), by repeat (first | exact Drawn0.refl _ | apply Drawn0.step)⟩
      ·replace c11 := Bool.eq_false_iff.mpr c11
       subst c11
       have H1 : (if a2 = 0 then (none) else (if (IntKind.u64.wrap (Int.tdiv (IntKind.u64.wrap (a1 * a2)) a2)) = a1 then (some (IntKind.u64.wrap (a1 * a2), 0)) else (some (0, 1)))) = some (r1, r2) := by rw [if_neg (show ¬ (false = true) by decide)] at H; exact H
       clear H
       have H := H1
       clear H1
       by_cases c12 : a2 = 0
       ·rw [if_pos c12] at H
        exact absurd H (by simp)
       ·rw [if_neg c12] at H
        have c12b0 : (a2 == 0) = false := beq_eq_false_iff_ne.mpr c12
        have c12b1 : (a2 != 0) = true := bne_iff_ne.mpr c12
        by_cases c13 : (IntKind.u64.wrap (Int.tdiv (IntKind.u64.wrap (a1 * a2)) a2)) = a1
        ·rw [if_pos c13] at H
         have c13b0 : ((IntKind.u64.wrap (Int.tdiv (IntKind.u64.wrap (a1 * a2)) a2)) == a1) = true := beq_iff_eq.mpr c13
         have c13b1 : ((IntKind.u64.wrap (Int.tdiv (IntKind.u64.wrap (a1 * a2)) a2)) != a1) = false := bne_eq_false_iff_eq.mpr c13
         clear c13
         simp only [Option.some.injEq, Prod.mk.injEq] at H
         obtain ⟨rfl, rfl⟩ := H
         go_wp2
         go_ret2
         exact ⟨by first | rfl | (simp; done) | (simp [*]; done), by repeat (first | exact Drawn0.refl _ | apply Drawn0.step)⟩
        ·rw [if_neg c13] at H
         have c13b0 : ((IntKind.u64.wrap (Int.tdiv (IntKind.u64.wrap (a1 * a2)) a2)) == a1) = false := beq_eq_false_iff_ne.mpr c13
         have c13b1 : ((IntKind.u64.wrap (Int.tdiv (IntKind.u64.wrap (a1 * a2)) a2)) != a1) = true := bne_iff_ne.mpr c13
         simp only [Option.some.injEq, Prod.mk.injEq] at H
         obtain ⟨rfl, rfl⟩ := H
         go_wp2
         go_ret2
         exact ⟨by first | rfl | (simp; done) | (simp [*]; done), by repeat (first | exact Drawn0.refl _ | apply Drawn0.step)⟩
   ·rw [if_neg c8] at H
    have c8b0 : (a0 == 3) = false := beq_eq_false_iff_ne.mpr c8
    have c8b1 : (a0 != 3) = true := bne_iff_ne.mpr c8
    by_cases c14 : a2 = 0
    ·rw [if_pos c14] at H
     have c14b0 : (a2 == 0) = true := beq_iff_eq.mpr c14
     have c14b1 : (a2 != 0) = false := bne_eq_false_iff_eq.mpr c14
     clear c14
     simp only [Option.some.injEq, Prod.mk.injEq] at H
     obtain ⟨rfl, rfl⟩ := H
     go_enter Try.func63, Try.ntmps63
     go_wp2
     go_ret2
     exact ⟨by first | rfl | (simp; done) | (simp [*]; done), by repeat (first | exact Drawn0.refl _ | apply Drawn0.step)⟩
    ·rw [if_neg c14] at H
     have c14b0 : (a2 == 0) = false := beq_eq_false_iff_ne.mpr c14
     have c14b1 : (a2 != 0) = true := bne_iff_ne.mpr c14
     by_cases c15 : a0 = 4
     ·rw [if_pos c15] at H
      have c15b0 : (a0 == 4) = true := beq_iff_eq.mpr c15
      have c15b1 : (a0 != 4) = false := bne_eq_false_iff_eq.mpr c15
      clear c15
      simp only [Option.some.injEq, Prod.mk.injEq] at H
      obtain ⟨rfl, rfl⟩ := H
      go_enter Try.func63, Try.ntmps63
      go_wp2
      go_ret2
      exact ⟨by first | rfl | (simp; done) | (simp [*]; done), by repeat (first | exact Drawn0.refl _ | apply Drawn0.step)⟩
     ·rw [if_neg c15] at H
      have c15b0 : (a0 == 4) = false := beq_eq_false_iff_ne.mpr c15
      have c15b1 : (a0 != 4) = true := bne_iff_ne.mpr c15
      simp only [Option.some.injEq, Prod.mk.injEq] at H
      obtain ⟨rfl, rfl⟩ := H
      go_enter Try.func63, Try.ntmps63
      go_wp2
      go_ret2
      exact ⟨by first | rfl | (simp; done) | (simp [*]; done), by repeat (first | exact Drawn0.refl _ | apply Drawn0.step)⟩

end Go.Proofs.Ytlmmkaddlflepaa.PReck
