-- by mkprint.py, a program of this session's own
import Derived.Test.YtlmmkaddlflepaaPOrd0
import Derived.Test.YtlmmkaddlflepaaPOrd2
import Derived.Test.YtlmmkaddlflepaaPOrd3
import Derived.Test.YtlmmkaddlflepaaPOrd4
import Derived.Test.YtlmmkaddlflepaaPOrd6
import Derived.Test.YtlmmkaddlflepaaPOrd7
import Derived.Test.YtlmmkaddlflepaaPOrd8
namespace Go.Proofs.Ytlmmkaddlflepaa.POrd
open Go.RowKit Go.Proofs.YtlmmkaddlflepaaW.PrintWords Go.Proofs.YtlmmkaddlflepaaW.PrintLast Go.Proofs.YtlmmkaddlflepaaW.PrintMore
attribute [local go_sem] max2_int min2_int max_two min_two max_three min_three max_four min_four   -- for this text's walks alone
set_option linter.unusedVariables false
set_option linter.unusedSimpArgs false

attribute [local go_sem] cell_isSome un_neg_float str_gtr str_leq str_geq ext34 ext52
/-! ### value_Reckon: function 30 -/
mutual
def value_Reckon.j0 : Nat → Int → Bool → Bool → Int → Int → ByteArray → Int → Int → ByteArray → Option (Int × Int × ByteArray × Int)
 | 0, _, _, _, _, _, _, _, _, _ => none
 | k + 1, x0, x8, x15, x226000, x226001, x226002, x227000, x227001, x227002 => if x15 = true then (some (0, 0, (⟨#[]⟩ : ByteArray), 8)) else (if x0 ≥ 9 then (if x0 ≤ 14 then (value_Reckon.j1 k x0 x8 x8 x226000 x226001 x226002 x227000 x227001 x227002) else (value_Reckon.j1 k x0 x8 false x226000 x226001 x226002 x227000 x227001 x227002)) else (value_Reckon.j1 k x0 x8 false x226000 x226001 x226002 x227000 x227001 x227002))
def value_Reckon.j1 : Nat → Int → Bool → Bool → Int → Int → ByteArray → Int → Int → ByteArray → Option (Int × Int × ByteArray × Int)
 | 0, _, _, _, _, _, _, _, _, _ => none
 | k + 1, x0, x8, x25, x226000, x226001, x226002, x227000, x227001, x227002 => if x25 = true then ((value_compared.f k x0 x226000 x226001 x226002 x227000 x227001 x227002).bind fun bt230 => (some (bt230.1, bt230.2.1, bt230.2.2, 0))) else (if x0 ≥ 6 then (if x0 ≤ 8 then (if x8 = true then ((value_row.f x226000).bind fun t233 => (if t233 = true then (value_Reckon.j2 k x0 x8 true x226000 x226001 x226002 x227000 x227001 x227002) else (value_Reckon.j2 k x0 x8 (x226000 == 1) x226000 x226001 x226002 x227000 x227001 x227002))) else (value_Reckon.j2 k x0 x8 false x226000 x226001 x226002 x227000 x227001 x227002)) else (value_Reckon.j2 k x0 x8 false x226000 x226001 x226002 x227000 x227001 x227002)) else (value_Reckon.j2 k x0 x8 false x226000 x226001 x226002 x227000 x227001 x227002))
def value_Reckon.j2 : Nat → Int → Bool → Bool → Int → Int → ByteArray → Int → Int → ByteArray → Option (Int × Int × ByteArray × Int)
 | 0, _, _, _, _, _, _, _, _, _ => none
 | k + 1, x0, x8, x39, x226000, x226001, x226002, x227000, x227001, x227002 => if x39 = true then (if x0 = 6 then (some (x226000, Go.bits .and .u64 x226001 x227001, (⟨#[]⟩ : ByteArray), 0)) else (if x0 = 7 then (some (x226000, Go.bits .or .u64 x226001 x227001, (⟨#[]⟩ : ByteArray), 0)) else (some (x226000, Go.bits .xor .u64 x226001 x227001, (⟨#[]⟩ : ByteArray), 0)))) else (if x0 < 1 then (value_Reckon.j3 k x0 x8 true x226000 x226001 x226002 x227000 x227001 x227002) else (value_Reckon.j3 k x0 x8 (decide (x0 > 5)) x226000 x226001 x226002 x227000 x227001 x227002))
def value_Reckon.j3 : Nat → Int → Bool → Bool → Int → Int → ByteArray → Int → Int → ByteArray → Option (Int × Int × ByteArray × Int)
 | 0, _, _, _, _, _, _, _, _, _ => none
 | k + 1, x0, x8, x86, x226000, x226001, x226002, x227000, x227001, x227002 => if x86 = true then (some (0, 0, (⟨#[]⟩ : ByteArray), 8)) else (if x8 = true then ((value_whole.f x226000).bind fun t235 => (value_Reckon.j4 k x0 x8 t235 x226000 x226001 x226002 x227000 x227001 x227002)) else (value_Reckon.j4 k x0 x8 false x226000 x226001 x226002 x227000 x227001 x227002))
def value_Reckon.j4 : Nat → Int → Bool → Bool → Int → Int → ByteArray → Int → Int → ByteArray → Option (Int × Int × ByteArray × Int)
 | 0, _, _, _, _, _, _, _, _, _ => none
 | k + 1, x0, x8, x94, x226000, x226001, x226002, x227000, x227001, x227002 => if x94 = true then ((value_integers.f k x0 x226000 x226001 x226002 x227000 x227001 x227002).bind fun bt236 => (some (bt236.1, bt236.2.1, bt236.2.2.1, bt236.2.2.2))) else (if x8 = true then (value_Reckon.j5 k x0 (x226000 == 18) x226000 x226001 x226002 x227000 x227001 x227002) else (value_Reckon.j5 k x0 false x226000 x226001 x226002 x227000 x227001 x227002))
def value_Reckon.j5 : Nat → Int → Bool → Int → Int → ByteArray → Int → Int → ByteArray → Option (Int × Int × ByteArray × Int)
 | 0, _, _, _, _, _, _, _, _ => none
 | k + 1, x0, x107, x226000, x226001, x226002, x227000, x227001, x227002 => if x107 = true then ((value_floats.f x0 ((x226001).toNat) ((x227001).toNat)).bind fun bt240 => (some (bt240.1, bt240.2.1, bt240.2.2.1, bt240.2.2.2))) else ((value_timed.f x226000).bind fun t244 => (if t244 = true then ((value_spans.f k x0 x226000 x226001 x226002 x227000 x227001 x227002).bind fun bt245 => (some (bt245.1, bt245.2.1, bt245.2.2.1, bt245.2.2.2))) else (some (0, 0, (⟨#[]⟩ : ByteArray), 8))))
end
def value_Reckon.f (k : Nat) (a0 : Int) (a1_0 : Int) (a1_1 : Int) (a1_2 : ByteArray) (a2_0 : Int) (a2_1 : Int) (a2_2 : ByteArray) : Option (Int × Int × ByteArray × Int) := (value_May.f k a1_0 a1_1 a1_2).bind fun t228 => (if t228 = true then ((value_May.f k a2_0 a2_1 a2_2).bind fun t229 => (value_Reckon.j0 k a0 (a1_0 == a2_0) (!t229) a1_0 a1_1 a1_2 a2_0 a2_1 a2_2)) else (value_Reckon.j0 k a0 (a1_0 == a2_0) true a1_0 a1_1 a1_2 a2_0 a2_1 a2_2))
theorem value_Reckon.mono_l : ∀ k, (∀ y0 y1 y2 y3 y4 y5 y6 y7 y8, LeO (value_Reckon.j0 k y0 y1 y2 y3 y4 y5 y6 y7 y8) (value_Reckon.j0 (k + 1) y0 y1 y2 y3 y4 y5 y6 y7 y8)) ∧ (∀ y0 y1 y2 y3 y4 y5 y6 y7 y8, LeO (value_Reckon.j1 k y0 y1 y2 y3 y4 y5 y6 y7 y8) (value_Reckon.j1 (k + 1) y0 y1 y2 y3 y4 y5 y6 y7 y8)) ∧ (∀ y0 y1 y2 y3 y4 y5 y6 y7 y8, LeO (value_Reckon.j2 k y0 y1 y2 y3 y4 y5 y6 y7 y8) (value_Reckon.j2 (k + 1) y0 y1 y2 y3 y4 y5 y6 y7 y8)) ∧ (∀ y0 y1 y2 y3 y4 y5 y6 y7 y8, LeO (value_Reckon.j3 k y0 y1 y2 y3 y4 y5 y6 y7 y8) (value_Reckon.j3 (k + 1) y0 y1 y2 y3 y4 y5 y6 y7 y8)) ∧ (∀ y0 y1 y2 y3 y4 y5 y6 y7 y8, LeO (value_Reckon.j4 k y0 y1 y2 y3 y4 y5 y6 y7 y8) (value_Reckon.j4 (k + 1) y0 y1 y2 y3 y4 y5 y6 y7 y8)) ∧ (∀ y0 y1 y2 y3 y4 y5 y6 y7, LeO (value_Reckon.j5 k y0 y1 y2 y3 y4 y5 y6 y7) (value_Reckon.j5 (k + 1) y0 y1 y2 y3 y4 y5 y6 y7))
 | 0 => ⟨fun _ _ _ _ _ _ _ _ _ r h => by simp [value_Reckon.j0] at h, fun _ _ _ _ _ _ _ _ _ r h => by simp [value_Reckon.j1] at h, fun _ _ _ _ _ _ _ _ _ r h => by simp [value_Reckon.j2] at h, fun _ _ _ _ _ _ _ _ _ r h => by simp [value_Reckon.j3] at h, fun _ _ _ _ _ _ _ _ _ r h => by simp [value_Reckon.j4] at h, fun _ _ _ _ _ _ _ _ r h => by simp [value_Reckon.j5] at h⟩
 | k + 1 => by
  obtain ⟨ih0, ih1, ih2, ih3, ih4, ih5⟩ := value_Reckon.mono_l k
  refine ⟨?_, ?_, ?_, ?_, ?_, ?_⟩
  ·intro y0 y1 y2 y3 y4 y5 y6 y7 y8
   unfold value_Reckon.j0
   repeat' first
   | (with_reducible exact ih0 _ _ _ _ _ _ _ _ _)
   | (with_reducible exact ih1 _ _ _ _ _ _ _ _ _)
   | (with_reducible exact ih2 _ _ _ _ _ _ _ _ _)
   | (with_reducible exact ih3 _ _ _ _ _ _ _ _ _)
   | (with_reducible exact ih4 _ _ _ _ _ _ _ _ _)
   | (with_reducible exact ih5 _ _ _ _ _ _ _ _)
   | (with_reducible exact value_May.mono _ _ _ _)
   | (with_reducible exact value_compared.mono _ _ _ _ _ _ _ _)
   | (with_reducible exact value_integers.mono _ _ _ _ _ _ _ _)
   | (with_reducible exact value_spans.mono _ _ _ _ _ _ _ _)
   | (with_reducible exact LeO.refl _)
   | (with_reducible exact LeO.none _)
   | (with_reducible refine LeO.ite ?_ ?_)
   | (with_reducible refine LeO.bind ?_ (fun _ => ?_))
   | exact ih0 _ _ _ _ _ _ _ _ _
   | exact ih1 _ _ _ _ _ _ _ _ _
   | exact ih2 _ _ _ _ _ _ _ _ _
   | exact ih3 _ _ _ _ _ _ _ _ _
   | exact ih4 _ _ _ _ _ _ _ _ _
   | exact ih5 _ _ _ _ _ _ _ _
   | exact value_May.mono _ _ _ _
   | exact value_compared.mono _ _ _ _ _ _ _ _
   | exact value_integers.mono _ _ _ _ _ _ _ _
   | exact value_spans.mono _ _ _ _ _ _ _ _
   | exact LeO.none _
   | refine LeO.ite ?_ ?_
   | refine LeO.bind ?_ (fun _ => ?_)
  ·intro y0 y1 y2 y3 y4 y5 y6 y7 y8
   unfold value_Reckon.j1
   repeat' first
   | (with_reducible exact ih0 _ _ _ _ _ _ _ _ _)
   | (with_reducible exact ih1 _ _ _ _ _ _ _ _ _)
   | (with_reducible exact ih2 _ _ _ _ _ _ _ _ _)
   | (with_reducible exact ih3 _ _ _ _ _ _ _ _ _)
   | (with_reducible exact ih4 _ _ _ _ _ _ _ _ _)
   | (with_reducible exact ih5 _ _ _ _ _ _ _ _)
   | (with_reducible exact value_May.mono _ _ _ _)
   | (with_reducible exact value_compared.mono _ _ _ _ _ _ _ _)
   | (with_reducible exact value_integers.mono _ _ _ _ _ _ _ _)
   | (with_reducible exact value_spans.mono _ _ _ _ _ _ _ _)
   | (with_reducible exact LeO.refl _)
   | (with_reducible exact LeO.none _)
   | (with_reducible refine LeO.ite ?_ ?_)
   | (with_reducible refine LeO.bind ?_ (fun _ => ?_))
   | exact ih0 _ _ _ _ _ _ _ _ _
   | exact ih1 _ _ _ _ _ _ _ _ _
   | exact ih2 _ _ _ _ _ _ _ _ _
   | exact ih3 _ _ _ _ _ _ _ _ _
   | exact ih4 _ _ _ _ _ _ _ _ _
   | exact ih5 _ _ _ _ _ _ _ _
   | exact value_May.mono _ _ _ _
   | exact value_compared.mono _ _ _ _ _ _ _ _
   | exact value_integers.mono _ _ _ _ _ _ _ _
   | exact value_spans.mono _ _ _ _ _ _ _ _
   | exact LeO.none _
   | refine LeO.ite ?_ ?_
   | refine LeO.bind ?_ (fun _ => ?_)
  ·intro y0 y1 y2 y3 y4 y5 y6 y7 y8
   unfold value_Reckon.j2
   repeat' first
   | (with_reducible exact ih0 _ _ _ _ _ _ _ _ _)
   | (with_reducible exact ih1 _ _ _ _ _ _ _ _ _)
   | (with_reducible exact ih2 _ _ _ _ _ _ _ _ _)
   | (with_reducible exact ih3 _ _ _ _ _ _ _ _ _)
   | (with_reducible exact ih4 _ _ _ _ _ _ _ _ _)
   | (with_reducible exact ih5 _ _ _ _ _ _ _ _)
   | (with_reducible exact value_May.mono _ _ _ _)
   | (with_reducible exact value_compared.mono _ _ _ _ _ _ _ _)
   | (with_reducible exact value_integers.mono _ _ _ _ _ _ _ _)
   | (with_reducible exact value_spans.mono _ _ _ _ _ _ _ _)
   | (with_reducible exact LeO.refl _)
   | (with_reducible exact LeO.none _)
   | (with_reducible refine LeO.ite ?_ ?_)
   | (with_reducible refine LeO.bind ?_ (fun _ => ?_))
   | exact ih0 _ _ _ _ _ _ _ _ _
   | exact ih1 _ _ _ _ _ _ _ _ _
   | exact ih2 _ _ _ _ _ _ _ _ _
   | exact ih3 _ _ _ _ _ _ _ _ _
   | exact ih4 _ _ _ _ _ _ _ _ _
   | exact ih5 _ _ _ _ _ _ _ _
   | exact value_May.mono _ _ _ _
   | exact value_compared.mono _ _ _ _ _ _ _ _
   | exact value_integers.mono _ _ _ _ _ _ _ _
   | exact value_spans.mono _ _ _ _ _ _ _ _
   | exact LeO.none _
   | refine LeO.ite ?_ ?_
   | refine LeO.bind ?_ (fun _ => ?_)
  ·intro y0 y1 y2 y3 y4 y5 y6 y7 y8
   unfold value_Reckon.j3
   repeat' first
   | (with_reducible exact ih0 _ _ _ _ _ _ _ _ _)
   | (with_reducible exact ih1 _ _ _ _ _ _ _ _ _)
   | (with_reducible exact ih2 _ _ _ _ _ _ _ _ _)
   | (with_reducible exact ih3 _ _ _ _ _ _ _ _ _)
   | (with_reducible exact ih4 _ _ _ _ _ _ _ _ _)
   | (with_reducible exact ih5 _ _ _ _ _ _ _ _)
   | (with_reducible exact value_May.mono _ _ _ _)
   | (with_reducible exact value_compared.mono _ _ _ _ _ _ _ _)
   | (with_reducible exact value_integers.mono _ _ _ _ _ _ _ _)
   | (with_reducible exact value_spans.mono _ _ _ _ _ _ _ _)
   | (with_reducible exact LeO.refl _)
   | (with_reducible exact LeO.none _)
   | (with_reducible refine LeO.ite ?_ ?_)
   | (with_reducible refine LeO.bind ?_ (fun _ => ?_))
   | exact ih0 _ _ _ _ _ _ _ _ _
   | exact ih1 _ _ _ _ _ _ _ _ _
   | exact ih2 _ _ _ _ _ _ _ _ _
   | exact ih3 _ _ _ _ _ _ _ _ _
   | exact ih4 _ _ _ _ _ _ _ _ _
   | exact ih5 _ _ _ _ _ _ _ _
   | exact value_May.mono _ _ _ _
   | exact value_compared.mono _ _ _ _ _ _ _ _
   | exact value_integers.mono _ _ _ _ _ _ _ _
   | exact value_spans.mono _ _ _ _ _ _ _ _
   | exact LeO.none _
   | refine LeO.ite ?_ ?_
   | refine LeO.bind ?_ (fun _ => ?_)
  ·intro y0 y1 y2 y3 y4 y5 y6 y7 y8
   unfold value_Reckon.j4
   repeat' first
   | (with_reducible exact ih0 _ _ _ _ _ _ _ _ _)
   | (with_reducible exact ih1 _ _ _ _ _ _ _ _ _)
   | (with_reducible exact ih2 _ _ _ _ _ _ _ _ _)
   | (with_reducible exact ih3 _ _ _ _ _ _ _ _ _)
   | (with_reducible exact ih4 _ _ _ _ _ _ _ _ _)
   | (with_reducible exact ih5 _ _ _ _ _ _ _ _)
   | (with_reducible exact value_May.mono _ _ _ _)
   | (with_reducible exact value_compared.mono _ _ _ _ _ _ _ _)
   | (with_reducible exact value_integers.mono _ _ _ _ _ _ _ _)
   | (with_reducible exact value_spans.mono _ _ _ _ _ _ _ _)
   | (with_reducible exact LeO.refl _)
   | (with_reducible exact LeO.none _)
   | (with_reducible refine LeO.ite ?_ ?_)
   | (with_reducible refine LeO.bind ?_ (fun _ => ?_))
   | exact ih0 _ _ _ _ _ _ _ _ _
   | exact ih1 _ _ _ _ _ _ _ _ _
   | exact ih2 _ _ _ _ _ _ _ _ _
   | exact ih3 _ _ _ _ _ _ _ _ _
   | exact ih4 _ _ _ _ _ _ _ _ _
   | exact ih5 _ _ _ _ _ _ _ _
   | exact value_May.mono _ _ _ _
   | exact value_compared.mono _ _ _ _ _ _ _ _
   | exact value_integers.mono _ _ _ _ _ _ _ _
   | exact value_spans.mono _ _ _ _ _ _ _ _
   | exact LeO.none _
   | refine LeO.ite ?_ ?_
   | refine LeO.bind ?_ (fun _ => ?_)
  ·intro y0 y1 y2 y3 y4 y5 y6 y7
   unfold value_Reckon.j5
   repeat' first
   | (with_reducible exact ih0 _ _ _ _ _ _ _ _ _)
   | (with_reducible exact ih1 _ _ _ _ _ _ _ _ _)
   | (with_reducible exact ih2 _ _ _ _ _ _ _ _ _)
   | (with_reducible exact ih3 _ _ _ _ _ _ _ _ _)
   | (with_reducible exact ih4 _ _ _ _ _ _ _ _ _)
   | (with_reducible exact ih5 _ _ _ _ _ _ _ _)
   | (with_reducible exact value_May.mono _ _ _ _)
   | (with_reducible exact value_compared.mono _ _ _ _ _ _ _ _)
   | (with_reducible exact value_integers.mono _ _ _ _ _ _ _ _)
   | (with_reducible exact value_spans.mono _ _ _ _ _ _ _ _)
   | (with_reducible exact LeO.refl _)
   | (with_reducible exact LeO.none _)
   | (with_reducible refine LeO.ite ?_ ?_)
   | (with_reducible refine LeO.bind ?_ (fun _ => ?_))
   | exact ih0 _ _ _ _ _ _ _ _ _
   | exact ih1 _ _ _ _ _ _ _ _ _
   | exact ih2 _ _ _ _ _ _ _ _ _
   | exact ih3 _ _ _ _ _ _ _ _ _
   | exact ih4 _ _ _ _ _ _ _ _ _
   | exact ih5 _ _ _ _ _ _ _ _
   | exact value_May.mono _ _ _ _
   | exact value_compared.mono _ _ _ _ _ _ _ _
   | exact value_integers.mono _ _ _ _ _ _ _ _
   | exact value_spans.mono _ _ _ _ _ _ _ _
   | exact LeO.none _
   | refine LeO.ite ?_ ?_
   | refine LeO.bind ?_ (fun _ => ?_)
theorem value_Reckon.mono : ∀ a0 a1 a2 a3 a4 a5 a6 k, LeO (value_Reckon.f k a0 a1 a2 a3 a4 a5 a6) (value_Reckon.f (k + 1) a0 a1 a2 a3 a4 a5 a6) := by
 intro a0 a1 a2 a3 a4 a5 a6 k
 obtain ⟨ih0, ih1, ih2, ih3, ih4, ih5⟩ := value_Reckon.mono_l k
 unfold value_Reckon.f
 repeat' first
   | (with_reducible exact ih0 _ _ _ _ _ _ _ _ _)
   | (with_reducible exact ih1 _ _ _ _ _ _ _ _ _)
   | (with_reducible exact ih2 _ _ _ _ _ _ _ _ _)
   | (with_reducible exact ih3 _ _ _ _ _ _ _ _ _)
   | (with_reducible exact ih4 _ _ _ _ _ _ _ _ _)
   | (with_reducible exact ih5 _ _ _ _ _ _ _ _)
   | (with_reducible exact value_May.mono _ _ _ _)
   | (with_reducible exact value_compared.mono _ _ _ _ _ _ _ _)
   | (with_reducible exact value_integers.mono _ _ _ _ _ _ _ _)
   | (with_reducible exact value_spans.mono _ _ _ _ _ _ _ _)
   | (with_reducible exact LeO.refl _)
   | (with_reducible exact LeO.none _)
   | (with_reducible refine LeO.ite ?_ ?_)
   | (with_reducible refine LeO.bind ?_ (fun _ => ?_))
   | exact ih0 _ _ _ _ _ _ _ _ _
   | exact ih1 _ _ _ _ _ _ _ _ _
   | exact ih2 _ _ _ _ _ _ _ _ _
   | exact ih3 _ _ _ _ _ _ _ _ _
   | exact ih4 _ _ _ _ _ _ _ _ _
   | exact ih5 _ _ _ _ _ _ _ _
   | exact value_May.mono _ _ _ _
   | exact value_compared.mono _ _ _ _ _ _ _ _
   | exact value_integers.mono _ _ _ _ _ _ _ _
   | exact value_spans.mono _ _ _ _ _ _ _ _
   | exact LeO.none _
   | refine LeO.ite ?_ ?_
   | refine LeO.bind ?_ (fun _ => ?_)
def value_Reckon.T20 : Bool × List (List Nat × List Nat) := (true, [([], []), ([], []), ([1], [1]), ([2], [2]), ([], []), ([4], [4]), ([5, 3], [5]), ([0, 3, 6, 6], [0, 3, 6]), ([7], [7]), ([7], [7]), ([8, 7, 0, 1, 2, 3, 4, 5, 6, 7, 8, 9], [8]), ([9, 10, 0, 1, 2, 3, 4, 5, 6, 7, 8, 9, 10], [9])])
def value_Reckon.B20 : List Nat := [0, 0, 2, 6, 0, 16, 62, 127, 255, 255, 1023, 2047]
theorem value_Reckon.tab20 : rtab .any (opsOf Try.f30 20) = value_Reckon.T20 := by kernel_rfl
theorem value_Reckon.bits20 : waitsOk value_Reckon.T20.2 value_Reckon.B20 = true := by kernel_rfl
set_option maxHeartbeats 8000000 in
set_option maxRecDepth 100000 in
theorem value_Reckon.calls (k : Nat) (a0 : Int) (a1_0 : Int) (a1_1 : Int) (a1_2 : ByteArray) (a2_0 : Int) (a2_1 : Int) (a2_2 : ByteArray) (r1 : Int) (r2 : Int) (r3 : ByteArray) (r4 : Int) (w : World) (h : value_Reckon.f k a0 a1_0 a1_1 a1_2 a2_0 a2_1 a2_2 = some (r1, r2, r3, r4)) :
  Calls Try.prog 30 #[.int .i64 a0, .agg #[.int .u8 a1_0, .int .u64 a1_1, .string a1_2], .agg #[.int .u8 a2_0, .int .u64 a2_1, .string a2_2]] w fun e w' => e = .returned (.tuple #[.agg #[.int .u8 r1, .int .u64 r2, .string r3], .int .i64 r4]) ∧ Below w.heap.size w w' := by
 have hu27 := Try.underlying27
 have HB := Aside0.mk (Below.refl w.heap.size w)
 have H : ((value_May.f k a1_0 a1_1 a1_2).bind fun t228 => (if t228 = true then ((value_May.f k a2_0 a2_1 a2_2).bind fun t229 => (value_Reckon.j0 k a0 (a1_0 == a2_0) (!t229) a1_0 a1_1 a1_2 a2_0 a2_1 a2_2)) else (value_Reckon.j0 k a0 (a1_0 == a2_0) true a1_0 a1_1 a1_2 a2_0 a2_1 a2_2))) = some (r1, r2, r3, r4) := h
 clear h
 have HC4 := Aside0.mk H
 clear H
 go_enter Try.func30, Try.ntmps30
 go_upto_region 2 with (first | ((with_reducible refine gate_dst (N := 4) rfl ?_); refine box_event ?hg (N := 4) ?hd (cs := #[.int .u8 a1_0, .int .u64 a1_1, .string a1_2]) (t := 27) ?hr ?_; (case hd => rfl); (case hg => rfl); (case hr => first | (go_simp; done) | (go_simp; rfl)); intro gb225 hg w5 hbox hb; have n0_ := bt HB hb; have n1_ := Aside0.mk (hbox); have n2_ := gs hg HB; have n3_ := gs hg HB; clear HB; have HB := n0_; have BK225 := n1_; have GW225 := n2_; have GE225 := n3_; clear n0_ n1_ n2_ n3_; clear hb hbox hg) | ((with_reducible refine gate_dst (N := 5) rfl ?_); refine box_event ?hg (N := 5) ?hd (cs := #[.int .u8 a2_0, .int .u64 a2_1, .string a2_2]) (t := 27) ?hr ?_; (case hd => rfl); (case hg => rfl); (case hr => first | (go_simp; done) | (go_simp; rfl)); intro gb226 hg w6 hbox hb; have n0_ := kb BK225 hb; have n1_ := bt HB hb; have n2_ := Aside0.mk (hbox); have n3_ := gs hg HB; have n4_ := gs hg HB; have n5_ := nl hg BK225; have n6_ := ng hg BK225; clear BK225; clear HB; have BK225 := n0_; have HB := n1_; have BK226 := n2_; have GW226 := n3_; have GE226 := n4_; have NB225_226 := n5_; have NB226_225 := n6_; clear n0_ n1_ n2_ n3_ n4_ n5_ n6_; clear hb hbox hg) | ((with_reducible refine gate_dst (N := 6) rfl ?_); refine box_event ?hg (N := 6) ?hd (cs := #[.int .u8 0, .int .u64 0, .string (⟨#[]⟩ : ByteArray)]) (t := 27) ?hr ?_; (case hd => rfl); (case hg => rfl); (case hr => first | (go_simp; done) | (go_simp; rfl)); intro gb227 hg w7 hbox hb; have n0_ := kb BK225 hb; have n1_ := kb BK226 hb; have n2_ := bt HB hb; have n3_ := Aside0.mk (hbox); have n4_ := gs hg HB; have n5_ := gs hg HB; have n6_ := nl hg BK225; have n7_ := ng hg BK225; have n8_ := nl hg BK226; have n9_ := ng hg BK226; clear BK225; clear BK226; clear HB; have BK225 := n0_; have BK226 := n1_; have HB := n2_; have BK227 := n3_; have GW227 := n4_; have GE227 := n5_; have NB225_227 := n6_; have NB227_225 := n7_; have NB226_227 := n8_; have NB227_226 := n9_; clear n0_ n1_ n2_ n3_ n4_ n5_ n6_ n7_ n8_ n9_; clear hb hbox hg; have hnb8 := NB225_226.out; have hnc8 := NB226_225.out; have hnb9 := NB225_227.out; have hnc9 := NB227_225.out; have hcz10_0 : w7.cell? ⟨gb225, 0, none⟩ = some (.int .u8 a1_0) := bc BK225 0; have hcz10_1 : w7.cell? ⟨gb225, 1, none⟩ = some (.int .u64 a1_1) := bc BK225 1; have hcz10_2 : w7.cell? ⟨gb225, 2, none⟩ = some (.string a1_2) := bc BK225 2; have hfz10_0 := blk_frozen BK225.out 0; have hfz10_1 := blk_frozen BK225.out 1; have hfz10_2 := blk_frozen BK225.out 2; have hnb11 := NB226_227.out; have hnc11 := NB227_226.out; have hcz12_0 : w7.cell? ⟨gb226, 0, none⟩ = some (.int .u8 a2_0) := bc BK226 0; have hcz12_1 : w7.cell? ⟨gb226, 1, none⟩ = some (.int .u64 a2_1) := bc BK226 1; have hcz12_2 : w7.cell? ⟨gb226, 2, none⟩ = some (.string a2_2) := bc BK226 2; have hfz12_0 := blk_frozen BK226.out 0; have hfz12_1 := blk_frozen BK226.out 1; have hfz12_2 := blk_frozen BK226.out 2))
 (try simp only [Act.put, List.setIfInBounds_toArray, List.set_cons_zero, List.set_cons_succ])
 go_cut [15] (fun v15 wc => ∃ (kq : Nat) (x15_3 : Bool), v15 = .bool x15_3 ∧ Aside0 (value_Reckon.j0 kq a0 (a1_0 == a2_0) x15_3 a1_0 a1_1 a1_2 a2_0 a2_1 a2_2 = some (r1, r2, r3, r4)) ∧ Aside0 (kq ≤ k) ∧ Aside0 (wc.heap[gb225]? = some (.cells #[.int .u8 a1_0, .int .u64 a1_1, .string a1_2] 27 (0, 0))) ∧ Aside0 (wc.heap[gb226]? = some (.cells #[.int .u8 a2_0, .int .u64 a2_1, .string a2_2] 27 (0, 0))) ∧ Aside0 (wc.heap[gb227]? = some (.cells #[.int .u8 0, .int .u64 0, .string (⟨#[]⟩ : ByteArray)] 27 (0, 0))) ∧ Aside0 (Below w.heap.size w wc))
 case first =>
  have H := HC4.out
  clear HC4
  replace H := Option.bind_eq_some_iff.mp H
  obtain ⟨t228, A130, H⟩ := H
  replace H : (if t228 = true then ((value_May.f k a2_0 a2_1 a2_2).bind fun t229 => (value_Reckon.j0 k a0 (a1_0 == a2_0) (!t229) a1_0 a1_1 a1_2 a2_0 a2_1 a2_2)) else (value_Reckon.j0 k a0 (a1_0 == a2_0) true a1_0 a1_1 a1_2 a2_0 a2_1 a2_2)) = some (r1, r2, r3, r4) := H
  have A13 := Aside0.mk A130
  clear A130
  by_cases c14 : t228 = true
  ·subst c14
   have H1 : ((value_May.f k a2_0 a2_1 a2_2).bind fun t229 => (value_Reckon.j0 k a0 (a1_0 == a2_0) (!t229) a1_0 a1_1 a1_2 a2_0 a2_1 a2_2)) = some (r1, r2, r3, r4) := by rw [if_pos rfl] at H; exact H
   clear H
   have H := H1
   clear H1
   replace H := Option.bind_eq_some_iff.mp H
   obtain ⟨t229, A150, H⟩ := H
   replace H : (value_Reckon.j0 k a0 (a1_0 == a2_0) (!t229) a1_0 a1_1 a1_2 a2_0 a2_1 a2_2) = some (r1, r2, r3, r4) := H
   have A15 := Aside0.mk A150
   clear A150
   have H' := Aside0.mk H
   clear H
   have hnb16 := NB225_226.out
   have hnc16 := NB226_225.out
   have hnb17 := NB225_227.out
   have hnc17 := NB227_225.out
   have hcz18_0 : w7.cell? ⟨gb225, 0, none⟩ = some (.int .u8 a1_0) := bc BK225 0
   have hcz18_1 : w7.cell? ⟨gb225, 1, none⟩ = some (.int .u64 a1_1) := bc BK225 1
   have hcz18_2 : w7.cell? ⟨gb225, 2, none⟩ = some (.string a1_2) := bc BK225 2
   have hfz18_0 := blk_frozen BK225.out 0
   have hfz18_1 := blk_frozen BK225.out 1
   have hfz18_2 := blk_frozen BK225.out 2
   go_wp2_with (first | ((with_reducible refine gate_callee (f := 9) rfl ?_); refine goesL_ (some 17) rfl rfl Try.func9 (by kernel_rfl) rfl #[.agg #[.int .u8 a1_0, .int .u64 a1_1, .string a1_2]] rfl (by (try simp only [List.map_toArray, List.map_cons, List.map_nil]); first | done | rfl | (simp only [List.length_drop, List.length_take]; rfl)) ?_; (with_reducible refine (value_May.calls k a1_0 a1_1 a1_2 true _ A13.out).mono ?_); rintro e w19 ⟨rfl, hb⟩; refine ⟨_, rfl, ?_⟩; have n0_ := kb BK225 hb; have n1_ := kb BK226 hb; have n2_ := kb BK227 hb; have n3_ := bt HB hb; clear BK225; clear BK226; clear BK227; clear HB; have BK225 := n0_; have BK226 := n1_; have BK227 := n2_; have HB := n3_; clear n0_ n1_ n2_ n3_; (try clear hb); (try clear hb2); (try clear hk); (try clear hi); have hnb20 := NB226_227.out; have hnc20 := NB227_226.out; have hcz21_0 : w19.cell? ⟨gb226, 0, none⟩ = some (.int .u8 a2_0) := bc BK226 0; have hcz21_1 : w19.cell? ⟨gb226, 1, none⟩ = some (.int .u64 a2_1) := bc BK226 1; have hcz21_2 : w19.cell? ⟨gb226, 2, none⟩ = some (.string a2_2) := bc BK226 2; have hfz21_0 := blk_frozen BK226.out 0; have hfz21_1 := blk_frozen BK226.out 1; have hfz21_2 := blk_frozen BK226.out 2) | (go_at_call 9; (with_reducible refine (value_May.calls k a2_0 a2_1 a2_2 t229 _ A15.out).mono ?_); rintro e w22 ⟨rfl, hb⟩; have n0_ := kb BK225 hb; have n1_ := kb BK226 hb; have n2_ := kb BK227 hb; have n3_ := bt HB hb; clear BK225; clear BK226; clear BK227; clear HB; have BK225 := n0_; have BK226 := n1_; have BK227 := n2_; have HB := n3_; clear n0_ n1_ n2_ n3_; (try clear hb); (try clear hb2); (try clear hk); (try clear hi)))
   go_meet
   case rel => exact ⟨_, (!t229), (by first | rfl | (simp; done) | (simp [*]; done)), H', ⟨by first | omega | exact Nat.le_refl _⟩, ⟨by (with_reducible repeat (first | refine blk_drewN ?_ _ | refine blk_drew ?_ | refine blk_alloc ?_ _)); exact BK225.out⟩, ⟨by (with_reducible repeat (first | refine blk_drewN ?_ _ | refine blk_drew ?_ | refine blk_alloc ?_ _)); exact BK226.out⟩, ⟨by (with_reducible repeat (first | refine blk_drewN ?_ _ | refine blk_drew ?_ | refine blk_alloc ?_ _)); exact BK227.out⟩, ⟨bs HB⟩⟩
  ·replace c14 := Bool.eq_false_iff.mpr c14
   subst c14
   have H1 : (value_Reckon.j0 k a0 (a1_0 == a2_0) true a1_0 a1_1 a1_2 a2_0 a2_1 a2_2) = some (r1, r2, r3, r4) := by rw [if_neg (show ¬ (false = true) by decide)] at H; exact H
   clear H
   have H := H1
   clear H1
   have H' := Aside0.mk H
   clear H
   have hnb23 := NB225_226.out
   have hnc23 := NB226_225.out
   have hnb24 := NB225_227.out
   have hnc24 := NB227_225.out
   have hcz25_0 : w7.cell? ⟨gb225, 0, none⟩ = some (.int .u8 a1_0) := bc BK225 0
   have hcz25_1 : w7.cell? ⟨gb225, 1, none⟩ = some (.int .u64 a1_1) := bc BK225 1
   have hcz25_2 : w7.cell? ⟨gb225, 2, none⟩ = some (.string a1_2) := bc BK225 2
   have hfz25_0 := blk_frozen BK225.out 0
   have hfz25_1 := blk_frozen BK225.out 1
   have hfz25_2 := blk_frozen BK225.out 2
   go_wp2_with (first | ((with_reducible refine gate_callee (f := 9) rfl ?_); refine goesL_ (some 17) rfl rfl Try.func9 (by kernel_rfl) rfl #[.agg #[.int .u8 a1_0, .int .u64 a1_1, .string a1_2]] rfl (by (try simp only [List.map_toArray, List.map_cons, List.map_nil]); first | done | rfl | (simp only [List.length_drop, List.length_take]; rfl)) ?_; (with_reducible refine (value_May.calls k a1_0 a1_1 a1_2 false _ A13.out).mono ?_); rintro e w26 ⟨rfl, hb⟩; refine ⟨_, rfl, ?_⟩; have n0_ := kb BK225 hb; have n1_ := kb BK226 hb; have n2_ := kb BK227 hb; have n3_ := bt HB hb; clear BK225; clear BK226; clear BK227; clear HB; have BK225 := n0_; have BK226 := n1_; have BK227 := n2_; have HB := n3_; clear n0_ n1_ n2_ n3_; (try clear hb); (try clear hb2); (try clear hk); (try clear hi)))
   go_meet
   case rel => exact ⟨_, (true), (by first | rfl | (simp; done) | (simp [*]; done)), H', ⟨by first | omega | exact Nat.le_refl _⟩, ⟨by (with_reducible repeat (first | refine blk_drewN ?_ _ | refine blk_drew ?_ | refine blk_alloc ?_ _)); exact BK225.out⟩, ⟨by (with_reducible repeat (first | refine blk_drewN ?_ _ | refine blk_drew ?_ | refine blk_alloc ?_ _)); exact BK226.out⟩, ⟨by (with_reducible repeat (first | refine blk_drewN ?_ _ | refine blk_drew ?_ | refine blk_alloc ?_ _)); exact BK227.out⟩, ⟨bs HB⟩⟩
 case rest =>
  clear HC4
  (try clear c1);(try clear c2);(try clear p2);(try clear c3);(try clear c8);(try clear c9);(try clear c11);(try clear c14);(try clear c16);(try clear c17);(try clear c20);(try clear c23);(try clear c24);(try clear hcz10_0);(try clear hcz10_1);(try clear hcz10_2);(try clear hcz12_0);(try clear hcz12_1);(try clear hcz12_2);(try clear hcz18_0);(try clear hcz18_1);(try clear hcz18_2);(try clear hcz21_0);(try clear hcz21_1);(try clear hcz21_2);(try clear hcz25_0);(try clear hcz25_1);(try clear hcz25_2);(try clear hfz10_0);(try clear hfz10_1);(try clear hfz10_2);(try clear hfz12_0);(try clear hfz12_1);(try clear hfz12_2);(try clear hfz18_0);(try clear hfz18_1);(try clear hfz18_2);(try clear hfz21_0);(try clear hfz21_1);(try clear hfz21_2);(try clear hfz25_0);(try clear hfz25_1);(try clear hfz25_2)
  obtain ⟨kq, x15_3, rfl, HA, HJ3, BK225, BK226, BK227, HB⟩ := hcut
  cases kq with
  | zero => exact absurd HA.out (by simp [value_Reckon.j0])
  | succ kj3 =>
   have H := HA.out
   clear HA
   simp only [value_Reckon.j0] at H
   by_cases c27 : x15_3 = true
   ·subst c27
    have H1 : (some (0, 0, (⟨#[]⟩ : ByteArray), 8)) = some (r1, r2, r3, r4) := by rw [if_pos rfl] at H; exact H
    clear H
    have H := H1
    clear H1
    simp only [Option.some.injEq, Prod.mk.injEq] at H
    obtain ⟨rfl, rfl, rfl, rfl⟩ := H
    have hnb28 := NB227_225.out
    have hnc28 := NB225_227.out
    have hnb29 := NB227_226.out
    have hnc29 := NB226_227.out
    have hcz30_0 : wc.cell? ⟨gb227, 0, none⟩ = some (.int .u8 0) := bc BK227 0
    have hcz30_1 : wc.cell? ⟨gb227, 1, none⟩ = some (.int .u64 0) := bc BK227 1
    have hcz30_2 : wc.cell? ⟨gb227, 2, none⟩ = some (.string (⟨#[]⟩ : ByteArray)) := bc BK227 2
    have hfz30_0 := blk_frozen BK227.out 0
    have hfz30_1 := blk_frozen BK227.out 1
    have hfz30_2 := blk_frozen BK227.out 2
    go_wp2
    refine bodyPost_ret (results_ct rfl _ _ gb227 27 #[.int .u8 0, .int .u64 0, .string (⟨#[]⟩ : ByteArray)] (0, 0) _ rfl (by (with_reducible repeat (first | refine blk_drewN ?_ _ | refine blk_drew ?_ | refine blk_alloc ?_ _)); refine blk_put (cs := #[.int .u8 0, .int .u64 0, .string (⟨#[]⟩ : ByteArray)]) ?_ 2 _ rfl; (with_reducible repeat (first | refine blk_drewN ?_ _ | refine blk_drew ?_ | refine blk_alloc ?_ _)); refine blk_put (cs := #[.int .u8 0, .int .u64 0, .string (⟨#[]⟩ : ByteArray)]) ?_ 1 _ rfl; (with_reducible repeat (first | refine blk_drewN ?_ _ | refine blk_drew ?_ | refine blk_alloc ?_ _)); refine blk_put (cs := #[.int .u8 0, .int .u64 0, .string (⟨#[]⟩ : ByteArray)]) ?_ 0 _ rfl; (with_reducible repeat (first | refine blk_drewN ?_ _ | refine blk_drew ?_ | refine blk_alloc ?_ _)); exact BK227.out) Try.underlying27 rfl (by kernel_rfl)) rfl ?_
    exact ⟨by first | rfl | (simp [errW_none, errW_some] <;> rfl) | (simp [*, errW_none, errW_some] <;> rfl), bs HB⟩
   ·replace c27 := Bool.eq_false_iff.mpr c27
    subst c27
    have H1 : (if a0 ≥ 9 then (if a0 ≤ 14 then (value_Reckon.j1 kj3 a0 (a1_0 == a2_0) (a1_0 == a2_0) a1_0 a1_1 a1_2 a2_0 a2_1 a2_2) else (value_Reckon.j1 kj3 a0 (a1_0 == a2_0) false a1_0 a1_1 a1_2 a2_0 a2_1 a2_2)) else (value_Reckon.j1 kj3 a0 (a1_0 == a2_0) false a1_0 a1_1 a1_2 a2_0 a2_1 a2_2)) = some (r1, r2, r3, r4) := by rw [if_neg (show ¬ (false = true) by decide)] at H; exact H
    clear H
    have H := H1
    clear H1
    have HC31 := Aside0.mk H
    clear H
    go_upto_region 4 with (fail)
    go_cut [25] (fun v25 wc => ∃ (kq : Nat) (x25_30 : Bool), v25 = .bool x25_30 ∧ Aside0 (value_Reckon.j1 kq a0 (a1_0 == a2_0) x25_30 a1_0 a1_1 a1_2 a2_0 a2_1 a2_2 = some (r1, r2, r3, r4)) ∧ Aside0 (kq ≤ kj3) ∧ Aside0 (wc.heap[gb225]? = some (.cells #[.int .u8 a1_0, .int .u64 a1_1, .string a1_2] 27 (0, 0))) ∧ Aside0 (wc.heap[gb226]? = some (.cells #[.int .u8 a2_0, .int .u64 a2_1, .string a2_2] 27 (0, 0))) ∧ Aside0 (wc.heap[gb227]? = some (.cells #[.int .u8 0, .int .u64 0, .string (⟨#[]⟩ : ByteArray)] 27 (0, 0))) ∧ Aside0 (Below w.heap.size w wc))
    case first =>
     have H := HC31.out
     clear HC31
     by_cases c32 : a0 ≥ 9
     ·rw [if_pos c32] at H
      have c32b0 : decide (9 ≤ a0) = true := decide_eq_true c32
      clear c32
      (first | rw [c32b0] | (simp only [i64_w, i32_w]; rw [c32b0]) | skip)
      by_cases c33 : a0 ≤ 14
      ·rw [if_pos c33] at H
       have c33b0 : decide (a0 ≤ 14) = true := decide_eq_true c33
       clear c33
       have H' := Aside0.mk H
       clear H
       go_wp2
       go_meet
       case rel => (try rw [show decide (a0 ≥ 9) = true from by first | assumption | exact decide_eq_true (by assumption)]); (try rw [show decide (a0 ≤ 14) = true from by first | assumption | exact decide_eq_true (by assumption)]); exact ⟨_, ((a1_0 == a2_0)), (by first | rfl | (simp; done) | (simp [*]; done)), H', ⟨by have := HJ3.out; first | omega | exact Nat.le_refl _⟩, ⟨by (with_reducible repeat (first | refine blk_drewN ?_ _ | refine blk_drew ?_ | refine blk_alloc ?_ _)); exact BK225.out⟩, ⟨by (with_reducible repeat (first | refine blk_drewN ?_ _ | refine blk_drew ?_ | refine blk_alloc ?_ _)); exact BK226.out⟩, ⟨by (with_reducible repeat (first | refine blk_drewN ?_ _ | refine blk_drew ?_ | refine blk_alloc ?_ _)); exact BK227.out⟩, ⟨bs HB⟩⟩
      ·rw [if_neg c33] at H
       have c33b0 : decide (a0 ≤ 14) = false := decide_eq_false c33
       clear c33
       have H' := Aside0.mk H
       clear H
       go_wp2
       go_meet
       case rel => (try rw [show decide (a0 ≥ 9) = true from by first | assumption | exact decide_eq_true (by assumption)]); (try rw [show decide (a0 ≤ 14) = false from by first | assumption | exact decide_eq_false (by assumption)]); exact ⟨_, (false), (by first | rfl | (simp; done) | (simp [*]; done)), H', ⟨by have := HJ3.out; first | omega | exact Nat.le_refl _⟩, ⟨by (with_reducible repeat (first | refine blk_drewN ?_ _ | refine blk_drew ?_ | refine blk_alloc ?_ _)); exact BK225.out⟩, ⟨by (with_reducible repeat (first | refine blk_drewN ?_ _ | refine blk_drew ?_ | refine blk_alloc ?_ _)); exact BK226.out⟩, ⟨by (with_reducible repeat (first | refine blk_drewN ?_ _ | refine blk_drew ?_ | refine blk_alloc ?_ _)); exact BK227.out⟩, ⟨bs HB⟩⟩
     ·rw [if_neg c32] at H
      have c32b0 : decide (9 ≤ a0) = false := decide_eq_false c32
      clear c32
      (first | rw [c32b0] | (simp only [i64_w, i32_w]; rw [c32b0]) | skip)
      have H' := Aside0.mk H
      clear H
      go_wp2
      go_meet
      case rel => (try rw [show decide (a0 ≥ 9) = false from by first | assumption | exact decide_eq_false (by assumption)]); exact ⟨_, (false), (by first | rfl | (simp; done) | (simp [*]; done)), H', ⟨by have := HJ3.out; first | omega | exact Nat.le_refl _⟩, ⟨by (with_reducible repeat (first | refine blk_drewN ?_ _ | refine blk_drew ?_ | refine blk_alloc ?_ _)); exact BK225.out⟩, ⟨by (with_reducible repeat (first | refine blk_drewN ?_ _ | refine blk_drew ?_ | refine blk_alloc ?_ _)); exact BK226.out⟩, ⟨by (with_reducible repeat (first | refine blk_drewN ?_ _ | refine blk_drew ?_ | refine blk_alloc ?_ _)); exact BK227.out⟩, ⟨bs HB⟩⟩
    case rest =>
     clear HC31
     (try clear c1);(try clear c2);(try clear p2);(try clear c3);(try clear c8);(try clear c9);(try clear c11);(try clear c14);(try clear c16);(try clear c17);(try clear c20);(try clear c23);(try clear c24);(try clear c27);(try clear c28);(try clear c29);(try clear c30);(try clear c32);(try clear c32b0);(try clear c33);(try clear c33b0);(try clear hcz10_0);(try clear hcz10_1);(try clear hcz10_2);(try clear hcz12_0);(try clear hcz12_1);(try clear hcz12_2);(try clear hcz18_0);(try clear hcz18_1);(try clear hcz18_2);(try clear hcz21_0);(try clear hcz21_1);(try clear hcz21_2);(try clear hcz25_0);(try clear hcz25_1);(try clear hcz25_2);(try clear hcz30_0);(try clear hcz30_1);(try clear hcz30_2);(try clear hfz10_0);(try clear hfz10_1);(try clear hfz10_2);(try clear hfz12_0);(try clear hfz12_1);(try clear hfz12_2);(try clear hfz18_0);(try clear hfz18_1);(try clear hfz18_2);(try clear hfz21_0);(try clear hfz21_1);(try clear hfz21_2);(try clear hfz25_0);(try clear hfz25_1);(try clear hfz25_2);(try clear hfz30_0);(try clear hfz30_1);(try clear hfz30_2);(try clear p2)
     obtain ⟨kq, x25_30, rfl, HA, HJ30, BK225, BK226, BK227, HB⟩ := hcut
     cases kq with
     | zero => exact absurd HA.out (by simp [value_Reckon.j1])
     | succ kj30 =>
      have H := HA.out
      clear HA
      simp only [value_Reckon.j1] at H
      by_cases c34 : x25_30 = true
      ·subst c34
       have H1 : ((value_compared.f kj30 a0 a1_0 a1_1 a1_2 a2_0 a2_1 a2_2).bind fun bt230 => (some (bt230.1, bt230.2.1, bt230.2.2, 0))) = some (r1, r2, r3, r4) := by rw [if_pos rfl] at H; exact H
       clear H
       have H := H1
       clear H1
       replace H := Option.bind_eq_some_iff.mp H
       obtain ⟨⟨t230, t231, t232⟩, A350, H⟩ := H
       replace H : (some (t230, t231, t232, 0)) = some (r1, r2, r3, r4) := H
       have A35 := Aside0.mk A350
       clear A350
       simp only [Option.some.injEq, Prod.mk.injEq] at H
       obtain ⟨rfl, rfl, rfl, rfl⟩ := H
       have hnb36 := NB225_226.out
       have hnc36 := NB226_225.out
       have hnb37 := NB225_227.out
       have hnc37 := NB227_225.out
       have hcz38_0 : wc.cell? ⟨gb225, 0, none⟩ = some (.int .u8 a1_0) := bc BK225 0
       have hcz38_1 : wc.cell? ⟨gb225, 1, none⟩ = some (.int .u64 a1_1) := bc BK225 1
       have hcz38_2 : wc.cell? ⟨gb225, 2, none⟩ = some (.string a1_2) := bc BK225 2
       have hfz38_0 := blk_frozen BK225.out 0
       have hfz38_1 := blk_frozen BK225.out 1
       have hfz38_2 := blk_frozen BK225.out 2
       have hnb39 := NB226_227.out
       have hnc39 := NB227_226.out
       have hcz40_0 : wc.cell? ⟨gb226, 0, none⟩ = some (.int .u8 a2_0) := bc BK226 0
       have hcz40_1 : wc.cell? ⟨gb226, 1, none⟩ = some (.int .u64 a2_1) := bc BK226 1
       have hcz40_2 : wc.cell? ⟨gb226, 2, none⟩ = some (.string a2_2) := bc BK226 2
       have hfz40_0 := blk_frozen BK226.out 0
       have hfz40_1 := blk_frozen BK226.out 1
       have hfz40_2 := blk_frozen BK226.out 2
       go_wp2_with (first | ((with_reducible refine gate_callee (f := 55) rfl ?_); refine goesL_ (some 38) rfl rfl Try.func55 (by kernel_rfl) rfl #[.int .i64 a0, .agg #[.int .u8 a1_0, .int .u64 a1_1, .string a1_2], .agg #[.int .u8 a2_0, .int .u64 a2_1, .string a2_2]] rfl (by (try simp only [List.map_toArray, List.map_cons, List.map_nil]); first | done | rfl | (simp only [List.length_drop, List.length_take]; rfl)) ?_; (with_reducible refine (value_compared.calls kj30 a0 a1_0 a1_1 a1_2 a2_0 a2_1 a2_2 t230 t231 t232 _ A35.out).mono ?_); rintro e w41 ⟨rfl, hb⟩; refine ⟨_, rfl, ?_⟩; have n0_ := kb BK225 hb; have n1_ := kb BK226 hb; have n2_ := kb BK227 hb; have n3_ := bt HB hb; clear BK225; clear BK226; clear BK227; clear HB; have BK225 := n0_; have BK226 := n1_; have BK227 := n2_; have HB := n3_; clear n0_ n1_ n2_ n3_; (try clear hb); (try clear hb2); (try clear hk); (try clear hi); have hcz42_0 : w41.cell? ⟨gb227, 0, none⟩ = some (.int .u8 0) := bc BK227 0; have hcz42_1 : w41.cell? ⟨gb227, 1, none⟩ = some (.int .u64 0) := bc BK227 1; have hcz42_2 : w41.cell? ⟨gb227, 2, none⟩ = some (.string (⟨#[]⟩ : ByteArray)) := bc BK227 2; have hfz42_0 := blk_frozen BK227.out 0; have hfz42_1 := blk_frozen BK227.out 1; have hfz42_2 := blk_frozen BK227.out 2))
       refine bodyPost_ret (results_ct rfl _ _ gb227 27 #[.int .u8 t230, .int .u64 t231, .string t232] (0, 0) _ rfl (by (with_reducible repeat (first | refine blk_drewN ?_ _ | refine blk_drew ?_ | refine blk_alloc ?_ _)); refine blk_put (cs := #[.int .u8 t230, .int .u64 t231, .string (⟨#[]⟩ : ByteArray)]) ?_ 2 _ rfl; (with_reducible repeat (first | refine blk_drewN ?_ _ | refine blk_drew ?_ | refine blk_alloc ?_ _)); refine blk_put (cs := #[.int .u8 t230, .int .u64 0, .string (⟨#[]⟩ : ByteArray)]) ?_ 1 _ rfl; (with_reducible repeat (first | refine blk_drewN ?_ _ | refine blk_drew ?_ | refine blk_alloc ?_ _)); refine blk_put (cs := #[.int .u8 0, .int .u64 0, .string (⟨#[]⟩ : ByteArray)]) ?_ 0 _ rfl; (with_reducible repeat (first | refine blk_drewN ?_ _ | refine blk_drew ?_ | refine blk_alloc ?_ _)); exact BK227.out) Try.underlying27 rfl (by kernel_rfl)) rfl ?_
       exact ⟨by first | rfl | (simp [errW_none, errW_some] <;> rfl) | (simp [*, errW_none, errW_some] <;> rfl), bs HB⟩
      ·replace c34 := Bool.eq_false_iff.mpr c34
       subst c34
       have H1 : (if a0 ≥ 6 then (if a0 ≤ 8 then (if (a1_0 == a2_0) = true then ((value_row.f a1_0).bind fun t233 => (if t233 = true then (value_Reckon.j2 kj30 a0 (a1_0 == a2_0) true a1_0 a1_1 a1_2 a2_0 a2_1 a2_2) else (value_Reckon.j2 kj30 a0 (a1_0 == a2_0) (a1_0 == 1) a1_0 a1_1 a1_2 a2_0 a2_1 a2_2))) else (value_Reckon.j2 kj30 a0 (a1_0 == a2_0) false a1_0 a1_1 a1_2 a2_0 a2_1 a2_2)) else (value_Reckon.j2 kj30 a0 (a1_0 == a2_0) false a1_0 a1_1 a1_2 a2_0 a2_1 a2_2)) else (value_Reckon.j2 kj30 a0 (a1_0 == a2_0) false a1_0 a1_1 a1_2 a2_0 a2_1 a2_2)) = some (r1, r2, r3, r4) := by rw [if_neg (show ¬ (false = true) by decide)] at H; exact H
       clear H
       have H := H1
       clear H1
       have HC43 := Aside0.mk H
       clear H
       go_upto_region 6 with (fail)
       go_cut [39] (fun v39 wc => ∃ (kq : Nat) (x39_42 : Bool), v39 = .bool x39_42 ∧ Aside0 (value_Reckon.j2 kq a0 (a1_0 == a2_0) x39_42 a1_0 a1_1 a1_2 a2_0 a2_1 a2_2 = some (r1, r2, r3, r4)) ∧ Aside0 (kq ≤ kj30) ∧ Aside0 (wc.heap[gb225]? = some (.cells #[.int .u8 a1_0, .int .u64 a1_1, .string a1_2] 27 (0, 0))) ∧ Aside0 (wc.heap[gb226]? = some (.cells #[.int .u8 a2_0, .int .u64 a2_1, .string a2_2] 27 (0, 0))) ∧ Aside0 (wc.heap[gb227]? = some (.cells #[.int .u8 0, .int .u64 0, .string (⟨#[]⟩ : ByteArray)] 27 (0, 0))) ∧ Aside0 (Below w.heap.size w wc))
       case first =>
        have H := HC43.out
        clear HC43
        by_cases c44 : a0 ≥ 6
        ·rw [if_pos c44] at H
         have c44b0 : decide (6 ≤ a0) = true := decide_eq_true c44
         clear c44
         (first | rw [c44b0] | (simp only [i64_w, i32_w]; rw [c44b0]) | skip)
         by_cases c45 : a0 ≤ 8
         ·rw [if_pos c45] at H
          have c45b0 : decide (a0 ≤ 8) = true := decide_eq_true c45
          clear c45
          by_cases c46 : (a1_0 == a2_0) = true
          ·rw [if_pos c46] at H
           have c46b0 : (a1_0 == a2_0) = true := c46
           (try (have c46b1 : decide (a1_0 = a2_0) = true := by simpa using c46))
           (try (have c46b2 : (a1_0 == a2_0) = true := by simpa using c46))
           clear c46
           replace H := Option.bind_eq_some_iff.mp H
           obtain ⟨t233, A470, H⟩ := H
           replace H : (if t233 = true then (value_Reckon.j2 kj30 a0 (a1_0 == a2_0) true a1_0 a1_1 a1_2 a2_0 a2_1 a2_2) else (value_Reckon.j2 kj30 a0 (a1_0 == a2_0) (a1_0 == 1) a1_0 a1_1 a1_2 a2_0 a2_1 a2_2)) = some (r1, r2, r3, r4) := H
           have A47 := Aside0.mk A470
           clear A470
           by_cases c48 : t233 = true
           ·subst c48
            have H1 : (value_Reckon.j2 kj30 a0 (a1_0 == a2_0) true a1_0 a1_1 a1_2 a2_0 a2_1 a2_2) = some (r1, r2, r3, r4) := by rw [if_pos rfl] at H; exact H
            clear H
            have H := H1
            clear H1
            have H' := Aside0.mk H
            clear H
            have hnb49 := NB225_226.out
            have hnc49 := NB226_225.out
            have hnb50 := NB225_227.out
            have hnc50 := NB227_225.out
            have hcz51_0 : wc.cell? ⟨gb225, 0, none⟩ = some (.int .u8 a1_0) := bc BK225 0
            have hcz51_1 : wc.cell? ⟨gb225, 1, none⟩ = some (.int .u64 a1_1) := bc BK225 1
            have hcz51_2 : wc.cell? ⟨gb225, 2, none⟩ = some (.string a1_2) := bc BK225 2
            have hfz51_0 := blk_frozen BK225.out 0
            have hfz51_1 := blk_frozen BK225.out 1
            have hfz51_2 := blk_frozen BK225.out 2
            go_wp2_with (first | (go_at_call 42; (with_reducible refine (value_row.calls a1_0 true _ A47.out).mono ?_); rintro e w' ⟨rfl, ⟨nd, rfl⟩⟩))
            (first | go_meet | (refine Met.intro ?_; go_step; (repeat apply Exists.intro); refine ⟨?rel, ?fr⟩; (case fr => (rw [show (a1_0 == a2_0) = true from by assumption]) <;> exact rfl)))
            case rel => (try rw [show decide (a0 ≥ 6) = true from by first | assumption | exact decide_eq_true (by assumption)]); (try rw [show decide (a0 ≤ 8) = true from by first | assumption | exact decide_eq_true (by assumption)]); exact ⟨_, (true), (by first | rfl | (simp; done) | (simp [*]; done)), H', ⟨by have := HJ3.out; have := HJ30.out; first | omega | exact Nat.le_refl _⟩, ⟨by (with_reducible repeat (first | refine blk_drewN ?_ _ | refine blk_drew ?_ | refine blk_alloc ?_ _)); exact BK225.out⟩, ⟨by (with_reducible repeat (first | refine blk_drewN ?_ _ | refine blk_drew ?_ | refine blk_alloc ?_ _)); exact BK226.out⟩, ⟨by (with_reducible repeat (first | refine blk_drewN ?_ _ | refine blk_drew ?_ | refine blk_alloc ?_ _)); exact BK227.out⟩, ⟨bs HB⟩⟩
           ·replace c48 := Bool.eq_false_iff.mpr c48
            subst c48
            have H1 : (value_Reckon.j2 kj30 a0 (a1_0 == a2_0) (a1_0 == 1) a1_0 a1_1 a1_2 a2_0 a2_1 a2_2) = some (r1, r2, r3, r4) := by rw [if_neg (show ¬ (false = true) by decide)] at H; exact H
            clear H
            have H := H1
            clear H1
            have H' := Aside0.mk H
            clear H
            have hnb52 := NB225_226.out
            have hnc52 := NB226_225.out
            have hnb53 := NB225_227.out
            have hnc53 := NB227_225.out
            have hcz54_0 : wc.cell? ⟨gb225, 0, none⟩ = some (.int .u8 a1_0) := bc BK225 0
            have hcz54_1 : wc.cell? ⟨gb225, 1, none⟩ = some (.int .u64 a1_1) := bc BK225 1
            have hcz54_2 : wc.cell? ⟨gb225, 2, none⟩ = some (.string a1_2) := bc BK225 2
            have hfz54_0 := blk_frozen BK225.out 0
            have hfz54_1 := blk_frozen BK225.out 1
            have hfz54_2 := blk_frozen BK225.out 2
            go_wp2_with (first | (go_at_call 42; (with_reducible refine (value_row.calls a1_0 false _ A47.out).mono ?_); rintro e w' ⟨rfl, ⟨nd, rfl⟩⟩))
            (first | go_meet | (refine Met.intro ?_; go_step; (repeat apply Exists.intro); refine ⟨?rel, ?fr⟩; (case fr => (rw [show (a1_0 == a2_0) = true from by assumption]) <;> exact rfl)))
            case rel => (try rw [show decide (a0 ≥ 6) = true from by first | assumption | exact decide_eq_true (by assumption)]); (try rw [show decide (a0 ≤ 8) = true from by first | assumption | exact decide_eq_true (by assumption)]); exact ⟨_, ((a1_0 == 1)), (by first | rfl | (simp; done) | (simp [*]; done)), H', ⟨by have := HJ3.out; have := HJ30.out; first | omega | exact Nat.le_refl _⟩, ⟨by (with_reducible repeat (first | refine blk_drewN ?_ _ | refine blk_drew ?_ | refine blk_alloc ?_ _)); exact BK225.out⟩, ⟨by (with_reducible repeat (first | refine blk_drewN ?_ _ | refine blk_drew ?_ | refine blk_alloc ?_ _)); exact BK226.out⟩, ⟨by (with_reducible repeat (first | refine blk_drewN ?_ _ | refine blk_drew ?_ | refine blk_alloc ?_ _)); exact BK227.out⟩, ⟨bs HB⟩⟩
          ·rw [if_neg c46] at H
           have c46b0 : (a1_0 == a2_0) = false := by simpa using c46
           (try (have c46b1 : decide (a1_0 = a2_0) = false := by simpa using c46))
           (try (have c46b2 : (a1_0 == a2_0) = false := by simpa using c46))
           (try (have c46b3 : ¬ (a1_0 = a2_0) := by simpa using c46))
           clear c46
           have H' := Aside0.mk H
           clear H
           go_wp2
           (first | go_meet | (refine Met.intro ?_; go_step; (repeat apply Exists.intro); refine ⟨?rel, ?fr⟩; (case fr => (rw [show (a1_0 == a2_0) = false from by assumption]) <;> exact rfl)))
           case rel => (try rw [show decide (a0 ≥ 6) = true from by first | assumption | exact decide_eq_true (by assumption)]); (try rw [show decide (a0 ≤ 8) = true from by first | assumption | exact decide_eq_true (by assumption)]); exact ⟨_, (false), (by first | rfl | (simp; done) | (simp [*]; done)), H', ⟨by have := HJ3.out; have := HJ30.out; first | omega | exact Nat.le_refl _⟩, ⟨by (with_reducible repeat (first | refine blk_drewN ?_ _ | refine blk_drew ?_ | refine blk_alloc ?_ _)); exact BK225.out⟩, ⟨by (with_reducible repeat (first | refine blk_drewN ?_ _ | refine blk_drew ?_ | refine blk_alloc ?_ _)); exact BK226.out⟩, ⟨by (with_reducible repeat (first | refine blk_drewN ?_ _ | refine blk_drew ?_ | refine blk_alloc ?_ _)); exact BK227.out⟩, ⟨bs HB⟩⟩
         ·rw [if_neg c45] at H
          have c45b0 : decide (a0 ≤ 8) = false := decide_eq_false c45
          clear c45
          have H' := Aside0.mk H
          clear H
          go_wp2
          go_meet
          case rel => (try rw [show decide (a0 ≥ 6) = true from by first | assumption | exact decide_eq_true (by assumption)]); (try rw [show decide (a0 ≤ 8) = false from by first | assumption | exact decide_eq_false (by assumption)]); exact ⟨_, (false), (by first | rfl | (simp; done) | (simp [*]; done)), H', ⟨by have := HJ3.out; have := HJ30.out; first | omega | exact Nat.le_refl _⟩, ⟨by (with_reducible repeat (first | refine blk_drewN ?_ _ | refine blk_drew ?_ | refine blk_alloc ?_ _)); exact BK225.out⟩, ⟨by (with_reducible repeat (first | refine blk_drewN ?_ _ | refine blk_drew ?_ | refine blk_alloc ?_ _)); exact BK226.out⟩, ⟨by (with_reducible repeat (first | refine blk_drewN ?_ _ | refine blk_drew ?_ | refine blk_alloc ?_ _)); exact BK227.out⟩, ⟨bs HB⟩⟩
        ·rw [if_neg c44] at H
         have c44b0 : decide (6 ≤ a0) = false := decide_eq_false c44
         clear c44
         (first | rw [c44b0] | (simp only [i64_w, i32_w]; rw [c44b0]) | skip)
         have H' := Aside0.mk H
         clear H
         go_wp2
         go_meet
         case rel => (try rw [show decide (a0 ≥ 6) = false from by first | assumption | exact decide_eq_false (by assumption)]); exact ⟨_, (false), (by first | rfl | (simp; done) | (simp [*]; done)), H', ⟨by have := HJ3.out; have := HJ30.out; first | omega | exact Nat.le_refl _⟩, ⟨by (with_reducible repeat (first | refine blk_drewN ?_ _ | refine blk_drew ?_ | refine blk_alloc ?_ _)); exact BK225.out⟩, ⟨by (with_reducible repeat (first | refine blk_drewN ?_ _ | refine blk_drew ?_ | refine blk_alloc ?_ _)); exact BK226.out⟩, ⟨by (with_reducible repeat (first | refine blk_drewN ?_ _ | refine blk_drew ?_ | refine blk_alloc ?_ _)); exact BK227.out⟩, ⟨bs HB⟩⟩
       case rest =>
        clear HC43
        (try clear c1);(try clear c2);(try clear p2);(try clear c3);(try clear c4);(try clear c5);(try clear c8);(try clear c9);(try clear c11);(try clear c14);(try clear c16);(try clear c17);(try clear c20);(try clear c23);(try clear c24);(try clear c27);(try clear c28);(try clear c29);(try clear c30);(try clear c32);(try clear c32b0);(try clear c33);(try clear c33b0);(try clear c34);(try clear c36);(try clear c37);(try clear c39);(try clear c44);(try clear c44b0);(try clear c45);(try clear c45b0);(try clear c46);(try clear c46b0);(try clear c46b1);(try clear c46b2);(try clear c48);(try clear c49);(try clear c50);(try clear c52);(try clear c53);(try clear hcz10_0);(try clear hcz10_1);(try clear hcz10_2);(try clear hcz12_0);(try clear hcz12_1);(try clear hcz12_2);(try clear hcz18_0);(try clear hcz18_1);(try clear hcz18_2);(try clear hcz21_0);(try clear hcz21_1);(try clear hcz21_2);(try clear hcz25_0);(try clear hcz25_1);(try clear hcz25_2);(try clear hcz30_0);(try clear hcz30_1);(try clear hcz30_2);(try clear hcz38_0);(try clear hcz38_1);(try clear hcz38_2);(try clear hcz40_0);(try clear hcz40_1);(try clear hcz40_2);(try clear hcz42_0);(try clear hcz42_1);(try clear hcz42_2);(try clear hcz51_0);(try clear hcz51_1);(try clear hcz51_2);(try clear hcz54_0);(try clear hcz54_1);(try clear hcz54_2);(try clear hfz10_0);(try clear hfz10_1);(try clear hfz10_2);(try clear hfz12_0);(try clear hfz12_1);(try clear hfz12_2);(try clear hfz18_0);(try clear hfz18_1);(try clear hfz18_2);(try clear hfz21_0);(try clear hfz21_1);(try clear hfz21_2);(try clear hfz25_0);(try clear hfz25_1);(try clear hfz25_2);(try clear hfz30_0);(try clear hfz30_1);(try clear hfz30_2);(try clear hfz38_0);(try clear hfz38_1);(try clear hfz38_2);(try clear hfz40_0);(try clear hfz40_1);(try clear hfz40_2);(try clear hfz42_0);(try clear hfz42_1);(try clear hfz42_2);(try clear hfz51_0);(try clear hfz51_1);(try clear hfz51_2);(try clear hfz54_0);(try clear hfz54_1);(try clear hfz54_2);(try clear p2)
        obtain ⟨kq, x39_42, rfl, HA, HJ42, BK225, BK226, BK227, HB⟩ := hcut
        cases kq with
        | zero => exact absurd HA.out (by simp [value_Reckon.j2])
        | succ kj42 =>
         have H := HA.out
         clear HA
         simp only [value_Reckon.j2] at H
         by_cases c55 : x39_42 = true
         ·subst c55
          have H1 : (if a0 = 6 then (some (a1_0, Go.bits .and .u64 a1_1 a2_1, (⟨#[]⟩ : ByteArray), 0)) else (if a0 = 7 then (some (a1_0, Go.bits .or .u64 a1_1 a2_1, (⟨#[]⟩ : ByteArray), 0)) else (some (a1_0, Go.bits .xor .u64 a1_1 a2_1, (⟨#[]⟩ : ByteArray), 0)))) = some (r1, r2, r3, r4) := by rw [if_pos rfl] at H; exact H
          clear H
          have H := H1
          clear H1
          by_cases c56 : a0 = 6
          ·rw [if_pos c56] at H
           have c56b0 : (a0 == 6) = true := beq_iff_eq.mpr c56
           have c56b1 : (a0 != 6) = false := bne_eq_false_iff_eq.mpr c56
           clear c56
           simp only [Option.some.injEq, Prod.mk.injEq] at H
           obtain ⟨rfl, rfl, rfl, rfl⟩ := H
           have hnb57 := NB225_226.out
           have hnc57 := NB226_225.out
           have hnb58 := NB225_227.out
           have hnc58 := NB227_225.out
           have hcz59_0 : wc.cell? ⟨gb225, 0, none⟩ = some (.int .u8 a1_0) := bc BK225 0
           have hcz59_1 : wc.cell? ⟨gb225, 1, none⟩ = some (.int .u64 a1_1) := bc BK225 1
           have hcz59_2 : wc.cell? ⟨gb225, 2, none⟩ = some (.string a1_2) := bc BK225 2
           have hfz59_0 := blk_frozen BK225.out 0
           have hfz59_1 := blk_frozen BK225.out 1
           have hfz59_2 := blk_frozen BK225.out 2
           go_wp2_with (first | ((with_reducible refine gate_dst (N := 9) rfl ?_); refine box_event ?hg (N := 9) ?hd (cs := #[.int .u8 0, .int .u64 0, .string (⟨#[]⟩ : ByteArray)]) (t := 27) ?hr ?_; (case hd => rfl); (case hg => rfl); (case hr => first | (go_simp; done) | (go_simp; rfl)); intro gb234 hg w60 hbox hb; have n0_ := kb BK225 hb; have n1_ := kb BK226 hb; have n2_ := kb BK227 hb; have n3_ := bt HB hb; have n4_ := Aside0.mk (hbox); have n5_ := gs hg HB; have n6_ := gs hg HB; have n7_ := nl hg BK225; have n8_ := ng hg BK225; have n9_ := nl hg BK226; have n10_ := ng hg BK226; have n11_ := nl hg BK227; have n12_ := ng hg BK227; clear BK225; clear BK226; clear BK227; clear HB; have BK225 := n0_; have BK226 := n1_; have BK227 := n2_; have HB := n3_; have BK234 := n4_; have GW234 := n5_; have GE234 := n6_; have NB225_234 := n7_; have NB234_225 := n8_; have NB226_234 := n9_; have NB234_226 := n10_; have NB227_234 := n11_; have NB234_227 := n12_; clear n0_ n1_ n2_ n3_ n4_ n5_ n6_ n7_ n8_ n9_ n10_ n11_ n12_; clear hb hbox hg; have hnb61 := NB234_225.out; have hnc61 := NB225_234.out; have hnb62 := NB234_226.out; have hnc62 := NB226_234.out; have hnb63 := NB234_227.out; have hnc63 := NB227_234.out; have hcz64_0 : w60.cell? ⟨gb234, 0, none⟩ = some (.int .u8 0) := bc BK234 0; have hcz64_1 : w60.cell? ⟨gb234, 1, none⟩ = some (.int .u64 0) := bc BK234 1; have hcz64_2 : w60.cell? ⟨gb234, 2, none⟩ = some (.string (⟨#[]⟩ : ByteArray)) := bc BK234 2; have hfz64_0 := blk_frozen BK234.out 0; have hfz64_1 := blk_frozen BK234.out 1; have hfz64_2 := blk_frozen BK234.out 2; have hcz65_0 : w60.cell? ⟨gb225, 0, none⟩ = some (.int .u8 a1_0) := bc BK225 0; have hcz65_1 : w60.cell? ⟨gb225, 1, none⟩ = some (.int .u64 a1_1) := bc BK225 1; have hcz65_2 : w60.cell? ⟨gb225, 2, none⟩ = some (.string a1_2) := bc BK225 2; have hfz65_0 := blk_frozen BK225.out 0; have hfz65_1 := blk_frozen BK225.out 1; have hfz65_2 := blk_frozen BK225.out 2; have hnb66 := NB226_227.out; have hnc66 := NB227_226.out; have hcz67_0 : w60.cell? ⟨gb226, 0, none⟩ = some (.int .u8 a2_0) := bc BK226 0; have hcz67_1 : w60.cell? ⟨gb226, 1, none⟩ = some (.int .u64 a2_1) := bc BK226 1; have hcz67_2 : w60.cell? ⟨gb226, 2, none⟩ = some (.string a2_2) := bc BK226 2; have hfz67_0 := blk_frozen BK226.out 0; have hfz67_1 := blk_frozen BK226.out 1; have hfz67_2 := blk_frozen BK226.out 2; have hcz68_0 : w60.cell? ⟨gb227, 0, none⟩ = some (.int .u8 0) := bc BK227 0; have hcz68_1 : w60.cell? ⟨gb227, 1, none⟩ = some (.int .u64 0) := bc BK227 1; have hcz68_2 : w60.cell? ⟨gb227, 2, none⟩ = some (.string (⟨#[]⟩ : ByteArray)) := bc BK227 2; have hfz68_0 := blk_frozen BK227.out 0; have hfz68_1 := blk_frozen BK227.out 1; have hfz68_2 := blk_frozen BK227.out 2))
           refine bodyPost_ret (results_ct rfl _ _ gb227 27 #[.int .u8 a1_0, .int .u64 (Go.bits .and .u64 a1_1 a2_1), .string (⟨#[]⟩ : ByteArray)] (0, 0) _ rfl (by (with_reducible repeat (first | refine blk_drewN ?_ _ | refine blk_drew ?_ | refine blk_alloc ?_ _)); refine blk_put (cs := #[.int .u8 a1_0, .int .u64 (Go.bits .and .u64 a1_1 a2_1), .string (⟨#[]⟩ : ByteArray)]) ?_ 2 _ rfl; (with_reducible repeat (first | refine blk_drewN ?_ _ | refine blk_drew ?_ | refine blk_alloc ?_ _)); refine blk_put (cs := #[.int .u8 a1_0, .int .u64 0, .string (⟨#[]⟩ : ByteArray)]) ?_ 1 _ rfl; (with_reducible repeat (first | refine blk_drewN ?_ _ | refine blk_drew ?_ | refine blk_alloc ?_ _)); refine blk_put (cs := #[.int .u8 0, .int .u64 0, .string (⟨#[]⟩ : ByteArray)]) ?_ 0 _ rfl; (with_reducible repeat (first | refine blk_drewN ?_ _ | refine blk_drew ?_ | refine blk_alloc ?_ _)); refine blk_far ?_ NB227_234.out _; (with_reducible repeat (first | refine blk_drewN ?_ _ | refine blk_drew ?_ | refine blk_alloc ?_ _)); refine blk_far ?_ NB227_234.out _; (with_reducible repeat (first | refine blk_drewN ?_ _ | refine blk_drew ?_ | refine blk_alloc ?_ _)); refine blk_far ?_ NB227_234.out _; (with_reducible repeat (first | refine blk_drewN ?_ _ | refine blk_drew ?_ | refine blk_alloc ?_ _)); refine blk_far ?_ NB227_234.out _; (with_reducible repeat (first | refine blk_drewN ?_ _ | refine blk_drew ?_ | refine blk_alloc ?_ _)); exact BK227.out) Try.underlying27 rfl (by kernel_rfl)) rfl ?_
           exact ⟨by first | rfl | (simp [errW_none, errW_some] <;> rfl) | (simp [*, errW_none, errW_some] <;> rfl), bs HB⟩
          ·rw [if_neg c56] at H
           have c56b0 : (a0 == 6) = false := beq_eq_false_iff_ne.mpr c56
           have c56b1 : (a0 != 6) = true := bne_iff_ne.mpr c56
           by_cases c69 : a0 = 7
           ·rw [if_pos c69] at H
            have c69b0 : (a0 == 7) = true := beq_iff_eq.mpr c69
            have c69b1 : (a0 != 7) = false := bne_eq_false_iff_eq.mpr c69
            clear c69
            simp only [Option.some.injEq, Prod.mk.injEq] at H
            obtain ⟨rfl, rfl, rfl, rfl⟩ := H
            have hnb70 := NB225_226.out
            have hnc70 := NB226_225.out
            have hnb71 := NB225_227.out
            have hnc71 := NB227_225.out
            have hcz72_0 : wc.cell? ⟨gb225, 0, none⟩ = some (.int .u8 a1_0) := bc BK225 0
            have hcz72_1 : wc.cell? ⟨gb225, 1, none⟩ = some (.int .u64 a1_1) := bc BK225 1
            have hcz72_2 : wc.cell? ⟨gb225, 2, none⟩ = some (.string a1_2) := bc BK225 2
            have hfz72_0 := blk_frozen BK225.out 0
            have hfz72_1 := blk_frozen BK225.out 1
            have hfz72_2 := blk_frozen BK225.out 2
            go_wp2_with (first | ((with_reducible refine gate_dst (N := 9) rfl ?_); refine box_event ?hg (N := 9) ?hd (cs := #[.int .u8 0, .int .u64 0, .string (⟨#[]⟩ : ByteArray)]) (t := 27) ?hr ?_; (case hd => rfl); (case hg => rfl); (case hr => first | (go_simp; done) | (go_simp; rfl)); intro gb234 hg w73 hbox hb; have n0_ := kb BK225 hb; have n1_ := kb BK226 hb; have n2_ := kb BK227 hb; have n3_ := bt HB hb; have n4_ := Aside0.mk (hbox); have n5_ := gs hg HB; have n6_ := gs hg HB; have n7_ := nl hg BK225; have n8_ := ng hg BK225; have n9_ := nl hg BK226; have n10_ := ng hg BK226; have n11_ := nl hg BK227; have n12_ := ng hg BK227; clear BK225; clear BK226; clear BK227; clear HB; have BK225 := n0_; have BK226 := n1_; have BK227 := n2_; have HB := n3_; have BK234 := n4_; have GW234 := n5_; have GE234 := n6_; have NB225_234 := n7_; have NB234_225 := n8_; have NB226_234 := n9_; have NB234_226 := n10_; have NB227_234 := n11_; have NB234_227 := n12_; clear n0_ n1_ n2_ n3_ n4_ n5_ n6_ n7_ n8_ n9_ n10_ n11_ n12_; clear hb hbox hg; have hnb74 := NB234_225.out; have hnc74 := NB225_234.out; have hnb75 := NB234_226.out; have hnc75 := NB226_234.out; have hnb76 := NB234_227.out; have hnc76 := NB227_234.out; have hcz77_0 : w73.cell? ⟨gb234, 0, none⟩ = some (.int .u8 0) := bc BK234 0; have hcz77_1 : w73.cell? ⟨gb234, 1, none⟩ = some (.int .u64 0) := bc BK234 1; have hcz77_2 : w73.cell? ⟨gb234, 2, none⟩ = some (.string (⟨#[]⟩ : ByteArray)) := bc BK234 2; have hfz77_0 := blk_frozen BK234.out 0; have hfz77_1 := blk_frozen BK234.out 1; have hfz77_2 := blk_frozen BK234.out 2; have hcz78_0 : w73.cell? ⟨gb225, 0, none⟩ = some (.int .u8 a1_0) := bc BK225 0; have hcz78_1 : w73.cell? ⟨gb225, 1, none⟩ = some (.int .u64 a1_1) := bc BK225 1; have hcz78_2 : w73.cell? ⟨gb225, 2, none⟩ = some (.string a1_2) := bc BK225 2; have hfz78_0 := blk_frozen BK225.out 0; have hfz78_1 := blk_frozen BK225.out 1; have hfz78_2 := blk_frozen BK225.out 2; have hnb79 := NB226_227.out; have hnc79 := NB227_226.out; have hcz80_0 : w73.cell? ⟨gb226, 0, none⟩ = some (.int .u8 a2_0) := bc BK226 0; have hcz80_1 : w73.cell? ⟨gb226, 1, none⟩ = some (.int .u64 a2_1) := bc BK226 1; have hcz80_2 : w73.cell? ⟨gb226, 2, none⟩ = some (.string a2_2) := bc BK226 2; have hfz80_0 := blk_frozen BK226.out 0; have hfz80_1 := blk_frozen BK226.out 1; have hfz80_2 := blk_frozen BK226.out 2; have hcz81_0 : w73.cell? ⟨gb227, 0, none⟩ = some (.int .u8 0) := bc BK227 0; have hcz81_1 : w73.cell? ⟨gb227, 1, none⟩ = some (.int .u64 0) := bc BK227 1; have hcz81_2 : w73.cell? ⟨gb227, 2, none⟩ = some (.string (⟨#[]⟩ : ByteArray)) := bc BK227 2; have hfz81_0 := blk_frozen BK227.out 0; have hfz81_1 := blk_frozen BK227.out 1; have hfz81_2 := blk_frozen BK227.out 2))
            refine bodyPost_ret (results_ct rfl _ _ gb227 27 #[.int .u8 a1_0, .int .u64 (Go.bits .or .u64 a1_1 a2_1), .string (⟨#[]⟩ : ByteArray)] (0, 0) _ rfl (by (with_reducible repeat (first | refine blk_drewN ?_ _ | refine blk_drew ?_ | refine blk_alloc ?_ _)); refine blk_put (cs := #[.int .u8 a1_0, .int .u64 (Go.bits .or .u64 a1_1 a2_1), .string (⟨#[]⟩ : ByteArray)]) ?_ 2 _ rfl; (with_reducible repeat (first | refine blk_drewN ?_ _ | refine blk_drew ?_ | refine blk_alloc ?_ _)); refine blk_put (cs := #[.int .u8 a1_0, .int .u64 0, .string (⟨#[]⟩ : ByteArray)]) ?_ 1 _ rfl; (with_reducible repeat (first | refine blk_drewN ?_ _ | refine blk_drew ?_ | refine blk_alloc ?_ _)); refine blk_put (cs := #[.int .u8 0, .int .u64 0, .string (⟨#[]⟩ : ByteArray)]) ?_ 0 _ rfl; (with_reducible repeat (first | refine blk_drewN ?_ _ | refine blk_drew ?_ | refine blk_alloc ?_ _)); refine blk_far ?_ NB227_234.out _; (with_reducible repeat (first | refine blk_drewN ?_ _ | refine blk_drew ?_ | refine blk_alloc ?_ _)); refine blk_far ?_ NB227_234.out _; (with_reducible repeat (first | refine blk_drewN ?_ _ | refine blk_drew ?_ | refine blk_alloc ?_ _)); refine blk_far ?_ NB227_234.out _; (with_reducible repeat (first | refine blk_drewN ?_ _ | refine blk_drew ?_ | refine blk_alloc ?_ _)); refine blk_far ?_ NB227_234.out _; (with_reducible repeat (first | refine blk_drewN ?_ _ | refine blk_drew ?_ | refine blk_alloc ?_ _)); exact BK227.out) Try.underlying27 rfl (by kernel_rfl)) rfl ?_
            exact ⟨by first | rfl | (simp [errW_none, errW_some] <;> rfl) | (simp [*, errW_none, errW_some] <;> rfl), bs HB⟩
           ·rw [if_neg c69] at H
            have c69b0 : (a0 == 7) = false := beq_eq_false_iff_ne.mpr c69
            have c69b1 : (a0 != 7) = true := bne_iff_ne.mpr c69
            simp only [Option.some.injEq, Prod.mk.injEq] at H
            obtain ⟨rfl, rfl, rfl, rfl⟩ := H
            have hnb82 := NB225_226.out
            have hnc82 := NB226_225.out
            have hnb83 := NB225_227.out
            have hnc83 := NB227_225.out
            have hcz84_0 : wc.cell? ⟨gb225, 0, none⟩ = some (.int .u8 a1_0) := bc BK225 0
            have hcz84_1 : wc.cell? ⟨gb225, 1, none⟩ = some (.int .u64 a1_1) := bc BK225 1
            have hcz84_2 : wc.cell? ⟨gb225, 2, none⟩ = some (.string a1_2) := bc BK225 2
            have hfz84_0 := blk_frozen BK225.out 0
            have hfz84_1 := blk_frozen BK225.out 1
            have hfz84_2 := blk_frozen BK225.out 2
            go_wp2_with (first | ((with_reducible refine gate_dst (N := 9) rfl ?_); refine box_event ?hg (N := 9) ?hd (cs := #[.int .u8 0, .int .u64 0, .string (⟨#[]⟩ : ByteArray)]) (t := 27) ?hr ?_; (case hd => rfl); (case hg => rfl); (case hr => first | (go_simp; done) | (go_simp; rfl)); intro gb234 hg w85 hbox hb; have n0_ := kb BK225 hb; have n1_ := kb BK226 hb; have n2_ := kb BK227 hb; have n3_ := bt HB hb; have n4_ := Aside0.mk (hbox); have n5_ := gs hg HB; have n6_ := gs hg HB; have n7_ := nl hg BK225; have n8_ := ng hg BK225; have n9_ := nl hg BK226; have n10_ := ng hg BK226; have n11_ := nl hg BK227; have n12_ := ng hg BK227; clear BK225; clear BK226; clear BK227; clear HB; have BK225 := n0_; have BK226 := n1_; have BK227 := n2_; have HB := n3_; have BK234 := n4_; have GW234 := n5_; have GE234 := n6_; have NB225_234 := n7_; have NB234_225 := n8_; have NB226_234 := n9_; have NB234_226 := n10_; have NB227_234 := n11_; have NB234_227 := n12_; clear n0_ n1_ n2_ n3_ n4_ n5_ n6_ n7_ n8_ n9_ n10_ n11_ n12_; clear hb hbox hg; have hnb86 := NB234_225.out; have hnc86 := NB225_234.out; have hnb87 := NB234_226.out; have hnc87 := NB226_234.out; have hnb88 := NB234_227.out; have hnc88 := NB227_234.out; have hcz89_0 : w85.cell? ⟨gb234, 0, none⟩ = some (.int .u8 0) := bc BK234 0; have hcz89_1 : w85.cell? ⟨gb234, 1, none⟩ = some (.int .u64 0) := bc BK234 1; have hcz89_2 : w85.cell? ⟨gb234, 2, none⟩ = some (.string (⟨#[]⟩ : ByteArray)) := bc BK234 2; have hfz89_0 := blk_frozen BK234.out 0; have hfz89_1 := blk_frozen BK234.out 1; have hfz89_2 := blk_frozen BK234.out 2; have hcz90_0 : w85.cell? ⟨gb225, 0, none⟩ = some (.int .u8 a1_0) := bc BK225 0; have hcz90_1 : w85.cell? ⟨gb225, 1, none⟩ = some (.int .u64 a1_1) := bc BK225 1; have hcz90_2 : w85.cell? ⟨gb225, 2, none⟩ = some (.string a1_2) := bc BK225 2; have hfz90_0 := blk_frozen BK225.out 0; have hfz90_1 := blk_frozen BK225.out 1; have hfz90_2 := blk_frozen BK225.out 2; have hnb91 := NB226_227.out; have hnc91 := NB227_226.out; have hcz92_0 : w85.cell? ⟨gb226, 0, none⟩ = some (.int .u8 a2_0) := bc BK226 0; have hcz92_1 : w85.cell? ⟨gb226, 1, none⟩ = some (.int .u64 a2_1) := bc BK226 1; have hcz92_2 : w85.cell? ⟨gb226, 2, none⟩ = some (.string a2_2) := bc BK226 2; have hfz92_0 := blk_frozen BK226.out 0; have hfz92_1 := blk_frozen BK226.out 1; have hfz92_2 := blk_frozen BK226.out 2; have hcz93_0 : w85.cell? ⟨gb227, 0, none⟩ = some (.int .u8 0) := bc BK227 0; have hcz93_1 : w85.cell? ⟨gb227, 1, none⟩ = some (.int .u64 0) := bc BK227 1; have hcz93_2 : w85.cell? ⟨gb227, 2, none⟩ = some (.string (⟨#[]⟩ : ByteArray)) := bc BK227 2; have hfz93_0 := blk_frozen BK227.out 0; have hfz93_1 := blk_frozen BK227.out 1; have hfz93_2 := blk_frozen BK227.out 2))
            refine bodyPost_ret (results_ct rfl _ _ gb227 27 #[.int .u8 a1_0, .int .u64 (Go.bits .xor .u64 a1_1 a2_1), .string (⟨#[]⟩ : ByteArray)] (0, 0) _ rfl (by (with_reducible repeat (first | refine blk_drewN ?_ _ | refine blk_drew ?_ | refine blk_alloc ?_ _)); refine blk_put (cs := #[.int .u8 a1_0, .int .u64 (Go.bits .xor .u64 a1_1 a2_1), .string (⟨#[]⟩ : ByteArray)]) ?_ 2 _ rfl; (with_reducible repeat (first | refine blk_drewN ?_ _ | refine blk_drew ?_ | refine blk_alloc ?_ _)); refine blk_put (cs := #[.int .u8 a1_0, .int .u64 0, .string (⟨#[]⟩ : ByteArray)]) ?_ 1 _ rfl; (with_reducible repeat (first | refine blk_drewN ?_ _ | refine blk_drew ?_ | refine blk_alloc ?_ _)); refine blk_put (cs := #[.int .u8 0, .int .u64 0, .string (⟨#[]⟩ : ByteArray)]) ?_ 0 _ rfl; (with_reducible repeat (first | refine blk_drewN ?_ _ | refine blk_drew ?_ | refine blk_alloc ?_ _)); refine blk_far ?_ NB227_234.out _; (with_reducible repeat (first | refine blk_drewN ?_ _ | refine blk_drew ?_ | refine blk_alloc ?_ _)); refine blk_far ?_ NB227_234.out _; (with_reducible repeat (first | refine blk_drewN ?_ _ | refine blk_drew ?_ | refine blk_alloc ?_ _)); refine blk_far ?_ NB227_234.out _; (with_reducible repeat (first | refine blk_drewN ?_ _ | refine blk_drew ?_ | refine blk_alloc ?_ _)); refine blk_far ?_ NB227_234.out _; (with_reducible repeat (first | refine blk_drewN ?_ _ | refine blk_drew ?_ | refine blk_alloc ?_ _)); exact BK227.out) Try.underlying27 rfl (by kernel_rfl)) rfl ?_
            exact ⟨by first | rfl | (simp [errW_none, errW_some] <;> rfl) | (simp [*, errW_none, errW_some] <;> rfl), bs HB⟩
         ·replace c55 := Bool.eq_false_iff.mpr c55
          subst c55
          have H1 : (if a0 < 1 then (value_Reckon.j3 kj42 a0 (a1_0 == a2_0) true a1_0 a1_1 a1_2 a2_0 a2_1 a2_2) else (value_Reckon.j3 kj42 a0 (a1_0 == a2_0) (decide (a0 > 5)) a1_0 a1_1 a1_2 a2_0 a2_1 a2_2)) = some (r1, r2, r3, r4) := by rw [if_neg (show ¬ (false = true) by decide)] at H; exact H
          clear H
          have H := H1
          clear H1
          have HC94 := Aside0.mk H
          clear H
          go_upto_region 15 with (fail)
          go_cut [86] (fun v86 wc => ∃ (kq : Nat) (x86_93 : Bool), v86 = .bool x86_93 ∧ Aside0 (value_Reckon.j3 kq a0 (a1_0 == a2_0) x86_93 a1_0 a1_1 a1_2 a2_0 a2_1 a2_2 = some (r1, r2, r3, r4)) ∧ Aside0 (kq ≤ kj42) ∧ Aside0 (wc.heap[gb225]? = some (.cells #[.int .u8 a1_0, .int .u64 a1_1, .string a1_2] 27 (0, 0))) ∧ Aside0 (wc.heap[gb226]? = some (.cells #[.int .u8 a2_0, .int .u64 a2_1, .string a2_2] 27 (0, 0))) ∧ Aside0 (wc.heap[gb227]? = some (.cells #[.int .u8 0, .int .u64 0, .string (⟨#[]⟩ : ByteArray)] 27 (0, 0))) ∧ Aside0 (Below w.heap.size w wc))
          case first =>
           have H := HC94.out
           clear HC94
           by_cases c95 : a0 < 1
           ·rw [if_pos c95] at H
            have c95b0 : decide (a0 < 1) = true := decide_eq_true c95
            clear c95
            (first | rw [c95b0] | (simp only [i64_w, i32_w]; rw [c95b0]) | skip)
            have H' := Aside0.mk H
            clear H
            go_wp2
            go_meet
            case rel => (try rw [show decide (a0 < 1) = true from by first | assumption | exact decide_eq_true (by assumption)]); exact ⟨_, (true), (by first | rfl | (simp; done) | (simp [*]; done)), H', ⟨by have := HJ3.out; have := HJ30.out; have := HJ42.out; first | omega | exact Nat.le_refl _⟩, ⟨by (with_reducible repeat (first | refine blk_drewN ?_ _ | refine blk_drew ?_ | refine blk_alloc ?_ _)); exact BK225.out⟩, ⟨by (with_reducible repeat (first | refine blk_drewN ?_ _ | refine blk_drew ?_ | refine blk_alloc ?_ _)); exact BK226.out⟩, ⟨by (with_reducible repeat (first | refine blk_drewN ?_ _ | refine blk_drew ?_ | refine blk_alloc ?_ _)); exact BK227.out⟩, ⟨bs HB⟩⟩
           ·rw [if_neg c95] at H
            have c95b0 : decide (a0 < 1) = false := decide_eq_false c95
            clear c95
            (first | rw [c95b0] | (simp only [i64_w, i32_w]; rw [c95b0]) | skip)
            have H' := Aside0.mk H
            clear H
            go_wp2
            go_meet
            case rel => (try rw [show decide (a0 < 1) = false from by first | assumption | exact decide_eq_false (by assumption)]); exact ⟨_, (decide (a0 > 5)), (by first | rfl | (simp; done) | (simp [*]; done)), H', ⟨by have := HJ3.out; have := HJ30.out; have := HJ42.out; first | omega | exact Nat.le_refl _⟩, ⟨by (with_reducible repeat (first | refine blk_drewN ?_ _ | refine blk_drew ?_ | refine blk_alloc ?_ _)); exact BK225.out⟩, ⟨by (with_reducible repeat (first | refine blk_drewN ?_ _ | refine blk_drew ?_ | refine blk_alloc ?_ _)); exact BK226.out⟩, ⟨by (with_reducible repeat (first | refine blk_drewN ?_ _ | refine blk_drew ?_ | refine blk_alloc ?_ _)); exact BK227.out⟩, ⟨bs HB⟩⟩
          case rest =>
           clear HC94
           (try clear c1);(try clear c2);(try clear p2);(try clear c3);(try clear c4);(try clear c5);(try clear c6);(try clear c7);(try clear c8);(try clear c9);(try clear c11);(try clear c14);(try clear c16);(try clear c17);(try clear c20);(try clear c23);(try clear c24);(try clear c27);(try clear c28);(try clear c29);(try clear c30);(try clear c32);(try clear c32b0);(try clear c33);(try clear c33b0);(try clear c34);(try clear c36);(try clear c37);(try clear c39);(try clear c44);(try clear c44b0);(try clear c45);(try clear c45b0);(try clear c46);(try clear c46b0);(try clear c46b1);(try clear c46b2);(try clear c48);(try clear c49);(try clear c50);(try clear c52);(try clear c53);(try clear c55);(try clear c56);(try clear c56b0);(try clear c56b1);(try clear c57);(try clear c58);(try clear c61);(try clear c62);(try clear c63);(try clear c66);(try clear c69);(try clear c69b0);(try clear c69b1);(try clear c70);(try clear c71);(try clear c74);(try clear c75);(try clear c76);(try clear c79);(try clear c82);(try clear c83);(try clear c86);(try clear c87);(try clear c88);(try clear c91);(try clear c95);(try clear c95b0);(try clear hcz10_0);(try clear hcz10_1);(try clear hcz10_2);(try clear hcz12_0);(try clear hcz12_1);(try clear hcz12_2);(try clear hcz18_0);(try clear hcz18_1);(try clear hcz18_2);(try clear hcz21_0);(try clear hcz21_1);(try clear hcz21_2);(try clear hcz25_0);(try clear hcz25_1);(try clear hcz25_2);(try clear hcz30_0);(try clear hcz30_1);(try clear hcz30_2);(try clear hcz38_0);(try clear hcz38_1);(try clear hcz38_2);(try clear hcz40_0);(try clear hcz40_1);(try clear hcz40_2);(try clear hcz42_0);(try clear hcz42_1);(try clear hcz42_2);(try clear hcz51_0);(try clear hcz51_1);(try clear hcz51_2);(try clear hcz54_0);(try clear hcz54_1);(try clear hcz54_2);(try clear hcz59_0);(try clear hcz59_1);(try clear hcz59_2);(try clear hcz64_0);(try clear hcz64_1);(try clear hcz64_2);(try clear hcz65_0);(try clear hcz65_1);(try clear hcz65_2);(try clear hcz67_0);(try clear hcz67_1);(try clear hcz67_2);(try clear hcz68_0);(try clear hcz68_1);(try clear hcz68_2);(try clear hcz72_0);(try clear hcz72_1);(try clear hcz72_2);(try clear hcz77_0);(try clear hcz77_1);(try clear hcz77_2);(try clear hcz78_0);(try clear hcz78_1);(try clear hcz78_2);(try clear hcz80_0);(try clear hcz80_1);(try clear hcz80_2);(try clear hcz81_0);(try clear hcz81_1);(try clear hcz81_2);(try clear hcz84_0);(try clear hcz84_1);(try clear hcz84_2);(try clear hcz89_0);(try clear hcz89_1);(try clear hcz89_2);(try clear hcz90_0);(try clear hcz90_1);(try clear hcz90_2);(try clear hcz92_0);(try clear hcz92_1);(try clear hcz92_2);(try clear hcz93_0);(try clear hcz93_1);(try clear hcz93_2);(try clear hfz10_0);(try clear hfz10_1);(try clear hfz10_2);(try clear hfz12_0);(try clear hfz12_1);(try clear hfz12_2);(try clear hfz18_0);(try clear hfz18_1);(try clear hfz18_2);(try clear hfz21_0);(try clear hfz21_1);(try clear hfz21_2);(try clear hfz25_0);(try clear hfz25_1);(try clear hfz25_2);(try clear hfz30_0);(try clear hfz30_1);(try clear hfz30_2);(try clear hfz38_0);(try clear hfz38_1);(try clear hfz38_2);(try clear hfz40_0);(try clear hfz40_1);(try clear hfz40_2);(try clear hfz42_0);(try clear hfz42_1);(try clear hfz42_2);(try clear hfz51_0);(try clear hfz51_1);(try clear hfz51_2);(try clear hfz54_0);(try clear hfz54_1);(try clear hfz54_2);(try clear hfz59_0);(try clear hfz59_1);(try clear hfz59_2);(try clear hfz64_0);(try clear hfz64_1);(try clear hfz64_2);(try clear hfz65_0);(try clear hfz65_1);(try clear hfz65_2);(try clear hfz67_0);(try clear hfz67_1);(try clear hfz67_2);(try clear hfz68_0);(try clear hfz68_1);(try clear hfz68_2);(try clear hfz72_0);(try clear hfz72_1);(try clear hfz72_2);(try clear hfz77_0);(try clear hfz77_1);(try clear hfz77_2);(try clear hfz78_0);(try clear hfz78_1);(try clear hfz78_2);(try clear hfz80_0);(try clear hfz80_1);(try clear hfz80_2);(try clear hfz81_0);(try clear hfz81_1);(try clear hfz81_2);(try clear hfz84_0);(try clear hfz84_1);(try clear hfz84_2);(try clear hfz89_0);(try clear hfz89_1);(try clear hfz89_2);(try clear hfz90_0);(try clear hfz90_1);(try clear hfz90_2);(try clear hfz92_0);(try clear hfz92_1);(try clear hfz92_2);(try clear hfz93_0);(try clear hfz93_1);(try clear hfz93_2);(try clear p2)
           obtain ⟨kq, x86_93, rfl, HA, HJ93, BK225, BK226, BK227, HB⟩ := hcut
           cases kq with
           | zero => exact absurd HA.out (by simp [value_Reckon.j3])
           | succ kj93 =>
            have H := HA.out
            clear HA
            simp only [value_Reckon.j3] at H
            by_cases c96 : x86_93 = true
            ·subst c96
             have H1 : (some (0, 0, (⟨#[]⟩ : ByteArray), 8)) = some (r1, r2, r3, r4) := by rw [if_pos rfl] at H; exact H
             clear H
             have H := H1
             clear H1
             simp only [Option.some.injEq, Prod.mk.injEq] at H
             obtain ⟨rfl, rfl, rfl, rfl⟩ := H
             have hnb97 := NB227_225.out
             have hnc97 := NB225_227.out
             have hnb98 := NB227_226.out
             have hnc98 := NB226_227.out
             have hcz99_0 : wc.cell? ⟨gb227, 0, none⟩ = some (.int .u8 0) := bc BK227 0
             have hcz99_1 : wc.cell? ⟨gb227, 1, none⟩ = some (.int .u64 0) := bc BK227 1
             have hcz99_2 : wc.cell? ⟨gb227, 2, none⟩ = some (.string (⟨#[]⟩ : ByteArray)) := bc BK227 2
             have hfz99_0 := blk_frozen BK227.out 0
             have hfz99_1 := blk_frozen BK227.out 1
             have hfz99_2 := blk_frozen BK227.out 2
             go_wp2
             refine bodyPost_ret (results_ct rfl _ _ gb227 27 #[.int .u8 0, .int .u64 0, .string (⟨#[]⟩ : ByteArray)] (0, 0) _ rfl (by (with_reducible repeat (first | refine blk_drewN ?_ _ | refine blk_drew ?_ | refine blk_alloc ?_ _)); refine blk_put (cs := #[.int .u8 0, .int .u64 0, .string (⟨#[]⟩ : ByteArray)]) ?_ 2 _ rfl; (with_reducible repeat (first | refine blk_drewN ?_ _ | refine blk_drew ?_ | refine blk_alloc ?_ _)); refine blk_put (cs := #[.int .u8 0, .int .u64 0, .string (⟨#[]⟩ : ByteArray)]) ?_ 1 _ rfl; (with_reducible repeat (first | refine blk_drewN ?_ _ | refine blk_drew ?_ | refine blk_alloc ?_ _)); refine blk_put (cs := #[.int .u8 0, .int .u64 0, .string (⟨#[]⟩ : ByteArray)]) ?_ 0 _ rfl; (with_reducible repeat (first | refine blk_drewN ?_ _ | refine blk_drew ?_ | refine blk_alloc ?_ _)); exact BK227.out) Try.underlying27 rfl (by kernel_rfl)) rfl ?_
             exact ⟨by first | rfl | (simp [errW_none, errW_some] <;> rfl) | (simp [*, errW_none, errW_some] <;> rfl), bs HB⟩
            ·replace c96 := Bool.eq_false_iff.mpr c96
             subst c96
             have H1 : (if (a1_0 == a2_0) = true then ((value_whole.f a1_0).bind fun t235 => (value_Reckon.j4 kj93 a0 (a1_0 == a2_0) t235 a1_0 a1_1 a1_2 a2_0 a2_1 a2_2)) else (value_Reckon.j4 kj93 a0 (a1_0 == a2_0) false a1_0 a1_1 a1_2 a2_0 a2_1 a2_2)) = some (r1, r2, r3, r4) := by rw [if_neg (show ¬ (false = true) by decide)] at H; exact H
             clear H
             have H := H1
             clear H1
             have HC100 := Aside0.mk H
             clear H
             go_upto_region 17 with (fail)
             go_cut [94] (fun v94 wc => ∃ (kq : Nat) (x94_99 : Bool), v94 = .bool x94_99 ∧ Aside0 (value_Reckon.j4 kq a0 (a1_0 == a2_0) x94_99 a1_0 a1_1 a1_2 a2_0 a2_1 a2_2 = some (r1, r2, r3, r4)) ∧ Aside0 (kq ≤ kj93) ∧ Aside0 (wc.heap[gb225]? = some (.cells #[.int .u8 a1_0, .int .u64 a1_1, .string a1_2] 27 (0, 0))) ∧ Aside0 (wc.heap[gb226]? = some (.cells #[.int .u8 a2_0, .int .u64 a2_1, .string a2_2] 27 (0, 0))) ∧ Aside0 (wc.heap[gb227]? = some (.cells #[.int .u8 0, .int .u64 0, .string (⟨#[]⟩ : ByteArray)] 27 (0, 0))) ∧ Aside0 (Below w.heap.size w wc))
             case first =>
              have H := HC100.out
              clear HC100
              by_cases c101 : (a1_0 == a2_0) = true
              ·rw [if_pos c101] at H
               have c101b0 : (a1_0 == a2_0) = true := c101
               (try (have c101b1 : decide (a1_0 = a2_0) = true := by simpa using c101))
               (try (have c101b2 : (a1_0 == a2_0) = true := by simpa using c101))
               clear c101
               (first | rw [c101b0] | (simp only [i64_w, i32_w]; rw [c101b0]) | skip)
               replace H := Option.bind_eq_some_iff.mp H
               obtain ⟨t235, A1020, H⟩ := H
               replace H : (value_Reckon.j4 kj93 a0 (a1_0 == a2_0) t235 a1_0 a1_1 a1_2 a2_0 a2_1 a2_2) = some (r1, r2, r3, r4) := H
               have A102 := Aside0.mk A1020
               clear A1020
               have H' := Aside0.mk H
               clear H
               have hnb103 := NB225_226.out
               have hnc103 := NB226_225.out
               have hnb104 := NB225_227.out
               have hnc104 := NB227_225.out
               have hcz105_0 : wc.cell? ⟨gb225, 0, none⟩ = some (.int .u8 a1_0) := bc BK225 0
               have hcz105_1 : wc.cell? ⟨gb225, 1, none⟩ = some (.int .u64 a1_1) := bc BK225 1
               have hcz105_2 : wc.cell? ⟨gb225, 2, none⟩ = some (.string a1_2) := bc BK225 2
               have hfz105_0 := blk_frozen BK225.out 0
               have hfz105_1 := blk_frozen BK225.out 1
               have hfz105_2 := blk_frozen BK225.out 2
               go_wp2_with (first | (go_at_call 38; (with_reducible refine (value_whole.calls a1_0 t235 _ A102.out).mono ?_); rintro e w' ⟨rfl, ⟨nd, rfl⟩⟩))
               (first | go_meet | (refine Met.intro ?_; go_step; (repeat apply Exists.intro); refine ⟨?rel, ?fr⟩; (case fr => (rw [show (a1_0 == a2_0) = true from by assumption]) <;> exact rfl)))
               case rel => exact ⟨_, (t235), (by first | rfl | (simp; done) | (simp [*]; done)), H', ⟨by have := HJ3.out; have := HJ30.out; have := HJ42.out; have := HJ93.out; first | omega | exact Nat.le_refl _⟩, ⟨by (with_reducible repeat (first | refine blk_drewN ?_ _ | refine blk_drew ?_ | refine blk_alloc ?_ _)); exact BK225.out⟩, ⟨by (with_reducible repeat (first | refine blk_drewN ?_ _ | refine blk_drew ?_ | refine blk_alloc ?_ _)); exact BK226.out⟩, ⟨by (with_reducible repeat (first | refine blk_drewN ?_ _ | refine blk_drew ?_ | refine blk_alloc ?_ _)); exact BK227.out⟩, ⟨bs HB⟩⟩
              ·rw [if_neg c101] at H
               have c101b0 : (a1_0 == a2_0) = false := by simpa using c101
               (try (have c101b1 : decide (a1_0 = a2_0) = false := by simpa using c101))
               (try (have c101b2 : (a1_0 == a2_0) = false := by simpa using c101))
               (try (have c101b3 : ¬ (a1_0 = a2_0) := by simpa using c101))
               clear c101
               (first | rw [c101b0] | (simp only [i64_w, i32_w]; rw [c101b0]) | skip)
               have H' := Aside0.mk H
               clear H
               go_wp2
               (first | go_meet | (refine Met.intro ?_; go_step; (repeat apply Exists.intro); refine ⟨?rel, ?fr⟩; (case fr => (rw [show (a1_0 == a2_0) = false from by assumption]) <;> exact rfl)))
               case rel => exact ⟨_, (false), (by first | rfl | (simp; done) | (simp [*]; done)), H', ⟨by have := HJ3.out; have := HJ30.out; have := HJ42.out; have := HJ93.out; first | omega | exact Nat.le_refl _⟩, ⟨by (with_reducible repeat (first | refine blk_drewN ?_ _ | refine blk_drew ?_ | refine blk_alloc ?_ _)); exact BK225.out⟩, ⟨by (with_reducible repeat (first | refine blk_drewN ?_ _ | refine blk_drew ?_ | refine blk_alloc ?_ _)); exact BK226.out⟩, ⟨by (with_reducible repeat (first | refine blk_drewN ?_ _ | refine blk_drew ?_ | refine blk_alloc ?_ _)); exact BK227.out⟩, ⟨bs HB⟩⟩
             case rest =>
              clear HC100
              (try clear c1);(try clear c2);(try clear p2);(try clear c3);(try clear c4);(try clear c5);(try clear c6);(try clear c7);(try clear c8);(try clear c9);(try clear c10);(try clear c11);(try clear c14);(try clear c16);(try clear c17);(try clear c20);(try clear c23);(try clear c24);(try clear c27);(try clear c28);(try clear c29);(try clear c30);(try clear c32);(try clear c32b0);(try clear c33);(try clear c33b0);(try clear c34);(try clear c36);(try clear c37);(try clear c39);(try clear c44);(try clear c44b0);(try clear c45);(try clear c45b0);(try clear c46);(try clear c46b0);(try clear c46b1);(try clear c46b2);(try clear c48);(try clear c49);(try clear c50);(try clear c52);(try clear c53);(try clear c55);(try clear c56);(try clear c56b0);(try clear c56b1);(try clear c57);(try clear c58);(try clear c61);(try clear c62);(try clear c63);(try clear c66);(try clear c69);(try clear c69b0);(try clear c69b1);(try clear c70);(try clear c71);(try clear c74);(try clear c75);(try clear c76);(try clear c79);(try clear c82);(try clear c83);(try clear c86);(try clear c87);(try clear c88);(try clear c91);(try clear c95);(try clear c95b0);(try clear c96);(try clear c97);(try clear c98);(try clear c101);(try clear c101b0);(try clear c101b1);(try clear c101b2);(try clear c103);(try clear c104);(try clear hcz105_0);(try clear hcz105_1);(try clear hcz105_2);(try clear hcz10_0);(try clear hcz10_1);(try clear hcz10_2);(try clear hcz12_0);(try clear hcz12_1);(try clear hcz12_2);(try clear hcz18_0);(try clear hcz18_1);(try clear hcz18_2);(try clear hcz21_0);(try clear hcz21_1);(try clear hcz21_2);(try clear hcz25_0);(try clear hcz25_1);(try clear hcz25_2);(try clear hcz30_0);(try clear hcz30_1);(try clear hcz30_2);(try clear hcz38_0);(try clear hcz38_1);(try clear hcz38_2);(try clear hcz40_0);(try clear hcz40_1);(try clear hcz40_2);(try clear hcz42_0);(try clear hcz42_1);(try clear hcz42_2);(try clear hcz51_0);(try clear hcz51_1);(try clear hcz51_2);(try clear hcz54_0);(try clear hcz54_1);(try clear hcz54_2);(try clear hcz59_0);(try clear hcz59_1);(try clear hcz59_2);(try clear hcz64_0);(try clear hcz64_1);(try clear hcz64_2);(try clear hcz65_0);(try clear hcz65_1);(try clear hcz65_2);(try clear hcz67_0);(try clear hcz67_1);(try clear hcz67_2);(try clear hcz68_0);(try clear hcz68_1);(try clear hcz68_2);(try clear hcz72_0);(try clear hcz72_1);(try clear hcz72_2);(try clear hcz77_0);(try clear hcz77_1);(try clear hcz77_2);(try clear hcz78_0);(try clear hcz78_1);(try clear hcz78_2);(try clear hcz80_0);(try clear hcz80_1);(try clear hcz80_2);(try clear hcz81_0);(try clear hcz81_1);(try clear hcz81_2);(try clear hcz84_0);(try clear hcz84_1);(try clear hcz84_2);(try clear hcz89_0);(try clear hcz89_1);(try clear hcz89_2);(try clear hcz90_0);(try clear hcz90_1);(try clear hcz90_2);(try clear hcz92_0);(try clear hcz92_1);(try clear hcz92_2);(try clear hcz93_0);(try clear hcz93_1);(try clear hcz93_2);(try clear hcz99_0);(try clear hcz99_1);(try clear hcz99_2);(try clear hfz105_0);(try clear hfz105_1);(try clear hfz105_2);(try clear hfz10_0);(try clear hfz10_1);(try clear hfz10_2);(try clear hfz12_0);(try clear hfz12_1);(try clear hfz12_2);(try clear hfz18_0);(try clear hfz18_1);(try clear hfz18_2);(try clear hfz21_0);(try clear hfz21_1);(try clear hfz21_2);(try clear hfz25_0);(try clear hfz25_1);(try clear hfz25_2);(try clear hfz30_0);(try clear hfz30_1);(try clear hfz30_2);(try clear hfz38_0);(try clear hfz38_1);(try clear hfz38_2);(try clear hfz40_0);(try clear hfz40_1);(try clear hfz40_2);(try clear hfz42_0);(try clear hfz42_1);(try clear hfz42_2);(try clear hfz51_0);(try clear hfz51_1);(try clear hfz51_2);(try clear hfz54_0);(try clear hfz54_1);(try clear hfz54_2);(try clear hfz59_0);(try clear hfz59_1);(try clear hfz59_2);(try clear hfz64_0);(try clear hfz64_1);(try clear hfz64_2);(try clear hfz65_0);(try clear hfz65_1);(try clear hfz65_2);(try clear hfz67_0);(try clear hfz67_1);(try clear hfz67_2);(try clear hfz68_0);(try clear hfz68_1);(try clear hfz68_2);(try clear hfz72_0);(try clear hfz72_1);(try clear hfz72_2);(try clear hfz77_0);(try clear hfz77_1);(try clear hfz77_2);(try clear hfz78_0);(try clear hfz78_1);(try clear hfz78_2);(try clear hfz80_0);(try clear hfz80_1);(try clear hfz80_2);(try clear hfz81_0);(try clear hfz81_1);(try clear hfz81_2);(try clear hfz84_0);(try clear hfz84_1);(try clear hfz84_2);(try clear hfz89_0);(try clear hfz89_1);(try clear hfz89_2);(try clear hfz90_0);(try clear hfz90_1);(try clear hfz90_2);(try clear hfz92_0);(try clear hfz92_1);(try clear hfz92_2);(try clear hfz93_0);(try clear hfz93_1);(try clear hfz93_2);(try clear hfz99_0);(try clear hfz99_1);(try clear hfz99_2);(try clear p2)
              obtain ⟨kq, x94_99, rfl, HA, HJ99, BK225, BK226, BK227, HB⟩ := hcut
              cases kq with
              | zero => exact absurd HA.out (by simp [value_Reckon.j4])
              | succ kj99 =>
               have H := HA.out
               clear HA
               simp only [value_Reckon.j4] at H
               by_cases c106 : x94_99 = true
               ·subst c106
                have H1 : ((value_integers.f kj99 a0 a1_0 a1_1 a1_2 a2_0 a2_1 a2_2).bind fun bt236 => (some (bt236.1, bt236.2.1, bt236.2.2.1, bt236.2.2.2))) = some (r1, r2, r3, r4) := by rw [if_pos rfl] at H; exact H
                clear H
                have H := H1
                clear H1
                replace H := Option.bind_eq_some_iff.mp H
                obtain ⟨⟨t236, t237, t238, t239⟩, A1070, H⟩ := H
                replace H : (some (t236, t237, t238, t239)) = some (r1, r2, r3, r4) := H
                have A107 := Aside0.mk A1070
                clear A1070
                simp only [Option.some.injEq, Prod.mk.injEq] at H
                obtain ⟨rfl, rfl, rfl, rfl⟩ := H
                have hnb108 := NB225_226.out
                have hnc108 := NB226_225.out
                have hnb109 := NB225_227.out
                have hnc109 := NB227_225.out
                have hcz110_0 : wc.cell? ⟨gb225, 0, none⟩ = some (.int .u8 a1_0) := bc BK225 0
                have hcz110_1 : wc.cell? ⟨gb225, 1, none⟩ = some (.int .u64 a1_1) := bc BK225 1
                have hcz110_2 : wc.cell? ⟨gb225, 2, none⟩ = some (.string a1_2) := bc BK225 2
                have hfz110_0 := blk_frozen BK225.out 0
                have hfz110_1 := blk_frozen BK225.out 1
                have hfz110_2 := blk_frozen BK225.out 2
                have hnb111 := NB226_227.out
                have hnc111 := NB227_226.out
                have hcz112_0 : wc.cell? ⟨gb226, 0, none⟩ = some (.int .u8 a2_0) := bc BK226 0
                have hcz112_1 : wc.cell? ⟨gb226, 1, none⟩ = some (.int .u64 a2_1) := bc BK226 1
                have hcz112_2 : wc.cell? ⟨gb226, 2, none⟩ = some (.string a2_2) := bc BK226 2
                have hfz112_0 := blk_frozen BK226.out 0
                have hfz112_1 := blk_frozen BK226.out 1
                have hfz112_2 := blk_frozen BK226.out 2
                go_wp2_with (first | ((with_reducible refine gate_callee (f := 56) rfl ?_); refine goesL_ (some 104) rfl rfl Try.func56 (by kernel_rfl) rfl #[.int .i64 a0, .agg #[.int .u8 a1_0, .int .u64 a1_1, .string a1_2], .agg #[.int .u8 a2_0, .int .u64 a2_1, .string a2_2]] rfl (by (try simp only [List.map_toArray, List.map_cons, List.map_nil]); first | done | rfl | (simp only [List.length_drop, List.length_take]; rfl)) ?_; (with_reducible refine (value_integers.calls kj99 a0 a1_0 a1_1 a1_2 a2_0 a2_1 a2_2 t236 t237 t238 t239 _ A107.out).mono ?_); rintro e w113 ⟨rfl, hb⟩; refine ⟨_, rfl, ?_⟩; have n0_ := kb BK225 hb; have n1_ := kb BK226 hb; have n2_ := kb BK227 hb; have n3_ := bt HB hb; clear BK225; clear BK226; clear BK227; clear HB; have BK225 := n0_; have BK226 := n1_; have BK227 := n2_; have HB := n3_; clear n0_ n1_ n2_ n3_; (try clear hb); (try clear hb2); (try clear hk); (try clear hi); have hcz114_0 : w113.cell? ⟨gb227, 0, none⟩ = some (.int .u8 0) := bc BK227 0; have hcz114_1 : w113.cell? ⟨gb227, 1, none⟩ = some (.int .u64 0) := bc BK227 1; have hcz114_2 : w113.cell? ⟨gb227, 2, none⟩ = some (.string (⟨#[]⟩ : ByteArray)) := bc BK227 2; have hfz114_0 := blk_frozen BK227.out 0; have hfz114_1 := blk_frozen BK227.out 1; have hfz114_2 := blk_frozen BK227.out 2))
                refine bodyPost_ret (results_ct rfl _ _ gb227 27 #[.int .u8 t236, .int .u64 t237, .string t238] (0, 0) _ rfl (by (with_reducible repeat (first | refine blk_drewN ?_ _ | refine blk_drew ?_ | refine blk_alloc ?_ _)); refine blk_put (cs := #[.int .u8 t236, .int .u64 t237, .string (⟨#[]⟩ : ByteArray)]) ?_ 2 _ rfl; (with_reducible repeat (first | refine blk_drewN ?_ _ | refine blk_drew ?_ | refine blk_alloc ?_ _)); refine blk_put (cs := #[.int .u8 t236, .int .u64 0, .string (⟨#[]⟩ : ByteArray)]) ?_ 1 _ rfl; (with_reducible repeat (first | refine blk_drewN ?_ _ | refine blk_drew ?_ | refine blk_alloc ?_ _)); refine blk_put (cs := #[.int .u8 0, .int .u64 0, .string (⟨#[]⟩ : ByteArray)]) ?_ 0 _ rfl; (with_reducible repeat (first | refine blk_drewN ?_ _ | refine blk_drew ?_ | refine blk_alloc ?_ _)); exact BK227.out) Try.underlying27 rfl (by kernel_rfl)) rfl ?_
                exact ⟨by first | rfl | (simp [errW_none, errW_some] <;> rfl) | (simp [*, errW_none, errW_some] <;> rfl), bs HB⟩
               ·replace c106 := Bool.eq_false_iff.mpr c106
                subst c106
                have H1 : (if (a1_0 == a2_0) = true then (value_Reckon.j5 kj99 a0 (a1_0 == 18) a1_0 a1_1 a1_2 a2_0 a2_1 a2_2) else (value_Reckon.j5 kj99 a0 false a1_0 a1_1 a1_2 a2_0 a2_1 a2_2)) = some (r1, r2, r3, r4) := by rw [if_neg (show ¬ (false = true) by decide)] at H; exact H
                clear H
                have H := H1
                clear H1
                have HC115 := Aside0.mk H
                clear H
                go_upto_region 19 with (fail)
                go_cut [107] (fun v107 wc => ∃ (kq : Nat) (x107_114 : Bool), v107 = .bool x107_114 ∧ Aside0 (value_Reckon.j5 kq a0 x107_114 a1_0 a1_1 a1_2 a2_0 a2_1 a2_2 = some (r1, r2, r3, r4)) ∧ Aside0 (kq ≤ kj99) ∧ Aside0 (wc.heap[gb225]? = some (.cells #[.int .u8 a1_0, .int .u64 a1_1, .string a1_2] 27 (0, 0))) ∧ Aside0 (wc.heap[gb226]? = some (.cells #[.int .u8 a2_0, .int .u64 a2_1, .string a2_2] 27 (0, 0))) ∧ Aside0 (wc.heap[gb227]? = some (.cells #[.int .u8 0, .int .u64 0, .string (⟨#[]⟩ : ByteArray)] 27 (0, 0))) ∧ Aside0 (Below w.heap.size w wc))
                case first =>
                 have H := HC115.out
                 clear HC115
                 by_cases c116 : (a1_0 == a2_0) = true
                 ·rw [if_pos c116] at H
                  have c116b0 : (a1_0 == a2_0) = true := c116
                  (try (have c116b1 : decide (a1_0 = a2_0) = true := by simpa using c116))
                  (try (have c116b2 : (a1_0 == a2_0) = true := by simpa using c116))
                  clear c116
                  (first | rw [c116b0] | (simp only [i64_w, i32_w]; rw [c116b0]) | skip)
                  have H' := Aside0.mk H
                  clear H
                  have hnb117 := NB225_226.out
                  have hnc117 := NB226_225.out
                  have hnb118 := NB225_227.out
                  have hnc118 := NB227_225.out
                  have hcz119_0 : wc.cell? ⟨gb225, 0, none⟩ = some (.int .u8 a1_0) := bc BK225 0
                  have hcz119_1 : wc.cell? ⟨gb225, 1, none⟩ = some (.int .u64 a1_1) := bc BK225 1
                  have hcz119_2 : wc.cell? ⟨gb225, 2, none⟩ = some (.string a1_2) := bc BK225 2
                  have hfz119_0 := blk_frozen BK225.out 0
                  have hfz119_1 := blk_frozen BK225.out 1
                  have hfz119_2 := blk_frozen BK225.out 2
                  go_wp2
                  (first | go_meet | (refine Met.intro ?_; go_step; (repeat apply Exists.intro); refine ⟨?rel, ?fr⟩; (case fr => (rw [show (a1_0 == a2_0) = true from by assumption]) <;> exact rfl)))
                  case rel => exact ⟨_, ((a1_0 == 18)), (by first | rfl | (simp; done) | (simp [*]; done)), H', ⟨by have := HJ3.out; have := HJ30.out; have := HJ42.out; have := HJ93.out; have := HJ99.out; first | omega | exact Nat.le_refl _⟩, ⟨by (with_reducible repeat (first | refine blk_drewN ?_ _ | refine blk_drew ?_ | refine blk_alloc ?_ _)); exact BK225.out⟩, ⟨by (with_reducible repeat (first | refine blk_drewN ?_ _ | refine blk_drew ?_ | refine blk_alloc ?_ _)); exact BK226.out⟩, ⟨by (with_reducible repeat (first | refine blk_drewN ?_ _ | refine blk_drew ?_ | refine blk_alloc ?_ _)); exact BK227.out⟩, ⟨bs HB⟩⟩
                 ·rw [if_neg c116] at H
                  have c116b0 : (a1_0 == a2_0) = false := by simpa using c116
                  (try (have c116b1 : decide (a1_0 = a2_0) = false := by simpa using c116))
                  (try (have c116b2 : (a1_0 == a2_0) = false := by simpa using c116))
                  (try (have c116b3 : ¬ (a1_0 = a2_0) := by simpa using c116))
                  clear c116
                  (first | rw [c116b0] | (simp only [i64_w, i32_w]; rw [c116b0]) | skip)
                  have H' := Aside0.mk H
                  clear H
                  go_wp2
                  (first | go_meet | (refine Met.intro ?_; go_step; (repeat apply Exists.intro); refine ⟨?rel, ?fr⟩; (case fr => (rw [show (a1_0 == a2_0) = false from by assumption]) <;> exact rfl)))
                  case rel => exact ⟨_, (false), (by first | rfl | (simp; done) | (simp [*]; done)), H', ⟨by have := HJ3.out; have := HJ30.out; have := HJ42.out; have := HJ93.out; have := HJ99.out; first | omega | exact Nat.le_refl _⟩, ⟨by (with_reducible repeat (first | refine blk_drewN ?_ _ | refine blk_drew ?_ | refine blk_alloc ?_ _)); exact BK225.out⟩, ⟨by (with_reducible repeat (first | refine blk_drewN ?_ _ | refine blk_drew ?_ | refine blk_alloc ?_ _)); exact BK226.out⟩, ⟨by (with_reducible repeat (first | refine blk_drewN ?_ _ | refine blk_drew ?_ | refine blk_alloc ?_ _)); exact BK227.out⟩, ⟨bs HB⟩⟩
                case rest =>
                 clear HC115
                 (try clear c1);(try clear c2);(try clear p2);(try clear c3);(try clear c4);(try clear c5);(try clear c6);(try clear c7);(try clear c8);(try clear c9);(try clear c10);(try clear c11);(try clear c14);(try clear c16);(try clear c17);(try clear c20);(try clear c23);(try clear c24);(try clear c27);(try clear c28);(try clear c29);(try clear c30);(try clear c32);(try clear c32b0);(try clear c33);(try clear c33b0);(try clear c34);(try clear c36);(try clear c37);(try clear c39);(try clear c44);(try clear c44b0);(try clear c45);(try clear c45b0);(try clear c46);(try clear c46b0);(try clear c46b1);(try clear c46b2);(try clear c48);(try clear c49);(try clear c50);(try clear c52);(try clear c53);(try clear c55);(try clear c56);(try clear c56b0);(try clear c56b1);(try clear c57);(try clear c58);(try clear c61);(try clear c62);(try clear c63);(try clear c66);(try clear c69);(try clear c69b0);(try clear c69b1);(try clear c70);(try clear c71);(try clear c74);(try clear c75);(try clear c76);(try clear c79);(try clear c82);(try clear c83);(try clear c86);(try clear c87);(try clear c88);(try clear c91);(try clear c95);(try clear c95b0);(try clear c96);(try clear c97);(try clear c98);(try clear c101);(try clear c101b0);(try clear c101b1);(try clear c101b2);(try clear c103);(try clear c104);(try clear c106);(try clear c108);(try clear c109);(try clear c111);(try clear c116);(try clear c116b0);(try clear c116b1);(try clear c116b2);(try clear c117);(try clear c118);(try clear hcz105_0);(try clear hcz105_1);(try clear hcz105_2);(try clear hcz10_0);(try clear hcz10_1);(try clear hcz10_2);(try clear hcz110_0);(try clear hcz110_1);(try clear hcz110_2);(try clear hcz112_0);(try clear hcz112_1);(try clear hcz112_2);(try clear hcz114_0);(try clear hcz114_1);(try clear hcz114_2);(try clear hcz119_0);(try clear hcz119_1);(try clear hcz119_2);(try clear hcz12_0);(try clear hcz12_1);(try clear hcz12_2);(try clear hcz18_0);(try clear hcz18_1);(try clear hcz18_2);(try clear hcz21_0);(try clear hcz21_1);(try clear hcz21_2);(try clear hcz25_0);(try clear hcz25_1);(try clear hcz25_2);(try clear hcz30_0);(try clear hcz30_1);(try clear hcz30_2);(try clear hcz38_0);(try clear hcz38_1);(try clear hcz38_2);(try clear hcz40_0);(try clear hcz40_1);(try clear hcz40_2);(try clear hcz42_0);(try clear hcz42_1);(try clear hcz42_2);(try clear hcz51_0);(try clear hcz51_1);(try clear hcz51_2);(try clear hcz54_0);(try clear hcz54_1);(try clear hcz54_2);(try clear hcz59_0);(try clear hcz59_1);(try clear hcz59_2);(try clear hcz64_0);(try clear hcz64_1);(try clear hcz64_2);(try clear hcz65_0);(try clear hcz65_1);(try clear hcz65_2);(try clear hcz67_0);(try clear hcz67_1);(try clear hcz67_2);(try clear hcz68_0);(try clear hcz68_1);(try clear hcz68_2);(try clear hcz72_0);(try clear hcz72_1);(try clear hcz72_2);(try clear hcz77_0);(try clear hcz77_1);(try clear hcz77_2);(try clear hcz78_0);(try clear hcz78_1);(try clear hcz78_2);(try clear hcz80_0);(try clear hcz80_1);(try clear hcz80_2);(try clear hcz81_0);(try clear hcz81_1);(try clear hcz81_2);(try clear hcz84_0);(try clear hcz84_1);(try clear hcz84_2);(try clear hcz89_0);(try clear hcz89_1);(try clear hcz89_2);(try clear hcz90_0);(try clear hcz90_1);(try clear hcz90_2);(try clear hcz92_0);(try clear hcz92_1);(try clear hcz92_2);(try clear hcz93_0);(try clear hcz93_1);(try clear hcz93_2);(try clear hcz99_0);(try clear hcz99_1);(try clear hcz99_2);(try clear hfz105_0);(try clear hfz105_1);(try clear hfz105_2);(try clear hfz10_0);(try clear hfz10_1);(try clear hfz10_2);(try clear hfz110_0);(try clear hfz110_1);(try clear hfz110_2);(try clear hfz112_0);(try clear hfz112_1);(try clear hfz112_2);(try clear hfz114_0);(try clear hfz114_1);(try clear hfz114_2);(try clear hfz119_0);(try clear hfz119_1);(try clear hfz119_2);(try clear hfz12_0);(try clear hfz12_1);(try clear hfz12_2);(try clear hfz18_0);(try clear hfz18_1);(try clear hfz18_2);(try clear hfz21_0);(try clear hfz21_1);(try clear hfz21_2);(try clear hfz25_0);(try clear hfz25_1);(try clear hfz25_2);(try clear hfz30_0);(try clear hfz30_1);(try clear hfz30_2);(try clear hfz38_0);(try clear hfz38_1);(try clear hfz38_2);(try clear hfz40_0);(try clear hfz40_1);(try clear hfz40_2);(try clear hfz42_0);(try clear hfz42_1);(try clear hfz42_2);(try clear hfz51_0);(try clear hfz51_1);(try clear hfz51_2);(try clear hfz54_0);(try clear hfz54_1);(try clear hfz54_2);(try clear hfz59_0);(try clear hfz59_1);(try clear hfz59_2);(try clear hfz64_0);(try clear hfz64_1);(try clear hfz64_2);(try clear hfz65_0);(try clear hfz65_1);(try clear hfz65_2);(try clear hfz67_0);(try clear hfz67_1);(try clear hfz67_2);(try clear hfz68_0);(try clear hfz68_1);(try clear hfz68_2);(try clear hfz72_0);(try clear hfz72_1);(try clear hfz72_2);(try clear hfz77_0);(try clear hfz77_1);(try clear hfz77_2);(try clear hfz78_0);(try clear hfz78_1);(try clear hfz78_2);(try clear hfz80_0);(try clear hfz80_1);(try clear hfz80_2);(try clear hfz81_0);(try clear hfz81_1);(try clear hfz81_2);(try clear hfz84_0);(try clear hfz84_1);(try clear hfz84_2);(try clear hfz89_0);(try clear hfz89_1);(try clear hfz89_2);(try clear hfz90_0);(try clear hfz90_1);(try clear hfz90_2);(try clear hfz92_0);(try clear hfz92_1);(try clear hfz92_2);(try clear hfz93_0);(try clear hfz93_1);(try clear hfz93_2);(try clear hfz99_0);(try clear hfz99_1);(try clear hfz99_2);(try clear p2)
                 obtain ⟨kq, x107_114, rfl, HA, HJ114, BK225, BK226, BK227, HB⟩ := hcut
                 cases kq with
                 | zero => exact absurd HA.out (by simp [value_Reckon.j5])
                 | succ kj114 =>
                  have H := HA.out
                  clear HA
                  simp only [value_Reckon.j5] at H
                  by_cases c120 : x107_114 = true
                  ·subst c120
                   have H1 : ((value_floats.f a0 ((a1_1).toNat) ((a2_1).toNat)).bind fun bt240 => (some (bt240.1, bt240.2.1, bt240.2.2.1, bt240.2.2.2))) = some (r1, r2, r3, r4) := by rw [if_pos rfl] at H; exact H
                   clear H
                   have H := H1
                   clear H1
                   replace H := Option.bind_eq_some_iff.mp H
                   obtain ⟨⟨t240, t241, t242, t243⟩, A1210, H⟩ := H
                   replace H : (some (t240, t241, t242, t243)) = some (r1, r2, r3, r4) := H
                   have A121 := Aside0.mk A1210
                   clear A1210
                   simp only [Option.some.injEq, Prod.mk.injEq] at H
                   obtain ⟨rfl, rfl, rfl, rfl⟩ := H
                   try go_wp2
                   have n0_ := Aside0.mk (blk_drew BK225.out)
                   have n1_ := Aside0.mk (blk_drew BK226.out)
                   have n2_ := Aside0.mk (blk_drew BK227.out)
                   have n3_ := Aside0.mk (below_drew1 HB.out)
                   clear BK225
                   clear BK226
                   clear BK227
                   clear HB
                   have BK225 := n0_
                   have BK226 := n1_
                   have BK227 := n2_
                   have HB := n3_
                   clear n0_ n1_ n2_ n3_
                   refine start_ (n := 12) (S := fun w' => w'.cell? ⟨gb225, 0, none⟩ = some (.int .u8 a1_0) ∧ w'.cell? ⟨gb225, 1, none⟩ = some (.int .u64 a1_1) ∧ w'.cell? ⟨gb225, 2, none⟩ = some (.string a1_2) ∧ w'.cell? ⟨gb226, 0, none⟩ = some (.int .u8 a2_0) ∧ w'.cell? ⟨gb226, 1, none⟩ = some (.int .u64 a2_1) ∧ w'.cell? ⟨gb226, 2, none⟩ = some (.string a2_2)) (ds := []) #[false, false, false, false, false, false, false, false, false, false, false, false] (by kernel_rfl) rfl rfl ⟨bc BK225 0, bc BK225 1, bc BK225 2, bc BK226 0, bc BK226 1, bc BK226 2⟩ (fun hHeld => ?_); refine with_tabW value_Reckon.tab20 value_Reckon.bits20 (fun HT_ HW_ => ?_)
                   generalize wc.drew = w122 at BK225 BK226 BK227 HB hHeld ⊢
                   refine pure_ (i := 0) (N := some 114) (v := ?_) (a' := ?_) #[true, false, false, false, false, false, false, false, false, false, false, false] rfl rfl (any_of HT_.out (by kernel_rfl)) (fun _ _ _ h => h) (Or.inl ⟨by rfl, ?_⟩) ?_ ?_
                   rotate_left
                   ·intro w'
                    go_simp
                    with_reducible rfl
                   rotate_left
                   ·simp only [Act.put, List.setIfInBounds_toArray, List.set_cons_zero, List.set_cons_succ, i64_w, i32_w]
                    rfl
                   refine pure_ (i := 1) (N := some 115) (v := ?_) (a' := ?_) #[true, true, false, false, false, false, false, false, false, false, false, false] rfl rfl (any_of HT_.out (by kernel_rfl)) (fun _ _ _ h => h) (Or.inl ⟨by rfl, ?_⟩) ?_ ?_
                   rotate_left
                   ·intro w'
                    go_simp
                    with_reducible rfl
                   rotate_left
                   ·simp only [Act.put, List.setIfInBounds_toArray, List.set_cons_zero, List.set_cons_succ, i64_w, i32_w]
                    rfl
                   refine pure_ (i := 4) (N := some 118) (v := ?_) (a' := ?_) #[true, true, false, false, true, false, false, false, false, false, false, false] rfl rfl (any_of HT_.out (by kernel_rfl)) (fun _ _ _ h => h) (Or.inl ⟨by rfl, ?_⟩) ?_ ?_
                   rotate_left
                   ·intro w'
                    go_simp
                    with_reducible rfl
                   rotate_left
                   ·simp only [Act.put, List.setIfInBounds_toArray, List.set_cons_zero, List.set_cons_succ, i64_w, i32_w]
                    rfl
                   refine take_ (i := 2) (N := some 116) (v := ?_) (a' := ?_) #[true, true, true, false, true, false, false, false, false, false, false, false] rfl rfl (take_ofW HT_.out HW_.out (by kernel_rfl)) (fun _ _ _ h => h) (Or.inl ⟨by rfl, ?_⟩) hHeld ?_ ?_
                   rotate_left
                   ·rintro w' ⟨s0, s1, s2, s3, s4, s5⟩
                    go_simp
                    with_reducible rfl
                   rotate_left
                   ·simp only [Act.put, List.setIfInBounds_toArray, List.set_cons_zero, List.set_cons_succ, i64_w, i32_w]
                    rfl
                   refine pure_ (i := 3) (N := some 117) (v := ?_) (a' := ?_) #[true, true, true, true, true, false, false, false, false, false, false, false] rfl rfl (any_of HT_.out (by kernel_rfl)) (fun _ _ _ h => h) (Or.inl ⟨by rfl, ?_⟩) ?_ ?_
                   rotate_left
                   ·intro w'
                    go_simp
                    with_reducible rfl
                   rotate_left
                   ·simp only [Act.put, List.setIfInBounds_toArray, List.set_cons_zero, List.set_cons_succ, i64_w, i32_w]
                    rfl
                   refine take_ (i := 5) (N := some 119) (v := ?_) (a' := ?_) #[true, true, true, true, true, true, false, false, false, false, false, false] rfl rfl (take_ofW HT_.out HW_.out (by kernel_rfl)) (fun _ _ _ h => h) (Or.inl ⟨by rfl, ?_⟩) hHeld ?_ ?_
                   rotate_left
                   ·rintro w' ⟨s0, s1, s2, s3, s4, s5⟩
                    go_simp
                    with_reducible rfl
                   rotate_left
                   ·simp only [Act.put, List.setIfInBounds_toArray, List.set_cons_zero, List.set_cons_succ, i64_w, i32_w]
                    rfl
                   refine pure_ (i := 6) (N := some 120) (v := ?_) (a' := ?_) #[true, true, true, true, true, true, true, false, false, false, false, false] rfl rfl (any_of HT_.out (by kernel_rfl)) (fun _ _ _ h => h) (Or.inl ⟨by rfl, ?_⟩) ?_ ?_
                   rotate_left
                   ·intro w'
                    go_simp
                    with_reducible rfl
                   rotate_left
                   ·simp only [Act.put, List.setIfInBounds_toArray, List.set_cons_zero, List.set_cons_succ, i64_w, i32_w]
                    rfl
                   refine one_ (i := 7) (N := some 121) #[true, true, true, true, true, true, true, true, false, false, false, false] rfl rfl (one_of HT_.out (by kernel_rfl)) (by decide) (fun K hK => ?_)
                   refine goes_ Try.func57 (by kernel_rfl) rfl #[.int .i64 a0, .float .f64 ((a1_1).toNat), .float .f64 ((a2_1).toNat)] (by rfl) rfl rfl (by (try simp only [List.map_toArray, List.map_cons, List.map_nil]); first | done | rfl | (simp only [List.length_drop, List.length_take]; rfl)) ?_
                   with_reducible refine (value_floats.calls a0 ((a1_1).toNat) ((a2_1).toNat) t240 t241 t242 t243 _ A121.out).mono ?_
                   rintro e w123 ⟨rfl, hb⟩
                   refine ⟨_, rfl, ?_⟩
                   have n0_ := kb BK225 hb
                   have n1_ := kb BK226 hb
                   have n2_ := kb BK227 hb
                   have n3_ := bt HB hb
                   clear BK225
                   clear BK226
                   clear BK227
                   clear HB
                   have BK225 := n0_
                   have BK226 := n1_
                   have BK227 := n2_
                   have HB := n3_
                   clear n0_ n1_ n2_ n3_
                   (try clear hb)
                   (try clear hb2)
                   (try clear hk)
                   (try clear hi)
                   refine hK.out _ _ ⟨bc BK225 0, bc BK225 1, bc BK225 2, bc BK226 0, bc BK226 1, bc BK226 2⟩ (fun hHeld => ?_)
                   clear hK K
                   refine norm_ (a' := ?_) ?_ ?_
                   rotate_left
                   ·show Act.put _ (some 121) _ = _
                    simp only [Act.put, List.setIfInBounds_toArray, List.set_cons_zero, List.set_cons_succ, i64_w, i32_w]
                    rfl
                   refine pure_ (i := 8) (N := some 122) (v := ?_) (a' := ?_) #[true, true, true, true, true, true, true, true, true, false, false, false] rfl rfl (any_of HT_.out (by kernel_rfl)) (fun _ _ _ h => h) (Or.inl ⟨by rfl, ?_⟩) ?_ ?_
                   rotate_left
                   ·intro w'
                    go_simp
                    with_reducible rfl
                   rotate_left
                   ·simp only [Act.put, List.setIfInBounds_toArray, List.set_cons_zero, List.set_cons_succ, i64_w, i32_w]
                    rfl
                   refine pure_ (i := 9) (N := some 123) (v := ?_) (a' := ?_) #[true, true, true, true, true, true, true, true, true, true, false, false] rfl rfl (any_of HT_.out (by kernel_rfl)) (fun _ _ _ h => h) (Or.inl ⟨by rfl, ?_⟩) ?_ ?_
                   rotate_left
                   ·intro w'
                    go_simp
                    with_reducible rfl
                   rotate_left
                   ·simp only [Act.put, List.setIfInBounds_toArray, List.set_cons_zero, List.set_cons_succ, i64_w, i32_w]
                    rfl
                   refine one_ (i := 10) (N := none) #[true, true, true, true, true, true, true, true, true, true, true, false] rfl rfl (one_of HT_.out (by kernel_rfl)) (by decide) (fun K hK => ?_)
                   have hs124 : w123.cell? ⟨gb227, 0, none⟩ = some (.int .u8 0) := bc BK227 0
                   have hfs124 := blk_frozen BK227.out 0
                   have hns124_0 := NB225_227.out
                   have hns124_1 := NB226_227.out
                   have hms124_0 := NB227_225.out
                   have hms124_1 := NB227_226.out
                   have hs125 : w123.cell? ⟨gb227, 1, none⟩ = some (.int .u64 0) := bc BK227 1
                   have hfs125 := blk_frozen BK227.out 1
                   have hns125_0 := NB225_227.out
                   have hns125_1 := NB226_227.out
                   have hms125_0 := NB227_225.out
                   have hms125_1 := NB227_226.out
                   have hs126 : w123.cell? ⟨gb227, 2, none⟩ = some (.string (⟨#[]⟩ : ByteArray)) := bc BK227 2
                   have hfs126 := blk_frozen BK227.out 2
                   have hns126_0 := NB225_227.out
                   have hns126_1 := NB226_227.out
                   have hms126_0 := NB227_225.out
                   have hms126_1 := NB227_226.out
                   refine skip_ (w1 := ?_) (by rfl) rfl ?_ ?_
                   rotate_left
                   ·go_simp
                    rfl
                   refine hK.out _ _ ⟨((cell_far (p := ⟨gb227, _, none⟩) NB225_227.out _).trans (((cell_far (p := ⟨gb227, _, none⟩) NB225_227.out _).trans (((cell_far (p := ⟨gb227, _, none⟩) NB225_227.out _).trans (hHeld.1)))))), ((cell_far (p := ⟨gb227, _, none⟩) NB225_227.out _).trans (((cell_far (p := ⟨gb227, _, none⟩) NB225_227.out _).trans (((cell_far (p := ⟨gb227, _, none⟩) NB225_227.out _).trans (hHeld.2.1)))))), ((cell_far (p := ⟨gb227, _, none⟩) NB225_227.out _).trans (((cell_far (p := ⟨gb227, _, none⟩) NB225_227.out _).trans (((cell_far (p := ⟨gb227, _, none⟩) NB225_227.out _).trans (hHeld.2.2.1)))))), ((cell_far (p := ⟨gb227, _, none⟩) NB226_227.out _).trans (((cell_far (p := ⟨gb227, _, none⟩) NB226_227.out _).trans (((cell_far (p := ⟨gb227, _, none⟩) NB226_227.out _).trans (hHeld.2.2.2.1)))))), ((cell_far (p := ⟨gb227, _, none⟩) NB226_227.out _).trans (((cell_far (p := ⟨gb227, _, none⟩) NB226_227.out _).trans (((cell_far (p := ⟨gb227, _, none⟩) NB226_227.out _).trans (hHeld.2.2.2.2.1)))))), ((cell_far (p := ⟨gb227, _, none⟩) NB226_227.out _).trans (((cell_far (p := ⟨gb227, _, none⟩) NB226_227.out _).trans (((cell_far (p := ⟨gb227, _, none⟩) NB226_227.out _).trans (hHeld.2.2.2.2.2))))))⟩ (fun hHeld => ?_)
                   clear hK K
                   refine pure_ (i := 11) (N := some 7) (v := ?_) (a' := ?_) #[true, true, true, true, true, true, true, true, true, true, true, true] rfl rfl (any_of HT_.out (by kernel_rfl)) (fun _ _ _ h => h) (Or.inl ⟨by rfl, ?_⟩) ?_ ?_
                   rotate_left
                   ·intro w'
                    go_simp
                    with_reducible rfl
                   rotate_left
                   ·simp only [Act.put, List.setIfInBounds_toArray, List.set_cons_zero, List.set_cons_succ, i64_w, i32_w]
                    rfl
                   refine done_ (done_of HT_.out (by kernel_rfl)) ?_
                   try go_wp2
                   refine bodyPost_ret (results_ct rfl _ _ gb227 27 #[.int .u8 t240, .int .u64 t241, .string t242] (0, 0) _ rfl (by (with_reducible repeat (first | refine blk_drewN ?_ _ | refine blk_drew ?_ | refine blk_alloc ?_ _)); refine blk_put (cs := #[.int .u8 t240, .int .u64 t241, .string (⟨#[]⟩ : ByteArray)]) ?_ 2 _ rfl; (with_reducible repeat (first | refine blk_drewN ?_ _ | refine blk_drew ?_ | refine blk_alloc ?_ _)); refine blk_put (cs := #[.int .u8 t240, .int .u64 0, .string (⟨#[]⟩ : ByteArray)]) ?_ 1 _ rfl; (with_reducible repeat (first | refine blk_drewN ?_ _ | refine blk_drew ?_ | refine blk_alloc ?_ _)); refine blk_put (cs := #[.int .u8 0, .int .u64 0, .string (⟨#[]⟩ : ByteArray)]) ?_ 0 _ rfl; (with_reducible repeat (first | refine blk_drewN ?_ _ | refine blk_drew ?_ | refine blk_alloc ?_ _)); exact BK227.out) Try.underlying27 rfl (by kernel_rfl)) rfl ?_
                   exact ⟨by first | rfl | (simp [errW_none, errW_some] <;> rfl) | (simp [*, errW_none, errW_some] <;> rfl), bs HB⟩
                  ·replace c120 := Bool.eq_false_iff.mpr c120
                   subst c120
                   have H1 : ((value_timed.f a1_0).bind fun t244 => (if t244 = true then ((value_spans.f kj114 a0 a1_0 a1_1 a1_2 a2_0 a2_1 a2_2).bind fun bt245 => (some (bt245.1, bt245.2.1, bt245.2.2.1, bt245.2.2.2))) else (some (0, 0, (⟨#[]⟩ : ByteArray), 8)))) = some (r1, r2, r3, r4) := by rw [if_neg (show ¬ (false = true) by decide)] at H; exact H
                   clear H
                   have H := H1
                   clear H1
                   replace H := Option.bind_eq_some_iff.mp H
                   obtain ⟨t244, A1270, H⟩ := H
                   replace H : (if t244 = true then ((value_spans.f kj114 a0 a1_0 a1_1 a1_2 a2_0 a2_1 a2_2).bind fun bt245 => (some (bt245.1, bt245.2.1, bt245.2.2.1, bt245.2.2.2))) else (some (0, 0, (⟨#[]⟩ : ByteArray), 8))) = some (r1, r2, r3, r4) := H
                   have A127 := Aside0.mk A1270
                   clear A1270
                   by_cases c128 : t244 = true
                   ·subst c128
                    have H1 : ((value_spans.f kj114 a0 a1_0 a1_1 a1_2 a2_0 a2_1 a2_2).bind fun bt245 => (some (bt245.1, bt245.2.1, bt245.2.2.1, bt245.2.2.2))) = some (r1, r2, r3, r4) := by rw [if_pos rfl] at H; exact H
                    clear H
                    have H := H1
                    clear H1
                    replace H := Option.bind_eq_some_iff.mp H
                    obtain ⟨⟨t245, t246, t247, t248⟩, A1290, H⟩ := H
                    replace H : (some (t245, t246, t247, t248)) = some (r1, r2, r3, r4) := H
                    have A129 := Aside0.mk A1290
                    clear A1290
                    simp only [Option.some.injEq, Prod.mk.injEq] at H
                    obtain ⟨rfl, rfl, rfl, rfl⟩ := H
                    have hnb130 := NB225_226.out
                    have hnc130 := NB226_225.out
                    have hnb131 := NB225_227.out
                    have hnc131 := NB227_225.out
                    have hcz132_0 : wc.cell? ⟨gb225, 0, none⟩ = some (.int .u8 a1_0) := bc BK225 0
                    have hcz132_1 : wc.cell? ⟨gb225, 1, none⟩ = some (.int .u64 a1_1) := bc BK225 1
                    have hcz132_2 : wc.cell? ⟨gb225, 2, none⟩ = some (.string a1_2) := bc BK225 2
                    have hfz132_0 := blk_frozen BK225.out 0
                    have hfz132_1 := blk_frozen BK225.out 1
                    have hfz132_2 := blk_frozen BK225.out 2
                    go_wp2_with (first | ((with_reducible refine gate_callee (f := 58) rfl ?_); refine goesL_ (some 127) rfl rfl Try.func58 (by kernel_rfl) rfl #[.int .u8 a1_0] rfl (by (try simp only [List.map_toArray, List.map_cons, List.map_nil]); first | done | rfl | (simp only [List.length_drop, List.length_take]; rfl)) ?_; (with_reducible refine (value_timed.calls a1_0 true _ A127.out).mono ?_); rintro e w' ⟨rfl, ⟨nd, rfl⟩⟩; refine ⟨_, rfl, ?_⟩; (try (rw [drewN_self wc]; generalize hq_ : World.drewN wc _ = wc; have n0_ : Aside0 (wc.heap[gb225]? = some (.cells #[.int .u8 a1_0, .int .u64 a1_1, .string a1_2] 27 (0, 0))) := ⟨by rw [← hq_]; exact (pb BK225)⟩; have n1_ : Aside0 (wc.heap[gb226]? = some (.cells #[.int .u8 a2_0, .int .u64 a2_1, .string a2_2] 27 (0, 0))) := ⟨by rw [← hq_]; exact (pb BK226)⟩; have n2_ : Aside0 (wc.heap[gb227]? = some (.cells #[.int .u8 0, .int .u64 0, .string (⟨#[]⟩ : ByteArray)] 27 (0, 0))) := ⟨by rw [← hq_]; exact (pb BK227)⟩; have n3_ : Aside0 (Below w.heap.size w wc) := ⟨by rw [← hq_]; exact (bs HB)⟩; clear BK225 BK226 BK227 HB hq_; have BK225 := n0_; have BK226 := n1_; have BK227 := n2_; have HB := n3_; clear n0_ n1_ n2_ n3_; have hcu225_0 : wc.cell? ⟨gb225, 0, none⟩ = some (.int .u8 a1_0) := bc BK225 0; have hfu225_0 := blk_frozen BK225.out 0; have hcu225_1 : wc.cell? ⟨gb225, 1, none⟩ = some (.int .u64 a1_1) := bc BK225 1; have hfu225_1 := blk_frozen BK225.out 1; have hcu225_2 : wc.cell? ⟨gb225, 2, none⟩ = some (.string a1_2) := bc BK225 2; have hfu225_2 := blk_frozen BK225.out 2)); have hnb133 := NB226_227.out; have hnc133 := NB227_226.out; have hcz134_0 : wc.cell? ⟨gb226, 0, none⟩ = some (.int .u8 a2_0) := bc BK226 0; have hcz134_1 : wc.cell? ⟨gb226, 1, none⟩ = some (.int .u64 a2_1) := bc BK226 1; have hcz134_2 : wc.cell? ⟨gb226, 2, none⟩ = some (.string a2_2) := bc BK226 2; have hfz134_0 := blk_frozen BK226.out 0; have hfz134_1 := blk_frozen BK226.out 1; have hfz134_2 := blk_frozen BK226.out 2) | ((with_reducible refine gate_callee (f := 59) rfl ?_); refine goesL_ (some 131) rfl rfl Try.func59 (by kernel_rfl) rfl #[.int .i64 a0, .agg #[.int .u8 a1_0, .int .u64 a1_1, .string a1_2], .agg #[.int .u8 a2_0, .int .u64 a2_1, .string a2_2]] rfl (by (try simp only [List.map_toArray, List.map_cons, List.map_nil]); first | done | rfl | (simp only [List.length_drop, List.length_take]; rfl)) ?_; (with_reducible refine (value_spans.calls kj114 a0 a1_0 a1_1 a1_2 a2_0 a2_1 a2_2 t245 t246 t247 t248 _ A129.out).mono ?_); rintro e w135 ⟨rfl, hb⟩; refine ⟨_, rfl, ?_⟩; have n0_ := kb BK225 hb; have n1_ := kb BK226 hb; have n2_ := kb BK227 hb; have n3_ := bt HB hb; clear BK225; clear BK226; clear BK227; clear HB; have BK225 := n0_; have BK226 := n1_; have BK227 := n2_; have HB := n3_; clear n0_ n1_ n2_ n3_; (try clear hb); (try clear hb2); (try clear hk); (try clear hi); have hcz136_0 : w135.cell? ⟨gb227, 0, none⟩ = some (.int .u8 0) := bc BK227 0; have hcz136_1 : w135.cell? ⟨gb227, 1, none⟩ = some (.int .u64 0) := bc BK227 1; have hcz136_2 : w135.cell? ⟨gb227, 2, none⟩ = some (.string (⟨#[]⟩ : ByteArray)) := bc BK227 2; have hfz136_0 := blk_frozen BK227.out 0; have hfz136_1 := blk_frozen BK227.out 1; have hfz136_2 := blk_frozen BK227.out 2))
                    refine bodyPost_ret (results_ct rfl _ _ gb227 27 #[.int .u8 t245, .int .u64 t246, .string t247] (0, 0) _ rfl (by (with_reducible repeat (first | refine blk_drewN ?_ _ | refine blk_drew ?_ | refine blk_alloc ?_ _)); refine blk_put (cs := #[.int .u8 t245, .int .u64 t246, .string (⟨#[]⟩ : ByteArray)]) ?_ 2 _ rfl; (with_reducible repeat (first | refine blk_drewN ?_ _ | refine blk_drew ?_ | refine blk_alloc ?_ _)); refine blk_put (cs := #[.int .u8 t245, .int .u64 0, .string (⟨#[]⟩ : ByteArray)]) ?_ 1 _ rfl; (with_reducible repeat (first | refine blk_drewN ?_ _ | refine blk_drew ?_ | refine blk_alloc ?_ _)); refine blk_put (cs := #[.int .u8 0, .int .u64 0, .string (⟨#[]⟩ : ByteArray)]) ?_ 0 _ rfl; (with_reducible repeat (first | refine blk_drewN ?_ _ | refine blk_drew ?_ | refine blk_alloc ?_ _)); exact BK227.out) Try.underlying27 rfl (by kernel_rfl)) rfl ?_
                    exact ⟨by first | rfl | (simp [errW_none, errW_some] <;> rfl) | (simp [*, errW_none, errW_some] <;> rfl), bs HB⟩
                   ·replace c128 := Bool.eq_false_iff.mpr c128
                    subst c128
                    have H1 : (some (0, 0, (⟨#[]⟩ : ByteArray), 8)) = some (r1, r2, r3, r4) := by rw [if_neg (show ¬ (false = true) by decide)] at H; exact H
                    clear H
                    have H := H1
                    clear H1
                    simp only [Option.some.injEq, Prod.mk.injEq] at H
                    obtain ⟨rfl, rfl, rfl, rfl⟩ := H
                    have hnb137 := NB225_226.out
                    have hnc137 := NB226_225.out
                    have hnb138 := NB225_227.out
                    have hnc138 := NB227_225.out
                    have hcz139_0 : wc.cell? ⟨gb225, 0, none⟩ = some (.int .u8 a1_0) := bc BK225 0
                    have hcz139_1 : wc.cell? ⟨gb225, 1, none⟩ = some (.int .u64 a1_1) := bc BK225 1
                    have hcz139_2 : wc.cell? ⟨gb225, 2, none⟩ = some (.string a1_2) := bc BK225 2
                    have hfz139_0 := blk_frozen BK225.out 0
                    have hfz139_1 := blk_frozen BK225.out 1
                    have hfz139_2 := blk_frozen BK225.out 2
                    go_wp2_with (first | ((with_reducible refine gate_callee (f := 58) rfl ?_); refine goesL_ (some 127) rfl rfl Try.func58 (by kernel_rfl) rfl #[.int .u8 a1_0] rfl (by (try simp only [List.map_toArray, List.map_cons, List.map_nil]); first | done | rfl | (simp only [List.length_drop, List.length_take]; rfl)) ?_; (with_reducible refine (value_timed.calls a1_0 false _ A127.out).mono ?_); rintro e w' ⟨rfl, ⟨nd, rfl⟩⟩; refine ⟨_, rfl, ?_⟩; (try (rw [drewN_self wc]; generalize hq_ : World.drewN wc _ = wc; have n0_ : Aside0 (wc.heap[gb225]? = some (.cells #[.int .u8 a1_0, .int .u64 a1_1, .string a1_2] 27 (0, 0))) := ⟨by rw [← hq_]; exact (pb BK225)⟩; have n1_ : Aside0 (wc.heap[gb226]? = some (.cells #[.int .u8 a2_0, .int .u64 a2_1, .string a2_2] 27 (0, 0))) := ⟨by rw [← hq_]; exact (pb BK226)⟩; have n2_ : Aside0 (wc.heap[gb227]? = some (.cells #[.int .u8 0, .int .u64 0, .string (⟨#[]⟩ : ByteArray)] 27 (0, 0))) := ⟨by rw [← hq_]; exact (pb BK227)⟩; have n3_ : Aside0 (Below w.heap.size w wc) := ⟨by rw [← hq_]; exact (bs HB)⟩; clear BK225 BK226 BK227 HB hq_; have BK225 := n0_; have BK226 := n1_; have BK227 := n2_; have HB := n3_; clear n0_ n1_ n2_ n3_; have hcu225_0 : wc.cell? ⟨gb225, 0, none⟩ = some (.int .u8 a1_0) := bc BK225 0; have hfu225_0 := blk_frozen BK225.out 0; have hcu225_1 : wc.cell? ⟨gb225, 1, none⟩ = some (.int .u64 a1_1) := bc BK225 1; have hfu225_1 := blk_frozen BK225.out 1; have hcu225_2 : wc.cell? ⟨gb225, 2, none⟩ = some (.string a1_2) := bc BK225 2; have hfu225_2 := blk_frozen BK225.out 2)); have hnb140 := NB227_226.out; have hnc140 := NB226_227.out; have hcz141_0 : wc.cell? ⟨gb227, 0, none⟩ = some (.int .u8 0) := bc BK227 0; have hcz141_1 : wc.cell? ⟨gb227, 1, none⟩ = some (.int .u64 0) := bc BK227 1; have hcz141_2 : wc.cell? ⟨gb227, 2, none⟩ = some (.string (⟨#[]⟩ : ByteArray)) := bc BK227 2; have hfz141_0 := blk_frozen BK227.out 0; have hfz141_1 := blk_frozen BK227.out 1; have hfz141_2 := blk_frozen BK227.out 2))
                    refine bodyPost_ret (results_ct rfl _ _ gb227 27 #[.int .u8 0, .int .u64 0, .string (⟨#[]⟩ : ByteArray)] (0, 0) _ rfl (by (with_reducible repeat (first | refine blk_drewN ?_ _ | refine blk_drew ?_ | refine blk_alloc ?_ _)); refine blk_put (cs := #[.int .u8 0, .int .u64 0, .string (⟨#[]⟩ : ByteArray)]) ?_ 2 _ rfl; (with_reducible repeat (first | refine blk_drewN ?_ _ | refine blk_drew ?_ | refine blk_alloc ?_ _)); refine blk_put (cs := #[.int .u8 0, .int .u64 0, .string (⟨#[]⟩ : ByteArray)]) ?_ 1 _ rfl; (with_reducible repeat (first | refine blk_drewN ?_ _ | refine blk_drew ?_ | refine blk_alloc ?_ _)); refine blk_put (cs := #[.int .u8 0, .int .u64 0, .string (⟨#[]⟩ : ByteArray)]) ?_ 0 _ rfl; (with_reducible repeat (first | refine blk_drewN ?_ _ | refine blk_drew ?_ | refine blk_alloc ?_ _)); exact BK227.out) Try.underlying27 rfl (by kernel_rfl)) rfl ?_
                    exact ⟨by first | rfl | (simp [errW_none, errW_some] <;> rfl) | (simp [*, errW_none, errW_some] <;> rfl), bs HB⟩

end Go.Proofs.Ytlmmkaddlflepaa.POrd
