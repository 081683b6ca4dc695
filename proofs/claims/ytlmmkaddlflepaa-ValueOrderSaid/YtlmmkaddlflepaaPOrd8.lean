-- by mkprint.py, a program of this session's own
import Derived.Test.YtlmmkaddlflepaaPOrd0
import Derived.Test.YtlmmkaddlflepaaPOrd4
import Derived.Test.YtlmmkaddlflepaaPOrd5
namespace Go.Proofs.Ytlmmkaddlflepaa.POrd
open Go.RowKit Go.Proofs.YtlmmkaddlflepaaW.PrintWords Go.Proofs.YtlmmkaddlflepaaW.PrintLast Go.Proofs.YtlmmkaddlflepaaW.PrintMore
attribute [local go_sem] max2_int min2_int max_two min_two max_three min_three max_four min_four   -- for this text's walks alone
set_option linter.unusedVariables false
set_option linter.unusedSimpArgs false

attribute [local go_sem] cell_isSome un_neg_float str_gtr str_leq str_geq ext34 ext52
/-! ### value_spans: function 59 -/
mutual
def value_spans.j0 : Nat → Int → Int → Int → ByteArray → Int → Int → ByteArray → Bool → Int → Bool → Int → Option (Int × Int × ByteArray × Int)
 | 0, _, _, _, _, _, _, _, _, _, _, _ => none
 | k + 1, x0, x210000, x210001, x210002, x211000, x211001, x211002, x213000, x213001, x214000, x214001 => if x214000 = true then (value_spans.j1 k x0 x210000 x210001 x210002 x211000 x211001 x211002 x213000 x213001 true (IntKind.u64.wrap (-x211001))) else (value_spans.j1 k x0 x210000 x210001 x210002 x211000 x211001 x211002 x213000 x213001 false x214001)
def value_spans.j1 : Nat → Int → Int → Int → ByteArray → Int → Int → ByteArray → Bool → Int → Bool → Int → Option (Int × Int × ByteArray × Int)
 | 0, _, _, _, _, _, _, _, _, _, _, _ => none
 | k + 1, x0, x210000, x210001, x210002, x211000, x211001, x211002, x213000, x213001, x214000, x214001 => if x0 = 1 then (if x211000 = 14 then (if x210000 = 14 then (value_spans.j2 k x0 (x211000 == 5) 0 true x210000 x210001 x210002 x211000 x211001 x211002 x213000 x213001 x214000 x214001) else (if x210000 = 17 then (value_spans.j2 k x0 (x211000 == 5) 0 true x210000 x210001 x210002 x211000 x211001 x211002 x213000 x213001 x214000 x214001) else (value_spans.j2 k x0 (x211000 == 5) 0 (x210000 == 16) x210000 x210001 x210002 x211000 x211001 x211002 x213000 x213001 x214000 x214001))) else (value_spans.j2 k x0 (x211000 == 5) 0 false x210000 x210001 x210002 x211000 x211001 x211002 x213000 x213001 x214000 x214001)) else (if x0 = 2 then (if x211000 = 14 then (if x210000 = 14 then (value_spans.j2 k x0 (x211000 == 5) 0 true x210000 x210001 x210002 x211000 x211001 x211002 x213000 x213001 x214000 x214001) else (if x210000 = 17 then (value_spans.j2 k x0 (x211000 == 5) 0 true x210000 x210001 x210002 x211000 x211001 x211002 x213000 x213001 x214000 x214001) else (value_spans.j2 k x0 (x211000 == 5) 0 (x210000 == 16) x210000 x210001 x210002 x211000 x211001 x211002 x213000 x213001 x214000 x214001))) else (value_spans.j2 k x0 (x211000 == 5) 0 false x210000 x210001 x210002 x211000 x211001 x211002 x213000 x213001 x214000 x214001)) else (value_spans.j2 k x0 (x211000 == 5) 0 false x210000 x210001 x210002 x211000 x211001 x211002 x213000 x213001 x214000 x214001))
def value_spans.j5 : Nat → Int → Int → Bool → Int → Bool → Int → Option (Int × Int × ByteArray × Int)
 | 0, _, _, _, _, _, _ => none
 | k + 1, x0, x12, x213000, x213001, x214000, x214001 => if x12 = 0 then (some (0, 0, (⟨#[]⟩ : ByteArray), 8)) else (if x0 = 2 then (value_spans.j6 k x12 x213000 x213001 (!x214000) x214001) else (if x0 = 1 then (value_spans.j6 k x12 x213000 x213001 x214000 x214001) else (if x0 = 3 then ((value_times.f x213000 x213001 x214000 x214001).bind fun bt215 => (value_spans.j7 k x12 bt215.2.2 bt215.1 bt215.2.1)) else (if x214001 = 0 then (some (0, 0, (⟨#[]⟩ : ByteArray), 2)) else (value_spans.j7 k x12 true (x213000 != x214000) (IntKind.u64.wrap (Int.tdiv x213001 x214001)))))))
def value_spans.j7 : Nat → Int → Bool → Bool → Int → Option (Int × Int × ByteArray × Int)
 | 0, _, _, _, _ => none
 | k + 1, x12, x14, x215000, x215001 => if x14 = true then ((value_wide_of.f k x215000 x215001 x12 1).bind fun bt221 => (some (bt221.1, bt221.2.1, bt221.2.2.1, bt221.2.2.2))) else (some (0, 0, (⟨#[]⟩ : ByteArray), 1))
def value_spans.j6 : Nat → Int → Bool → Int → Bool → Int → Option (Int × Int × ByteArray × Int)
 | 0, _, _, _, _, _ => none
 | k + 1, x12, x213000, x213001, x214000, x214001 => (value_plus.f x213000 x213001 x214000 x214001).bind fun bt218 => (value_spans.j7 k x12 bt218.2.2 bt218.1 bt218.2.1)
def value_spans.j2 : Nat → Int → Bool → Int → Bool → Int → Int → ByteArray → Int → Int → ByteArray → Bool → Int → Bool → Int → Option (Int × Int × ByteArray × Int)
 | 0, _, _, _, _, _, _, _, _, _, _, _, _, _, _ => none
 | k + 1, x0, x11, x12, x47, x210000, x210001, x210002, x211000, x211001, x211002, x213000, x213001, x214000, x214001 => if x47 = true then (value_spans.j5 k x0 x210000 x213000 x213001 x214000 x214001) else (if x0 = 2 then (value_spans.j3 k x0 x11 x12 (x210000 == x211000) x210000 x210001 x210002 x213000 x213001 x214000 x214001) else (value_spans.j3 k x0 x11 x12 false x210000 x210001 x210002 x213000 x213001 x214000 x214001))
def value_spans.j3 : Nat → Int → Bool → Int → Bool → Int → Int → ByteArray → Bool → Int → Bool → Int → Option (Int × Int × ByteArray × Int)
 | 0, _, _, _, _, _, _, _, _, _, _, _ => none
 | k + 1, x0, x11, x12, x74, x210000, x210001, x210002, x213000, x213001, x214000, x214001 => if x74 = true then (value_spans.j5 k x0 14 x213000 x213001 x214000 x214001) else (if x0 = 3 then (if x210000 = 14 then (value_spans.j4 k x0 x12 x11 x213000 x213001 x214000 x214001) else (value_spans.j4 k x0 x12 false x213000 x213001 x214000 x214001)) else (if x0 = 4 then (if x210000 = 14 then (value_spans.j4 k x0 x12 x11 x213000 x213001 x214000 x214001) else (value_spans.j4 k x0 x12 false x213000 x213001 x214000 x214001)) else (value_spans.j4 k x0 x12 false x213000 x213001 x214000 x214001)))
def value_spans.j4 : Nat → Int → Int → Bool → Bool → Int → Bool → Int → Option (Int × Int × ByteArray × Int)
 | 0, _, _, _, _, _, _, _ => none
 | k + 1, x0, x12, x84, x213000, x213001, x214000, x214001 => if x84 = true then (value_spans.j5 k x0 14 x213000 x213001 x214000 x214001) else (value_spans.j5 k x0 x12 x213000 x213001 x214000 x214001)
end
def value_spans.f (k : Nat) (a0 : Int) (a1_0 : Int) (a1_1 : Int) (a1_2 : ByteArray) (a2_0 : Int) (a2_1 : Int) (a2_2 : ByteArray) : Option (Int × Int × ByteArray × Int) := if (wrap64 (a1_1)) < 0 then (value_spans.j0 k a0 a1_0 a1_1 a1_2 a2_0 a2_1 a2_2 true (IntKind.u64.wrap (-a1_1)) (decide ((wrap64 (a2_1)) < 0)) a2_1) else (value_spans.j0 k a0 a1_0 a1_1 a1_2 a2_0 a2_1 a2_2 false a1_1 (decide ((wrap64 (a2_1)) < 0)) a2_1)
theorem value_spans.mono_l : ∀ k, (∀ y0 y1 y2 y3 y4 y5 y6 y7 y8 y9 y10, LeO (value_spans.j0 k y0 y1 y2 y3 y4 y5 y6 y7 y8 y9 y10) (value_spans.j0 (k + 1) y0 y1 y2 y3 y4 y5 y6 y7 y8 y9 y10)) ∧ (∀ y0 y1 y2 y3 y4 y5 y6 y7 y8 y9 y10, LeO (value_spans.j1 k y0 y1 y2 y3 y4 y5 y6 y7 y8 y9 y10) (value_spans.j1 (k + 1) y0 y1 y2 y3 y4 y5 y6 y7 y8 y9 y10)) ∧ (∀ y0 y1 y2 y3 y4 y5, LeO (value_spans.j5 k y0 y1 y2 y3 y4 y5) (value_spans.j5 (k + 1) y0 y1 y2 y3 y4 y5)) ∧ (∀ y0 y1 y2 y3, LeO (value_spans.j7 k y0 y1 y2 y3) (value_spans.j7 (k + 1) y0 y1 y2 y3)) ∧ (∀ y0 y1 y2 y3 y4, LeO (value_spans.j6 k y0 y1 y2 y3 y4) (value_spans.j6 (k + 1) y0 y1 y2 y3 y4)) ∧ (∀ y0 y1 y2 y3 y4 y5 y6 y7 y8 y9 y10 y11 y12 y13, LeO (value_spans.j2 k y0 y1 y2 y3 y4 y5 y6 y7 y8 y9 y10 y11 y12 y13) (value_spans.j2 (k + 1) y0 y1 y2 y3 y4 y5 y6 y7 y8 y9 y10 y11 y12 y13)) ∧ (∀ y0 y1 y2 y3 y4 y5 y6 y7 y8 y9 y10, LeO (value_spans.j3 k y0 y1 y2 y3 y4 y5 y6 y7 y8 y9 y10) (value_spans.j3 (k + 1) y0 y1 y2 y3 y4 y5 y6 y7 y8 y9 y10)) ∧ (∀ y0 y1 y2 y3 y4 y5 y6, LeO (value_spans.j4 k y0 y1 y2 y3 y4 y5 y6) (value_spans.j4 (k + 1) y0 y1 y2 y3 y4 y5 y6))
 | 0 => ⟨fun _ _ _ _ _ _ _ _ _ _ _ r h => by simp [value_spans.j0] at h, fun _ _ _ _ _ _ _ _ _ _ _ r h => by simp [value_spans.j1] at h, fun _ _ _ _ _ _ r h => by simp [value_spans.j5] at h, fun _ _ _ _ r h => by simp [value_spans.j7] at h, fun _ _ _ _ _ r h => by simp [value_spans.j6] at h, fun _ _ _ _ _ _ _ _ _ _ _ _ _ _ r h => by simp [value_spans.j2] at h, fun _ _ _ _ _ _ _ _ _ _ _ r h => by simp [value_spans.j3] at h, fun _ _ _ _ _ _ _ r h => by simp [value_spans.j4] at h⟩
 | k + 1 => by
  obtain ⟨ih0, ih1, ih2, ih3, ih4, ih5, ih6, ih7⟩ := value_spans.mono_l k
  refine ⟨?_, ?_, ?_, ?_, ?_, ?_, ?_, ?_⟩
  ·intro y0 y1 y2 y3 y4 y5 y6 y7 y8 y9 y10
   unfold value_spans.j0
   repeat' first
   | (with_reducible exact ih0 _ _ _ _ _ _ _ _ _ _ _)
   | (with_reducible exact ih1 _ _ _ _ _ _ _ _ _ _ _)
   | (with_reducible exact ih2 _ _ _ _ _ _)
   | (with_reducible exact ih3 _ _ _ _)
   | (with_reducible exact ih4 _ _ _ _ _)
   | (with_reducible exact ih5 _ _ _ _ _ _ _ _ _ _ _ _ _ _)
   | (with_reducible exact ih6 _ _ _ _ _ _ _ _ _ _ _)
   | (with_reducible exact ih7 _ _ _ _ _ _ _)
   | (with_reducible exact value_wide_of.mono _ _ _ _ _)
   | (with_reducible exact LeO.refl _)
   | (with_reducible exact LeO.none _)
   | (with_reducible refine LeO.ite ?_ ?_)
   | (with_reducible refine LeO.bind ?_ (fun _ => ?_))
   | exact ih0 _ _ _ _ _ _ _ _ _ _ _
   | exact ih1 _ _ _ _ _ _ _ _ _ _ _
   | exact ih2 _ _ _ _ _ _
   | exact ih3 _ _ _ _
   | exact ih4 _ _ _ _ _
   | exact ih5 _ _ _ _ _ _ _ _ _ _ _ _ _ _
   | exact ih6 _ _ _ _ _ _ _ _ _ _ _
   | exact ih7 _ _ _ _ _ _ _
   | exact value_wide_of.mono _ _ _ _ _
   | exact LeO.none _
   | refine LeO.ite ?_ ?_
   | refine LeO.bind ?_ (fun _ => ?_)
  ·intro y0 y1 y2 y3 y4 y5 y6 y7 y8 y9 y10
   unfold value_spans.j1
   repeat' first
   | (with_reducible exact ih0 _ _ _ _ _ _ _ _ _ _ _)
   | (with_reducible exact ih1 _ _ _ _ _ _ _ _ _ _ _)
   | (with_reducible exact ih2 _ _ _ _ _ _)
   | (with_reducible exact ih3 _ _ _ _)
   | (with_reducible exact ih4 _ _ _ _ _)
   | (with_reducible exact ih5 _ _ _ _ _ _ _ _ _ _ _ _ _ _)
   | (with_reducible exact ih6 _ _ _ _ _ _ _ _ _ _ _)
   | (with_reducible exact ih7 _ _ _ _ _ _ _)
   | (with_reducible exact value_wide_of.mono _ _ _ _ _)
   | (with_reducible exact LeO.refl _)
   | (with_reducible exact LeO.none _)
   | (with_reducible refine LeO.ite ?_ ?_)
   | (with_reducible refine LeO.bind ?_ (fun _ => ?_))
   | exact ih0 _ _ _ _ _ _ _ _ _ _ _
   | exact ih1 _ _ _ _ _ _ _ _ _ _ _
   | exact ih2 _ _ _ _ _ _
   | exact ih3 _ _ _ _
   | exact ih4 _ _ _ _ _
   | exact ih5 _ _ _ _ _ _ _ _ _ _ _ _ _ _
   | exact ih6 _ _ _ _ _ _ _ _ _ _ _
   | exact ih7 _ _ _ _ _ _ _
   | exact value_wide_of.mono _ _ _ _ _
   | exact LeO.none _
   | refine LeO.ite ?_ ?_
   | refine LeO.bind ?_ (fun _ => ?_)
  ·intro y0 y1 y2 y3 y4 y5
   unfold value_spans.j5
   repeat' first
   | (with_reducible exact ih0 _ _ _ _ _ _ _ _ _ _ _)
   | (with_reducible exact ih1 _ _ _ _ _ _ _ _ _ _ _)
   | (with_reducible exact ih2 _ _ _ _ _ _)
   | (with_reducible exact ih3 _ _ _ _)
   | (with_reducible exact ih4 _ _ _ _ _)
   | (with_reducible exact ih5 _ _ _ _ _ _ _ _ _ _ _ _ _ _)
   | (with_reducible exact ih6 _ _ _ _ _ _ _ _ _ _ _)
   | (with_reducible exact ih7 _ _ _ _ _ _ _)
   | (with_reducible exact value_wide_of.mono _ _ _ _ _)
   | (with_reducible exact LeO.refl _)
   | (with_reducible exact LeO.none _)
   | (with_reducible refine LeO.ite ?_ ?_)
   | (with_reducible refine LeO.bind ?_ (fun _ => ?_))
   | exact ih0 _ _ _ _ _ _ _ _ _ _ _
   | exact ih1 _ _ _ _ _ _ _ _ _ _ _
   | exact ih2 _ _ _ _ _ _
   | exact ih3 _ _ _ _
   | exact ih4 _ _ _ _ _
   | exact ih5 _ _ _ _ _ _ _ _ _ _ _ _ _ _
   | exact ih6 _ _ _ _ _ _ _ _ _ _ _
   | exact ih7 _ _ _ _ _ _ _
   | exact value_wide_of.mono _ _ _ _ _
   | exact LeO.none _
   | refine LeO.ite ?_ ?_
   | refine LeO.bind ?_ (fun _ => ?_)
  ·intro y0 y1 y2 y3
   unfold value_spans.j7
   repeat' first
   | (with_reducible exact ih0 _ _ _ _ _ _ _ _ _ _ _)
   | (with_reducible exact ih1 _ _ _ _ _ _ _ _ _ _ _)
   | (with_reducible exact ih2 _ _ _ _ _ _)
   | (with_reducible exact ih3 _ _ _ _)
   | (with_reducible exact ih4 _ _ _ _ _)
   | (with_reducible exact ih5 _ _ _ _ _ _ _ _ _ _ _ _ _ _)
   | (with_reducible exact ih6 _ _ _ _ _ _ _ _ _ _ _)
   | (with_reducible exact ih7 _ _ _ _ _ _ _)
   | (with_reducible exact value_wide_of.mono _ _ _ _ _)
   | (with_reducible exact LeO.refl _)
   | (with_reducible exact LeO.none _)
   | (with_reducible refine LeO.ite ?_ ?_)
   | (with_reducible refine LeO.bind ?_ (fun _ => ?_))
   | exact ih0 _ _ _ _ _ _ _ _ _ _ _
   | exact ih1 _ _ _ _ _ _ _ _ _ _ _
   | exact ih2 _ _ _ _ _ _
   | exact ih3 _ _ _ _
   | exact ih4 _ _ _ _ _
   | exact ih5 _ _ _ _ _ _ _ _ _ _ _ _ _ _
   | exact ih6 _ _ _ _ _ _ _ _ _ _ _
   | exact ih7 _ _ _ _ _ _ _
   | exact value_wide_of.mono _ _ _ _ _
   | exact LeO.none _
   | refine LeO.ite ?_ ?_
   | refine LeO.bind ?_ (fun _ => ?_)
  ·intro y0 y1 y2 y3 y4
   unfold value_spans.j6
   repeat' first
   | (with_reducible exact ih0 _ _ _ _ _ _ _ _ _ _ _)
   | (with_reducible exact ih1 _ _ _ _ _ _ _ _ _ _ _)
   | (with_reducible exact ih2 _ _ _ _ _ _)
   | (with_reducible exact ih3 _ _ _ _)
   | (with_reducible exact ih4 _ _ _ _ _)
   | (with_reducible exact ih5 _ _ _ _ _ _ _ _ _ _ _ _ _ _)
   | (with_reducible exact ih6 _ _ _ _ _ _ _ _ _ _ _)
   | (with_reducible exact ih7 _ _ _ _ _ _ _)
   | (with_reducible exact value_wide_of.mono _ _ _ _ _)
   | (with_reducible exact LeO.refl _)
   | (with_reducible exact LeO.none _)
   | (with_reducible refine LeO.ite ?_ ?_)
   | (with_reducible refine LeO.bind ?_ (fun _ => ?_))
   | exact ih0 _ _ _ _ _ _ _ _ _ _ _
   | exact ih1 _ _ _ _ _ _ _ _ _ _ _
   | exact ih2 _ _ _ _ _ _
   | exact ih3 _ _ _ _
   | exact ih4 _ _ _ _ _
   | exact ih5 _ _ _ _ _ _ _ _ _ _ _ _ _ _
   | exact ih6 _ _ _ _ _ _ _ _ _ _ _
   | exact ih7 _ _ _ _ _ _ _
   | exact value_wide_of.mono _ _ _ _ _
   | exact LeO.none _
   | refine LeO.ite ?_ ?_
   | refine LeO.bind ?_ (fun _ => ?_)
  ·intro y0 y1 y2 y3 y4 y5 y6 y7 y8 y9 y10 y11 y12 y13
   unfold value_spans.j2
   repeat' first
   | (with_reducible exact ih0 _ _ _ _ _ _ _ _ _ _ _)
   | (with_reducible exact ih1 _ _ _ _ _ _ _ _ _ _ _)
   | (with_reducible exact ih2 _ _ _ _ _ _)
   | (with_reducible exact ih3 _ _ _ _)
   | (with_reducible exact ih4 _ _ _ _ _)
   | (with_reducible exact ih5 _ _ _ _ _ _ _ _ _ _ _ _ _ _)
   | (with_reducible exact ih6 _ _ _ _ _ _ _ _ _ _ _)
   | (with_reducible exact ih7 _ _ _ _ _ _ _)
   | (with_reducible exact value_wide_of.mono _ _ _ _ _)
   | (with_reducible exact LeO.refl _)
   | (with_reducible exact LeO.none _)
   | (with_reducible refine LeO.ite ?_ ?_)
   | (with_reducible refine LeO.bind ?_ (fun _ => ?_))
   | exact ih0 _ _ _ _ _ _ _ _ _ _ _
   | exact ih1 _ _ _ _ _ _ _ _ _ _ _
   | exact ih2 _ _ _ _ _ _
   | exact ih3 _ _ _ _
   | exact ih4 _ _ _ _ _
   | exact ih5 _ _ _ _ _ _ _ _ _ _ _ _ _ _
   | exact ih6 _ _ _ _ _ _ _ _ _ _ _
   | exact ih7 _ _ _ _ _ _ _
   | exact value_wide_of.mono _ _ _ _ _
   | exact LeO.none _
   | refine LeO.ite ?_ ?_
   | refine LeO.bind ?_ (fun _ => ?_)
  ·intro y0 y1 y2 y3 y4 y5 y6 y7 y8 y9 y10
   unfold value_spans.j3
   repeat' first
   | (with_reducible exact ih0 _ _ _ _ _ _ _ _ _ _ _)
   | (with_reducible exact ih1 _ _ _ _ _ _ _ _ _ _ _)
   | (with_reducible exact ih2 _ _ _ _ _ _)
   | (with_reducible exact ih3 _ _ _ _)
   | (with_reducible exact ih4 _ _ _ _ _)
   | (with_reducible exact ih5 _ _ _ _ _ _ _ _ _ _ _ _ _ _)
   | (with_reducible exact ih6 _ _ _ _ _ _ _ _ _ _ _)
   | (with_reducible exact ih7 _ _ _ _ _ _ _)
   | (with_reducible exact value_wide_of.mono _ _ _ _ _)
   | (with_reducible exact LeO.refl _)
   | (with_reducible exact LeO.none _)
   | (with_reducible refine LeO.ite ?_ ?_)
   | (with_reducible refine LeO.bind ?_ (fun _ => ?_))
   | exact ih0 _ _ _ _ _ _ _ _ _ _ _
   | exact ih1 _ _ _ _ _ _ _ _ _ _ _
   | exact ih2 _ _ _ _ _ _
   | exact ih3 _ _ _ _
   | exact ih4 _ _ _ _ _
   | exact ih5 _ _ _ _ _ _ _ _ _ _ _ _ _ _
   | exact ih6 _ _ _ _ _ _ _ _ _ _ _
   | exact ih7 _ _ _ _ _ _ _
   | exact value_wide_of.mono _ _ _ _ _
   | exact LeO.none _
   | refine LeO.ite ?_ ?_
   | refine LeO.bind ?_ (fun _ => ?_)
  ·intro y0 y1 y2 y3 y4 y5 y6
   unfold value_spans.j4
   repeat' first
   | (with_reducible exact ih0 _ _ _ _ _ _ _ _ _ _ _)
   | (with_reducible exact ih1 _ _ _ _ _ _ _ _ _ _ _)
   | (with_reducible exact ih2 _ _ _ _ _ _)
   | (with_reducible exact ih3 _ _ _ _)
   | (with_reducible exact ih4 _ _ _ _ _)
   | (with_reducible exact ih5 _ _ _ _ _ _ _ _ _ _ _ _ _ _)
   | (with_reducible exact ih6 _ _ _ _ _ _ _ _ _ _ _)
   | (with_reducible exact ih7 _ _ _ _ _ _ _)
   | (with_reducible exact value_wide_of.mono _ _ _ _ _)
   | (with_reducible exact LeO.refl _)
   | (with_reducible exact LeO.none _)
   | (with_reducible refine LeO.ite ?_ ?_)
   | (with_reducible refine LeO.bind ?_ (fun _ => ?_))
   | exact ih0 _ _ _ _ _ _ _ _ _ _ _
   | exact ih1 _ _ _ _ _ _ _ _ _ _ _
   | exact ih2 _ _ _ _ _ _
   | exact ih3 _ _ _ _
   | exact ih4 _ _ _ _ _
   | exact ih5 _ _ _ _ _ _ _ _ _ _ _ _ _ _
   | exact ih6 _ _ _ _ _ _ _ _ _ _ _
   | exact ih7 _ _ _ _ _ _ _
   | exact value_wide_of.mono _ _ _ _ _
   | exact LeO.none _
   | refine LeO.ite ?_ ?_
   | refine LeO.bind ?_ (fun _ => ?_)
theorem value_spans.mono : ∀ a0 a1 a2 a3 a4 a5 a6 k, LeO (value_spans.f k a0 a1 a2 a3 a4 a5 a6) (value_spans.f (k + 1) a0 a1 a2 a3 a4 a5 a6) := by
 intro a0 a1 a2 a3 a4 a5 a6 k
 obtain ⟨ih0, ih1, ih2, ih3, ih4, ih5, ih6, ih7⟩ := value_spans.mono_l k
 unfold value_spans.f
 repeat' first
   | (with_reducible exact ih0 _ _ _ _ _ _ _ _ _ _ _)
   | (with_reducible exact ih1 _ _ _ _ _ _ _ _ _ _ _)
   | (with_reducible exact ih2 _ _ _ _ _ _)
   | (with_reducible exact ih3 _ _ _ _)
   | (with_reducible exact ih4 _ _ _ _ _)
   | (with_reducible exact ih5 _ _ _ _ _ _ _ _ _ _ _ _ _ _)
   | (with_reducible exact ih6 _ _ _ _ _ _ _ _ _ _ _)
   | (with_reducible exact ih7 _ _ _ _ _ _ _)
   | (with_reducible exact value_wide_of.mono _ _ _ _ _)
   | (with_reducible exact LeO.refl _)
   | (with_reducible exact LeO.none _)
   | (with_reducible refine LeO.ite ?_ ?_)
   | (with_reducible refine LeO.bind ?_ (fun _ => ?_))
   | exact ih0 _ _ _ _ _ _ _ _ _ _ _
   | exact ih1 _ _ _ _ _ _ _ _ _ _ _
   | exact ih2 _ _ _ _ _ _
   | exact ih3 _ _ _ _
   | exact ih4 _ _ _ _ _
   | exact ih5 _ _ _ _ _ _ _ _ _ _ _ _ _ _
   | exact ih6 _ _ _ _ _ _ _ _ _ _ _
   | exact ih7 _ _ _ _ _ _ _
   | exact value_wide_of.mono _ _ _ _ _
   | exact LeO.none _
   | refine LeO.ite ?_ ?_
   | refine LeO.bind ?_ (fun _ => ?_)
def value_spans.T1 : Bool × List (List Nat × List Nat) := (true, [([], []), ([0], [0]), ([1], [1]), ([2], [2]), ([], []), ([4], [4]), ([3, 5], [3, 5]), ([], []), ([7], [7]), ([8], [8]), ([9], [9]), ([], []), ([11], [11]), ([10, 12], [10, 12]), ([], []), ([], []), ([14, 6, 0, 1, 2, 3, 4, 5, 6, 14, 15], [6, 14]), ([15, 13, 16, 0, 1, 2, 3, 4, 5, 6, 7, 8, 9, 10, 11, 12, 13, 14, 15, 16], [13, 15])])
def value_spans.B1 : List Nat := [0, 1, 3, 7, 0, 16, 63, 0, 128, 384, 896, 0, 2048, 8064, 0, 0, 49279, 131071]
theorem value_spans.tab1 : rtab .any (opsOf Try.f59 1) = value_spans.T1 := by kernel_rfl
theorem value_spans.bits1 : waitsOk value_spans.T1.2 value_spans.B1 = true := by kernel_rfl
def value_spans.T6 : Bool × List (List Nat × List Nat) := (true, [([], []), ([0], [0]), ([1], [1]), ([], []), ([3], [3]), ([4], [4]), ([2, 0, 1, 2], [2]), ([5, 6, 0, 1, 2, 3, 4, 5, 6], [5])])
def value_spans.B6 : List Nat := [0, 1, 3, 0, 8, 24, 7, 127]
theorem value_spans.tab6 : rtab .any (opsOf Try.f59 6) = value_spans.T6 := by kernel_rfl
theorem value_spans.bits6 : waitsOk value_spans.T6.2 value_spans.B6 = true := by kernel_rfl
def value_spans.T26 : Bool × List (List Nat × List Nat) := (true, [([], []), ([0], [0]), ([], []), ([2], [2]), ([1, 3], [1, 3]), ([], []), ([5], [5]), ([], []), ([7], [7]), ([6, 8], [6, 8]), ([4, 9], [4, 9]), ([10, 0, 1, 2, 3, 4, 5, 6, 7, 8, 9, 10], [10])])
def value_spans.B26 : List Nat := [0, 1, 0, 4, 15, 0, 32, 0, 128, 480, 1023, 2047]
theorem value_spans.tab26 : rtab .any (opsOf Try.f59 26) = value_spans.T26 := by kernel_rfl
theorem value_spans.bits26 : waitsOk value_spans.T26.2 value_spans.B26 = true := by kernel_rfl
set_option maxHeartbeats 8000000 in
set_option maxRecDepth 100000 in
theorem value_spans.calls (k : Nat) (a0 : Int) (a1_0 : Int) (a1_1 : Int) (a1_2 : ByteArray) (a2_0 : Int) (a2_1 : Int) (a2_2 : ByteArray) (r1 : Int) (r2 : Int) (r3 : ByteArray) (r4 : Int) (w : World) (h : value_spans.f k a0 a1_0 a1_1 a1_2 a2_0 a2_1 a2_2 = some (r1, r2, r3, r4)) :
  Calls Try.prog 59 #[.int .i64 a0, .agg #[.int .u8 a1_0, .int .u64 a1_1, .string a1_2], .agg #[.int .u8 a2_0, .int .u64 a2_1, .string a2_2]] w fun e w' => e = .returned (.tuple #[.agg #[.int .u8 r1, .int .u64 r2, .string r3], .int .i64 r4]) ∧ Below w.heap.size w w' := by
 have hu27 := Try.underlying27
 have hu58 := Try.underlying58
 have HB := Aside0.mk (Below.refl w.heap.size w)
 have H : (if (wrap64 (a1_1)) < 0 then (value_spans.j0 k a0 a1_0 a1_1 a1_2 a2_0 a2_1 a2_2 true (IntKind.u64.wrap (-a1_1)) (decide ((wrap64 (a2_1)) < 0)) a2_1) else (value_spans.j0 k a0 a1_0 a1_1 a1_2 a2_0 a2_1 a2_2 false a1_1 (decide ((wrap64 (a2_1)) < 0)) a2_1)) = some (r1, r2, r3, r4) := h
 clear h
 have HC4 := Aside0.mk H
 clear H
 go_enter Try.func59, Try.ntmps59
 try go_wp2_with (first | ((with_reducible refine gate_dst (N := 4) rfl ?_); refine box_event ?hg (N := 4) ?hd (cs := #[.int .u8 a1_0, .int .u64 a1_1, .string a1_2]) (t := 27) ?hr ?_; (case hd => rfl); (case hg => rfl); (case hr => first | (go_simp; done) | (go_simp; rfl)); intro gb209 hg w5 hbox hb; have n0_ := bt HB hb; have n1_ := Aside0.mk (hbox); have n2_ := gs hg HB; have n3_ := gs hg HB; clear HB; have HB := n0_; have BK209 := n1_; have GW209 := n2_; have GE209 := n3_; clear n0_ n1_ n2_ n3_; clear hb hbox hg) | ((with_reducible refine gate_dst (N := 5) rfl ?_); refine box_event ?hg (N := 5) ?hd (cs := #[.int .u8 a2_0, .int .u64 a2_1, .string a2_2]) (t := 27) ?hr ?_; (case hd => rfl); (case hg => rfl); (case hr => first | (go_simp; done) | (go_simp; rfl)); intro gb210 hg w6 hbox hb; have n0_ := kb BK209 hb; have n1_ := bt HB hb; have n2_ := Aside0.mk (hbox); have n3_ := gs hg HB; have n4_ := gs hg HB; have n5_ := nl hg BK209; have n6_ := ng hg BK209; clear BK209; clear HB; have BK209 := n0_; have HB := n1_; have BK210 := n2_; have GW210 := n3_; have GE210 := n4_; have NB209_210 := n5_; have NB210_209 := n6_; clear n0_ n1_ n2_ n3_ n4_ n5_ n6_; clear hb hbox hg) | ((with_reducible refine gate_dst (N := 6) rfl ?_); refine box_event ?hg (N := 6) ?hd (cs := #[.int .u8 0, .int .u64 0, .string (⟨#[]⟩ : ByteArray)]) (t := 27) ?hr ?_; (case hd => rfl); (case hg => rfl); (case hr => first | (go_simp; done) | (go_simp; rfl)); intro gb211 hg w7 hbox hb; have n0_ := kb BK209 hb; have n1_ := kb BK210 hb; have n2_ := bt HB hb; have n3_ := Aside0.mk (hbox); have n4_ := gs hg HB; have n5_ := gs hg HB; have n6_ := nl hg BK209; have n7_ := ng hg BK209; have n8_ := nl hg BK210; have n9_ := ng hg BK210; clear BK209; clear BK210; clear HB; have BK209 := n0_; have BK210 := n1_; have HB := n2_; have BK211 := n3_; have GW211 := n4_; have GE211 := n5_; have NB209_211 := n6_; have NB211_209 := n7_; have NB210_211 := n8_; have NB211_210 := n9_; clear n0_ n1_ n2_ n3_ n4_ n5_ n6_ n7_ n8_ n9_; clear hb hbox hg))
 have n0_ := Aside0.mk (blk_drew BK209.out)
 have n1_ := Aside0.mk (blk_drew BK210.out)
 have n2_ := Aside0.mk (blk_drew BK211.out)
 have n3_ := Aside0.mk (below_drew1 HB.out)
 clear BK209
 clear BK210
 clear BK211
 clear HB
 have BK209 := n0_
 have BK210 := n1_
 have BK211 := n2_
 have HB := n3_
 clear n0_ n1_ n2_ n3_
 refine start_ (n := 18) (S := fun w' => w'.cell? ⟨gb209, 0, none⟩ = some (.int .u8 a1_0) ∧ w'.cell? ⟨gb209, 1, none⟩ = some (.int .u64 a1_1) ∧ w'.cell? ⟨gb209, 2, none⟩ = some (.string a1_2) ∧ w'.cell? ⟨gb210, 0, none⟩ = some (.int .u8 a2_0) ∧ w'.cell? ⟨gb210, 1, none⟩ = some (.int .u64 a2_1) ∧ w'.cell? ⟨gb210, 2, none⟩ = some (.string a2_2)) (ds := []) #[false, false, false, false, false, false, false, false, false, false, false, false, false, false, false, false, false, false] (by kernel_rfl) rfl rfl ⟨bc BK209 0, bc BK209 1, bc BK209 2, bc BK210 0, bc BK210 1, bc BK210 2⟩ (fun hHeld => ?_); refine with_tabW value_spans.tab1 value_spans.bits1 (fun HT_ HW_ => ?_)
 generalize w7.drew = w8 at BK209 BK210 BK211 HB hHeld ⊢
 refine pure_ (i := 0) (N := some 15) (v := ?_) (a' := ?_) #[true, false, false, false, false, false, false, false, false, false, false, false, false, false, false, false, false, false] rfl rfl (any_of HT_.out (by kernel_rfl)) (fun _ _ _ h => h) (Or.inl ⟨by rfl, ?_⟩) ?_ ?_
 rotate_left
 ·intro w'
  go_simp
  with_reducible rfl
 rotate_left
 ·simp only [Act.put, List.setIfInBounds_toArray, List.set_cons_zero, List.set_cons_succ, i64_w, i32_w]
  rfl
 refine pure_ (i := 4) (N := some 19) (v := ?_) (a' := ?_) #[true, false, false, false, true, false, false, false, false, false, false, false, false, false, false, false, false, false] rfl rfl (any_of HT_.out (by kernel_rfl)) (fun _ _ _ h => h) (Or.inl ⟨by rfl, ?_⟩) ?_ ?_
 rotate_left
 ·intro w'
  go_simp
  with_reducible rfl
 rotate_left
 ·simp only [Act.put, List.setIfInBounds_toArray, List.set_cons_zero, List.set_cons_succ, i64_w, i32_w]
  rfl
 refine pure_ (i := 7) (N := some 22) (v := ?_) (a' := ?_) #[true, false, false, false, true, false, false, true, false, false, false, false, false, false, false, false, false, false] rfl rfl (any_of HT_.out (by kernel_rfl)) (fun _ _ _ h => h) (Or.inl ⟨by rfl, ?_⟩) ?_ ?_
 rotate_left
 ·intro w'
  go_simp
  with_reducible rfl
 rotate_left
 ·simp only [Act.put, List.setIfInBounds_toArray, List.set_cons_zero, List.set_cons_succ, i64_w, i32_w]
  rfl
 refine pure_ (i := 11) (N := some 26) (v := ?_) (a' := ?_) #[true, false, false, false, true, false, false, true, false, false, false, true, false, false, false, false, false, false] rfl rfl (any_of HT_.out (by kernel_rfl)) (fun _ _ _ h => h) (Or.inl ⟨by rfl, ?_⟩) ?_ ?_
 rotate_left
 ·intro w'
  go_simp
  with_reducible rfl
 rotate_left
 ·simp only [Act.put, List.setIfInBounds_toArray, List.set_cons_zero, List.set_cons_succ, i64_w, i32_w]
  rfl
 refine take_ (i := 1) (N := some 16) (v := ?_) (a' := ?_) #[true, true, false, false, true, false, false, true, false, false, false, true, false, false, false, false, false, false] rfl rfl (take_ofW HT_.out HW_.out (by kernel_rfl)) (fun _ _ _ h => h) (Or.inl ⟨by rfl, ?_⟩) hHeld ?_ ?_
 rotate_left
 ·rintro w' ⟨s0, s1, s2, s3, s4, s5⟩
  go_simp
  with_reducible rfl
 rotate_left
 ·simp only [Act.put, List.setIfInBounds_toArray, List.set_cons_zero, List.set_cons_succ, i64_w, i32_w]
  rfl
 refine pure_ (i := 2) (N := some 17) (v := ?_) (a' := ?_) #[true, true, true, false, true, false, false, true, false, false, false, true, false, false, false, false, false, false] rfl rfl (any_of HT_.out (by kernel_rfl)) (fun _ _ _ h => h) (Or.inl ⟨by rfl, ?_⟩) ?_ ?_
 rotate_left
 ·intro w'
  go_simp
  with_reducible rfl
 rotate_left
 ·simp only [Act.put, List.setIfInBounds_toArray, List.set_cons_zero, List.set_cons_succ, i64_w, i32_w]
  rfl
 refine pure_ (i := 3) (N := some 18) (v := ?_) (a' := ?_) #[true, true, true, true, true, false, false, true, false, false, false, true, false, false, false, false, false, false] rfl rfl (any_of HT_.out (by kernel_rfl)) (fun _ _ _ h => h) (Or.inl ⟨by rfl, ?_⟩) ?_ ?_
 rotate_left
 ·intro w'
  go_simp
  with_reducible rfl
 rotate_left
 ·simp only [Act.put, List.setIfInBounds_toArray, List.set_cons_zero, List.set_cons_succ, i64_w, i32_w]
  rfl
 refine take_ (i := 5) (N := some 20) (v := ?_) (a' := ?_) #[true, true, true, true, true, true, false, true, false, false, false, true, false, false, false, false, false, false] rfl rfl (take_ofW HT_.out HW_.out (by kernel_rfl)) (fun _ _ _ h => h) (Or.inl ⟨by rfl, ?_⟩) hHeld ?_ ?_
 rotate_left
 ·rintro w' ⟨s0, s1, s2, s3, s4, s5⟩
  go_simp
  with_reducible rfl
 rotate_left
 ·simp only [Act.put, List.setIfInBounds_toArray, List.set_cons_zero, List.set_cons_succ, i64_w, i32_w]
  rfl
 refine pure_ (i := 6) (N := some 21) (v := ?_) (a' := ?_) #[true, true, true, true, true, true, true, true, false, false, false, true, false, false, false, false, false, false] rfl rfl (any_of HT_.out (by kernel_rfl)) (fun _ _ _ h => h) (Or.inl ⟨by rfl, ?_⟩) ?_ ?_
 rotate_left
 ·intro w'
  go_simp
  with_reducible rfl
 rotate_left
 ·simp only [Act.put, List.setIfInBounds_toArray, List.set_cons_zero, List.set_cons_succ, i64_w, i32_w]
  rfl
 refine take_ (i := 8) (N := some 23) (v := ?_) (a' := ?_) #[true, true, true, true, true, true, true, true, true, false, false, true, false, false, false, false, false, false] rfl rfl (take_ofW HT_.out HW_.out (by kernel_rfl)) (fun _ _ _ h => h) (Or.inl ⟨by rfl, ?_⟩) hHeld ?_ ?_
 rotate_left
 ·rintro w' ⟨s0, s1, s2, s3, s4, s5⟩
  go_simp
  with_reducible rfl
 rotate_left
 ·simp only [Act.put, List.setIfInBounds_toArray, List.set_cons_zero, List.set_cons_succ, i64_w, i32_w]
  rfl
 refine pure_ (i := 9) (N := some 24) (v := ?_) (a' := ?_) #[true, true, true, true, true, true, true, true, true, true, false, true, false, false, false, false, false, false] rfl rfl (any_of HT_.out (by kernel_rfl)) (fun _ _ _ h => h) (Or.inl ⟨by rfl, ?_⟩) ?_ ?_
 rotate_left
 ·intro w'
  go_simp
  with_reducible rfl
 rotate_left
 ·simp only [Act.put, List.setIfInBounds_toArray, List.set_cons_zero, List.set_cons_succ, i64_w, i32_w]
  rfl
 refine pure_ (i := 10) (N := some 25) (v := ?_) (a' := ?_) #[true, true, true, true, true, true, true, true, true, true, true, true, false, false, false, false, false, false] rfl rfl (any_of HT_.out (by kernel_rfl)) (fun _ _ _ h => h) (Or.inl ⟨by rfl, ?_⟩) ?_ ?_
 rotate_left
 ·intro w'
  go_simp
  with_reducible rfl
 rotate_left
 ·simp only [Act.put, List.setIfInBounds_toArray, List.set_cons_zero, List.set_cons_succ, i64_w, i32_w]
  rfl
 refine take_ (i := 12) (N := some 27) (v := ?_) (a' := ?_) #[true, true, true, true, true, true, true, true, true, true, true, true, true, false, false, false, false, false] rfl rfl (take_ofW HT_.out HW_.out (by kernel_rfl)) (fun _ _ _ h => h) (Or.inl ⟨by rfl, ?_⟩) hHeld ?_ ?_
 rotate_left
 ·rintro w' ⟨s0, s1, s2, s3, s4, s5⟩
  go_simp
  with_reducible rfl
 rotate_left
 ·simp only [Act.put, List.setIfInBounds_toArray, List.set_cons_zero, List.set_cons_succ, i64_w, i32_w]
  rfl
 refine pure_ (i := 13) (N := some 28) (v := ?_) (a' := ?_) #[true, true, true, true, true, true, true, true, true, true, true, true, true, true, false, false, false, false] rfl rfl (any_of HT_.out (by kernel_rfl)) (fun _ _ _ h => h) (Or.inl ⟨by rfl, ?_⟩) ?_ ?_
 rotate_left
 ·intro w'
  go_simp
  with_reducible rfl
 rotate_left
 ·simp only [Act.put, List.setIfInBounds_toArray, List.set_cons_zero, List.set_cons_succ, i64_w, i32_w]
  rfl
 refine join_ (σ := Nat × Nat) 2 #[true, true, true, true, true, true, true, true, true, true, true, true, true, true, true, true, false, false] (fun s_ => [(8, .pointer (some ⟨s_.1, 0, none⟩)), (9, .pointer (some ⟨s_.2, 0, none⟩))]) (fun s_ w' => (w'.cell? ⟨gb209, 0, none⟩ = some (.int .u8 a1_0) ∧ w'.cell? ⟨gb209, 1, none⟩ = some (.int .u64 a1_1) ∧ w'.cell? ⟨gb209, 2, none⟩ = some (.string a1_2) ∧ w'.cell? ⟨gb210, 0, none⟩ = some (.int .u8 a2_0) ∧ w'.cell? ⟨gb210, 1, none⟩ = some (.int .u64 a2_1) ∧ w'.cell? ⟨gb210, 2, none⟩ = some (.string a2_2)) ∧ (w'.heap[gb209]? = some (.cells #[.int .u8 a1_0, .int .u64 a1_1, .string a1_2] 27 (0, 0))) ∧ (w'.heap[gb210]? = some (.cells #[.int .u8 a2_0, .int .u64 a2_1, .string a2_2] 27 (0, 0))) ∧ (w'.heap[gb211]? = some (.cells #[.int .u8 0, .int .u64 0, .string (⟨#[]⟩ : ByteArray)] 27 (0, 0))) ∧ (w'.heap[s_.1]? = some (.cells #[.bool false, .int .u64 0] 58 (0, 0))) ∧ (w'.heap[s_.2]? = some (.cells #[.bool false, .int .u64 0] 58 (0, 0))) ∧ (w.heap.size ≤ s_.1) ∧ (w.heap.size ≤ s_.1) ∧ (gb209 ≠ s_.1) ∧ (s_.1 ≠ gb209) ∧ (gb210 ≠ s_.1) ∧ (s_.1 ≠ gb210) ∧ (gb211 ≠ s_.1) ∧ (s_.1 ≠ gb211) ∧ (s_.2 ≠ s_.1) ∧ (s_.1 ≠ s_.2) ∧ (w.heap.size ≤ s_.2) ∧ (w.heap.size ≤ s_.2) ∧ (gb209 ≠ s_.2) ∧ (s_.2 ≠ gb209) ∧ (gb210 ≠ s_.2) ∧ (s_.2 ≠ gb210) ∧ (gb211 ≠ s_.2) ∧ (s_.2 ≠ gb211) ∧ (Below w.heap.size w w')) ?_ ?_
 rotate_left
 ·intro hCont
  refine two_ (i := 14) (j := 15) (Ni := some 8) (Nj := some 9) #[true, true, true, true, true, true, true, true, true, true, true, true, true, true, true, false, false, false] #[true, true, true, true, true, true, true, true, true, true, true, true, true, true, false, true, false, false] rfl rfl rfl rfl (two_of HT_.out (by kernel_rfl)) (by decide) (by decide) (fun K hK => ?_) (fun K hK => ?_)
  ·skip
   refine box_step ?hg (N := 8) ?hd (cs := #[.bool false, .int .u64 0]) (t := 58) ?hr ?_; (case hd => rfl); (case hg => rfl); (case hr => first | (go_simp; done) | (go_simp; rfl))
   intro gb212 hg w9 hbox hb
   have n0_ := kb BK209 hb
   have n1_ := kb BK210 hb
   have n2_ := kb BK211 hb
   have n3_ := bt HB hb
   have n4_ := Aside0.mk (hbox)
   have n5_ := gs hg HB
   have n6_ := gs hg HB
   have n7_ := nl hg BK209
   have n8_ := ng hg BK209
   have n9_ := nl hg BK210
   have n10_ := ng hg BK210
   have n11_ := nl hg BK211
   have n12_ := ng hg BK211
   clear BK209
   clear BK210
   clear BK211
   clear HB
   have BK209 := n0_
   have BK210 := n1_
   have BK211 := n2_
   have HB := n3_
   have BK212 := n4_
   have GW212 := n5_
   have GE212 := n6_
   have NB209_212 := n7_
   have NB212_209 := n8_
   have NB210_212 := n9_
   have NB212_210 := n10_
   have NB211_212 := n11_
   have NB212_211 := n12_
   clear n0_ n1_ n2_ n3_ n4_ n5_ n6_ n7_ n8_ n9_ n10_ n11_ n12_
   clear hb hbox hg
   refine hK.out _ _ ⟨bc BK209 0, bc BK209 1, bc BK209 2, bc BK210 0, bc BK210 1, bc BK210 2⟩ (fun hHeld => ?_)
   clear hK K
   refine norm_ (a' := ?_) ?_ ?_
   rotate_left
   ·show Act.put _ (some 8) _ = _
    simp only [Act.put, List.setIfInBounds_toArray, List.set_cons_zero, List.set_cons_succ, i64_w, i32_w]
    rfl
   refine one_ (i := 15) (N := some 9) #[true, true, true, true, true, true, true, true, true, true, true, true, true, true, true, true, false, false] rfl rfl (one_of HT_.out (by kernel_rfl)) (by decide) (fun K hK => ?_)
   refine box_step ?hg (N := 9) ?hd (cs := #[.bool false, .int .u64 0]) (t := 58) ?hr ?_; (case hd => rfl); (case hg => rfl); (case hr => first | (go_simp; done) | (go_simp; rfl))
   intro gb213 hg w10 hbox hb
   have n0_ := kb BK209 hb
   have n1_ := kb BK210 hb
   have n2_ := kb BK211 hb
   have n3_ := kb BK212 hb
   have n4_ := bt HB hb
   have n5_ := Aside0.mk (hbox)
   have n6_ := gs hg HB
   have n7_ := gs hg HB
   have n8_ := nl hg BK209
   have n9_ := ng hg BK209
   have n10_ := nl hg BK210
   have n11_ := ng hg BK210
   have n12_ := nl hg BK211
   have n13_ := ng hg BK211
   have n14_ := nl hg BK212
   have n15_ := ng hg BK212
   clear BK209
   clear BK210
   clear BK211
   clear BK212
   clear HB
   have BK209 := n0_
   have BK210 := n1_
   have BK211 := n2_
   have BK212 := n3_
   have HB := n4_
   have BK213 := n5_
   have GW213 := n6_
   have GE213 := n7_
   have NB209_213 := n8_
   have NB213_209 := n9_
   have NB210_213 := n10_
   have NB213_210 := n11_
   have NB211_213 := n12_
   have NB213_211 := n13_
   have NB212_213 := n14_
   have NB213_212 := n15_
   clear n0_ n1_ n2_ n3_ n4_ n5_ n6_ n7_ n8_ n9_ n10_ n11_ n12_ n13_ n14_ n15_
   clear hb hbox hg
   refine hK.out _ _ ⟨bc BK209 0, bc BK209 1, bc BK209 2, bc BK210 0, bc BK210 1, bc BK210 2⟩ (fun hHeld => ?_)
   clear hK K
   refine norm_ (a' := ?_) ?_ ?_
   rotate_left
   ·show Act.put _ (some 9) _ = _
    simp only [Act.put, List.setIfInBounds_toArray, List.set_cons_zero, List.set_cons_succ, i64_w, i32_w]
    rfl
   exact norm_ (by simp only [putAll, Act.put, List.setIfInBounds_toArray, List.set_cons_zero, List.set_cons_succ]) (hCont (gb212, gb213) _ ⟨hHeld, (pb BK209), (pb BK210), (pb BK211), (pb BK212), (pb BK213), GW212.out, GE212.out, NB209_212.out, NB212_209.out, NB210_212.out, NB212_210.out, NB211_212.out, NB212_211.out, NB213_212.out, NB212_213.out, GW213.out, GE213.out, NB209_213.out, NB213_209.out, NB210_213.out, NB213_210.out, NB211_213.out, NB213_211.out, (bs HB)⟩)
  ·skip
   refine box_step ?hg (N := 9) ?hd (cs := #[.bool false, .int .u64 0]) (t := 58) ?hr ?_; (case hd => rfl); (case hg => rfl); (case hr => first | (go_simp; done) | (go_simp; rfl))
   intro gb213 hg w9 hbox hb
   have n0_ := kb BK209 hb
   have n1_ := kb BK210 hb
   have n2_ := kb BK211 hb
   have n3_ := bt HB hb
   have n4_ := Aside0.mk (hbox)
   have n5_ := gs hg HB
   have n6_ := gs hg HB
   have n7_ := nl hg BK209
   have n8_ := ng hg BK209
   have n9_ := nl hg BK210
   have n10_ := ng hg BK210
   have n11_ := nl hg BK211
   have n12_ := ng hg BK211
   clear BK209
   clear BK210
   clear BK211
   clear HB
   have BK209 := n0_
   have BK210 := n1_
   have BK211 := n2_
   have HB := n3_
   have BK213 := n4_
   have GW213 := n5_
   have GE213 := n6_
   have NB209_213 := n7_
   have NB213_209 := n8_
   have NB210_213 := n9_
   have NB213_210 := n10_
   have NB211_213 := n11_
   have NB213_211 := n12_
   clear n0_ n1_ n2_ n3_ n4_ n5_ n6_ n7_ n8_ n9_ n10_ n11_ n12_
   clear hb hbox hg
   refine hK.out _ _ ⟨bc BK209 0, bc BK209 1, bc BK209 2, bc BK210 0, bc BK210 1, bc BK210 2⟩ (fun hHeld => ?_)
   clear hK K
   refine norm_ (a' := ?_) ?_ ?_
   rotate_left
   ·show Act.put _ (some 9) _ = _
    simp only [Act.put, List.setIfInBounds_toArray, List.set_cons_zero, List.set_cons_succ, i64_w, i32_w]
    rfl
   refine one_ (i := 14) (N := some 8) #[true, true, true, true, true, true, true, true, true, true, true, true, true, true, true, true, false, false] rfl rfl (one_of HT_.out (by kernel_rfl)) (by decide) (fun K hK => ?_)
   refine box_step ?hg (N := 8) ?hd (cs := #[.bool false, .int .u64 0]) (t := 58) ?hr ?_; (case hd => rfl); (case hg => rfl); (case hr => first | (go_simp; done) | (go_simp; rfl))
   intro gb212 hg w10 hbox hb
   have n0_ := kb BK209 hb
   have n1_ := kb BK210 hb
   have n2_ := kb BK211 hb
   have n3_ := kb BK213 hb
   have n4_ := bt HB hb
   have n5_ := Aside0.mk (hbox)
   have n6_ := gs hg HB
   have n7_ := gs hg HB
   have n8_ := nl hg BK209
   have n9_ := ng hg BK209
   have n10_ := nl hg BK210
   have n11_ := ng hg BK210
   have n12_ := nl hg BK211
   have n13_ := ng hg BK211
   have n14_ := nl hg BK213
   have n15_ := ng hg BK213
   clear BK209
   clear BK210
   clear BK211
   clear BK213
   clear HB
   have BK209 := n0_
   have BK210 := n1_
   have BK211 := n2_
   have BK213 := n3_
   have HB := n4_
   have BK212 := n5_
   have GW212 := n6_
   have GE212 := n7_
   have NB209_212 := n8_
   have NB212_209 := n9_
   have NB210_212 := n10_
   have NB212_210 := n11_
   have NB211_212 := n12_
   have NB212_211 := n13_
   have NB213_212 := n14_
   have NB212_213 := n15_
   clear n0_ n1_ n2_ n3_ n4_ n5_ n6_ n7_ n8_ n9_ n10_ n11_ n12_ n13_ n14_ n15_
   clear hb hbox hg
   refine hK.out _ _ ⟨bc BK209 0, bc BK209 1, bc BK209 2, bc BK210 0, bc BK210 1, bc BK210 2⟩ (fun hHeld => ?_)
   clear hK K
   refine norm_ (a' := ?_) ?_ ?_
   rotate_left
   ·show Act.put _ (some 8) _ = _
    simp only [Act.put, List.setIfInBounds_toArray, List.set_cons_zero, List.set_cons_succ, i64_w, i32_w]
    rfl
   exact norm_ (by simp only [putAll, Act.put, List.setIfInBounds_toArray, List.set_cons_zero, List.set_cons_succ]) (hCont (gb212, gb213) _ ⟨hHeld, (pb BK209), (pb BK210), (pb BK211), (pb BK212), (pb BK213), GW212.out, GE212.out, NB209_212.out, NB212_209.out, NB210_212.out, NB212_210.out, NB211_212.out, NB212_211.out, NB213_212.out, NB212_213.out, GW213.out, GE213.out, NB209_213.out, NB213_209.out, NB210_213.out, NB213_210.out, NB211_213.out, NB213_211.out, (bs HB)⟩)
 rintro ⟨gb212, gb213⟩ w11 ⟨hS_, h0_, h1_, h2_, h3_, h4_, h5_, h6_, h7_, h8_, h9_, h10_, h11_, h12_, h13_, h14_, h15_, h16_, h17_, h18_, h19_, h20_, h21_, h22_, h23_⟩
 have n0_ : Aside0 (w11.heap[gb209]? = some (.cells #[.int .u8 a1_0, .int .u64 a1_1, .string a1_2] 27 (0, 0))) := ⟨h0_⟩
 have n1_ : Aside0 (w11.heap[gb210]? = some (.cells #[.int .u8 a2_0, .int .u64 a2_1, .string a2_2] 27 (0, 0))) := ⟨h1_⟩
 have n2_ : Aside0 (w11.heap[gb211]? = some (.cells #[.int .u8 0, .int .u64 0, .string (⟨#[]⟩ : ByteArray)] 27 (0, 0))) := ⟨h2_⟩
 have n3_ : Aside0 (w11.heap[gb212]? = some (.cells #[.bool false, .int .u64 0] 58 (0, 0))) := ⟨h3_⟩
 have n4_ : Aside0 (w11.heap[gb213]? = some (.cells #[.bool false, .int .u64 0] 58 (0, 0))) := ⟨h4_⟩
 have n5_ : Aside0 (w.heap.size ≤ gb212) := ⟨h5_⟩
 have n6_ : Aside0 (w.heap.size ≤ gb212) := ⟨h6_⟩
 have n7_ : Aside0 (gb209 ≠ gb212) := ⟨h7_⟩
 have n8_ : Aside0 (gb212 ≠ gb209) := ⟨h8_⟩
 have n9_ : Aside0 (gb210 ≠ gb212) := ⟨h9_⟩
 have n10_ : Aside0 (gb212 ≠ gb210) := ⟨h10_⟩
 have n11_ : Aside0 (gb211 ≠ gb212) := ⟨h11_⟩
 have n12_ : Aside0 (gb212 ≠ gb211) := ⟨h12_⟩
 have n13_ : Aside0 (gb213 ≠ gb212) := ⟨h13_⟩
 have n14_ : Aside0 (gb212 ≠ gb213) := ⟨h14_⟩
 have n15_ : Aside0 (w.heap.size ≤ gb213) := ⟨h15_⟩
 have n16_ : Aside0 (w.heap.size ≤ gb213) := ⟨h16_⟩
 have n17_ : Aside0 (gb209 ≠ gb213) := ⟨h17_⟩
 have n18_ : Aside0 (gb213 ≠ gb209) := ⟨h18_⟩
 have n19_ : Aside0 (gb210 ≠ gb213) := ⟨h19_⟩
 have n20_ : Aside0 (gb213 ≠ gb210) := ⟨h20_⟩
 have n21_ : Aside0 (gb211 ≠ gb213) := ⟨h21_⟩
 have n22_ : Aside0 (gb213 ≠ gb211) := ⟨h22_⟩
 have n23_ : Aside0 (Below w.heap.size w w11) := ⟨h23_⟩
 clear BK209
 clear BK210
 clear BK211
 clear HB
 clear h0_ h1_ h2_ h3_ h4_ h5_ h6_ h7_ h8_ h9_ h10_ h11_ h12_ h13_ h14_ h15_ h16_ h17_ h18_ h19_ h20_ h21_ h22_ h23_
 have BK209 := n0_
 have BK210 := n1_
 have BK211 := n2_
 have BK212 := n3_
 have BK213 := n4_
 have GW212 := n5_
 have GE212 := n6_
 have NB209_212 := n7_
 have NB212_209 := n8_
 have NB210_212 := n9_
 have NB212_210 := n10_
 have NB211_212 := n11_
 have NB212_211 := n12_
 have NB213_212 := n13_
 have NB212_213 := n14_
 have GW213 := n15_
 have GE213 := n16_
 have NB209_213 := n17_
 have NB213_209 := n18_
 have NB210_213 := n19_
 have NB213_210 := n20_
 have NB211_213 := n21_
 have NB213_211 := n22_
 have HB := n23_
 clear n0_ n1_ n2_ n3_ n4_ n5_ n6_ n7_ n8_ n9_ n10_ n11_ n12_ n13_ n14_ n15_ n16_ n17_ n18_ n19_ n20_ n21_ n22_ n23_
 have hHeld : w11.cell? ⟨gb209, 0, none⟩ = some (.int .u8 a1_0) ∧ w11.cell? ⟨gb209, 1, none⟩ = some (.int .u64 a1_1) ∧ w11.cell? ⟨gb209, 2, none⟩ = some (.string a1_2) ∧ w11.cell? ⟨gb210, 0, none⟩ = some (.int .u8 a2_0) ∧ w11.cell? ⟨gb210, 1, none⟩ = some (.int .u64 a2_1) ∧ w11.cell? ⟨gb210, 2, none⟩ = some (.string a2_2) := hS_
 refine norm_ (a' := ?_) ?_ ?_
 rotate_left
 ·simp only [putAll, Act.put, List.setIfInBounds_toArray, List.set_cons_zero, List.set_cons_succ]
  rfl
 refine one_ (i := 16) (N := none) #[true, true, true, true, true, true, true, true, true, true, true, true, true, true, true, true, true, false] rfl rfl (one_of HT_.out (by kernel_rfl)) (by decide) (fun K hK => ?_)
 have hs12 : w11.cell? ⟨gb212, 0, none⟩ = some (.bool false) := bc BK212 0
 have hfs12 := blk_frozen BK212.out 0
 have hns12_0 := NB209_212.out
 have hns12_1 := NB210_212.out
 have hns12_2 := NB211_212.out
 have hns12_4 := NB213_212.out
 have hms12_0 := NB212_209.out
 have hms12_1 := NB212_210.out
 have hms12_2 := NB212_211.out
 have hms12_4 := NB212_213.out
 have hs13 : w11.cell? ⟨gb212, 1, none⟩ = some (.int .u64 0) := bc BK212 1
 have hfs13 := blk_frozen BK212.out 1
 have hns13_0 := NB209_212.out
 have hns13_1 := NB210_212.out
 have hns13_2 := NB211_212.out
 have hns13_4 := NB213_212.out
 have hms13_0 := NB212_209.out
 have hms13_1 := NB212_210.out
 have hms13_2 := NB212_211.out
 have hms13_4 := NB212_213.out
 refine skip_ (w1 := ?_) (by rfl) rfl ?_ ?_
 rotate_left
 ·go_simp
  rfl
 refine hK.out _ _ ⟨((cell_far (p := ⟨gb212, _, none⟩) NB209_212.out _).trans (((cell_far (p := ⟨gb212, _, none⟩) NB209_212.out _).trans (hHeld.1)))), ((cell_far (p := ⟨gb212, _, none⟩) NB209_212.out _).trans (((cell_far (p := ⟨gb212, _, none⟩) NB209_212.out _).trans (hHeld.2.1)))), ((cell_far (p := ⟨gb212, _, none⟩) NB209_212.out _).trans (((cell_far (p := ⟨gb212, _, none⟩) NB209_212.out _).trans (hHeld.2.2.1)))), ((cell_far (p := ⟨gb212, _, none⟩) NB210_212.out _).trans (((cell_far (p := ⟨gb212, _, none⟩) NB210_212.out _).trans (hHeld.2.2.2.1)))), ((cell_far (p := ⟨gb212, _, none⟩) NB210_212.out _).trans (((cell_far (p := ⟨gb212, _, none⟩) NB210_212.out _).trans (hHeld.2.2.2.2.1)))), ((cell_far (p := ⟨gb212, _, none⟩) NB210_212.out _).trans (((cell_far (p := ⟨gb212, _, none⟩) NB210_212.out _).trans (hHeld.2.2.2.2.2))))⟩ (fun hHeld => ?_)
 clear hK K
 refine one_ (i := 17) (N := none) #[true, true, true, true, true, true, true, true, true, true, true, true, true, true, true, true, true, true] rfl rfl (one_of HT_.out (by kernel_rfl)) (by decide) (fun K hK => ?_)
 have hs14 : w11.cell? ⟨gb213, 0, none⟩ = some (.bool false) := bc BK213 0
 have hfs14 := blk_frozen BK213.out 0
 have hns14_0 := NB209_213.out
 have hns14_1 := NB210_213.out
 have hns14_2 := NB211_213.out
 have hns14_3 := NB212_213.out
 have hms14_0 := NB213_209.out
 have hms14_1 := NB213_210.out
 have hms14_2 := NB213_211.out
 have hms14_3 := NB213_212.out
 have hs15 : w11.cell? ⟨gb213, 1, none⟩ = some (.int .u64 0) := bc BK213 1
 have hfs15 := blk_frozen BK213.out 1
 have hns15_0 := NB209_213.out
 have hns15_1 := NB210_213.out
 have hns15_2 := NB211_213.out
 have hns15_3 := NB212_213.out
 have hms15_0 := NB213_209.out
 have hms15_1 := NB213_210.out
 have hms15_2 := NB213_211.out
 have hms15_3 := NB213_212.out
 refine skip_ (w1 := ?_) (by rfl) rfl ?_ ?_
 rotate_left
 ·go_simp
  rfl
 refine hK.out _ _ ⟨((cell_far (p := ⟨gb213, _, none⟩) NB209_213.out _).trans (((cell_far (p := ⟨gb213, _, none⟩) NB209_213.out _).trans (hHeld.1)))), ((cell_far (p := ⟨gb213, _, none⟩) NB209_213.out _).trans (((cell_far (p := ⟨gb213, _, none⟩) NB209_213.out _).trans (hHeld.2.1)))), ((cell_far (p := ⟨gb213, _, none⟩) NB209_213.out _).trans (((cell_far (p := ⟨gb213, _, none⟩) NB209_213.out _).trans (hHeld.2.2.1)))), ((cell_far (p := ⟨gb213, _, none⟩) NB210_213.out _).trans (((cell_far (p := ⟨gb213, _, none⟩) NB210_213.out _).trans (hHeld.2.2.2.1)))), ((cell_far (p := ⟨gb213, _, none⟩) NB210_213.out _).trans (((cell_far (p := ⟨gb213, _, none⟩) NB210_213.out _).trans (hHeld.2.2.2.2.1)))), ((cell_far (p := ⟨gb213, _, none⟩) NB210_213.out _).trans (((cell_far (p := ⟨gb213, _, none⟩) NB210_213.out _).trans (hHeld.2.2.2.2.2))))⟩ (fun hHeld => ?_)
 clear hK K
 refine done_ (done_of HT_.out (by kernel_rfl)) ?_
 have hnb16 := NB212_209.out
 have hnc16 := NB209_212.out
 have hnb17 := NB212_210.out
 have hnc17 := NB210_212.out
 have hnb18 := NB212_211.out
 have hnc18 := NB211_212.out
 have hnb19 := NB212_213.out
 have hnc19 := NB213_212.out
 have hcz20_0 : w11.cell? ⟨gb212, 0, none⟩ = some (.bool false) := bc BK212 0
 have hcz20_1 : w11.cell? ⟨gb212, 1, none⟩ = some (.int .u64 0) := bc BK212 1
 have hfz20_0 := blk_frozen BK212.out 0
 have hfz20_1 := blk_frozen BK212.out 1
 go_upto_if 30 with (fail)
 go_cut [] (fun wc => ∃ (kq : Nat) (x213001_3 : Int), Aside0 (value_spans.j0 kq a0 a1_0 a1_1 a1_2 a2_0 a2_1 a2_2 (decide ((wrap64 (a1_1)) < 0)) x213001_3 (decide ((wrap64 (a2_1)) < 0)) a2_1 = some (r1, r2, r3, r4)) ∧ Aside0 (kq ≤ k) ∧ Aside0 (wc.heap[gb209]? = some (.cells #[.int .u8 a1_0, .int .u64 a1_1, .string a1_2] 27 (0, 0))) ∧ Aside0 (wc.heap[gb210]? = some (.cells #[.int .u8 a2_0, .int .u64 a2_1, .string a2_2] 27 (0, 0))) ∧ Aside0 (wc.heap[gb211]? = some (.cells #[.int .u8 0, .int .u64 0, .string (⟨#[]⟩ : ByteArray)] 27 (0, 0))) ∧ Aside0 (wc.heap[gb212]? = some (.cells #[.bool (decide ((wrap64 (a1_1)) < 0)), .int .u64 x213001_3] 58 (0, 0))) ∧ Aside0 (wc.heap[gb213]? = some (.cells #[.bool (decide ((wrap64 (a2_1)) < 0)), .int .u64 a2_1] 58 (0, 0))) ∧ Aside0 (Below w.heap.size w wc))
 case first =>
  have H := HC4.out
  clear HC4
  by_cases c21 : (wrap64 (a1_1)) < 0
  ·rw [if_pos c21] at H
   have c21b0 : decide ((wrap64 (a1_1)) < 0) = true := decide_eq_true c21
   clear c21
   (first | rw [c21b0] | (simp only [i64_w, i32_w]; rw [c21b0]) | skip)
   have H' := Aside0.mk H
   clear H
   have hnb22 := NB209_210.out
   have hnc22 := NB210_209.out
   have hnb23 := NB209_211.out
   have hnc23 := NB211_209.out
   have hnb24 := NB209_212.out
   have hnc24 := NB212_209.out
   have hnb25 := NB209_213.out
   have hnc25 := NB213_209.out
   have hcz26_0 : w11.cell? ⟨gb209, 0, none⟩ = some (.int .u8 a1_0) := bc BK209 0
   have hcz26_1 : w11.cell? ⟨gb209, 1, none⟩ = some (.int .u64 a1_1) := bc BK209 1
   have hcz26_2 : w11.cell? ⟨gb209, 2, none⟩ = some (.string a1_2) := bc BK209 2
   have hfz26_0 := blk_frozen BK209.out 0
   have hfz26_1 := blk_frozen BK209.out 1
   have hfz26_2 := blk_frozen BK209.out 2
   have hnb27 := NB212_210.out
   have hnc27 := NB210_212.out
   have hnb28 := NB212_211.out
   have hnc28 := NB211_212.out
   have hnb29 := NB212_213.out
   have hnc29 := NB213_212.out
   have hcz30_0 : w11.cell? ⟨gb212, 0, none⟩ = some (.bool false) := bc BK212 0
   have hcz30_1 : w11.cell? ⟨gb212, 1, none⟩ = some (.int .u64 0) := bc BK212 1
   have hfz30_0 := blk_frozen BK212.out 0
   have hfz30_1 := blk_frozen BK212.out 1
   go_wp2
   go_meet
   case rel => (try rw [show decide ((wrap64 (a1_1)) < 0) = true from by first | assumption | exact decide_eq_true (by assumption)]); exact ⟨_, (IntKind.u64.wrap (-a1_1)), H', ⟨by first | omega | exact Nat.le_refl _⟩, ⟨by (with_reducible repeat (first | refine blk_drewN ?_ _ | refine blk_drew ?_ | refine blk_alloc ?_ _)); refine blk_far ?_ NB209_212.out _; (with_reducible repeat (first | refine blk_drewN ?_ _ | refine blk_drew ?_ | refine blk_alloc ?_ _)); refine blk_far ?_ NB209_213.out _; (with_reducible repeat (first | refine blk_drewN ?_ _ | refine blk_drew ?_ | refine blk_alloc ?_ _)); refine blk_far ?_ NB209_213.out _; (with_reducible repeat (first | refine blk_drewN ?_ _ | refine blk_drew ?_ | refine blk_alloc ?_ _)); refine blk_far ?_ NB209_212.out _; (with_reducible repeat (first | refine blk_drewN ?_ _ | refine blk_drew ?_ | refine blk_alloc ?_ _)); refine blk_far ?_ NB209_212.out _; (with_reducible repeat (first | refine blk_drewN ?_ _ | refine blk_drew ?_ | refine blk_alloc ?_ _)); exact BK209.out⟩, ⟨by (with_reducible repeat (first | refine blk_drewN ?_ _ | refine blk_drew ?_ | refine blk_alloc ?_ _)); refine blk_far ?_ NB210_212.out _; (with_reducible repeat (first | refine blk_drewN ?_ _ | refine blk_drew ?_ | refine blk_alloc ?_ _)); refine blk_far ?_ NB210_213.out _; (with_reducible repeat (first | refine blk_drewN ?_ _ | refine blk_drew ?_ | refine blk_alloc ?_ _)); refine blk_far ?_ NB210_213.out _; (with_reducible repeat (first | refine blk_drewN ?_ _ | refine blk_drew ?_ | refine blk_alloc ?_ _)); refine blk_far ?_ NB210_212.out _; (with_reducible repeat (first | refine blk_drewN ?_ _ | refine blk_drew ?_ | refine blk_alloc ?_ _)); refine blk_far ?_ NB210_212.out _; (with_reducible repeat (first | refine blk_drewN ?_ _ | refine blk_drew ?_ | refine blk_alloc ?_ _)); exact BK210.out⟩, ⟨by (with_reducible repeat (first | refine blk_drewN ?_ _ | refine blk_drew ?_ | refine blk_alloc ?_ _)); refine blk_far ?_ NB211_212.out _; (with_reducible repeat (first | refine blk_drewN ?_ _ | refine blk_drew ?_ | refine blk_alloc ?_ _)); refine blk_far ?_ NB211_213.out _; (with_reducible repeat (first | refine blk_drewN ?_ _ | refine blk_drew ?_ | refine blk_alloc ?_ _)); refine blk_far ?_ NB211_213.out _; (with_reducible repeat (first | refine blk_drewN ?_ _ | refine blk_drew ?_ | refine blk_alloc ?_ _)); refine blk_far ?_ NB211_212.out _; (with_reducible repeat (first | refine blk_drewN ?_ _ | refine blk_drew ?_ | refine blk_alloc ?_ _)); refine blk_far ?_ NB211_212.out _; (with_reducible repeat (first | refine blk_drewN ?_ _ | refine blk_drew ?_ | refine blk_alloc ?_ _)); exact BK211.out⟩, ⟨by (with_reducible repeat (first | refine blk_drewN ?_ _ | refine blk_drew ?_ | refine blk_alloc ?_ _)); refine blk_put (cs := #[.bool true, .int .u64 a1_1]) ?_ 1 _ rfl; (with_reducible repeat (first | refine blk_drewN ?_ _ | refine blk_drew ?_ | refine blk_alloc ?_ _)); refine blk_far ?_ NB212_213.out _; (with_reducible repeat (first | refine blk_drewN ?_ _ | refine blk_drew ?_ | refine blk_alloc ?_ _)); refine blk_far ?_ NB212_213.out _; (with_reducible repeat (first | refine blk_drewN ?_ _ | refine blk_drew ?_ | refine blk_alloc ?_ _)); refine blk_put (cs := #[.bool true, .int .u64 0]) ?_ 1 _ rfl; (with_reducible repeat (first | refine blk_drewN ?_ _ | refine blk_drew ?_ | refine blk_alloc ?_ _)); refine blk_put (cs := #[.bool false, .int .u64 0]) ?_ 0 _ rfl; (with_reducible repeat (first | refine blk_drewN ?_ _ | refine blk_drew ?_ | refine blk_alloc ?_ _)); exact BK212.out⟩, ⟨by (with_reducible repeat (first | refine blk_drewN ?_ _ | refine blk_drew ?_ | refine blk_alloc ?_ _)); refine blk_far ?_ NB213_212.out _; (with_reducible repeat (first | refine blk_drewN ?_ _ | refine blk_drew ?_ | refine blk_alloc ?_ _)); refine blk_put (cs := #[.bool (decide ((wrap64 (a2_1)) < 0)), .int .u64 0]) ?_ 1 _ rfl; (with_reducible repeat (first | refine blk_drewN ?_ _ | refine blk_drew ?_ | refine blk_alloc ?_ _)); refine blk_put (cs := #[.bool false, .int .u64 0]) ?_ 0 _ rfl; (with_reducible repeat (first | refine blk_drewN ?_ _ | refine blk_drew ?_ | refine blk_alloc ?_ _)); refine blk_far ?_ NB213_212.out _; (with_reducible repeat (first | refine blk_drewN ?_ _ | refine blk_drew ?_ | refine blk_alloc ?_ _)); refine blk_far ?_ NB213_212.out _; (with_reducible repeat (first | refine blk_drewN ?_ _ | refine blk_drew ?_ | refine blk_alloc ?_ _)); exact BK213.out⟩, ⟨bs HB⟩⟩
  ·rw [if_neg c21] at H
   have c21b0 : decide ((wrap64 (a1_1)) < 0) = false := decide_eq_false c21
   clear c21
   (first | rw [c21b0] | (simp only [i64_w, i32_w]; rw [c21b0]) | skip)
   have H' := Aside0.mk H
   clear H
   go_wp2
   go_meet
   case rel => (try rw [show decide ((wrap64 (a1_1)) < 0) = false from by first | assumption | exact decide_eq_false (by assumption)]); exact ⟨_, (a1_1), H', ⟨by first | omega | exact Nat.le_refl _⟩, ⟨by (with_reducible repeat (first | refine blk_drewN ?_ _ | refine blk_drew ?_ | refine blk_alloc ?_ _)); refine blk_far ?_ NB209_213.out _; (with_reducible repeat (first | refine blk_drewN ?_ _ | refine blk_drew ?_ | refine blk_alloc ?_ _)); refine blk_far ?_ NB209_213.out _; (with_reducible repeat (first | refine blk_drewN ?_ _ | refine blk_drew ?_ | refine blk_alloc ?_ _)); refine blk_far ?_ NB209_212.out _; (with_reducible repeat (first | refine blk_drewN ?_ _ | refine blk_drew ?_ | refine blk_alloc ?_ _)); refine blk_far ?_ NB209_212.out _; (with_reducible repeat (first | refine blk_drewN ?_ _ | refine blk_drew ?_ | refine blk_alloc ?_ _)); exact BK209.out⟩, ⟨by (with_reducible repeat (first | refine blk_drewN ?_ _ | refine blk_drew ?_ | refine blk_alloc ?_ _)); refine blk_far ?_ NB210_213.out _; (with_reducible repeat (first | refine blk_drewN ?_ _ | refine blk_drew ?_ | refine blk_alloc ?_ _)); refine blk_far ?_ NB210_213.out _; (with_reducible repeat (first | refine blk_drewN ?_ _ | refine blk_drew ?_ | refine blk_alloc ?_ _)); refine blk_far ?_ NB210_212.out _; (with_reducible repeat (first | refine blk_drewN ?_ _ | refine blk_drew ?_ | refine blk_alloc ?_ _)); refine blk_far ?_ NB210_212.out _; (with_reducible repeat (first | refine blk_drewN ?_ _ | refine blk_drew ?_ | refine blk_alloc ?_ _)); exact BK210.out⟩, ⟨by (with_reducible repeat (first | refine blk_drewN ?_ _ | refine blk_drew ?_ | refine blk_alloc ?_ _)); refine blk_far ?_ NB211_213.out _; (with_reducible repeat (first | refine blk_drewN ?_ _ | refine blk_drew ?_ | refine blk_alloc ?_ _)); refine blk_far ?_ NB211_213.out _; (with_reducible repeat (first | refine blk_drewN ?_ _ | refine blk_drew ?_ | refine blk_alloc ?_ _)); refine blk_far ?_ NB211_212.out _; (with_reducible repeat (first | refine blk_drewN ?_ _ | refine blk_drew ?_ | refine blk_alloc ?_ _)); refine blk_far ?_ NB211_212.out _; (with_reducible repeat (first | refine blk_drewN ?_ _ | refine blk_drew ?_ | refine blk_alloc ?_ _)); exact BK211.out⟩, ⟨by (with_reducible repeat (first | refine blk_drewN ?_ _ | refine blk_drew ?_ | refine blk_alloc ?_ _)); refine blk_far ?_ NB212_213.out _; (with_reducible repeat (first | refine blk_drewN ?_ _ | refine blk_drew ?_ | refine blk_alloc ?_ _)); refine blk_far ?_ NB212_213.out _; (with_reducible repeat (first | refine blk_drewN ?_ _ | refine blk_drew ?_ | refine blk_alloc ?_ _)); refine blk_put (cs := #[.bool false, .int .u64 0]) ?_ 1 _ rfl; (with_reducible repeat (first | refine blk_drewN ?_ _ | refine blk_drew ?_ | refine blk_alloc ?_ _)); refine blk_put (cs := #[.bool false, .int .u64 0]) ?_ 0 _ rfl; (with_reducible repeat (first | refine blk_drewN ?_ _ | refine blk_drew ?_ | refine blk_alloc ?_ _)); exact BK212.out⟩, ⟨by (with_reducible repeat (first | refine blk_drewN ?_ _ | refine blk_drew ?_ | refine blk_alloc ?_ _)); refine blk_put (cs := #[.bool (decide ((wrap64 (a2_1)) < 0)), .int .u64 0]) ?_ 1 _ rfl; (with_reducible repeat (first | refine blk_drewN ?_ _ | refine blk_drew ?_ | refine blk_alloc ?_ _)); refine blk_put (cs := #[.bool false, .int .u64 0]) ?_ 0 _ rfl; (with_reducible repeat (first | refine blk_drewN ?_ _ | refine blk_drew ?_ | refine blk_alloc ?_ _)); refine blk_far ?_ NB213_212.out _; (with_reducible repeat (first | refine blk_drewN ?_ _ | refine blk_drew ?_ | refine blk_alloc ?_ _)); refine blk_far ?_ NB213_212.out _; (with_reducible repeat (first | refine blk_drewN ?_ _ | refine blk_drew ?_ | refine blk_alloc ?_ _)); exact BK213.out⟩, ⟨bs HB⟩⟩
 case rest =>
  clear HC4
  (try clear c1);(try clear c2);(try clear p2);(try clear c5);(try clear p6);(try clear c16);(try clear c17);(try clear c18);(try clear c19);(try clear c21);(try clear c21b0);(try clear c22);(try clear c23);(try clear c24);(try clear c25);(try clear c27);(try clear c28);(try clear c29);(try clear hcz20_0);(try clear hcz20_1);(try clear hcz26_0);(try clear hcz26_1);(try clear hcz26_2);(try clear hcz30_0);(try clear hcz30_1);(try clear hfz20_0);(try clear hfz20_1);(try clear hfz26_0);(try clear hfz26_1);(try clear hfz26_2);(try clear hfz30_0);(try clear hfz30_1)
  obtain ⟨kq, x213001_3, HA, HJ3, BK209, BK210, BK211, BK212, BK213, HB⟩ := hcut
  cases kq with
  | zero => exact absurd HA.out (by simp [value_spans.j0])
  | succ kj3 =>
   have H := HA.out
   clear HA
   simp only [value_spans.j0] at H
   have HC31 := Aside0.mk H
   clear H
   have hnb32 := NB213_209.out
   have hnc32 := NB209_213.out
   have hnb33 := NB213_210.out
   have hnc33 := NB210_213.out
   have hnb34 := NB213_211.out
   have hnc34 := NB211_213.out
   have hnb35 := NB213_212.out
   have hnc35 := NB212_213.out
   have hcz36_0 : wc.cell? ⟨gb213, 0, none⟩ = some (.bool (decide ((wrap64 (a2_1)) < 0))) := bc BK213 0
   have hcz36_1 : wc.cell? ⟨gb213, 1, none⟩ = some (.int .u64 a2_1) := bc BK213 1
   have hfz36_0 := blk_frozen BK213.out 0
   have hfz36_1 := blk_frozen BK213.out 1
   go_upto_if 36 with (fail)
   go_cut [] (fun wc => ∃ (kq : Nat) (x214001_30 : Int), Aside0 (value_spans.j1 kq a0 a1_0 a1_1 a1_2 a2_0 a2_1 a2_2 (decide ((wrap64 (a1_1)) < 0)) x213001_3 (decide ((wrap64 (a2_1)) < 0)) x214001_30 = some (r1, r2, r3, r4)) ∧ Aside0 (kq ≤ kj3) ∧ Aside0 (wc.heap[gb209]? = some (.cells #[.int .u8 a1_0, .int .u64 a1_1, .string a1_2] 27 (0, 0))) ∧ Aside0 (wc.heap[gb210]? = some (.cells #[.int .u8 a2_0, .int .u64 a2_1, .string a2_2] 27 (0, 0))) ∧ Aside0 (wc.heap[gb211]? = some (.cells #[.int .u8 0, .int .u64 0, .string (⟨#[]⟩ : ByteArray)] 27 (0, 0))) ∧ Aside0 (wc.heap[gb212]? = some (.cells #[.bool (decide ((wrap64 (a1_1)) < 0)), .int .u64 x213001_3] 58 (0, 0))) ∧ Aside0 (wc.heap[gb213]? = some (.cells #[.bool (decide ((wrap64 (a2_1)) < 0)), .int .u64 x214001_30] 58 (0, 0))) ∧ Aside0 (Below w.heap.size w wc))
   case first =>
    have H := HC31.out
    clear HC31
    by_cases c37 : (decide ((wrap64 (a2_1)) < 0)) = true
    ·rw [if_pos c37] at H
     have c37b0 : (decide ((wrap64 (a2_1)) < 0)) = true := c37
     clear c37
     (first | rw [c37b0] | (simp only [i64_w, i32_w]; rw [c37b0]) | skip)
     have H' := Aside0.mk H
     clear H
     have hnb38 := NB210_209.out
     have hnc38 := NB209_210.out
     have hnb39 := NB210_211.out
     have hnc39 := NB211_210.out
     have hnb40 := NB210_212.out
     have hnc40 := NB212_210.out
     have hnb41 := NB210_213.out
     have hnc41 := NB213_210.out
     have hcz42_0 : wc.cell? ⟨gb210, 0, none⟩ = some (.int .u8 a2_0) := bc BK210 0
     have hcz42_1 : wc.cell? ⟨gb210, 1, none⟩ = some (.int .u64 a2_1) := bc BK210 1
     have hcz42_2 : wc.cell? ⟨gb210, 2, none⟩ = some (.string a2_2) := bc BK210 2
     have hfz42_0 := blk_frozen BK210.out 0
     have hfz42_1 := blk_frozen BK210.out 1
     have hfz42_2 := blk_frozen BK210.out 2
     have hnb43 := NB213_209.out
     have hnc43 := NB209_213.out
     have hnb44 := NB213_211.out
     have hnc44 := NB211_213.out
     have hnb45 := NB213_212.out
     have hnc45 := NB212_213.out
     have hcz46_0 : wc.cell? ⟨gb213, 0, none⟩ = some (.bool (decide ((wrap64 (a2_1)) < 0))) := bc BK213 0
     have hcz46_1 : wc.cell? ⟨gb213, 1, none⟩ = some (.int .u64 a2_1) := bc BK213 1
     have hfz46_0 := blk_frozen BK213.out 0
     have hfz46_1 := blk_frozen BK213.out 1
     go_wp2
     go_meet
     case rel => exact ⟨_, (IntKind.u64.wrap (-a2_1)), (by first | exact H' | (rw [show (decide ((wrap64 (a2_1)) < 0)) = true from by assumption]; exact H')), ⟨by have := HJ3.out; first | omega | exact Nat.le_refl _⟩, ⟨by (with_reducible repeat (first | refine blk_drewN ?_ _ | refine blk_drew ?_ | refine blk_alloc ?_ _)); refine blk_far ?_ NB209_213.out _; (with_reducible repeat (first | refine blk_drewN ?_ _ | refine blk_drew ?_ | refine blk_alloc ?_ _)); exact BK209.out⟩, ⟨by (with_reducible repeat (first | refine blk_drewN ?_ _ | refine blk_drew ?_ | refine blk_alloc ?_ _)); refine blk_far ?_ NB210_213.out _; (with_reducible repeat (first | refine blk_drewN ?_ _ | refine blk_drew ?_ | refine blk_alloc ?_ _)); exact BK210.out⟩, ⟨by (with_reducible repeat (first | refine blk_drewN ?_ _ | refine blk_drew ?_ | refine blk_alloc ?_ _)); refine blk_far ?_ NB211_213.out _; (with_reducible repeat (first | refine blk_drewN ?_ _ | refine blk_drew ?_ | refine blk_alloc ?_ _)); exact BK211.out⟩, ⟨by (with_reducible repeat (first | refine blk_drewN ?_ _ | refine blk_drew ?_ | refine blk_alloc ?_ _)); refine blk_far ?_ NB212_213.out _; (with_reducible repeat (first | refine blk_drewN ?_ _ | refine blk_drew ?_ | refine blk_alloc ?_ _)); exact BK212.out⟩, ⟨by (with_reducible repeat (first | refine blk_drewN ?_ _ | refine blk_drew ?_ | refine blk_alloc ?_ _)); refine blk_put (cs := #[.bool (decide ((wrap64 (a2_1)) < 0)), .int .u64 a2_1]) ?_ 1 _ rfl; (with_reducible repeat (first | refine blk_drewN ?_ _ | refine blk_drew ?_ | refine blk_alloc ?_ _)); exact BK213.out⟩, ⟨bs HB⟩⟩
    ·rw [if_neg c37] at H
     have c37b0 : (decide ((wrap64 (a2_1)) < 0)) = false := by simpa using c37
     clear c37
     (first | rw [c37b0] | (simp only [i64_w, i32_w]; rw [c37b0]) | skip)
     have H' := Aside0.mk H
     clear H
     go_wp2
     go_meet
     case rel => exact ⟨_, (a2_1), (by first | exact H' | (rw [show (decide ((wrap64 (a2_1)) < 0)) = false from by assumption]; exact H')), ⟨by have := HJ3.out; first | omega | exact Nat.le_refl _⟩, ⟨by (with_reducible repeat (first | refine blk_drewN ?_ _ | refine blk_drew ?_ | refine blk_alloc ?_ _)); exact BK209.out⟩, ⟨by (with_reducible repeat (first | refine blk_drewN ?_ _ | refine blk_drew ?_ | refine blk_alloc ?_ _)); exact BK210.out⟩, ⟨by (with_reducible repeat (first | refine blk_drewN ?_ _ | refine blk_drew ?_ | refine blk_alloc ?_ _)); exact BK211.out⟩, ⟨by (with_reducible repeat (first | refine blk_drewN ?_ _ | refine blk_drew ?_ | refine blk_alloc ?_ _)); exact BK212.out⟩, ⟨by (with_reducible repeat (first | refine blk_drewN ?_ _ | refine blk_drew ?_ | refine blk_alloc ?_ _)); exact BK213.out⟩, ⟨bs HB⟩⟩
   case rest =>
    clear HC31
    (try clear c1);(try clear c2);(try clear p2);(try clear c3);(try clear c4);(try clear c5);(try clear p6);(try clear c16);(try clear c17);(try clear c18);(try clear c19);(try clear c21);(try clear c21b0);(try clear c22);(try clear c23);(try clear c24);(try clear c25);(try clear c27);(try clear c28);(try clear c29);(try clear c32);(try clear c33);(try clear c34);(try clear c35);(try clear c37);(try clear c37b0);(try clear c38);(try clear c39);(try clear c40);(try clear c41);(try clear c43);(try clear c44);(try clear c45);(try clear hcz20_0);(try clear hcz20_1);(try clear hcz26_0);(try clear hcz26_1);(try clear hcz26_2);(try clear hcz30_0);(try clear hcz30_1);(try clear hcz36_0);(try clear hcz36_1);(try clear hcz42_0);(try clear hcz42_1);(try clear hcz42_2);(try clear hcz46_0);(try clear hcz46_1);(try clear hfz20_0);(try clear hfz20_1);(try clear hfz26_0);(try clear hfz26_1);(try clear hfz26_2);(try clear hfz30_0);(try clear hfz30_1);(try clear hfz36_0);(try clear hfz36_1);(try clear hfz42_0);(try clear hfz42_1);(try clear hfz42_2);(try clear hfz46_0);(try clear hfz46_1);(try clear p2);(try clear p6)
    obtain ⟨kq, x214001_30, HA, HJ30, BK209, BK210, BK211, BK212, BK213, HB⟩ := hcut
    cases kq with
    | zero => exact absurd HA.out (by simp [value_spans.j1])
    | succ kj30 =>
     have H := HA.out
     clear HA
     simp only [value_spans.j1] at H
     have HC47 := Aside0.mk H
     clear H
     try go_wp2
     have n0_ := Aside0.mk (blk_drew BK209.out)
     have n1_ := Aside0.mk (blk_drew BK210.out)
     have n2_ := Aside0.mk (blk_drew BK211.out)
     have n3_ := Aside0.mk (blk_drew BK212.out)
     have n4_ := Aside0.mk (blk_drew BK213.out)
     have n5_ := Aside0.mk (below_drew1 HB.out)
     clear BK209
     clear BK210
     clear BK211
     clear BK212
     clear BK213
     clear HB
     have BK209 := n0_
     have BK210 := n1_
     have BK211 := n2_
     have BK212 := n3_
     have BK213 := n4_
     have HB := n5_
     clear n0_ n1_ n2_ n3_ n4_ n5_
     refine start_ (n := 8) (S := fun w' => w'.cell? ⟨gb210, 0, none⟩ = some (.int .u8 a2_0) ∧ w'.cell? ⟨gb210, 1, none⟩ = some (.int .u64 a2_1) ∧ w'.cell? ⟨gb210, 2, none⟩ = some (.string a2_2)) (ds := []) #[false, false, false, false, false, false, false, false] (by kernel_rfl) rfl rfl ⟨bc BK210 0, bc BK210 1, bc BK210 2⟩ (fun hHeld => ?_); refine with_tabW value_spans.tab6 value_spans.bits6 (fun HT_ HW_ => ?_)
     generalize wc.drew = w48 at BK209 BK210 BK211 BK212 BK213 HB hHeld ⊢
     refine pure_ (i := 0) (N := some 41) (v := ?_) (a' := ?_) #[true, false, false, false, false, false, false, false] rfl rfl (any_of HT_.out (by kernel_rfl)) (fun _ _ _ h => h) (Or.inl ⟨by rfl, ?_⟩) ?_ ?_
     rotate_left
     ·intro w'
      go_simp
      with_reducible rfl
     rotate_left
     ·simp only [Act.put, List.setIfInBounds_toArray, List.set_cons_zero, List.set_cons_succ, i64_w, i32_w]
      rfl
     refine pure_ (i := 3) (N := some 44) (v := ?_) (a' := ?_) #[true, false, false, true, false, false, false, false] rfl rfl (any_of HT_.out (by kernel_rfl)) (fun _ _ _ h => h) (Or.inl ⟨by rfl, ?_⟩) ?_ ?_
     rotate_left
     ·intro w'
      go_simp
      with_reducible rfl
     rotate_left
     ·simp only [Act.put, List.setIfInBounds_toArray, List.set_cons_zero, List.set_cons_succ, i64_w, i32_w]
      rfl
     refine take_ (i := 1) (N := some 42) (v := ?_) (a' := ?_) #[true, true, false, true, false, false, false, false] rfl rfl (take_ofW HT_.out HW_.out (by kernel_rfl)) (fun _ _ _ h => h) (Or.inl ⟨by rfl, ?_⟩) hHeld ?_ ?_
     rotate_left
     ·rintro w' ⟨s0, s1, s2⟩
      go_simp
      with_reducible rfl
     rotate_left
     ·simp only [Act.put, List.setIfInBounds_toArray, List.set_cons_zero, List.set_cons_succ, i64_w, i32_w]
      rfl
     refine pure_ (i := 2) (N := some 43) (v := ?_) (a' := ?_) #[true, true, true, true, false, false, false, false] rfl rfl (any_of HT_.out (by kernel_rfl)) (fun _ _ _ h => h) (Or.inl ⟨by rfl, ?_⟩) ?_ ?_
     rotate_left
     ·intro w'
      go_simp
      with_reducible rfl
     rotate_left
     ·simp only [Act.put, List.setIfInBounds_toArray, List.set_cons_zero, List.set_cons_succ, i64_w, i32_w]
      rfl
     refine pure_ (i := 6) (N := some 10) (v := ?_) (a' := ?_) #[true, true, true, true, false, false, true, false] rfl rfl (any_of HT_.out (by kernel_rfl)) (fun _ _ _ h => h) (Or.inl ⟨by rfl, ?_⟩) ?_ ?_
     rotate_left
     ·intro w'
      go_simp
      with_reducible rfl
     rotate_left
     ·simp only [Act.put, List.setIfInBounds_toArray, List.set_cons_zero, List.set_cons_succ, i64_w, i32_w]
      rfl
     refine take_ (i := 4) (N := some 45) (v := ?_) (a' := ?_) #[true, true, true, true, true, false, true, false] rfl rfl (take_ofW HT_.out HW_.out (by kernel_rfl)) (fun _ _ _ h => h) (Or.inl ⟨by rfl, ?_⟩) hHeld ?_ ?_
     rotate_left
     ·rintro w' ⟨s0, s1, s2⟩
      go_simp
      with_reducible rfl
     rotate_left
     ·simp only [Act.put, List.setIfInBounds_toArray, List.set_cons_zero, List.set_cons_succ, i64_w, i32_w]
      rfl
     refine pure_ (i := 5) (N := some 46) (v := ?_) (a' := ?_) #[true, true, true, true, true, true, true, false] rfl rfl (any_of HT_.out (by kernel_rfl)) (fun _ _ _ h => h) (Or.inl ⟨by rfl, ?_⟩) ?_ ?_
     rotate_left
     ·intro w'
      go_simp
      with_reducible rfl
     rotate_left
     ·simp only [Act.put, List.setIfInBounds_toArray, List.set_cons_zero, List.set_cons_succ, i64_w, i32_w]
      rfl
     refine pure_ (i := 7) (N := some 11) (v := ?_) (a' := ?_) #[true, true, true, true, true, true, true, true] rfl rfl (any_of HT_.out (by kernel_rfl)) (fun _ _ _ h => h) (Or.inl ⟨by rfl, ?_⟩) ?_ ?_
     rotate_left
     ·intro w'
      go_simp
      with_reducible rfl
     rotate_left
     ·simp only [Act.put, List.setIfInBounds_toArray, List.set_cons_zero, List.set_cons_succ, i64_w, i32_w]
      rfl
     refine done_ (done_of HT_.out (by kernel_rfl)) ?_
     go_upto_block 0 with (fail)
     go_cut [12] (fun v12 wc => ∃ (kq : Nat) (x12_46 : Int), v12 = .int .u8 x12_46 ∧ Aside0 (value_spans.j5 kq a0 x12_46 (decide ((wrap64 (a1_1)) < 0)) x213001_3 (decide ((wrap64 (a2_1)) < 0)) x214001_30 = some (r1, r2, r3, r4)) ∧ Aside0 (kq ≤ kj30) ∧ Aside0 (wc.heap[gb209]? = some (.cells #[.int .u8 a1_0, .int .u64 a1_1, .string a1_2] 27 (0, 0))) ∧ Aside0 (wc.heap[gb210]? = some (.cells #[.int .u8 a2_0, .int .u64 a2_1, .string a2_2] 27 (0, 0))) ∧ Aside0 (wc.heap[gb211]? = some (.cells #[.int .u8 0, .int .u64 0, .string (⟨#[]⟩ : ByteArray)] 27 (0, 0))) ∧ Aside0 (wc.heap[gb212]? = some (.cells #[.bool (decide ((wrap64 (a1_1)) < 0)), .int .u64 x213001_3] 58 (0, 0))) ∧ Aside0 (wc.heap[gb213]? = some (.cells #[.bool (decide ((wrap64 (a2_1)) < 0)), .int .u64 x214001_30] 58 (0, 0))) ∧ Aside0 (Below w.heap.size w wc))
     case first =>
      have H := HC47.out
      clear HC47
      have HC49 := Aside0.mk H
      clear H
      go_upto_region 8 with (fail)
      go_cut [47] (fun v47 wc => ∃ (kq : Nat) (x47_48 : Bool), v47 = .bool x47_48 ∧ Aside0 (value_spans.j2 kq a0 (a2_0 == 5) 0 x47_48 a1_0 a1_1 a1_2 a2_0 a2_1 a2_2 (decide ((wrap64 (a1_1)) < 0)) x213001_3 (decide ((wrap64 (a2_1)) < 0)) x214001_30 = some (r1, r2, r3, r4)) ∧ Aside0 (kq ≤ kj30) ∧ Aside0 (wc.heap[gb209]? = some (.cells #[.int .u8 a1_0, .int .u64 a1_1, .string a1_2] 27 (0, 0))) ∧ Aside0 (wc.heap[gb210]? = some (.cells #[.int .u8 a2_0, .int .u64 a2_1, .string a2_2] 27 (0, 0))) ∧ Aside0 (wc.heap[gb211]? = some (.cells #[.int .u8 0, .int .u64 0, .string (⟨#[]⟩ : ByteArray)] 27 (0, 0))) ∧ Aside0 (wc.heap[gb212]? = some (.cells #[.bool (decide ((wrap64 (a1_1)) < 0)), .int .u64 x213001_3] 58 (0, 0))) ∧ Aside0 (wc.heap[gb213]? = some (.cells #[.bool (decide ((wrap64 (a2_1)) < 0)), .int .u64 x214001_30] 58 (0, 0))) ∧ Aside0 (Below w.heap.size w wc))
      case first =>
       have H := HC49.out
       clear HC49
       by_cases c50 : a0 = 1
       ·rw [if_pos c50] at H
        have c50b0 : (a0 == 1) = true := beq_iff_eq.mpr c50
        have c50b1 : (a0 != 1) = false := bne_eq_false_iff_eq.mpr c50
        clear c50
        (first | rw [c50b0] | (simp only [i64_w, i32_w]; rw [c50b0]) | skip)
        by_cases c51 : a2_0 = 14
        ·rw [if_pos c51] at H
         have c51b0 : (a2_0 == 14) = true := beq_iff_eq.mpr c51
         have c51b1 : (a2_0 != 14) = false := bne_eq_false_iff_eq.mpr c51
         clear c51
         by_cases c52 : a1_0 = 14
         ·rw [if_pos c52] at H
          have c52b0 : (a1_0 == 14) = true := beq_iff_eq.mpr c52
          have c52b1 : (a1_0 != 14) = false := bne_eq_false_iff_eq.mpr c52
          clear c52
          have H' := Aside0.mk H
          clear H
          have hnb53 := NB209_210.out
          have hnc53 := NB210_209.out
          have hnb54 := NB209_211.out
          have hnc54 := NB211_209.out
          have hnb55 := NB209_212.out
          have hnc55 := NB212_209.out
          have hnb56 := NB209_213.out
          have hnc56 := NB213_209.out
          have hcz57_0 : w48.cell? ⟨gb209, 0, none⟩ = some (.int .u8 a1_0) := bc BK209 0
          have hcz57_1 : w48.cell? ⟨gb209, 1, none⟩ = some (.int .u64 a1_1) := bc BK209 1
          have hcz57_2 : w48.cell? ⟨gb209, 2, none⟩ = some (.string a1_2) := bc BK209 2
          have hfz57_0 := blk_frozen BK209.out 0
          have hfz57_1 := blk_frozen BK209.out 1
          have hfz57_2 := blk_frozen BK209.out 2
          go_wp2
          go_meet
          case rel => exact ⟨_, (true), (by first | rfl | (simp; done) | (simp [*]; done)), H', ⟨by have := HJ3.out; have := HJ30.out; first | omega | exact Nat.le_refl _⟩, ⟨by (with_reducible repeat (first | refine blk_drewN ?_ _ | refine blk_drew ?_ | refine blk_alloc ?_ _)); exact BK209.out⟩, ⟨by (with_reducible repeat (first | refine blk_drewN ?_ _ | refine blk_drew ?_ | refine blk_alloc ?_ _)); exact BK210.out⟩, ⟨by (with_reducible repeat (first | refine blk_drewN ?_ _ | refine blk_drew ?_ | refine blk_alloc ?_ _)); exact BK211.out⟩, ⟨by (with_reducible repeat (first | refine blk_drewN ?_ _ | refine blk_drew ?_ | refine blk_alloc ?_ _)); exact BK212.out⟩, ⟨by (with_reducible repeat (first | refine blk_drewN ?_ _ | refine blk_drew ?_ | refine blk_alloc ?_ _)); exact BK213.out⟩, ⟨bs HB⟩⟩
         ·rw [if_neg c52] at H
          have c52b0 : (a1_0 == 14) = false := beq_eq_false_iff_ne.mpr c52
          have c52b1 : (a1_0 != 14) = true := bne_iff_ne.mpr c52
          by_cases c58 : a1_0 = 17
          ·rw [if_pos c58] at H
           have c58b0 : (a1_0 == 17) = true := beq_iff_eq.mpr c58
           have c58b1 : (a1_0 != 17) = false := bne_eq_false_iff_eq.mpr c58
           clear c58
           have H' := Aside0.mk H
           clear H
           have hnb59 := NB209_210.out
           have hnc59 := NB210_209.out
           have hnb60 := NB209_211.out
           have hnc60 := NB211_209.out
           have hnb61 := NB209_212.out
           have hnc61 := NB212_209.out
           have hnb62 := NB209_213.out
           have hnc62 := NB213_209.out
           have hcz63_0 : w48.cell? ⟨gb209, 0, none⟩ = some (.int .u8 a1_0) := bc BK209 0
           have hcz63_1 : w48.cell? ⟨gb209, 1, none⟩ = some (.int .u64 a1_1) := bc BK209 1
           have hcz63_2 : w48.cell? ⟨gb209, 2, none⟩ = some (.string a1_2) := bc BK209 2
           have hfz63_0 := blk_frozen BK209.out 0
           have hfz63_1 := blk_frozen BK209.out 1
           have hfz63_2 := blk_frozen BK209.out 2
           go_wp2
           go_meet
           case rel => exact ⟨_, (true), (by first | rfl | (simp; done) | (simp [*]; done)), H', ⟨by have := HJ3.out; have := HJ30.out; first | omega | exact Nat.le_refl _⟩, ⟨by (with_reducible repeat (first | refine blk_drewN ?_ _ | refine blk_drew ?_ | refine blk_alloc ?_ _)); exact BK209.out⟩, ⟨by (with_reducible repeat (first | refine blk_drewN ?_ _ | refine blk_drew ?_ | refine blk_alloc ?_ _)); exact BK210.out⟩, ⟨by (with_reducible repeat (first | refine blk_drewN ?_ _ | refine blk_drew ?_ | refine blk_alloc ?_ _)); exact BK211.out⟩, ⟨by (with_reducible repeat (first | refine blk_drewN ?_ _ | refine blk_drew ?_ | refine blk_alloc ?_ _)); exact BK212.out⟩, ⟨by (with_reducible repeat (first | refine blk_drewN ?_ _ | refine blk_drew ?_ | refine blk_alloc ?_ _)); exact BK213.out⟩, ⟨bs HB⟩⟩
          ·rw [if_neg c58] at H
           have c58b0 : (a1_0 == 17) = false := beq_eq_false_iff_ne.mpr c58
           have c58b1 : (a1_0 != 17) = true := bne_iff_ne.mpr c58
           have H' := Aside0.mk H
           clear H
           have hnb64 := NB209_210.out
           have hnc64 := NB210_209.out
           have hnb65 := NB209_211.out
           have hnc65 := NB211_209.out
           have hnb66 := NB209_212.out
           have hnc66 := NB212_209.out
           have hnb67 := NB209_213.out
           have hnc67 := NB213_209.out
           have hcz68_0 : w48.cell? ⟨gb209, 0, none⟩ = some (.int .u8 a1_0) := bc BK209 0
           have hcz68_1 : w48.cell? ⟨gb209, 1, none⟩ = some (.int .u64 a1_1) := bc BK209 1
           have hcz68_2 : w48.cell? ⟨gb209, 2, none⟩ = some (.string a1_2) := bc BK209 2
           have hfz68_0 := blk_frozen BK209.out 0
           have hfz68_1 := blk_frozen BK209.out 1
           have hfz68_2 := blk_frozen BK209.out 2
           go_wp2
           go_meet
           case rel => exact ⟨_, ((a1_0 == 16)), (by first | rfl | (simp; done) | (simp [*]; done)), H', ⟨by have := HJ3.out; have := HJ30.out; first | omega | exact Nat.le_refl _⟩, ⟨by (with_reducible repeat (first | refine blk_drewN ?_ _ | refine blk_drew ?_ | refine blk_alloc ?_ _)); exact BK209.out⟩, ⟨by (with_reducible repeat (first | refine blk_drewN ?_ _ | refine blk_drew ?_ | refine blk_alloc ?_ _)); exact BK210.out⟩, ⟨by (with_reducible repeat (first | refine blk_drewN ?_ _ | refine blk_drew ?_ | refine blk_alloc ?_ _)); exact BK211.out⟩, ⟨by (with_reducible repeat (first | refine blk_drewN ?_ _ | refine blk_drew ?_ | refine blk_alloc ?_ _)); exact BK212.out⟩, ⟨by (with_reducible repeat (first | refine blk_drewN ?_ _ | refine blk_drew ?_ | refine blk_alloc ?_ _)); exact BK213.out⟩, ⟨bs HB⟩⟩
        ·rw [if_neg c51] at H
         have c51b0 : (a2_0 == 14) = false := beq_eq_false_iff_ne.mpr c51
         have c51b1 : (a2_0 != 14) = true := bne_iff_ne.mpr c51
         have H' := Aside0.mk H
         clear H
         go_wp2
         go_meet
         case rel => exact ⟨_, (false), (by first | rfl | (simp; done) | (simp [*]; done)), H', ⟨by have := HJ3.out; have := HJ30.out; first | omega | exact Nat.le_refl _⟩, ⟨by (with_reducible repeat (first | refine blk_drewN ?_ _ | refine blk_drew ?_ | refine blk_alloc ?_ _)); exact BK209.out⟩, ⟨by (with_reducible repeat (first | refine blk_drewN ?_ _ | refine blk_drew ?_ | refine blk_alloc ?_ _)); exact BK210.out⟩, ⟨by (with_reducible repeat (first | refine blk_drewN ?_ _ | refine blk_drew ?_ | refine blk_alloc ?_ _)); exact BK211.out⟩, ⟨by (with_reducible repeat (first | refine blk_drewN ?_ _ | refine blk_drew ?_ | refine blk_alloc ?_ _)); exact BK212.out⟩, ⟨by (with_reducible repeat (first | refine blk_drewN ?_ _ | refine blk_drew ?_ | refine blk_alloc ?_ _)); exact BK213.out⟩, ⟨bs HB⟩⟩
       ·rw [if_neg c50] at H
        have c50b0 : (a0 == 1) = false := beq_eq_false_iff_ne.mpr c50
        have c50b1 : (a0 != 1) = true := bne_iff_ne.mpr c50
        (first | rw [c50b0] | (simp only [i64_w, i32_w]; rw [c50b0]) | skip)
        by_cases c69 : a0 = 2
        ·rw [if_pos c69] at H
         have c69b0 : (a0 == 2) = true := beq_iff_eq.mpr c69
         have c69b1 : (a0 != 2) = false := bne_eq_false_iff_eq.mpr c69
         clear c69
         by_cases c70 : a2_0 = 14
         ·rw [if_pos c70] at H
          have c70b0 : (a2_0 == 14) = true := beq_iff_eq.mpr c70
          have c70b1 : (a2_0 != 14) = false := bne_eq_false_iff_eq.mpr c70
          clear c70
          by_cases c71 : a1_0 = 14
          ·rw [if_pos c71] at H
           have c71b0 : (a1_0 == 14) = true := beq_iff_eq.mpr c71
           have c71b1 : (a1_0 != 14) = false := bne_eq_false_iff_eq.mpr c71
           clear c71
           have H' := Aside0.mk H
           clear H
           have hnb72 := NB209_210.out
           have hnc72 := NB210_209.out
           have hnb73 := NB209_211.out
           have hnc73 := NB211_209.out
           have hnb74 := NB209_212.out
           have hnc74 := NB212_209.out
           have hnb75 := NB209_213.out
           have hnc75 := NB213_209.out
           have hcz76_0 : w48.cell? ⟨gb209, 0, none⟩ = some (.int .u8 a1_0) := bc BK209 0
           have hcz76_1 : w48.cell? ⟨gb209, 1, none⟩ = some (.int .u64 a1_1) := bc BK209 1
           have hcz76_2 : w48.cell? ⟨gb209, 2, none⟩ = some (.string a1_2) := bc BK209 2
           have hfz76_0 := blk_frozen BK209.out 0
           have hfz76_1 := blk_frozen BK209.out 1
           have hfz76_2 := blk_frozen BK209.out 2
           go_wp2
           go_meet
           case rel => exact ⟨_, (true), (by first | rfl | (simp; done) | (simp [*]; done)), H', ⟨by have := HJ3.out; have := HJ30.out; first | omega | exact Nat.le_refl _⟩, ⟨by (with_reducible repeat (first | refine blk_drewN ?_ _ | refine blk_drew ?_ | refine blk_alloc ?_ _)); exact BK209.out⟩, ⟨by (with_reducible repeat (first | refine blk_drewN ?_ _ | refine blk_drew ?_ | refine blk_alloc ?_ _)); exact BK210.out⟩, ⟨by (with_reducible repeat (first | refine blk_drewN ?_ _ | refine blk_drew ?_ | refine blk_alloc ?_ _)); exact BK211.out⟩, ⟨by (with_reducible repeat (first | refine blk_drewN ?_ _ | refine blk_drew ?_ | refine blk_alloc ?_ _)); exact BK212.out⟩, ⟨by (with_reducible repeat (first | refine blk_drewN ?_ _ | refine blk_drew ?_ | refine blk_alloc ?_ _)); exact BK213.out⟩, ⟨bs HB⟩⟩
          ·rw [if_neg c71] at H
           have c71b0 : (a1_0 == 14) = false := beq_eq_false_iff_ne.mpr c71
           have c71b1 : (a1_0 != 14) = true := bne_iff_ne.mpr c71
           by_cases c77 : a1_0 = 17
           ·rw [if_pos c77] at H
            have c77b0 : (a1_0 == 17) = true := beq_iff_eq.mpr c77
            have c77b1 : (a1_0 != 17) = false := bne_eq_false_iff_eq.mpr c77
            clear c77
            have H' := Aside0.mk H
            clear H
            have hnb78 := NB209_210.out
            have hnc78 := NB210_209.out
            have hnb79 := NB209_211.out
            have hnc79 := NB211_209.out
            have hnb80 := NB209_212.out
            have hnc80 := NB212_209.out
            have hnb81 := NB209_213.out
            have hnc81 := NB213_209.out
            have hcz82_0 : w48.cell? ⟨gb209, 0, none⟩ = some (.int .u8 a1_0) := bc BK209 0
            have hcz82_1 : w48.cell? ⟨gb209, 1, none⟩ = some (.int .u64 a1_1) := bc BK209 1
            have hcz82_2 : w48.cell? ⟨gb209, 2, none⟩ = some (.string a1_2) := bc BK209 2
            have hfz82_0 := blk_frozen BK209.out 0
            have hfz82_1 := blk_frozen BK209.out 1
            have hfz82_2 := blk_frozen BK209.out 2
            go_wp2
            go_meet
            case rel => exact ⟨_, (true), (by first | rfl | (simp; done) | (simp [*]; done)), H', ⟨by have := HJ3.out; have := HJ30.out; first | omega | exact Nat.le_refl _⟩, ⟨by (with_reducible repeat (first | refine blk_drewN ?_ _ | refine blk_drew ?_ | refine blk_alloc ?_ _)); exact BK209.out⟩, ⟨by (with_reducible repeat (first | refine blk_drewN ?_ _ | refine blk_drew ?_ | refine blk_alloc ?_ _)); exact BK210.out⟩, ⟨by (with_reducible repeat (first | refine blk_drewN ?_ _ | refine blk_drew ?_ | refine blk_alloc ?_ _)); exact BK211.out⟩, ⟨by (with_reducible repeat (first | refine blk_drewN ?_ _ | refine blk_drew ?_ | refine blk_alloc ?_ _)); exact BK212.out⟩, ⟨by (with_reducible repeat (first | refine blk_drewN ?_ _ | refine blk_drew ?_ | refine blk_alloc ?_ _)); exact BK213.out⟩, ⟨bs HB⟩⟩
           ·rw [if_neg c77] at H
            have c77b0 : (a1_0 == 17) = false := beq_eq_false_iff_ne.mpr c77
            have c77b1 : (a1_0 != 17) = true := bne_iff_ne.mpr c77
            have H' := Aside0.mk H
            clear H
            have hnb83 := NB209_210.out
            have hnc83 := NB210_209.out
            have hnb84 := NB209_211.out
            have hnc84 := NB211_209.out
            have hnb85 := NB209_212.out
            have hnc85 := NB212_209.out
            have hnb86 := NB209_213.out
            have hnc86 := NB213_209.out
            have hcz87_0 : w48.cell? ⟨gb209, 0, none⟩ = some (.int .u8 a1_0) := bc BK209 0
            have hcz87_1 : w48.cell? ⟨gb209, 1, none⟩ = some (.int .u64 a1_1) := bc BK209 1
            have hcz87_2 : w48.cell? ⟨gb209, 2, none⟩ = some (.string a1_2) := bc BK209 2
            have hfz87_0 := blk_frozen BK209.out 0
            have hfz87_1 := blk_frozen BK209.out 1
            have hfz87_2 := blk_frozen BK209.out 2
            go_wp2
            go_meet
            case rel => exact ⟨_, ((a1_0 == 16)), (by first | rfl | (simp; done) | (simp [*]; done)), H', ⟨by have := HJ3.out; have := HJ30.out; first | omega | exact Nat.le_refl _⟩, ⟨by (with_reducible repeat (first | refine blk_drewN ?_ _ | refine blk_drew ?_ | refine blk_alloc ?_ _)); exact BK209.out⟩, ⟨by (with_reducible repeat (first | refine blk_drewN ?_ _ | refine blk_drew ?_ | refine blk_alloc ?_ _)); exact BK210.out⟩, ⟨by (with_reducible repeat (first | refine blk_drewN ?_ _ | refine blk_drew ?_ | refine blk_alloc ?_ _)); exact BK211.out⟩, ⟨by (with_reducible repeat (first | refine blk_drewN ?_ _ | refine blk_drew ?_ | refine blk_alloc ?_ _)); exact BK212.out⟩, ⟨by (with_reducible repeat (first | refine blk_drewN ?_ _ | refine blk_drew ?_ | refine blk_alloc ?_ _)); exact BK213.out⟩, ⟨bs HB⟩⟩
         ·rw [if_neg c70] at H
          have c70b0 : (a2_0 == 14) = false := beq_eq_false_iff_ne.mpr c70
          have c70b1 : (a2_0 != 14) = true := bne_iff_ne.mpr c70
          have H' := Aside0.mk H
          clear H
          go_wp2
          go_meet
          case rel => exact ⟨_, (false), (by first | rfl | (simp; done) | (simp [*]; done)), H', ⟨by have := HJ3.out; have := HJ30.out; first | omega | exact Nat.le_refl _⟩, ⟨by (with_reducible repeat (first | refine blk_drewN ?_ _ | refine blk_drew ?_ | refine blk_alloc ?_ _)); exact BK209.out⟩, ⟨by (with_reducible repeat (first | refine blk_drewN ?_ _ | refine blk_drew ?_ | refine blk_alloc ?_ _)); exact BK210.out⟩, ⟨by (with_reducible repeat (first | refine blk_drewN ?_ _ | refine blk_drew ?_ | refine blk_alloc ?_ _)); exact BK211.out⟩, ⟨by (with_reducible repeat (first | refine blk_drewN ?_ _ | refine blk_drew ?_ | refine blk_alloc ?_ _)); exact BK212.out⟩, ⟨by (with_reducible repeat (first | refine blk_drewN ?_ _ | refine blk_drew ?_ | refine blk_alloc ?_ _)); exact BK213.out⟩, ⟨bs HB⟩⟩
        ·rw [if_neg c69] at H
         have c69b0 : (a0 == 2) = false := beq_eq_false_iff_ne.mpr c69
         have c69b1 : (a0 != 2) = true := bne_iff_ne.mpr c69
         have H' := Aside0.mk H
         clear H
         go_wp2
         go_meet
         case rel => exact ⟨_, (false), (by first | rfl | (simp; done) | (simp [*]; done)), H', ⟨by have := HJ3.out; have := HJ30.out; first | omega | exact Nat.le_refl _⟩, ⟨by (with_reducible repeat (first | refine blk_drewN ?_ _ | refine blk_drew ?_ | refine blk_alloc ?_ _)); exact BK209.out⟩, ⟨by (with_reducible repeat (first | refine blk_drewN ?_ _ | refine blk_drew ?_ | refine blk_alloc ?_ _)); exact BK210.out⟩, ⟨by (with_reducible repeat (first | refine blk_drewN ?_ _ | refine blk_drew ?_ | refine blk_alloc ?_ _)); exact BK211.out⟩, ⟨by (with_reducible repeat (first | refine blk_drewN ?_ _ | refine blk_drew ?_ | refine blk_alloc ?_ _)); exact BK212.out⟩, ⟨by (with_reducible repeat (first | refine blk_drewN ?_ _ | refine blk_drew ?_ | refine blk_alloc ?_ _)); exact BK213.out⟩, ⟨bs HB⟩⟩
      case rest =>
       clear HC49
       (try clear c1);(try clear c2);(try clear p2);(try clear c3);(try clear c4);(try clear c5);(try clear c6);(try clear p6);(try clear c7);(try clear c8);(try clear c16);(try clear c17);(try clear c18);(try clear c19);(try clear c21);(try clear c21b0);(try clear c22);(try clear c23);(try clear c24);(try clear c25);(try clear c27);(try clear c28);(try clear c29);(try clear c32);(try clear c33);(try clear c34);(try clear c35);(try clear c37);(try clear c37b0);(try clear c38);(try clear c39);(try clear c40);(try clear c41);(try clear c43);(try clear c44);(try clear c45);(try clear c50);(try clear c50b0);(try clear c50b1);(try clear c51);(try clear c51b0);(try clear c51b1);(try clear c52);(try clear c52b0);(try clear c52b1);(try clear c53);(try clear c54);(try clear c55);(try clear c56);(try clear c58);(try clear c58b0);(try clear c58b1);(try clear c59);(try clear c60);(try clear c61);(try clear c62);(try clear c64);(try clear p64);(try clear c65);(try clear c66);(try clear c67);(try clear c69);(try clear c69b0);(try clear c69b1);(try clear c70);(try clear c70b0);(try clear c70b1);(try clear c71);(try clear c71b0);(try clear c71b1);(try clear c72);(try clear c73);(try clear c74);(try clear c75);(try clear c77);(try clear c77b0);(try clear c77b1);(try clear c78);(try clear c79);(try clear c80);(try clear c81);(try clear c83);(try clear c84);(try clear c85);(try clear c86);(try clear hcz20_0);(try clear hcz20_1);(try clear hcz26_0);(try clear hcz26_1);(try clear hcz26_2);(try clear hcz30_0);(try clear hcz30_1);(try clear hcz36_0);(try clear hcz36_1);(try clear hcz42_0);(try clear hcz42_1);(try clear hcz42_2);(try clear hcz46_0);(try clear hcz46_1);(try clear hcz57_0);(try clear hcz57_1);(try clear hcz57_2);(try clear hcz63_0);(try clear hcz63_1);(try clear hcz63_2);(try clear hcz68_0);(try clear hcz68_1);(try clear hcz68_2);(try clear hcz76_0);(try clear hcz76_1);(try clear hcz76_2);(try clear hcz82_0);(try clear hcz82_1);(try clear hcz82_2);(try clear hcz87_0);(try clear hcz87_1);(try clear hcz87_2);(try clear hfz20_0);(try clear hfz20_1);(try clear hfz26_0);(try clear hfz26_1);(try clear hfz26_2);(try clear hfz30_0);(try clear hfz30_1);(try clear hfz36_0);(try clear hfz36_1);(try clear hfz42_0);(try clear hfz42_1);(try clear hfz42_2);(try clear hfz46_0);(try clear hfz46_1);(try clear hfz57_0);(try clear hfz57_1);(try clear hfz57_2);(try clear hfz63_0);(try clear hfz63_1);(try clear hfz63_2);(try clear hfz68_0);(try clear hfz68_1);(try clear hfz68_2);(try clear hfz76_0);(try clear hfz76_1);(try clear hfz76_2);(try clear hfz82_0);(try clear hfz82_1);(try clear hfz82_2);(try clear hfz87_0);(try clear hfz87_1);(try clear hfz87_2);(try clear p2);(try clear p6)
       obtain ⟨kq, x47_48, rfl, HA, HJ48, BK209, BK210, BK211, BK212, BK213, HB⟩ := hcut
       cases kq with
       | zero => exact absurd HA.out (by simp [value_spans.j2])
       | succ kj48 =>
        have H := HA.out
        clear HA
        simp only [value_spans.j2] at H
        by_cases c88 : x47_48 = true
        ·subst c88
         have H1 : (value_spans.j5 kj48 a0 a1_0 (decide ((wrap64 (a1_1)) < 0)) x213001_3 (decide ((wrap64 (a2_1)) < 0)) x214001_30) = some (r1, r2, r3, r4) := by rw [if_pos rfl] at H; exact H
         clear H
         have H := H1
         clear H1
         have H' := Aside0.mk H
         clear H
         have hnb89 := NB209_210.out
         have hnc89 := NB210_209.out
         have hnb90 := NB209_211.out
         have hnc90 := NB211_209.out
         have hnb91 := NB209_212.out
         have hnc91 := NB212_209.out
         have hnb92 := NB209_213.out
         have hnc92 := NB213_209.out
         have hcz93_0 : wc.cell? ⟨gb209, 0, none⟩ = some (.int .u8 a1_0) := bc BK209 0
         have hcz93_1 : wc.cell? ⟨gb209, 1, none⟩ = some (.int .u64 a1_1) := bc BK209 1
         have hcz93_2 : wc.cell? ⟨gb209, 2, none⟩ = some (.string a1_2) := bc BK209 2
         have hfz93_0 := blk_frozen BK209.out 0
         have hfz93_1 := blk_frozen BK209.out 1
         have hfz93_2 := blk_frozen BK209.out 2
         go_wp2
         go_meet
         case rel => exact ⟨_, (a1_0), (by first | rfl | (simp; done) | (simp [*]; done)), H', ⟨by have := HJ3.out; have := HJ30.out; have := HJ48.out; first | omega | exact Nat.le_refl _⟩, ⟨by (with_reducible repeat (first | refine blk_drewN ?_ _ | refine blk_drew ?_ | refine blk_alloc ?_ _)); exact BK209.out⟩, ⟨by (with_reducible repeat (first | refine blk_drewN ?_ _ | refine blk_drew ?_ | refine blk_alloc ?_ _)); exact BK210.out⟩, ⟨by (with_reducible repeat (first | refine blk_drewN ?_ _ | refine blk_drew ?_ | refine blk_alloc ?_ _)); exact BK211.out⟩, ⟨by (with_reducible repeat (first | refine blk_drewN ?_ _ | refine blk_drew ?_ | refine blk_alloc ?_ _)); exact BK212.out⟩, ⟨by (with_reducible repeat (first | refine blk_drewN ?_ _ | refine blk_drew ?_ | refine blk_alloc ?_ _)); exact BK213.out⟩, ⟨bs HB⟩⟩
        ·replace c88 := Bool.eq_false_iff.mpr c88
         subst c88
         have H1 : (if a0 = 2 then (value_spans.j3 kj48 a0 (a2_0 == 5) 0 (a1_0 == a2_0) a1_0 a1_1 a1_2 (decide ((wrap64 (a1_1)) < 0)) x213001_3 (decide ((wrap64 (a2_1)) < 0)) x214001_30) else (value_spans.j3 kj48 a0 (a2_0 == 5) 0 false a1_0 a1_1 a1_2 (decide ((wrap64 (a1_1)) < 0)) x213001_3 (decide ((wrap64 (a2_1)) < 0)) x214001_30)) = some (r1, r2, r3, r4) := by rw [if_neg (show ¬ (false = true) by decide)] at H; exact H
         clear H
         have H := H1
         clear H1
         have HC94 := Aside0.mk H
         clear H
         go_upto_region 10 with (fail)
         go_cut [74] (fun v74 wc => ∃ (kq : Nat) (x74_93 : Bool), v74 = .bool x74_93 ∧ Aside0 (value_spans.j3 kq a0 (a2_0 == 5) 0 x74_93 a1_0 a1_1 a1_2 (decide ((wrap64 (a1_1)) < 0)) x213001_3 (decide ((wrap64 (a2_1)) < 0)) x214001_30 = some (r1, r2, r3, r4)) ∧ Aside0 (kq ≤ kj48) ∧ Aside0 (wc.heap[gb209]? = some (.cells #[.int .u8 a1_0, .int .u64 a1_1, .string a1_2] 27 (0, 0))) ∧ Aside0 (wc.heap[gb210]? = some (.cells #[.int .u8 a2_0, .int .u64 a2_1, .string a2_2] 27 (0, 0))) ∧ Aside0 (wc.heap[gb211]? = some (.cells #[.int .u8 0, .int .u64 0, .string (⟨#[]⟩ : ByteArray)] 27 (0, 0))) ∧ Aside0 (wc.heap[gb212]? = some (.cells #[.bool (decide ((wrap64 (a1_1)) < 0)), .int .u64 x213001_3] 58 (0, 0))) ∧ Aside0 (wc.heap[gb213]? = some (.cells #[.bool (decide ((wrap64 (a2_1)) < 0)), .int .u64 x214001_30] 58 (0, 0))) ∧ Aside0 (Below w.heap.size w wc))
         case first =>
          have H := HC94.out
          clear HC94
          by_cases c95 : a0 = 2
          ·rw [if_pos c95] at H
           have c95b0 : (a0 == 2) = true := beq_iff_eq.mpr c95
           have c95b1 : (a0 != 2) = false := bne_eq_false_iff_eq.mpr c95
           clear c95
           (first | rw [c95b0] | (simp only [i64_w, i32_w]; rw [c95b0]) | skip)
           have H' := Aside0.mk H
           clear H
           have hnb96 := NB209_210.out
           have hnc96 := NB210_209.out
           have hnb97 := NB209_211.out
           have hnc97 := NB211_209.out
           have hnb98 := NB209_212.out
           have hnc98 := NB212_209.out
           have hnb99 := NB209_213.out
           have hnc99 := NB213_209.out
           have hcz100_0 : wc.cell? ⟨gb209, 0, none⟩ = some (.int .u8 a1_0) := bc BK209 0
           have hcz100_1 : wc.cell? ⟨gb209, 1, none⟩ = some (.int .u64 a1_1) := bc BK209 1
           have hcz100_2 : wc.cell? ⟨gb209, 2, none⟩ = some (.string a1_2) := bc BK209 2
           have hfz100_0 := blk_frozen BK209.out 0
           have hfz100_1 := blk_frozen BK209.out 1
           have hfz100_2 := blk_frozen BK209.out 2
           have hnb101 := NB210_211.out
           have hnc101 := NB211_210.out
           have hnb102 := NB210_212.out
           have hnc102 := NB212_210.out
           have hnb103 := NB210_213.out
           have hnc103 := NB213_210.out
           have hcz104_0 : wc.cell? ⟨gb210, 0, none⟩ = some (.int .u8 a2_0) := bc BK210 0
           have hcz104_1 : wc.cell? ⟨gb210, 1, none⟩ = some (.int .u64 a2_1) := bc BK210 1
           have hcz104_2 : wc.cell? ⟨gb210, 2, none⟩ = some (.string a2_2) := bc BK210 2
           have hfz104_0 := blk_frozen BK210.out 0
           have hfz104_1 := blk_frozen BK210.out 1
           have hfz104_2 := blk_frozen BK210.out 2
           go_wp2
           go_meet
           case rel => exact ⟨_, ((a1_0 == a2_0)), (by first | rfl | (simp; done) | (simp [*]; done)), H', ⟨by have := HJ3.out; have := HJ30.out; have := HJ48.out; first | omega | exact Nat.le_refl _⟩, ⟨by (with_reducible repeat (first | refine blk_drewN ?_ _ | refine blk_drew ?_ | refine blk_alloc ?_ _)); exact BK209.out⟩, ⟨by (with_reducible repeat (first | refine blk_drewN ?_ _ | refine blk_drew ?_ | refine blk_alloc ?_ _)); exact BK210.out⟩, ⟨by (with_reducible repeat (first | refine blk_drewN ?_ _ | refine blk_drew ?_ | refine blk_alloc ?_ _)); exact BK211.out⟩, ⟨by (with_reducible repeat (first | refine blk_drewN ?_ _ | refine blk_drew ?_ | refine blk_alloc ?_ _)); exact BK212.out⟩, ⟨by (with_reducible repeat (first | refine blk_drewN ?_ _ | refine blk_drew ?_ | refine blk_alloc ?_ _)); exact BK213.out⟩, ⟨bs HB⟩⟩
          ·rw [if_neg c95] at H
           have c95b0 : (a0 == 2) = false := beq_eq_false_iff_ne.mpr c95
           have c95b1 : (a0 != 2) = true := bne_iff_ne.mpr c95
           (first | rw [c95b0] | (simp only [i64_w, i32_w]; rw [c95b0]) | skip)
           have H' := Aside0.mk H
           clear H
           go_wp2
           go_meet
           case rel => exact ⟨_, (false), (by first | rfl | (simp; done) | (simp [*]; done)), H', ⟨by have := HJ3.out; have := HJ30.out; have := HJ48.out; first | omega | exact Nat.le_refl _⟩, ⟨by (with_reducible repeat (first | refine blk_drewN ?_ _ | refine blk_drew ?_ | refine blk_alloc ?_ _)); exact BK209.out⟩, ⟨by (with_reducible repeat (first | refine blk_drewN ?_ _ | refine blk_drew ?_ | refine blk_alloc ?_ _)); exact BK210.out⟩, ⟨by (with_reducible repeat (first | refine blk_drewN ?_ _ | refine blk_drew ?_ | refine blk_alloc ?_ _)); exact BK211.out⟩, ⟨by (with_reducible repeat (first | refine blk_drewN ?_ _ | refine blk_drew ?_ | refine blk_alloc ?_ _)); exact BK212.out⟩, ⟨by (with_reducible repeat (first | refine blk_drewN ?_ _ | refine blk_drew ?_ | refine blk_alloc ?_ _)); exact BK213.out⟩, ⟨bs HB⟩⟩
         case rest =>
          clear HC94
          (try clear c1);(try clear c2);(try clear p2);(try clear c3);(try clear c4);(try clear c5);(try clear c6);(try clear p6);(try clear c7);(try clear c8);(try clear c9);(try clear c10);(try clear c16);(try clear c17);(try clear c18);(try clear c19);(try clear c21);(try clear c21b0);(try clear c22);(try clear c23);(try clear c24);(try clear c25);(try clear c27);(try clear c28);(try clear c29);(try clear c32);(try clear c33);(try clear c34);(try clear c35);(try clear c37);(try clear c37b0);(try clear c38);(try clear c39);(try clear c40);(try clear c41);(try clear c43);(try clear c44);(try clear c45);(try clear c50);(try clear c50b0);(try clear c50b1);(try clear c51);(try clear c51b0);(try clear c51b1);(try clear c52);(try clear c52b0);(try clear c52b1);(try clear c53);(try clear c54);(try clear c55);(try clear c56);(try clear c58);(try clear c58b0);(try clear c58b1);(try clear c59);(try clear c60);(try clear c61);(try clear c62);(try clear c64);(try clear p64);(try clear c65);(try clear c66);(try clear c67);(try clear c69);(try clear c69b0);(try clear c69b1);(try clear c70);(try clear c70b0);(try clear c70b1);(try clear c71);(try clear c71b0);(try clear c71b1);(try clear c72);(try clear c73);(try clear c74);(try clear c75);(try clear c77);(try clear c77b0);(try clear c77b1);(try clear c78);(try clear c79);(try clear c80);(try clear c81);(try clear c83);(try clear c84);(try clear c85);(try clear c86);(try clear c88);(try clear c89);(try clear c90);(try clear c91);(try clear c92);(try clear c95);(try clear c95b0);(try clear c95b1);(try clear c96);(try clear c97);(try clear c98);(try clear c99);(try clear c101);(try clear c102);(try clear c103);(try clear hcz100_0);(try clear hcz100_1);(try clear hcz100_2);(try clear hcz104_0);(try clear hcz104_1);(try clear hcz104_2);(try clear hcz20_0);(try clear hcz20_1);(try clear hcz26_0);(try clear hcz26_1);(try clear hcz26_2);(try clear hcz30_0);(try clear hcz30_1);(try clear hcz36_0);(try clear hcz36_1);(try clear hcz42_0);(try clear hcz42_1);(try clear hcz42_2);(try clear hcz46_0);(try clear hcz46_1);(try clear hcz57_0);(try clear hcz57_1);(try clear hcz57_2);(try clear hcz63_0);(try clear hcz63_1);(try clear hcz63_2);(try clear hcz68_0);(try clear hcz68_1);(try clear hcz68_2);(try clear hcz76_0);(try clear hcz76_1);(try clear hcz76_2);(try clear hcz82_0);(try clear hcz82_1);(try clear hcz82_2);(try clear hcz87_0);(try clear hcz87_1);(try clear hcz87_2);(try clear hcz93_0);(try clear hcz93_1);(try clear hcz93_2);(try clear hfz100_0);(try clear hfz100_1);(try clear hfz100_2);(try clear hfz104_0);(try clear hfz104_1);(try clear hfz104_2);(try clear hfz20_0);(try clear hfz20_1);(try clear hfz26_0);(try clear hfz26_1);(try clear hfz26_2);(try clear hfz30_0);(try clear hfz30_1);(try clear hfz36_0);(try clear hfz36_1);(try clear hfz42_0);(try clear hfz42_1);(try clear hfz42_2);(try clear hfz46_0);(try clear hfz46_1);(try clear hfz57_0);(try clear hfz57_1);(try clear hfz57_2);(try clear hfz63_0);(try clear hfz63_1);(try clear hfz63_2);(try clear hfz68_0);(try clear hfz68_1);(try clear hfz68_2);(try clear hfz76_0);(try clear hfz76_1);(try clear hfz76_2);(try clear hfz82_0);(try clear hfz82_1);(try clear hfz82_2);(try clear hfz87_0);(try clear hfz87_1);(try clear hfz87_2);(try clear hfz93_0);(try clear hfz93_1);(try clear hfz93_2);(try clear p2);(try clear p6);(try clear p64)
          obtain ⟨kq, x74_93, rfl, HA, HJ93, BK209, BK210, BK211, BK212, BK213, HB⟩ := hcut
          cases kq with
          | zero => exact absurd HA.out (by simp [value_spans.j3])
          | succ kj93 =>
           have H := HA.out
           clear HA
           simp only [value_spans.j3] at H
           by_cases c105 : x74_93 = true
           ·subst c105
            have H1 : (value_spans.j5 kj93 a0 14 (decide ((wrap64 (a1_1)) < 0)) x213001_3 (decide ((wrap64 (a2_1)) < 0)) x214001_30) = some (r1, r2, r3, r4) := by rw [if_pos rfl] at H; exact H
            clear H
            have H := H1
            clear H1
            have H' := Aside0.mk H
            clear H
            go_wp2
            go_meet
            case rel => exact ⟨_, (14), (by first | rfl | (simp; done) | (simp [*]; done)), H', ⟨by have := HJ3.out; have := HJ30.out; have := HJ48.out; have := HJ93.out; first | omega | exact Nat.le_refl _⟩, ⟨by (with_reducible repeat (first | refine blk_drewN ?_ _ | refine blk_drew ?_ | refine blk_alloc ?_ _)); exact BK209.out⟩, ⟨by (with_reducible repeat (first | refine blk_drewN ?_ _ | refine blk_drew ?_ | refine blk_alloc ?_ _)); exact BK210.out⟩, ⟨by (with_reducible repeat (first | refine blk_drewN ?_ _ | refine blk_drew ?_ | refine blk_alloc ?_ _)); exact BK211.out⟩, ⟨by (with_reducible repeat (first | refine blk_drewN ?_ _ | refine blk_drew ?_ | refine blk_alloc ?_ _)); exact BK212.out⟩, ⟨by (with_reducible repeat (first | refine blk_drewN ?_ _ | refine blk_drew ?_ | refine blk_alloc ?_ _)); exact BK213.out⟩, ⟨bs HB⟩⟩
           ·replace c105 := Bool.eq_false_iff.mpr c105
            subst c105
            have H1 : (if a0 = 3 then (if a1_0 = 14 then (value_spans.j4 kj93 a0 0 (a2_0 == 5) (decide ((wrap64 (a1_1)) < 0)) x213001_3 (decide ((wrap64 (a2_1)) < 0)) x214001_30) else (value_spans.j4 kj93 a0 0 false (decide ((wrap64 (a1_1)) < 0)) x213001_3 (decide ((wrap64 (a2_1)) < 0)) x214001_30)) else (if a0 = 4 then (if a1_0 = 14 then (value_spans.j4 kj93 a0 0 (a2_0 == 5) (decide ((wrap64 (a1_1)) < 0)) x213001_3 (decide ((wrap64 (a2_1)) < 0)) x214001_30) else (value_spans.j4 kj93 a0 0 false (decide ((wrap64 (a1_1)) < 0)) x213001_3 (decide ((wrap64 (a2_1)) < 0)) x214001_30)) else (value_spans.j4 kj93 a0 0 false (decide ((wrap64 (a1_1)) < 0)) x213001_3 (decide ((wrap64 (a2_1)) < 0)) x214001_30))) = some (r1, r2, r3, r4) := by rw [if_neg (show ¬ (false = true) by decide)] at H; exact H
            clear H
            have H := H1
            clear H1
            have HC106 := Aside0.mk H
            clear H
            go_upto_region 12 with (fail)
            go_cut [84] (fun v84 wc => ∃ (kq : Nat) (x84_105 : Bool), v84 = .bool x84_105 ∧ Aside0 (value_spans.j4 kq a0 0 x84_105 (decide ((wrap64 (a1_1)) < 0)) x213001_3 (decide ((wrap64 (a2_1)) < 0)) x214001_30 = some (r1, r2, r3, r4)) ∧ Aside0 (kq ≤ kj93) ∧ Aside0 (wc.heap[gb209]? = some (.cells #[.int .u8 a1_0, .int .u64 a1_1, .string a1_2] 27 (0, 0))) ∧ Aside0 (wc.heap[gb210]? = some (.cells #[.int .u8 a2_0, .int .u64 a2_1, .string a2_2] 27 (0, 0))) ∧ Aside0 (wc.heap[gb211]? = some (.cells #[.int .u8 0, .int .u64 0, .string (⟨#[]⟩ : ByteArray)] 27 (0, 0))) ∧ Aside0 (wc.heap[gb212]? = some (.cells #[.bool (decide ((wrap64 (a1_1)) < 0)), .int .u64 x213001_3] 58 (0, 0))) ∧ Aside0 (wc.heap[gb213]? = some (.cells #[.bool (decide ((wrap64 (a2_1)) < 0)), .int .u64 x214001_30] 58 (0, 0))) ∧ Aside0 (Below w.heap.size w wc))
            case first =>
             have H := HC106.out
             clear HC106
             by_cases c107 : a0 = 3
             ·rw [if_pos c107] at H
              have c107b0 : (a0 == 3) = true := beq_iff_eq.mpr c107
              have c107b1 : (a0 != 3) = false := bne_eq_false_iff_eq.mpr c107
              clear c107
              (first | rw [c107b0] | (simp only [i64_w, i32_w]; rw [c107b0]) | skip)
              by_cases c108 : a1_0 = 14
              ·rw [if_pos c108] at H
               have c108b0 : (a1_0 == 14) = true := beq_iff_eq.mpr c108
               have c108b1 : (a1_0 != 14) = false := bne_eq_false_iff_eq.mpr c108
               clear c108
               have H' := Aside0.mk H
               clear H
               have hnb109 := NB209_210.out
               have hnc109 := NB210_209.out
               have hnb110 := NB209_211.out
               have hnc110 := NB211_209.out
               have hnb111 := NB209_212.out
               have hnc111 := NB212_209.out
               have hnb112 := NB209_213.out
               have hnc112 := NB213_209.out
               have hcz113_0 : wc.cell? ⟨gb209, 0, none⟩ = some (.int .u8 a1_0) := bc BK209 0
               have hcz113_1 : wc.cell? ⟨gb209, 1, none⟩ = some (.int .u64 a1_1) := bc BK209 1
               have hcz113_2 : wc.cell? ⟨gb209, 2, none⟩ = some (.string a1_2) := bc BK209 2
               have hfz113_0 := blk_frozen BK209.out 0
               have hfz113_1 := blk_frozen BK209.out 1
               have hfz113_2 := blk_frozen BK209.out 2
               go_wp2
               go_meet
               case rel => exact ⟨_, ((a2_0 == 5)), (by first | rfl | (simp; done) | (simp [*]; done)), H', ⟨by have := HJ3.out; have := HJ30.out; have := HJ48.out; have := HJ93.out; first | omega | exact Nat.le_refl _⟩, ⟨by (with_reducible repeat (first | refine blk_drewN ?_ _ | refine blk_drew ?_ | refine blk_alloc ?_ _)); exact BK209.out⟩, ⟨by (with_reducible repeat (first | refine blk_drewN ?_ _ | refine blk_drew ?_ | refine blk_alloc ?_ _)); exact BK210.out⟩, ⟨by (with_reducible repeat (first | refine blk_drewN ?_ _ | refine blk_drew ?_ | refine blk_alloc ?_ _)); exact BK211.out⟩, ⟨by (with_reducible repeat (first | refine blk_drewN ?_ _ | refine blk_drew ?_ | refine blk_alloc ?_ _)); exact BK212.out⟩, ⟨by (with_reducible repeat (first | refine blk_drewN ?_ _ | refine blk_drew ?_ | refine blk_alloc ?_ _)); exact BK213.out⟩, ⟨bs HB⟩⟩
              ·rw [if_neg c108] at H
               have c108b0 : (a1_0 == 14) = false := beq_eq_false_iff_ne.mpr c108
               have c108b1 : (a1_0 != 14) = true := bne_iff_ne.mpr c108
               have H' := Aside0.mk H
               clear H
               have hnb114 := NB209_210.out
               have hnc114 := NB210_209.out
               have hnb115 := NB209_211.out
               have hnc115 := NB211_209.out
               have hnb116 := NB209_212.out
               have hnc116 := NB212_209.out
               have hnb117 := NB209_213.out
               have hnc117 := NB213_209.out
               have hcz118_0 : wc.cell? ⟨gb209, 0, none⟩ = some (.int .u8 a1_0) := bc BK209 0
               have hcz118_1 : wc.cell? ⟨gb209, 1, none⟩ = some (.int .u64 a1_1) := bc BK209 1
               have hcz118_2 : wc.cell? ⟨gb209, 2, none⟩ = some (.string a1_2) := bc BK209 2
               have hfz118_0 := blk_frozen BK209.out 0
               have hfz118_1 := blk_frozen BK209.out 1
               have hfz118_2 := blk_frozen BK209.out 2
               go_wp2
               go_meet
               case rel => exact ⟨_, (false), (by first | rfl | (simp; done) | (simp [*]; done)), H', ⟨by have := HJ3.out; have := HJ30.out; have := HJ48.out; have := HJ93.out; first | omega | exact Nat.le_refl _⟩, ⟨by (with_reducible repeat (first | refine blk_drewN ?_ _ | refine blk_drew ?_ | refine blk_alloc ?_ _)); exact BK209.out⟩, ⟨by (with_reducible repeat (first | refine blk_drewN ?_ _ | refine blk_drew ?_ | refine blk_alloc ?_ _)); exact BK210.out⟩, ⟨by (with_reducible repeat (first | refine blk_drewN ?_ _ | refine blk_drew ?_ | refine blk_alloc ?_ _)); exact BK211.out⟩, ⟨by (with_reducible repeat (first | refine blk_drewN ?_ _ | refine blk_drew ?_ | refine blk_alloc ?_ _)); exact BK212.out⟩, ⟨by (with_reducible repeat (first | refine blk_drewN ?_ _ | refine blk_drew ?_ | refine blk_alloc ?_ _)); exact BK213.out⟩, ⟨bs HB⟩⟩
             ·rw [if_neg c107] at H
              have c107b0 : (a0 == 3) = false := beq_eq_false_iff_ne.mpr c107
              have c107b1 : (a0 != 3) = true := bne_iff_ne.mpr c107
              (first | rw [c107b0] | (simp only [i64_w, i32_w]; rw [c107b0]) | skip)
              by_cases c119 : a0 = 4
              ·rw [if_pos c119] at H
               have c119b0 : (a0 == 4) = true := beq_iff_eq.mpr c119
               have c119b1 : (a0 != 4) = false := bne_eq_false_iff_eq.mpr c119
               clear c119
               by_cases c120 : a1_0 = 14
               ·rw [if_pos c120] at H
                have c120b0 : (a1_0 == 14) = true := beq_iff_eq.mpr c120
                have c120b1 : (a1_0 != 14) = false := bne_eq_false_iff_eq.mpr c120
                clear c120
                have H' := Aside0.mk H
                clear H
                have hnb121 := NB209_210.out
                have hnc121 := NB210_209.out
                have hnb122 := NB209_211.out
                have hnc122 := NB211_209.out
                have hnb123 := NB209_212.out
                have hnc123 := NB212_209.out
                have hnb124 := NB209_213.out
                have hnc124 := NB213_209.out
                have hcz125_0 : wc.cell? ⟨gb209, 0, none⟩ = some (.int .u8 a1_0) := bc BK209 0
                have hcz125_1 : wc.cell? ⟨gb209, 1, none⟩ = some (.int .u64 a1_1) := bc BK209 1
                have hcz125_2 : wc.cell? ⟨gb209, 2, none⟩ = some (.string a1_2) := bc BK209 2
                have hfz125_0 := blk_frozen BK209.out 0
                have hfz125_1 := blk_frozen BK209.out 1
                have hfz125_2 := blk_frozen BK209.out 2
                go_wp2
                go_meet
                case rel => exact ⟨_, ((a2_0 == 5)), (by first | rfl | (simp; done) | (simp [*]; done)), H', ⟨by have := HJ3.out; have := HJ30.out; have := HJ48.out; have := HJ93.out; first | omega | exact Nat.le_refl _⟩, ⟨by (with_reducible repeat (first | refine blk_drewN ?_ _ | refine blk_drew ?_ | refine blk_alloc ?_ _)); exact BK209.out⟩, ⟨by (with_reducible repeat (first | refine blk_drewN ?_ _ | refine blk_drew ?_ | refine blk_alloc ?_ _)); exact BK210.out⟩, ⟨by (with_reducible repeat (first | refine blk_drewN ?_ _ | refine blk_drew ?_ | refine blk_alloc ?_ _)); exact BK211.out⟩, ⟨by (with_reducible repeat (first | refine blk_drewN ?_ _ | refine blk_drew ?_ | refine blk_alloc ?_ _)); exact BK212.out⟩, ⟨by (with_reducible repeat (first | refine blk_drewN ?_ _ | refine blk_drew ?_ | refine blk_alloc ?_ _)); exact BK213.out⟩, ⟨bs HB⟩⟩
               ·rw [if_neg c120] at H
                have c120b0 : (a1_0 == 14) = false := beq_eq_false_iff_ne.mpr c120
                have c120b1 : (a1_0 != 14) = true := bne_iff_ne.mpr c120
                have H' := Aside0.mk H
                clear H
                have hnb126 := NB209_210.out
                have hnc126 := NB210_209.out
                have hnb127 := NB209_211.out
                have hnc127 := NB211_209.out
                have hnb128 := NB209_212.out
                have hnc128 := NB212_209.out
                have hnb129 := NB209_213.out
                have hnc129 := NB213_209.out
                have hcz130_0 : wc.cell? ⟨gb209, 0, none⟩ = some (.int .u8 a1_0) := bc BK209 0
                have hcz130_1 : wc.cell? ⟨gb209, 1, none⟩ = some (.int .u64 a1_1) := bc BK209 1
                have hcz130_2 : wc.cell? ⟨gb209, 2, none⟩ = some (.string a1_2) := bc BK209 2
                have hfz130_0 := blk_frozen BK209.out 0
                have hfz130_1 := blk_frozen BK209.out 1
                have hfz130_2 := blk_frozen BK209.out 2
                go_wp2
                go_meet
                case rel => exact ⟨_, (false), (by first | rfl | (simp; done) | (simp [*]; done)), H', ⟨by have := HJ3.out; have := HJ30.out; have := HJ48.out; have := HJ93.out; first | omega | exact Nat.le_refl _⟩, ⟨by (with_reducible repeat (first | refine blk_drewN ?_ _ | refine blk_drew ?_ | refine blk_alloc ?_ _)); exact BK209.out⟩, ⟨by (with_reducible repeat (first | refine blk_drewN ?_ _ | refine blk_drew ?_ | refine blk_alloc ?_ _)); exact BK210.out⟩, ⟨by (with_reducible repeat (first | refine blk_drewN ?_ _ | refine blk_drew ?_ | refine blk_alloc ?_ _)); exact BK211.out⟩, ⟨by (with_reducible repeat (first | refine blk_drewN ?_ _ | refine blk_drew ?_ | refine blk_alloc ?_ _)); exact BK212.out⟩, ⟨by (with_reducible repeat (first | refine blk_drewN ?_ _ | refine blk_drew ?_ | refine blk_alloc ?_ _)); exact BK213.out⟩, ⟨bs HB⟩⟩
              ·rw [if_neg c119] at H
               have c119b0 : (a0 == 4) = false := beq_eq_false_iff_ne.mpr c119
               have c119b1 : (a0 != 4) = true := bne_iff_ne.mpr c119
               have H' := Aside0.mk H
               clear H
               go_wp2
               go_meet
               case rel => exact ⟨_, (false), (by first | rfl | (simp; done) | (simp [*]; done)), H', ⟨by have := HJ3.out; have := HJ30.out; have := HJ48.out; have := HJ93.out; first | omega | exact Nat.le_refl _⟩, ⟨by (with_reducible repeat (first | refine blk_drewN ?_ _ | refine blk_drew ?_ | refine blk_alloc ?_ _)); exact BK209.out⟩, ⟨by (with_reducible repeat (first | refine blk_drewN ?_ _ | refine blk_drew ?_ | refine blk_alloc ?_ _)); exact BK210.out⟩, ⟨by (with_reducible repeat (first | refine blk_drewN ?_ _ | refine blk_drew ?_ | refine blk_alloc ?_ _)); exact BK211.out⟩, ⟨by (with_reducible repeat (first | refine blk_drewN ?_ _ | refine blk_drew ?_ | refine blk_alloc ?_ _)); exact BK212.out⟩, ⟨by (with_reducible repeat (first | refine blk_drewN ?_ _ | refine blk_drew ?_ | refine blk_alloc ?_ _)); exact BK213.out⟩, ⟨bs HB⟩⟩
            case rest =>
             clear HC106
             (try clear c1);(try clear c2);(try clear p2);(try clear c3);(try clear c4);(try clear c5);(try clear c6);(try clear p6);(try clear c7);(try clear c8);(try clear c9);(try clear c10);(try clear c11);(try clear c12);(try clear c16);(try clear c17);(try clear c18);(try clear c19);(try clear c21);(try clear c21b0);(try clear c22);(try clear c23);(try clear c24);(try clear c25);(try clear c27);(try clear c28);(try clear c29);(try clear c32);(try clear c33);(try clear c34);(try clear c35);(try clear c37);(try clear c37b0);(try clear c38);(try clear c39);(try clear c40);(try clear c41);(try clear c43);(try clear c44);(try clear c45);(try clear c50);(try clear c50b0);(try clear c50b1);(try clear c51);(try clear c51b0);(try clear c51b1);(try clear c52);(try clear c52b0);(try clear c52b1);(try clear c53);(try clear c54);(try clear c55);(try clear c56);(try clear c58);(try clear c58b0);(try clear c58b1);(try clear c59);(try clear c60);(try clear c61);(try clear c62);(try clear c64);(try clear p64);(try clear c65);(try clear c66);(try clear c67);(try clear c69);(try clear c69b0);(try clear c69b1);(try clear c70);(try clear c70b0);(try clear c70b1);(try clear c71);(try clear c71b0);(try clear c71b1);(try clear c72);(try clear c73);(try clear c74);(try clear c75);(try clear c77);(try clear c77b0);(try clear c77b1);(try clear c78);(try clear c79);(try clear c80);(try clear c81);(try clear c83);(try clear c84);(try clear c85);(try clear c86);(try clear c88);(try clear c89);(try clear c90);(try clear c91);(try clear c92);(try clear c95);(try clear c95b0);(try clear c95b1);(try clear c96);(try clear c97);(try clear c98);(try clear c99);(try clear c101);(try clear c102);(try clear c103);(try clear c105);(try clear c107);(try clear c107b0);(try clear c107b1);(try clear c108);(try clear c108b0);(try clear c108b1);(try clear c109);(try clear c110);(try clear c111);(try clear c112);(try clear c114);(try clear c115);(try clear c116);(try clear c117);(try clear c119);(try clear c119b0);(try clear c119b1);(try clear c120);(try clear c120b0);(try clear c120b1);(try clear c121);(try clear c122);(try clear c123);(try clear c124);(try clear c126);(try clear c127);(try clear c128);(try clear c129);(try clear hcz100_0);(try clear hcz100_1);(try clear hcz100_2);(try clear hcz104_0);(try clear hcz104_1);(try clear hcz104_2);(try clear hcz113_0);(try clear hcz113_1);(try clear hcz113_2);(try clear hcz118_0);(try clear hcz118_1);(try clear hcz118_2);(try clear hcz125_0);(try clear hcz125_1);(try clear hcz125_2);(try clear hcz130_0);(try clear hcz130_1);(try clear hcz130_2);(try clear hcz20_0);(try clear hcz20_1);(try clear hcz26_0);(try clear hcz26_1);(try clear hcz26_2);(try clear hcz30_0);(try clear hcz30_1);(try clear hcz36_0);(try clear hcz36_1);(try clear hcz42_0);(try clear hcz42_1);(try clear hcz42_2);(try clear hcz46_0);(try clear hcz46_1);(try clear hcz57_0);(try clear hcz57_1);(try clear hcz57_2);(try clear hcz63_0);(try clear hcz63_1);(try clear hcz63_2);(try clear hcz68_0);(try clear hcz68_1);(try clear hcz68_2);(try clear hcz76_0);(try clear hcz76_1);(try clear hcz76_2);(try clear hcz82_0);(try clear hcz82_1);(try clear hcz82_2);(try clear hcz87_0);(try clear hcz87_1);(try clear hcz87_2);(try clear hcz93_0);(try clear hcz93_1);(try clear hcz93_2);(try clear hfz100_0);(try clear hfz100_1);(try clear hfz100_2);(try clear hfz104_0);(try clear hfz104_1);(try clear hfz104_2);(try clear hfz113_0);(try clear hfz113_1);(try clear hfz113_2);(try clear hfz118_0);(try clear hfz118_1);(try clear hfz118_2);(try clear hfz125_0);(try clear hfz125_1);(try clear hfz125_2);(try clear hfz130_0);(try clear hfz130_1);(try clear hfz130_2);(try clear hfz20_0);(try clear hfz20_1);(try clear hfz26_0);(try clear hfz26_1);(try clear hfz26_2);(try clear hfz30_0);(try clear hfz30_1);(try clear hfz36_0);(try clear hfz36_1);(try clear hfz42_0);(try clear hfz42_1);(try clear hfz42_2);(try clear hfz46_0);(try clear hfz46_1);(try clear hfz57_0);(try clear hfz57_1);(try clear hfz57_2);(try clear hfz63_0);(try clear hfz63_1);(try clear hfz63_2);(try clear hfz68_0);(try clear hfz68_1);(try clear hfz68_2);(try clear hfz76_0);(try clear hfz76_1);(try clear hfz76_2);(try clear hfz82_0);(try clear hfz82_1);(try clear hfz82_2);(try clear hfz87_0);(try clear hfz87_1);(try clear hfz87_2);(try clear hfz93_0);(try clear hfz93_1);(try clear hfz93_2);(try clear p2);(try clear p6);(try clear p64)
             obtain ⟨kq, x84_105, rfl, HA, HJ105, BK209, BK210, BK211, BK212, BK213, HB⟩ := hcut
             cases kq with
             | zero => exact absurd HA.out (by simp [value_spans.j4])
             | succ kj105 =>
              have H := HA.out
              clear HA
              simp only [value_spans.j4] at H
              by_cases c131 : x84_105 = true
              ·subst c131
               have H1 : (value_spans.j5 kj105 a0 14 (decide ((wrap64 (a1_1)) < 0)) x213001_3 (decide ((wrap64 (a2_1)) < 0)) x214001_30) = some (r1, r2, r3, r4) := by rw [if_pos rfl] at H; exact H
               clear H
               have H := H1
               clear H1
               have H' := Aside0.mk H
               clear H
               go_wp2
               go_meet
               case rel => exact ⟨_, (14), (by first | rfl | (simp; done) | (simp [*]; done)), H', ⟨by have := HJ3.out; have := HJ30.out; have := HJ48.out; have := HJ93.out; have := HJ105.out; first | omega | exact Nat.le_refl _⟩, ⟨by (with_reducible repeat (first | refine blk_drewN ?_ _ | refine blk_drew ?_ | refine blk_alloc ?_ _)); exact BK209.out⟩, ⟨by (with_reducible repeat (first | refine blk_drewN ?_ _ | refine blk_drew ?_ | refine blk_alloc ?_ _)); exact BK210.out⟩, ⟨by (with_reducible repeat (first | refine blk_drewN ?_ _ | refine blk_drew ?_ | refine blk_alloc ?_ _)); exact BK211.out⟩, ⟨by (with_reducible repeat (first | refine blk_drewN ?_ _ | refine blk_drew ?_ | refine blk_alloc ?_ _)); exact BK212.out⟩, ⟨by (with_reducible repeat (first | refine blk_drewN ?_ _ | refine blk_drew ?_ | refine blk_alloc ?_ _)); exact BK213.out⟩, ⟨bs HB⟩⟩
              ·replace c131 := Bool.eq_false_iff.mpr c131
               subst c131
               have H1 : (value_spans.j5 kj105 a0 0 (decide ((wrap64 (a1_1)) < 0)) x213001_3 (decide ((wrap64 (a2_1)) < 0)) x214001_30) = some (r1, r2, r3, r4) := by rw [if_neg (show ¬ (false = true) by decide)] at H; exact H
               clear H
               have H := H1
               clear H1
               have H' := Aside0.mk H
               clear H
               go_wp2
               go_meet
               case rel => exact ⟨_, (0), (by first | rfl | (simp; done) | (simp [*]; done)), H', ⟨by have := HJ3.out; have := HJ30.out; have := HJ48.out; have := HJ93.out; have := HJ105.out; first | omega | exact Nat.le_refl _⟩, ⟨by (with_reducible repeat (first | refine blk_drewN ?_ _ | refine blk_drew ?_ | refine blk_alloc ?_ _)); exact BK209.out⟩, ⟨by (with_reducible repeat (first | refine blk_drewN ?_ _ | refine blk_drew ?_ | refine blk_alloc ?_ _)); exact BK210.out⟩, ⟨by (with_reducible repeat (first | refine blk_drewN ?_ _ | refine blk_drew ?_ | refine blk_alloc ?_ _)); exact BK211.out⟩, ⟨by (with_reducible repeat (first | refine blk_drewN ?_ _ | refine blk_drew ?_ | refine blk_alloc ?_ _)); exact BK212.out⟩, ⟨by (with_reducible repeat (first | refine blk_drewN ?_ _ | refine blk_drew ?_ | refine blk_alloc ?_ _)); exact BK213.out⟩, ⟨bs HB⟩⟩
     case rest =>
      clear HC47
      (try clear c1);(try clear c2);(try clear p2);(try clear c3);(try clear c4);(try clear c5);(try clear c6);(try clear p6);(try clear c7);(try clear c8);(try clear c9);(try clear c10);(try clear c11);(try clear c12);(try clear c13);(try clear c16);(try clear c17);(try clear c18);(try clear c19);(try clear c21);(try clear c21b0);(try clear c22);(try clear c23);(try clear c24);(try clear c25);(try clear c27);(try clear c28);(try clear c29);(try clear c32);(try clear c33);(try clear c34);(try clear c35);(try clear c37);(try clear c37b0);(try clear c38);(try clear c39);(try clear c40);(try clear c41);(try clear c43);(try clear c44);(try clear c45);(try clear c50);(try clear c50b0);(try clear c50b1);(try clear c51);(try clear c51b0);(try clear c51b1);(try clear c52);(try clear c52b0);(try clear c52b1);(try clear c53);(try clear c54);(try clear c55);(try clear c56);(try clear c58);(try clear c58b0);(try clear c58b1);(try clear c59);(try clear c60);(try clear c61);(try clear c62);(try clear c64);(try clear p64);(try clear c65);(try clear c66);(try clear c67);(try clear c69);(try clear c69b0);(try clear c69b1);(try clear c70);(try clear c70b0);(try clear c70b1);(try clear c71);(try clear c71b0);(try clear c71b1);(try clear c72);(try clear c73);(try clear c74);(try clear c75);(try clear c77);(try clear c77b0);(try clear c77b1);(try clear c78);(try clear c79);(try clear c80);(try clear c81);(try clear c83);(try clear c84);(try clear c85);(try clear c86);(try clear c88);(try clear c89);(try clear c90);(try clear c91);(try clear c92);(try clear c95);(try clear c95b0);(try clear c95b1);(try clear c96);(try clear c97);(try clear c98);(try clear c99);(try clear c101);(try clear c102);(try clear c103);(try clear c105);(try clear c107);(try clear c107b0);(try clear c107b1);(try clear c108);(try clear c108b0);(try clear c108b1);(try clear c109);(try clear c110);(try clear c111);(try clear c112);(try clear c114);(try clear c115);(try clear c116);(try clear c117);(try clear c119);(try clear c119b0);(try clear c119b1);(try clear c120);(try clear c120b0);(try clear c120b1);(try clear c121);(try clear c122);(try clear c123);(try clear c124);(try clear c126);(try clear c127);(try clear c128);(try clear c129);(try clear c131);(try clear hcz100_0);(try clear hcz100_1);(try clear hcz100_2);(try clear hcz104_0);(try clear hcz104_1);(try clear hcz104_2);(try clear hcz113_0);(try clear hcz113_1);(try clear hcz113_2);(try clear hcz118_0);(try clear hcz118_1);(try clear hcz118_2);(try clear hcz125_0);(try clear hcz125_1);(try clear hcz125_2);(try clear hcz130_0);(try clear hcz130_1);(try clear hcz130_2);(try clear hcz20_0);(try clear hcz20_1);(try clear hcz26_0);(try clear hcz26_1);(try clear hcz26_2);(try clear hcz30_0);(try clear hcz30_1);(try clear hcz36_0);(try clear hcz36_1);(try clear hcz42_0);(try clear hcz42_1);(try clear hcz42_2);(try clear hcz46_0);(try clear hcz46_1);(try clear hcz57_0);(try clear hcz57_1);(try clear hcz57_2);(try clear hcz63_0);(try clear hcz63_1);(try clear hcz63_2);(try clear hcz68_0);(try clear hcz68_1);(try clear hcz68_2);(try clear hcz76_0);(try clear hcz76_1);(try clear hcz76_2);(try clear hcz82_0);(try clear hcz82_1);(try clear hcz82_2);(try clear hcz87_0);(try clear hcz87_1);(try clear hcz87_2);(try clear hcz93_0);(try clear hcz93_1);(try clear hcz93_2);(try clear hfz100_0);(try clear hfz100_1);(try clear hfz100_2);(try clear hfz104_0);(try clear hfz104_1);(try clear hfz104_2);(try clear hfz113_0);(try clear hfz113_1);(try clear hfz113_2);(try clear hfz118_0);(try clear hfz118_1);(try clear hfz118_2);(try clear hfz125_0);(try clear hfz125_1);(try clear hfz125_2);(try clear hfz130_0);(try clear hfz130_1);(try clear hfz130_2);(try clear hfz20_0);(try clear hfz20_1);(try clear hfz26_0);(try clear hfz26_1);(try clear hfz26_2);(try clear hfz30_0);(try clear hfz30_1);(try clear hfz36_0);(try clear hfz36_1);(try clear hfz42_0);(try clear hfz42_1);(try clear hfz42_2);(try clear hfz46_0);(try clear hfz46_1);(try clear hfz57_0);(try clear hfz57_1);(try clear hfz57_2);(try clear hfz63_0);(try clear hfz63_1);(try clear hfz63_2);(try clear hfz68_0);(try clear hfz68_1);(try clear hfz68_2);(try clear hfz76_0);(try clear hfz76_1);(try clear hfz76_2);(try clear hfz82_0);(try clear hfz82_1);(try clear hfz82_2);(try clear hfz87_0);(try clear hfz87_1);(try clear hfz87_2);(try clear hfz93_0);(try clear hfz93_1);(try clear hfz93_2);(try clear p2);(try clear p6);(try clear p64)
      obtain ⟨kq, x12_46, rfl, HA, HJ46, BK209, BK210, BK211, BK212, BK213, HB⟩ := hcut
      cases kq with
      | zero => exact absurd HA.out (by simp [value_spans.j5])
      | succ kj46 =>
       have H := HA.out
       clear HA
       simp only [value_spans.j5] at H
       by_cases c132 : x12_46 = 0
       ·rw [if_pos c132] at H
        have c132b0 : (x12_46 == 0) = true := beq_iff_eq.mpr c132
        have c132b1 : (x12_46 != 0) = false := bne_eq_false_iff_eq.mpr c132
        clear c132
        simp only [Option.some.injEq, Prod.mk.injEq] at H
        obtain ⟨rfl, rfl, rfl, rfl⟩ := H
        have hnb133 := NB211_209.out
        have hnc133 := NB209_211.out
        have hnb134 := NB211_210.out
        have hnc134 := NB210_211.out
        have hnb135 := NB211_212.out
        have hnc135 := NB212_211.out
        have hnb136 := NB211_213.out
        have hnc136 := NB213_211.out
        have hcz137_0 : wc.cell? ⟨gb211, 0, none⟩ = some (.int .u8 0) := bc BK211 0
        have hcz137_1 : wc.cell? ⟨gb211, 1, none⟩ = some (.int .u64 0) := bc BK211 1
        have hcz137_2 : wc.cell? ⟨gb211, 2, none⟩ = some (.string (⟨#[]⟩ : ByteArray)) := bc BK211 2
        have hfz137_0 := blk_frozen BK211.out 0
        have hfz137_1 := blk_frozen BK211.out 1
        have hfz137_2 := blk_frozen BK211.out 2
        go_wp2
        refine bodyPost_ret (results_ct rfl _ _ gb211 27 #[.int .u8 0, .int .u64 0, .string (⟨#[]⟩ : ByteArray)] (0, 0) _ rfl (by (with_reducible repeat (first | refine blk_drewN ?_ _ | refine blk_drew ?_ | refine blk_alloc ?_ _)); refine blk_put (cs := #[.int .u8 0, .int .u64 0, .string (⟨#[]⟩ : ByteArray)]) ?_ 2 _ rfl; (with_reducible repeat (first | refine blk_drewN ?_ _ | refine blk_drew ?_ | refine blk_alloc ?_ _)); refine blk_put (cs := #[.int .u8 0, .int .u64 0, .string (⟨#[]⟩ : ByteArray)]) ?_ 1 _ rfl; (with_reducible repeat (first | refine blk_drewN ?_ _ | refine blk_drew ?_ | refine blk_alloc ?_ _)); refine blk_put (cs := #[.int .u8 0, .int .u64 0, .string (⟨#[]⟩ : ByteArray)]) ?_ 0 _ rfl; (with_reducible repeat (first | refine blk_drewN ?_ _ | refine blk_drew ?_ | refine blk_alloc ?_ _)); exact BK211.out) Try.underlying27 rfl (by kernel_rfl)) rfl ?_
        exact ⟨by first | rfl | (simp [errW_none, errW_some] <;> rfl) | (simp [*, errW_none, errW_some] <;> rfl), bs HB⟩
       ·rw [if_neg c132] at H
        have c132b0 : (x12_46 == 0) = false := beq_eq_false_iff_ne.mpr c132
        have c132b1 : (x12_46 != 0) = true := bne_iff_ne.mpr c132
        have HC138 := Aside0.mk H
        clear H
        have hnb139 := NB212_209.out
        have hnc139 := NB209_212.out
        have hnb140 := NB212_210.out
        have hnc140 := NB210_212.out
        have hnb141 := NB212_211.out
        have hnc141 := NB211_212.out
        have hnb142 := NB212_213.out
        have hnc142 := NB213_212.out
        have hcz143_0 : wc.cell? ⟨gb212, 0, none⟩ = some (.bool (decide ((wrap64 (a1_1)) < 0))) := bc BK212 0
        have hcz143_1 : wc.cell? ⟨gb212, 1, none⟩ = some (.int .u64 x213001_3) := bc BK212 1
        have hfz143_0 := blk_frozen BK212.out 0
        have hfz143_1 := blk_frozen BK212.out 1
        go_upto_block 1 with (first | ((with_reducible refine gate_dst (N := 13) rfl ?_); refine box_event ?hg (N := 13) ?hd (cs := #[.bool false, .int .u64 0]) (t := 58) ?hr ?_; (case hd => rfl); (case hg => rfl); (case hr => first | (go_simp; done) | (go_simp; rfl)); intro gb214 hg w144 hbox hb; have n0_ := kb BK209 hb; have n1_ := kb BK210 hb; have n2_ := kb BK211 hb; have n3_ := kb BK212 hb; have n4_ := kb BK213 hb; have n5_ := bt HB hb; have n6_ := Aside0.mk (hbox); have n7_ := gs hg HB; have n8_ := gs hg HB; have n9_ := nl hg BK209; have n10_ := ng hg BK209; have n11_ := nl hg BK210; have n12_ := ng hg BK210; have n13_ := nl hg BK211; have n14_ := ng hg BK211; have n15_ := nl hg BK212; have n16_ := ng hg BK212; have n17_ := nl hg BK213; have n18_ := ng hg BK213; clear BK209; clear BK210; clear BK211; clear BK212; clear BK213; clear HB; have BK209 := n0_; have BK210 := n1_; have BK211 := n2_; have BK212 := n3_; have BK213 := n4_; have HB := n5_; have BK214 := n6_; have GW214 := n7_; have GE214 := n8_; have NB209_214 := n9_; have NB214_209 := n10_; have NB210_214 := n11_; have NB214_210 := n12_; have NB211_214 := n13_; have NB214_211 := n14_; have NB212_214 := n15_; have NB214_212 := n16_; have NB213_214 := n17_; have NB214_213 := n18_; clear n0_ n1_ n2_ n3_ n4_ n5_ n6_ n7_ n8_ n9_ n10_ n11_ n12_ n13_ n14_ n15_ n16_ n17_ n18_; clear hb hbox hg; have hnb145 := NB214_209.out; have hnc145 := NB209_214.out; have hnb146 := NB214_210.out; have hnc146 := NB210_214.out; have hnb147 := NB214_211.out; have hnc147 := NB211_214.out; have hnb148 := NB214_212.out; have hnc148 := NB212_214.out; have hnb149 := NB214_213.out; have hnc149 := NB213_214.out; have hcz150_0 : w144.cell? ⟨gb214, 0, none⟩ = some (.bool false) := bc BK214 0; have hcz150_1 : w144.cell? ⟨gb214, 1, none⟩ = some (.int .u64 0) := bc BK214 1; have hfz150_0 := blk_frozen BK214.out 0; have hfz150_1 := blk_frozen BK214.out 1))
        (try simp only [Act.put, List.setIfInBounds_toArray, List.set_cons_zero, List.set_cons_succ])
        go_cut [14] (fun v14 wc => ∃ (kq : Nat) (x14_137 : Bool) (x212000_137 : Int) (x212001_137 : Int) (x212002_137 : ByteArray) (x214000_137 : Bool) (x215000_137 : Bool) (x215001_137 : Int), v14 = .bool x14_137 ∧ Aside0 (value_spans.j7 kq x12_46 x14_137 x215000_137 x215001_137 = some (r1, r2, r3, r4)) ∧ Aside0 (kq ≤ kj46) ∧ Aside0 (wc.heap[gb209]? = some (.cells #[.int .u8 a1_0, .int .u64 a1_1, .string a1_2] 27 (0, 0))) ∧ Aside0 (wc.heap[gb210]? = some (.cells #[.int .u8 a2_0, .int .u64 a2_1, .string a2_2] 27 (0, 0))) ∧ Aside0 (wc.heap[gb211]? = some (.cells #[.int .u8 x212000_137, .int .u64 x212001_137, .string x212002_137] 27 (0, 0))) ∧ Aside0 (wc.heap[gb212]? = some (.cells #[.bool (decide ((wrap64 (a1_1)) < 0)), .int .u64 x213001_3] 58 (0, 0))) ∧ Aside0 (wc.heap[gb213]? = some (.cells #[.bool x214000_137, .int .u64 x214001_30] 58 (0, 0))) ∧ Aside0 (wc.heap[gb214]? = some (.cells #[.bool x215000_137, .int .u64 x215001_137] 58 (0, 0))) ∧ Aside0 (Below w.heap.size w wc))
        case first =>
         have H := HC138.out
         clear HC138
         have HC151 := Aside0.mk H
         clear H
         go_upto_block 3 with (fail)
         go_cut [] (fun wc => ∃ (kq : Nat) (x214000_150 : Bool), Aside0 (value_spans.j6 kq x12_46 (decide ((wrap64 (a1_1)) < 0)) x213001_3 x214000_150 x214001_30 = some (r1, r2, r3, r4)) ∧ Aside0 (kq ≤ kj46) ∧ Aside0 (wc.heap[gb209]? = some (.cells #[.int .u8 a1_0, .int .u64 a1_1, .string a1_2] 27 (0, 0))) ∧ Aside0 (wc.heap[gb210]? = some (.cells #[.int .u8 a2_0, .int .u64 a2_1, .string a2_2] 27 (0, 0))) ∧ Aside0 (wc.heap[gb211]? = some (.cells #[.int .u8 0, .int .u64 0, .string (⟨#[]⟩ : ByteArray)] 27 (0, 0))) ∧ Aside0 (wc.heap[gb212]? = some (.cells #[.bool (decide ((wrap64 (a1_1)) < 0)), .int .u64 x213001_3] 58 (0, 0))) ∧ Aside0 (wc.heap[gb213]? = some (.cells #[.bool x214000_150, .int .u64 x214001_30] 58 (0, 0))) ∧ Aside0 (wc.heap[gb214]? = some (.cells #[.bool (decide ((wrap64 (a1_1)) < 0)), .int .u64 x213001_3] 58 (0, 0))) ∧ Aside0 (Below w.heap.size w wc))
         case first =>
          have H := HC151.out
          clear HC151
          by_cases c152 : a0 = 2
          ·rw [if_pos c152] at H
           have c152b0 : (a0 == 2) = true := beq_iff_eq.mpr c152
           have c152b1 : (a0 != 2) = false := bne_eq_false_iff_eq.mpr c152
           clear c152
           (first | rw [c152b0] | (simp only [i64_w, i32_w]; rw [c152b0]) | skip)
           have H' := Aside0.mk H
           clear H
           have hnb153 := NB213_209.out
           have hnc153 := NB209_213.out
           have hnb154 := NB213_210.out
           have hnc154 := NB210_213.out
           have hnb155 := NB213_211.out
           have hnc155 := NB211_213.out
           have hnb156 := NB213_212.out
           have hnc156 := NB212_213.out
           have hnb157 := NB213_214.out
           have hnc157 := NB214_213.out
           have hcz158_0 : w144.cell? ⟨gb213, 0, none⟩ = some (.bool (decide ((wrap64 (a2_1)) < 0))) := bc BK213 0
           have hcz158_1 : w144.cell? ⟨gb213, 1, none⟩ = some (.int .u64 x214001_30) := bc BK213 1
           have hfz158_0 := blk_frozen BK213.out 0
           have hfz158_1 := blk_frozen BK213.out 1
           go_wp2
           go_meet
           case rel => exact ⟨_, (!(decide ((wrap64 (a2_1)) < 0))), H', ⟨by have := HJ3.out; have := HJ30.out; have := HJ46.out; first | omega | exact Nat.le_refl _⟩, ⟨by (with_reducible repeat (first | refine blk_drewN ?_ _ | refine blk_drew ?_ | refine blk_alloc ?_ _)); refine blk_far ?_ NB209_213.out _; (with_reducible repeat (first | refine blk_drewN ?_ _ | refine blk_drew ?_ | refine blk_alloc ?_ _)); refine blk_far ?_ NB209_214.out _; (with_reducible repeat (first | refine blk_drewN ?_ _ | refine blk_drew ?_ | refine blk_alloc ?_ _)); refine blk_far ?_ NB209_214.out _; (with_reducible repeat (first | refine blk_drewN ?_ _ | refine blk_drew ?_ | refine blk_alloc ?_ _)); exact BK209.out⟩, ⟨by (with_reducible repeat (first | refine blk_drewN ?_ _ | refine blk_drew ?_ | refine blk_alloc ?_ _)); refine blk_far ?_ NB210_213.out _; (with_reducible repeat (first | refine blk_drewN ?_ _ | refine blk_drew ?_ | refine blk_alloc ?_ _)); refine blk_far ?_ NB210_214.out _; (with_reducible repeat (first | refine blk_drewN ?_ _ | refine blk_drew ?_ | refine blk_alloc ?_ _)); refine blk_far ?_ NB210_214.out _; (with_reducible repeat (first | refine blk_drewN ?_ _ | refine blk_drew ?_ | refine blk_alloc ?_ _)); exact BK210.out⟩, ⟨by (with_reducible repeat (first | refine blk_drewN ?_ _ | refine blk_drew ?_ | refine blk_alloc ?_ _)); refine blk_far ?_ NB211_213.out _; (with_reducible repeat (first | refine blk_drewN ?_ _ | refine blk_drew ?_ | refine blk_alloc ?_ _)); refine blk_far ?_ NB211_214.out _; (with_reducible repeat (first | refine blk_drewN ?_ _ | refine blk_drew ?_ | refine blk_alloc ?_ _)); refine blk_far ?_ NB211_214.out _; (with_reducible repeat (first | refine blk_drewN ?_ _ | refine blk_drew ?_ | refine blk_alloc ?_ _)); exact BK211.out⟩, ⟨by (with_reducible repeat (first | refine blk_drewN ?_ _ | refine blk_drew ?_ | refine blk_alloc ?_ _)); refine blk_far ?_ NB212_213.out _; (with_reducible repeat (first | refine blk_drewN ?_ _ | refine blk_drew ?_ | refine blk_alloc ?_ _)); refine blk_far ?_ NB212_214.out _; (with_reducible repeat (first | refine blk_drewN ?_ _ | refine blk_drew ?_ | refine blk_alloc ?_ _)); refine blk_far ?_ NB212_214.out _; (with_reducible repeat (first | refine blk_drewN ?_ _ | refine blk_drew ?_ | refine blk_alloc ?_ _)); exact BK212.out⟩, ⟨by (with_reducible repeat (first | refine blk_drewN ?_ _ | refine blk_drew ?_ | refine blk_alloc ?_ _)); refine blk_put (cs := #[.bool (decide ((wrap64 (a2_1)) < 0)), .int .u64 x214001_30]) ?_ 0 _ rfl; (with_reducible repeat (first | refine blk_drewN ?_ _ | refine blk_drew ?_ | refine blk_alloc ?_ _)); refine blk_far ?_ NB213_214.out _; (with_reducible repeat (first | refine blk_drewN ?_ _ | refine blk_drew ?_ | refine blk_alloc ?_ _)); refine blk_far ?_ NB213_214.out _; (with_reducible repeat (first | refine blk_drewN ?_ _ | refine blk_drew ?_ | refine blk_alloc ?_ _)); exact BK213.out⟩, ⟨by (with_reducible repeat (first | refine blk_drewN ?_ _ | refine blk_drew ?_ | refine blk_alloc ?_ _)); refine blk_far ?_ NB214_213.out _; (with_reducible repeat (first | refine blk_drewN ?_ _ | refine blk_drew ?_ | refine blk_alloc ?_ _)); refine blk_put (cs := #[.bool (decide ((wrap64 (a1_1)) < 0)), .int .u64 0]) ?_ 1 _ rfl; (with_reducible repeat (first | refine blk_drewN ?_ _ | refine blk_drew ?_ | refine blk_alloc ?_ _)); refine blk_put (cs := #[.bool false, .int .u64 0]) ?_ 0 _ rfl; (with_reducible repeat (first | refine blk_drewN ?_ _ | refine blk_drew ?_ | refine blk_alloc ?_ _)); exact BK214.out⟩, ⟨bs HB⟩⟩
          ·rw [if_neg c152] at H
           have c152b0 : (a0 == 2) = false := beq_eq_false_iff_ne.mpr c152
           have c152b1 : (a0 != 2) = true := bne_iff_ne.mpr c152
           (first | rw [c152b0] | (simp only [i64_w, i32_w]; rw [c152b0]) | skip)
           by_cases c159 : a0 = 1
           ·rw [if_pos c159] at H
            have c159b0 : (a0 == 1) = true := beq_iff_eq.mpr c159
            have c159b1 : (a0 != 1) = false := bne_eq_false_iff_eq.mpr c159
            clear c159
            have H' := Aside0.mk H
            clear H
            go_wp2
            go_meet
            case rel => exact ⟨_, ((decide ((wrap64 (a2_1)) < 0))), H', ⟨by have := HJ3.out; have := HJ30.out; have := HJ46.out; first | omega | exact Nat.le_refl _⟩, ⟨by (with_reducible repeat (first | refine blk_drewN ?_ _ | refine blk_drew ?_ | refine blk_alloc ?_ _)); refine blk_far ?_ NB209_214.out _; (with_reducible repeat (first | refine blk_drewN ?_ _ | refine blk_drew ?_ | refine blk_alloc ?_ _)); refine blk_far ?_ NB209_214.out _; (with_reducible repeat (first | refine blk_drewN ?_ _ | refine blk_drew ?_ | refine blk_alloc ?_ _)); exact BK209.out⟩, ⟨by (with_reducible repeat (first | refine blk_drewN ?_ _ | refine blk_drew ?_ | refine blk_alloc ?_ _)); refine blk_far ?_ NB210_214.out _; (with_reducible repeat (first | refine blk_drewN ?_ _ | refine blk_drew ?_ | refine blk_alloc ?_ _)); refine blk_far ?_ NB210_214.out _; (with_reducible repeat (first | refine blk_drewN ?_ _ | refine blk_drew ?_ | refine blk_alloc ?_ _)); exact BK210.out⟩, ⟨by (with_reducible repeat (first | refine blk_drewN ?_ _ | refine blk_drew ?_ | refine blk_alloc ?_ _)); refine blk_far ?_ NB211_214.out _; (with_reducible repeat (first | refine blk_drewN ?_ _ | refine blk_drew ?_ | refine blk_alloc ?_ _)); refine blk_far ?_ NB211_214.out _; (with_reducible repeat (first | refine blk_drewN ?_ _ | refine blk_drew ?_ | refine blk_alloc ?_ _)); exact BK211.out⟩, ⟨by (with_reducible repeat (first | refine blk_drewN ?_ _ | refine blk_drew ?_ | refine blk_alloc ?_ _)); refine blk_far ?_ NB212_214.out _; (with_reducible repeat (first | refine blk_drewN ?_ _ | refine blk_drew ?_ | refine blk_alloc ?_ _)); refine blk_far ?_ NB212_214.out _; (with_reducible repeat (first | refine blk_drewN ?_ _ | refine blk_drew ?_ | refine blk_alloc ?_ _)); exact BK212.out⟩, ⟨by (with_reducible repeat (first | refine blk_drewN ?_ _ | refine blk_drew ?_ | refine blk_alloc ?_ _)); refine blk_far ?_ NB213_214.out _; (with_reducible repeat (first | refine blk_drewN ?_ _ | refine blk_drew ?_ | refine blk_alloc ?_ _)); refine blk_far ?_ NB213_214.out _; (with_reducible repeat (first | refine blk_drewN ?_ _ | refine blk_drew ?_ | refine blk_alloc ?_ _)); exact BK213.out⟩, ⟨by (with_reducible repeat (first | refine blk_drewN ?_ _ | refine blk_drew ?_ | refine blk_alloc ?_ _)); refine blk_put (cs := #[.bool (decide ((wrap64 (a1_1)) < 0)), .int .u64 0]) ?_ 1 _ rfl; (with_reducible repeat (first | refine blk_drewN ?_ _ | refine blk_drew ?_ | refine blk_alloc ?_ _)); refine blk_put (cs := #[.bool false, .int .u64 0]) ?_ 0 _ rfl; (with_reducible repeat (first | refine blk_drewN ?_ _ | refine blk_drew ?_ | refine blk_alloc ?_ _)); exact BK214.out⟩, ⟨bs HB⟩⟩
           ·rw [if_neg c159] at H
            have c159b0 : (a0 == 1) = false := beq_eq_false_iff_ne.mpr c159
            have c159b1 : (a0 != 1) = true := bne_iff_ne.mpr c159
            by_cases c160 : a0 = 3
            ·rw [if_pos c160] at H
             have c160b0 : (a0 == 3) = true := beq_iff_eq.mpr c160
             have c160b1 : (a0 != 3) = false := bne_eq_false_iff_eq.mpr c160
             clear c160
             replace H := Option.bind_eq_some_iff.mp H
             obtain ⟨⟨t215, t216, t217⟩, A1610, H⟩ := H
             replace H : (value_spans.j7 kj46 x12_46 t217 t215 t216) = some (r1, r2, r3, r4) := H
             have A161 := Aside0.mk A1610
             clear A1610
             have H' := Aside0.mk H
             clear H
             have hnb162 := NB212_209.out
             have hnc162 := NB209_212.out
             have hnb163 := NB212_210.out
             have hnc163 := NB210_212.out
             have hnb164 := NB212_211.out
             have hnc164 := NB211_212.out
             have hnb165 := NB212_213.out
             have hnc165 := NB213_212.out
             have hnb166 := NB212_214.out
             have hnc166 := NB214_212.out
             have hcz167_0 : w144.cell? ⟨gb212, 0, none⟩ = some (.bool (decide ((wrap64 (a1_1)) < 0))) := bc BK212 0
             have hcz167_1 : w144.cell? ⟨gb212, 1, none⟩ = some (.int .u64 x213001_3) := bc BK212 1
             have hfz167_0 := blk_frozen BK212.out 0
             have hfz167_1 := blk_frozen BK212.out 1
             have hnb168 := NB213_209.out
             have hnc168 := NB209_213.out
             have hnb169 := NB213_210.out
             have hnc169 := NB210_213.out
             have hnb170 := NB213_211.out
             have hnc170 := NB211_213.out
             have hnb171 := NB213_214.out
             have hnc171 := NB214_213.out
             have hcz172_0 : w144.cell? ⟨gb213, 0, none⟩ = some (.bool (decide ((wrap64 (a2_1)) < 0))) := bc BK213 0
             have hcz172_1 : w144.cell? ⟨gb213, 1, none⟩ = some (.int .u64 x214001_30) := bc BK213 1
             have hfz172_0 := blk_frozen BK213.out 0
             have hfz172_1 := blk_frozen BK213.out 1
             go_wp2_with (first | ((with_reducible refine gate_callee (f := 70) rfl ?_); refine goesL_ (some 123) rfl rfl Try.func70 (by kernel_rfl) rfl #[.agg #[.bool (decide ((wrap64 (a1_1)) < 0)), .int .u64 x213001_3], .agg #[.bool (decide ((wrap64 (a2_1)) < 0)), .int .u64 x214001_30]] rfl (by (try simp only [List.map_toArray, List.map_cons, List.map_nil]); first | done | rfl | (simp only [List.length_drop, List.length_take]; rfl)) ?_; (with_reducible refine (value_times.calls (decide ((wrap64 (a1_1)) < 0)) x213001_3 (decide ((wrap64 (a2_1)) < 0)) x214001_30 t215 t216 t217 _ A161.out).mono ?_); rintro e w173 ⟨rfl, hb⟩; refine ⟨_, rfl, ?_⟩; have n0_ := Aside0.mk (blk_below (g := gb209) (o := .cells #[.int .u8 a1_0, .int .u64 a1_1, .string a1_2] 27 (0, 0)) (by (with_reducible repeat (first | refine blk_drewN ?_ _ | refine blk_drew ?_ | refine blk_alloc ?_ _)); refine blk_far ?_ NB209_214.out _; (with_reducible repeat (first | refine blk_drewN ?_ _ | refine blk_drew ?_ | refine blk_alloc ?_ _)); refine blk_far ?_ NB209_214.out _; (with_reducible repeat (first | refine blk_drewN ?_ _ | refine blk_drew ?_ | refine blk_alloc ?_ _)); exact BK209.out) hb); have n1_ := Aside0.mk (blk_below (g := gb210) (o := .cells #[.int .u8 a2_0, .int .u64 a2_1, .string a2_2] 27 (0, 0)) (by (with_reducible repeat (first | refine blk_drewN ?_ _ | refine blk_drew ?_ | refine blk_alloc ?_ _)); refine blk_far ?_ NB210_214.out _; (with_reducible repeat (first | refine blk_drewN ?_ _ | refine blk_drew ?_ | refine blk_alloc ?_ _)); refine blk_far ?_ NB210_214.out _; (with_reducible repeat (first | refine blk_drewN ?_ _ | refine blk_drew ?_ | refine blk_alloc ?_ _)); exact BK210.out) hb); have n2_ := Aside0.mk (blk_below (g := gb211) (o := .cells #[.int .u8 0, .int .u64 0, .string (⟨#[]⟩ : ByteArray)] 27 (0, 0)) (by (with_reducible repeat (first | refine blk_drewN ?_ _ | refine blk_drew ?_ | refine blk_alloc ?_ _)); refine blk_far ?_ NB211_214.out _; (with_reducible repeat (first | refine blk_drewN ?_ _ | refine blk_drew ?_ | refine blk_alloc ?_ _)); refine blk_far ?_ NB211_214.out _; (with_reducible repeat (first | refine blk_drewN ?_ _ | refine blk_drew ?_ | refine blk_alloc ?_ _)); exact BK211.out) hb); have n3_ := Aside0.mk (blk_below (g := gb212) (o := .cells #[.bool (decide ((wrap64 (a1_1)) < 0)), .int .u64 x213001_3] 58 (0, 0)) (by (with_reducible repeat (first | refine blk_drewN ?_ _ | refine blk_drew ?_ | refine blk_alloc ?_ _)); refine blk_far ?_ NB212_214.out _; (with_reducible repeat (first | refine blk_drewN ?_ _ | refine blk_drew ?_ | refine blk_alloc ?_ _)); refine blk_far ?_ NB212_214.out _; (with_reducible repeat (first | refine blk_drewN ?_ _ | refine blk_drew ?_ | refine blk_alloc ?_ _)); exact BK212.out) hb); have n4_ := Aside0.mk (blk_below (g := gb213) (o := .cells #[.bool (decide ((wrap64 (a2_1)) < 0)), .int .u64 x214001_30] 58 (0, 0)) (by (with_reducible repeat (first | refine blk_drewN ?_ _ | refine blk_drew ?_ | refine blk_alloc ?_ _)); refine blk_far ?_ NB213_214.out _; (with_reducible repeat (first | refine blk_drewN ?_ _ | refine blk_drew ?_ | refine blk_alloc ?_ _)); refine blk_far ?_ NB213_214.out _; (with_reducible repeat (first | refine blk_drewN ?_ _ | refine blk_drew ?_ | refine blk_alloc ?_ _)); exact BK213.out) hb); have n5_ := Aside0.mk (blk_below (g := gb214) (o := .cells #[.bool (decide ((wrap64 (a1_1)) < 0)), .int .u64 x213001_3] 58 (0, 0)) (by (with_reducible repeat (first | refine blk_drewN ?_ _ | refine blk_drew ?_ | refine blk_alloc ?_ _)); refine blk_put (cs := #[.bool (decide ((wrap64 (a1_1)) < 0)), .int .u64 0]) ?_ 1 _ rfl; (with_reducible repeat (first | refine blk_drewN ?_ _ | refine blk_drew ?_ | refine blk_alloc ?_ _)); refine blk_put (cs := #[.bool false, .int .u64 0]) ?_ 0 _ rfl; (with_reducible repeat (first | refine blk_drewN ?_ _ | refine blk_drew ?_ | refine blk_alloc ?_ _)); exact BK214.out) hb); have n6_ := bt HB hb; clear BK209; clear BK210; clear BK211; clear BK212; clear BK213; clear BK214; clear HB; have BK209 := n0_; have BK210 := n1_; have BK211 := n2_; have BK212 := n3_; have BK213 := n4_; have BK214 := n5_; have HB := n6_; clear n0_ n1_ n2_ n3_ n4_ n5_ n6_; (try clear hb); (try clear hb2); (try clear hk); (try clear hi); have hnb174 := NB214_209.out; have hnc174 := NB209_214.out; have hnb175 := NB214_210.out; have hnc175 := NB210_214.out; have hnb176 := NB214_211.out; have hnc176 := NB211_214.out; have hcz177_0 : w173.cell? ⟨gb214, 0, none⟩ = some (.bool (decide ((wrap64 (a1_1)) < 0))) := bc BK214 0; have hcz177_1 : w173.cell? ⟨gb214, 1, none⟩ = some (.int .u64 x213001_3) := bc BK214 1; have hfz177_0 := blk_frozen BK214.out 0; have hfz177_1 := blk_frozen BK214.out 1))
             go_meet
             case rel => exact ⟨_, (t217), (0), (0), ((⟨#[]⟩ : ByteArray)), ((decide ((wrap64 (a2_1)) < 0))), (t215), (t216), (by first | rfl | (simp; done) | (simp [*]; done)), H', ⟨by have := HJ3.out; have := HJ30.out; have := HJ46.out; first | omega | exact Nat.le_refl _⟩, ⟨by (with_reducible repeat (first | refine blk_drewN ?_ _ | refine blk_drew ?_ | refine blk_alloc ?_ _)); refine blk_far ?_ NB209_214.out _; (with_reducible repeat (first | refine blk_drewN ?_ _ | refine blk_drew ?_ | refine blk_alloc ?_ _)); refine blk_far ?_ NB209_214.out _; (with_reducible repeat (first | refine blk_drewN ?_ _ | refine blk_drew ?_ | refine blk_alloc ?_ _)); exact BK209.out⟩, ⟨by (with_reducible repeat (first | refine blk_drewN ?_ _ | refine blk_drew ?_ | refine blk_alloc ?_ _)); refine blk_far ?_ NB210_214.out _; (with_reducible repeat (first | refine blk_drewN ?_ _ | refine blk_drew ?_ | refine blk_alloc ?_ _)); refine blk_far ?_ NB210_214.out _; (with_reducible repeat (first | refine blk_drewN ?_ _ | refine blk_drew ?_ | refine blk_alloc ?_ _)); exact BK210.out⟩, ⟨by (with_reducible repeat (first | refine blk_drewN ?_ _ | refine blk_drew ?_ | refine blk_alloc ?_ _)); refine blk_far ?_ NB211_214.out _; (with_reducible repeat (first | refine blk_drewN ?_ _ | refine blk_drew ?_ | refine blk_alloc ?_ _)); refine blk_far ?_ NB211_214.out _; (with_reducible repeat (first | refine blk_drewN ?_ _ | refine blk_drew ?_ | refine blk_alloc ?_ _)); exact BK211.out⟩, ⟨by (with_reducible repeat (first | refine blk_drewN ?_ _ | refine blk_drew ?_ | refine blk_alloc ?_ _)); refine blk_far ?_ NB212_214.out _; (with_reducible repeat (first | refine blk_drewN ?_ _ | refine blk_drew ?_ | refine blk_alloc ?_ _)); refine blk_far ?_ NB212_214.out _; (with_reducible repeat (first | refine blk_drewN ?_ _ | refine blk_drew ?_ | refine blk_alloc ?_ _)); exact BK212.out⟩, ⟨by (with_reducible repeat (first | refine blk_drewN ?_ _ | refine blk_drew ?_ | refine blk_alloc ?_ _)); refine blk_far ?_ NB213_214.out _; (with_reducible repeat (first | refine blk_drewN ?_ _ | refine blk_drew ?_ | refine blk_alloc ?_ _)); refine blk_far ?_ NB213_214.out _; (with_reducible repeat (first | refine blk_drewN ?_ _ | refine blk_drew ?_ | refine blk_alloc ?_ _)); exact BK213.out⟩, ⟨by (with_reducible repeat (first | refine blk_drewN ?_ _ | refine blk_drew ?_ | refine blk_alloc ?_ _)); refine blk_put (cs := #[.bool t215, .int .u64 x213001_3]) ?_ 1 _ rfl; (with_reducible repeat (first | refine blk_drewN ?_ _ | refine blk_drew ?_ | refine blk_alloc ?_ _)); refine blk_put (cs := #[.bool (decide ((wrap64 (a1_1)) < 0)), .int .u64 x213001_3]) ?_ 0 _ rfl; (with_reducible repeat (first | refine blk_drewN ?_ _ | refine blk_drew ?_ | refine blk_alloc ?_ _)); exact BK214.out⟩, ⟨bs HB⟩⟩
            ·rw [if_neg c160] at H
             have c160b0 : (a0 == 3) = false := beq_eq_false_iff_ne.mpr c160
             have c160b1 : (a0 != 3) = true := bne_iff_ne.mpr c160
             by_cases c178 : x214001_30 = 0
             ·rw [if_pos c178] at H
              have c178b0 : (x214001_30 == 0) = true := beq_iff_eq.mpr c178
              have c178b1 : (x214001_30 != 0) = false := bne_eq_false_iff_eq.mpr c178
              clear c178
              simp only [Option.some.injEq, Prod.mk.injEq] at H
              obtain ⟨rfl, rfl, rfl, rfl⟩ := H
              have hnb179 := NB213_209.out
              have hnc179 := NB209_213.out
              have hnb180 := NB213_210.out
              have hnc180 := NB210_213.out
              have hnb181 := NB213_211.out
              have hnc181 := NB211_213.out
              have hnb182 := NB213_212.out
              have hnc182 := NB212_213.out
              have hnb183 := NB213_214.out
              have hnc183 := NB214_213.out
              have hcz184_0 : w144.cell? ⟨gb213, 0, none⟩ = some (.bool (decide ((wrap64 (a2_1)) < 0))) := bc BK213 0
              have hcz184_1 : w144.cell? ⟨gb213, 1, none⟩ = some (.int .u64 x214001_30) := bc BK213 1
              have hfz184_0 := blk_frozen BK213.out 0
              have hfz184_1 := blk_frozen BK213.out 1
              have hnb185 := NB211_209.out
              have hnc185 := NB209_211.out
              have hnb186 := NB211_210.out
              have hnc186 := NB210_211.out
              have hnb187 := NB211_212.out
              have hnc187 := NB212_211.out
              have hnb188 := NB211_214.out
              have hnc188 := NB214_211.out
              have hcz189_0 : w144.cell? ⟨gb211, 0, none⟩ = some (.int .u8 0) := bc BK211 0
              have hcz189_1 : w144.cell? ⟨gb211, 1, none⟩ = some (.int .u64 0) := bc BK211 1
              have hcz189_2 : w144.cell? ⟨gb211, 2, none⟩ = some (.string (⟨#[]⟩ : ByteArray)) := bc BK211 2
              have hfz189_0 := blk_frozen BK211.out 0
              have hfz189_1 := blk_frozen BK211.out 1
              have hfz189_2 := blk_frozen BK211.out 2
              go_wp2
              refine bodyPost_ret (results_ct rfl _ _ gb211 27 #[.int .u8 0, .int .u64 0, .string (⟨#[]⟩ : ByteArray)] (0, 0) _ rfl (by (with_reducible repeat (first | refine blk_drewN ?_ _ | refine blk_drew ?_ | refine blk_alloc ?_ _)); refine blk_put (cs := #[.int .u8 0, .int .u64 0, .string (⟨#[]⟩ : ByteArray)]) ?_ 2 _ rfl; (with_reducible repeat (first | refine blk_drewN ?_ _ | refine blk_drew ?_ | refine blk_alloc ?_ _)); refine blk_put (cs := #[.int .u8 0, .int .u64 0, .string (⟨#[]⟩ : ByteArray)]) ?_ 1 _ rfl; (with_reducible repeat (first | refine blk_drewN ?_ _ | refine blk_drew ?_ | refine blk_alloc ?_ _)); refine blk_put (cs := #[.int .u8 0, .int .u64 0, .string (⟨#[]⟩ : ByteArray)]) ?_ 0 _ rfl; (with_reducible repeat (first | refine blk_drewN ?_ _ | refine blk_drew ?_ | refine blk_alloc ?_ _)); refine blk_far ?_ NB211_214.out _; (with_reducible repeat (first | refine blk_drewN ?_ _ | refine blk_drew ?_ | refine blk_alloc ?_ _)); refine blk_far ?_ NB211_214.out _; (with_reducible repeat (first | refine blk_drewN ?_ _ | refine blk_drew ?_ | refine blk_alloc ?_ _)); exact BK211.out) Try.underlying27 rfl (by kernel_rfl)) rfl ?_
              exact ⟨by first | rfl | (simp [errW_none, errW_some] <;> rfl) | (simp [*, errW_none, errW_some] <;> rfl), bs HB⟩
             ·rw [if_neg c178] at H
              have c178b0 : (x214001_30 == 0) = false := beq_eq_false_iff_ne.mpr c178
              have c178b1 : (x214001_30 != 0) = true := bne_iff_ne.mpr c178
              have H' := Aside0.mk H
              clear H
              have hnb190 := NB213_209.out
              have hnc190 := NB209_213.out
              have hnb191 := NB213_210.out
              have hnc191 := NB210_213.out
              have hnb192 := NB213_211.out
              have hnc192 := NB211_213.out
              have hnb193 := NB213_212.out
              have hnc193 := NB212_213.out
              have hnb194 := NB213_214.out
              have hnc194 := NB214_213.out
              have hcz195_0 : w144.cell? ⟨gb213, 0, none⟩ = some (.bool (decide ((wrap64 (a2_1)) < 0))) := bc BK213 0
              have hcz195_1 : w144.cell? ⟨gb213, 1, none⟩ = some (.int .u64 x214001_30) := bc BK213 1
              have hfz195_0 := blk_frozen BK213.out 0
              have hfz195_1 := blk_frozen BK213.out 1
              try go_wp2
              have n0_ : Aside0 (((w144.setCell ⟨gb214, 0, none⟩ (.bool (decide ((wrap64 (a1_1)) < 0)))).setCell ⟨gb214, 1, none⟩ (.int .u64 x213001_3)).heap[gb209]? = some (.cells #[.int .u8 a1_0, .int .u64 a1_1, .string a1_2] 27 (0, 0))) := ⟨by (with_reducible repeat (first | refine blk_drewN ?_ _ | refine blk_drew ?_ | refine blk_alloc ?_ _)); refine blk_far ?_ NB209_214.out _; (with_reducible repeat (first | refine blk_drewN ?_ _ | refine blk_drew ?_ | refine blk_alloc ?_ _)); refine blk_far ?_ NB209_214.out _; (with_reducible repeat (first | refine blk_drewN ?_ _ | refine blk_drew ?_ | refine blk_alloc ?_ _)); exact BK209.out⟩
              have n1_ : Aside0 (((w144.setCell ⟨gb214, 0, none⟩ (.bool (decide ((wrap64 (a1_1)) < 0)))).setCell ⟨gb214, 1, none⟩ (.int .u64 x213001_3)).heap[gb210]? = some (.cells #[.int .u8 a2_0, .int .u64 a2_1, .string a2_2] 27 (0, 0))) := ⟨by (with_reducible repeat (first | refine blk_drewN ?_ _ | refine blk_drew ?_ | refine blk_alloc ?_ _)); refine blk_far ?_ NB210_214.out _; (with_reducible repeat (first | refine blk_drewN ?_ _ | refine blk_drew ?_ | refine blk_alloc ?_ _)); refine blk_far ?_ NB210_214.out _; (with_reducible repeat (first | refine blk_drewN ?_ _ | refine blk_drew ?_ | refine blk_alloc ?_ _)); exact BK210.out⟩
              have n2_ : Aside0 (((w144.setCell ⟨gb214, 0, none⟩ (.bool (decide ((wrap64 (a1_1)) < 0)))).setCell ⟨gb214, 1, none⟩ (.int .u64 x213001_3)).heap[gb211]? = some (.cells #[.int .u8 0, .int .u64 0, .string (⟨#[]⟩ : ByteArray)] 27 (0, 0))) := ⟨by (with_reducible repeat (first | refine blk_drewN ?_ _ | refine blk_drew ?_ | refine blk_alloc ?_ _)); refine blk_far ?_ NB211_214.out _; (with_reducible repeat (first | refine blk_drewN ?_ _ | refine blk_drew ?_ | refine blk_alloc ?_ _)); refine blk_far ?_ NB211_214.out _; (with_reducible repeat (first | refine blk_drewN ?_ _ | refine blk_drew ?_ | refine blk_alloc ?_ _)); exact BK211.out⟩
              have n3_ : Aside0 (((w144.setCell ⟨gb214, 0, none⟩ (.bool (decide ((wrap64 (a1_1)) < 0)))).setCell ⟨gb214, 1, none⟩ (.int .u64 x213001_3)).heap[gb212]? = some (.cells #[.bool (decide ((wrap64 (a1_1)) < 0)), .int .u64 x213001_3] 58 (0, 0))) := ⟨by (with_reducible repeat (first | refine blk_drewN ?_ _ | refine blk_drew ?_ | refine blk_alloc ?_ _)); refine blk_far ?_ NB212_214.out _; (with_reducible repeat (first | refine blk_drewN ?_ _ | refine blk_drew ?_ | refine blk_alloc ?_ _)); refine blk_far ?_ NB212_214.out _; (with_reducible repeat (first | refine blk_drewN ?_ _ | refine blk_drew ?_ | refine blk_alloc ?_ _)); exact BK212.out⟩
              have n4_ : Aside0 (((w144.setCell ⟨gb214, 0, none⟩ (.bool (decide ((wrap64 (a1_1)) < 0)))).setCell ⟨gb214, 1, none⟩ (.int .u64 x213001_3)).heap[gb213]? = some (.cells #[.bool (decide ((wrap64 (a2_1)) < 0)), .int .u64 x214001_30] 58 (0, 0))) := ⟨by (with_reducible repeat (first | refine blk_drewN ?_ _ | refine blk_drew ?_ | refine blk_alloc ?_ _)); refine blk_far ?_ NB213_214.out _; (with_reducible repeat (first | refine blk_drewN ?_ _ | refine blk_drew ?_ | refine blk_alloc ?_ _)); refine blk_far ?_ NB213_214.out _; (with_reducible repeat (first | refine blk_drewN ?_ _ | refine blk_drew ?_ | refine blk_alloc ?_ _)); exact BK213.out⟩
              have n5_ : Aside0 (((w144.setCell ⟨gb214, 0, none⟩ (.bool (decide ((wrap64 (a1_1)) < 0)))).setCell ⟨gb214, 1, none⟩ (.int .u64 x213001_3)).heap[gb214]? = some (.cells #[.bool (decide ((wrap64 (a1_1)) < 0)), .int .u64 x213001_3] 58 (0, 0))) := ⟨by (with_reducible repeat (first | refine blk_drewN ?_ _ | refine blk_drew ?_ | refine blk_alloc ?_ _)); refine blk_put (cs := #[.bool (decide ((wrap64 (a1_1)) < 0)), .int .u64 0]) ?_ 1 _ rfl; (with_reducible repeat (first | refine blk_drewN ?_ _ | refine blk_drew ?_ | refine blk_alloc ?_ _)); refine blk_put (cs := #[.bool false, .int .u64 0]) ?_ 0 _ rfl; (with_reducible repeat (first | refine blk_drewN ?_ _ | refine blk_drew ?_ | refine blk_alloc ?_ _)); exact BK214.out⟩
              have n6_ : Aside0 (Below w.heap.size w ((w144.setCell ⟨gb214, 0, none⟩ (.bool (decide ((wrap64 (a1_1)) < 0)))).setCell ⟨gb214, 1, none⟩ (.int .u64 x213001_3))) := ⟨bs HB⟩
              (try clear BK209)
              (try clear BK210)
              (try clear BK211)
              (try clear BK212)
              (try clear BK213)
              (try clear BK214)
              (try clear HB)
              generalize ((w144.setCell ⟨gb214, 0, none⟩ (.bool (decide ((wrap64 (a1_1)) < 0)))).setCell ⟨gb214, 1, none⟩ (.int .u64 x213001_3)) = w196 at n0_ n1_ n2_ n3_ n4_ n5_ n6_ ⊢
              have BK209 := n0_
              have BK210 := n1_
              have BK211 := n2_
              have BK212 := n3_
              have BK213 := n4_
              have BK214 := n5_
              have HB := n6_
              clear n0_ n1_ n2_ n3_ n4_ n5_ n6_
              have n0_ := Aside0.mk (blk_drew BK209.out)
              have n1_ := Aside0.mk (blk_drew BK210.out)
              have n2_ := Aside0.mk (blk_drew BK211.out)
              have n3_ := Aside0.mk (blk_drew BK212.out)
              have n4_ := Aside0.mk (blk_drew BK213.out)
              have n5_ := Aside0.mk (blk_drew BK214.out)
              have n6_ := Aside0.mk (below_drew1 HB.out)
              clear BK209
              clear BK210
              clear BK211
              clear BK212
              clear BK213
              clear BK214
              clear HB
              have BK209 := n0_
              have BK210 := n1_
              have BK211 := n2_
              have BK212 := n3_
              have BK213 := n4_
              have BK214 := n5_
              have HB := n6_
              clear n0_ n1_ n2_ n3_ n4_ n5_ n6_
              refine start_ (n := 12) (S := fun w' => w'.cell? ⟨gb212, 0, none⟩ = some (.bool (decide ((wrap64 (a1_1)) < 0))) ∧ w'.cell? ⟨gb212, 1, none⟩ = some (.int .u64 x213001_3) ∧ w'.cell? ⟨gb213, 0, none⟩ = some (.bool (decide ((wrap64 (a2_1)) < 0))) ∧ w'.cell? ⟨gb213, 1, none⟩ = some (.int .u64 x214001_30)) (ds := []) #[false, false, false, false, false, false, false, false, false, false, false, false] (by kernel_rfl) rfl rfl ⟨bc BK212 0, bc BK212 1, bc BK213 0, bc BK213 1⟩ (fun hHeld => ?_); refine with_tabW value_spans.tab26 value_spans.bits26 (fun HT_ HW_ => ?_)
              generalize w196.drew = w197 at BK209 BK210 BK211 BK212 BK213 BK214 HB hHeld ⊢
              refine pure_ (i := 0) (N := some 130) (v := ?_) (a' := ?_) #[true, false, false, false, false, false, false, false, false, false, false, false] rfl rfl (any_of HT_.out (by kernel_rfl)) (fun _ _ _ h => h) (Or.inl ⟨by rfl, ?_⟩) ?_ ?_
              rotate_left
              ·intro w'
               go_simp
               with_reducible rfl
              rotate_left
              ·simp only [Act.put, List.setIfInBounds_toArray, List.set_cons_zero, List.set_cons_succ, i64_w, i32_w]
               rfl
              refine pure_ (i := 2) (N := some 132) (v := ?_) (a' := ?_) #[true, false, true, false, false, false, false, false, false, false, false, false] rfl rfl (any_of HT_.out (by kernel_rfl)) (fun _ _ _ h => h) (Or.inl ⟨by rfl, ?_⟩) ?_ ?_
              rotate_left
              ·intro w'
               go_simp
               with_reducible rfl
              rotate_left
              ·simp only [Act.put, List.setIfInBounds_toArray, List.set_cons_zero, List.set_cons_succ, i64_w, i32_w]
               rfl
              refine pure_ (i := 5) (N := some 135) (v := ?_) (a' := ?_) #[true, false, true, false, false, true, false, false, false, false, false, false] rfl rfl (any_of HT_.out (by kernel_rfl)) (fun _ _ _ h => h) (Or.inl ⟨by rfl, ?_⟩) ?_ ?_
              rotate_left
              ·intro w'
               go_simp
               with_reducible rfl
              rotate_left
              ·simp only [Act.put, List.setIfInBounds_toArray, List.set_cons_zero, List.set_cons_succ, i64_w, i32_w]
               rfl
              refine pure_ (i := 7) (N := some 137) (v := ?_) (a' := ?_) #[true, false, true, false, false, true, false, true, false, false, false, false] rfl rfl (any_of HT_.out (by kernel_rfl)) (fun _ _ _ h => h) (Or.inl ⟨by rfl, ?_⟩) ?_ ?_
              rotate_left
              ·intro w'
               go_simp
               with_reducible rfl
              rotate_left
              ·simp only [Act.put, List.setIfInBounds_toArray, List.set_cons_zero, List.set_cons_succ, i64_w, i32_w]
               rfl
              refine take_ (i := 1) (N := some 131) (v := ?_) (a' := ?_) #[true, true, true, false, false, true, false, true, false, false, false, false] rfl rfl (take_ofW HT_.out HW_.out (by kernel_rfl)) (fun _ _ _ h => h) (Or.inl ⟨by rfl, ?_⟩) hHeld ?_ ?_
              rotate_left
              ·rintro w' ⟨s0, s1, s2, s3⟩
               go_simp
               with_reducible rfl
              rotate_left
              ·simp only [Act.put, List.setIfInBounds_toArray, List.set_cons_zero, List.set_cons_succ, i64_w, i32_w]
               rfl
              refine take_ (i := 3) (N := some 133) (v := ?_) (a' := ?_) #[true, true, true, true, false, true, false, true, false, false, false, false] rfl rfl (take_ofW HT_.out HW_.out (by kernel_rfl)) (fun _ _ _ h => h) (Or.inl ⟨by rfl, ?_⟩) hHeld ?_ ?_
              rotate_left
              ·rintro w' ⟨s0, s1, s2, s3⟩
               go_simp
               with_reducible rfl
              rotate_left
              ·simp only [Act.put, List.setIfInBounds_toArray, List.set_cons_zero, List.set_cons_succ, i64_w, i32_w]
               rfl
              refine pure_ (i := 4) (N := some 134) (v := ?_) (a' := ?_) #[true, true, true, true, true, true, false, true, false, false, false, false] rfl rfl (any_of HT_.out (by kernel_rfl)) (fun _ _ _ h => h) (Or.inl ⟨by rfl, ?_⟩) ?_ ?_
              rotate_left
              ·intro w'
               go_simp
               with_reducible rfl
              rotate_left
              ·simp only [Act.put, List.setIfInBounds_toArray, List.set_cons_zero, List.set_cons_succ, i64_w, i32_w]
               rfl
              refine take_ (i := 6) (N := some 136) (v := ?_) (a' := ?_) #[true, true, true, true, true, true, true, true, false, false, false, false] rfl rfl (take_ofW HT_.out HW_.out (by kernel_rfl)) (fun _ _ _ h => h) (Or.inl ⟨by rfl, ?_⟩) hHeld ?_ ?_
              rotate_left
              ·rintro w' ⟨s0, s1, s2, s3⟩
               go_simp
               with_reducible rfl
              rotate_left
              ·simp only [Act.put, List.setIfInBounds_toArray, List.set_cons_zero, List.set_cons_succ, i64_w, i32_w]
               rfl
              refine take_ (i := 8) (N := some 138) (v := ?_) (a' := ?_) #[true, true, true, true, true, true, true, true, true, false, false, false] rfl rfl (take_ofW HT_.out HW_.out (by kernel_rfl)) (fun _ _ _ h => h) (Or.inl ⟨by rfl, ?_⟩) hHeld ?_ ?_
              rotate_left
              ·rintro w' ⟨s0, s1, s2, s3⟩
               go_simp
               with_reducible rfl
              rotate_left
              ·simp only [Act.put, List.setIfInBounds_toArray, List.set_cons_zero, List.set_cons_succ, i64_w, i32_w]
               rfl
              refine pure_ (i := 9) (N := some 139) (v := ?_) (a' := ?_) #[true, true, true, true, true, true, true, true, true, true, false, false] rfl rfl (any_of HT_.out (by kernel_rfl)) (fun _ _ _ h => h) (Or.inl ⟨by rfl, ?_⟩) ?_ ?_
              rotate_left
              ·intro w'
               go_simp
               with_reducible rfl
              rotate_left
              ·simp only [Act.put, List.setIfInBounds_toArray, List.set_cons_zero, List.set_cons_succ, i64_w, i32_w]
               rfl
              refine pure_ (i := 10) (N := some 140) (v := ?_) (a' := ?_) #[true, true, true, true, true, true, true, true, true, true, true, false] rfl rfl (any_of HT_.out (by kernel_rfl)) (fun _ _ _ h => h) (Or.inl ⟨by rfl, ?_⟩) ?_ ?_
              rotate_left
              ·intro w'
               go_simp
               with_reducible rfl
              rotate_left
              ·simp only [Act.put, List.setIfInBounds_toArray, List.set_cons_zero, List.set_cons_succ, i64_w, i32_w]
               rfl
              refine one_ (i := 11) (N := none) #[true, true, true, true, true, true, true, true, true, true, true, true] rfl rfl (one_of HT_.out (by kernel_rfl)) (by decide) (fun K hK => ?_)
              have hs198 : w197.cell? ⟨gb214, 0, none⟩ = some (.bool (decide ((wrap64 (a1_1)) < 0))) := bc BK214 0
              have hfs198 := blk_frozen BK214.out 0
              have hns198_0 := NB209_214.out
              have hns198_1 := NB210_214.out
              have hns198_2 := NB211_214.out
              have hns198_3 := NB212_214.out
              have hns198_4 := NB213_214.out
              have hms198_0 := NB214_209.out
              have hms198_1 := NB214_210.out
              have hms198_2 := NB214_211.out
              have hms198_3 := NB214_212.out
              have hms198_4 := NB214_213.out
              have hs199 : w197.cell? ⟨gb214, 1, none⟩ = some (.int .u64 x213001_3) := bc BK214 1
              have hfs199 := blk_frozen BK214.out 1
              have hns199_0 := NB209_214.out
              have hns199_1 := NB210_214.out
              have hns199_2 := NB211_214.out
              have hns199_3 := NB212_214.out
              have hns199_4 := NB213_214.out
              have hms199_0 := NB214_209.out
              have hms199_1 := NB214_210.out
              have hms199_2 := NB214_211.out
              have hms199_3 := NB214_212.out
              have hms199_4 := NB214_213.out
              refine skip_ (w1 := ?_) (by rfl) rfl ?_ ?_
              rotate_left
              ·go_simp
               rfl
              refine hK.out _ _ ⟨((cell_far (p := ⟨gb214, _, none⟩) NB212_214.out _).trans (((cell_far (p := ⟨gb214, _, none⟩) NB212_214.out _).trans (hHeld.1)))), ((cell_far (p := ⟨gb214, _, none⟩) NB212_214.out _).trans (((cell_far (p := ⟨gb214, _, none⟩) NB212_214.out _).trans (hHeld.2.1)))), ((cell_far (p := ⟨gb214, _, none⟩) NB213_214.out _).trans (((cell_far (p := ⟨gb214, _, none⟩) NB213_214.out _).trans (hHeld.2.2.1)))), ((cell_far (p := ⟨gb214, _, none⟩) NB213_214.out _).trans (((cell_far (p := ⟨gb214, _, none⟩) NB213_214.out _).trans (hHeld.2.2.2))))⟩ (fun hHeld => ?_)
              clear hK K
              refine done_ (done_of HT_.out (by kernel_rfl)) ?_
              try go_wp2
              go_meet
              case rel => exact ⟨_, (true), (0), (0), ((⟨#[]⟩ : ByteArray)), ((decide ((wrap64 (a2_1)) < 0))), (((decide ((wrap64 (a1_1)) < 0)) != (decide ((wrap64 (a2_1)) < 0)))), (IntKind.u64.wrap (Int.tdiv x213001_3 x214001_30)), (by first | rfl | (simp; done) | (simp [*]; done)), H', ⟨by have := HJ3.out; have := HJ30.out; have := HJ46.out; first | omega | exact Nat.le_refl _⟩, ⟨by (with_reducible repeat (first | refine blk_drewN ?_ _ | refine blk_drew ?_ | refine blk_alloc ?_ _)); refine blk_far ?_ NB209_214.out _; (with_reducible repeat (first | refine blk_drewN ?_ _ | refine blk_drew ?_ | refine blk_alloc ?_ _)); refine blk_far ?_ NB209_214.out _; (with_reducible repeat (first | refine blk_drewN ?_ _ | refine blk_drew ?_ | refine blk_alloc ?_ _)); exact BK209.out⟩, ⟨by (with_reducible repeat (first | refine blk_drewN ?_ _ | refine blk_drew ?_ | refine blk_alloc ?_ _)); refine blk_far ?_ NB210_214.out _; (with_reducible repeat (first | refine blk_drewN ?_ _ | refine blk_drew ?_ | refine blk_alloc ?_ _)); refine blk_far ?_ NB210_214.out _; (with_reducible repeat (first | refine blk_drewN ?_ _ | refine blk_drew ?_ | refine blk_alloc ?_ _)); exact BK210.out⟩, ⟨by (with_reducible repeat (first | refine blk_drewN ?_ _ | refine blk_drew ?_ | refine blk_alloc ?_ _)); refine blk_far ?_ NB211_214.out _; (with_reducible repeat (first | refine blk_drewN ?_ _ | refine blk_drew ?_ | refine blk_alloc ?_ _)); refine blk_far ?_ NB211_214.out _; (with_reducible repeat (first | refine blk_drewN ?_ _ | refine blk_drew ?_ | refine blk_alloc ?_ _)); exact BK211.out⟩, ⟨by (with_reducible repeat (first | refine blk_drewN ?_ _ | refine blk_drew ?_ | refine blk_alloc ?_ _)); refine blk_far ?_ NB212_214.out _; (with_reducible repeat (first | refine blk_drewN ?_ _ | refine blk_drew ?_ | refine blk_alloc ?_ _)); refine blk_far ?_ NB212_214.out _; (with_reducible repeat (first | refine blk_drewN ?_ _ | refine blk_drew ?_ | refine blk_alloc ?_ _)); exact BK212.out⟩, ⟨by (with_reducible repeat (first | refine blk_drewN ?_ _ | refine blk_drew ?_ | refine blk_alloc ?_ _)); refine blk_far ?_ NB213_214.out _; (with_reducible repeat (first | refine blk_drewN ?_ _ | refine blk_drew ?_ | refine blk_alloc ?_ _)); refine blk_far ?_ NB213_214.out _; (with_reducible repeat (first | refine blk_drewN ?_ _ | refine blk_drew ?_ | refine blk_alloc ?_ _)); exact BK213.out⟩, ⟨by (with_reducible repeat (first | refine blk_drewN ?_ _ | refine blk_drew ?_ | refine blk_alloc ?_ _)); refine blk_put (cs := #[.bool ((decide ((wrap64 (a1_1)) < 0)) != (decide ((wrap64 (a2_1)) < 0))), .int .u64 x213001_3]) ?_ 1 _ rfl; (with_reducible repeat (first | refine blk_drewN ?_ _ | refine blk_drew ?_ | refine blk_alloc ?_ _)); refine blk_put (cs := #[.bool (decide ((wrap64 (a1_1)) < 0)), .int .u64 x213001_3]) ?_ 0 _ rfl; (with_reducible repeat (first | refine blk_drewN ?_ _ | refine blk_drew ?_ | refine blk_alloc ?_ _)); exact BK214.out⟩, ⟨bs HB⟩⟩
         case rest =>
          clear HC151
          (try clear c1);(try clear c2);(try clear p2);(try clear c3);(try clear c4);(try clear c5);(try clear c6);(try clear p6);(try clear c7);(try clear c8);(try clear c9);(try clear c10);(try clear c11);(try clear c12);(try clear c13);(try clear c14);(try clear c15);(try clear c16);(try clear c17);(try clear c18);(try clear c19);(try clear c22);(try clear c23);(try clear c24);(try clear c25);(try clear c27);(try clear c28);(try clear c29);(try clear c32);(try clear c33);(try clear c34);(try clear c35);(try clear c37);(try clear c37b0);(try clear c38);(try clear c39);(try clear c40);(try clear c41);(try clear c43);(try clear c44);(try clear c45);(try clear c50);(try clear c50b0);(try clear c50b1);(try clear c51);(try clear c51b0);(try clear c51b1);(try clear c52);(try clear c52b0);(try clear c52b1);(try clear c53);(try clear c54);(try clear c55);(try clear c56);(try clear c58);(try clear c58b0);(try clear c58b1);(try clear c59);(try clear c60);(try clear c61);(try clear c62);(try clear c64);(try clear p64);(try clear c65);(try clear c66);(try clear c67);(try clear c69);(try clear c69b0);(try clear c69b1);(try clear c70);(try clear c70b0);(try clear c70b1);(try clear c71);(try clear c71b0);(try clear c71b1);(try clear c72);(try clear c73);(try clear c74);(try clear c75);(try clear c77);(try clear c77b0);(try clear c77b1);(try clear c78);(try clear c79);(try clear c80);(try clear c81);(try clear c83);(try clear c84);(try clear c85);(try clear c86);(try clear c88);(try clear c89);(try clear c90);(try clear c91);(try clear c92);(try clear c95);(try clear c95b0);(try clear c95b1);(try clear c96);(try clear c97);(try clear c98);(try clear c99);(try clear c101);(try clear c102);(try clear c103);(try clear c105);(try clear c107);(try clear c107b0);(try clear c107b1);(try clear c108);(try clear c108b0);(try clear c108b1);(try clear c109);(try clear c110);(try clear c111);(try clear c112);(try clear c114);(try clear c115);(try clear c116);(try clear c117);(try clear c119);(try clear c119b0);(try clear c119b1);(try clear c120);(try clear c120b0);(try clear c120b1);(try clear c121);(try clear c122);(try clear c123);(try clear c124);(try clear c126);(try clear c127);(try clear c128);(try clear c129);(try clear c131);(try clear c132);(try clear c132b0);(try clear c132b1);(try clear c133);(try clear c134);(try clear c135);(try clear c136);(try clear c139);(try clear c140);(try clear c141);(try clear c142);(try clear c145);(try clear c146);(try clear c147);(try clear c148);(try clear c149);(try clear c152);(try clear c152b0);(try clear c152b1);(try clear c153);(try clear c154);(try clear c155);(try clear c156);(try clear c157);(try clear c159);(try clear c159b0);(try clear c159b1);(try clear c160);(try clear c160b0);(try clear c160b1);(try clear c162);(try clear c163);(try clear c164);(try clear c165);(try clear c166);(try clear c168);(try clear c169);(try clear c170);(try clear c171);(try clear c174);(try clear c175);(try clear c176);(try clear c178);(try clear c178b0);(try clear c178b1);(try clear c179);(try clear c180);(try clear c181);(try clear c182);(try clear c183);(try clear c185);(try clear c186);(try clear c187);(try clear c188);(try clear c190);(try clear c191);(try clear c192);(try clear c193);(try clear c194);(try clear hcz100_0);(try clear hcz100_1);(try clear hcz100_2);(try clear hcz104_0);(try clear hcz104_1);(try clear hcz104_2);(try clear hcz113_0);(try clear hcz113_1);(try clear hcz113_2);(try clear hcz118_0);(try clear hcz118_1);(try clear hcz118_2);(try clear hcz125_0);(try clear hcz125_1);(try clear hcz125_2);(try clear hcz130_0);(try clear hcz130_1);(try clear hcz130_2);(try clear hcz137_0);(try clear hcz137_1);(try clear hcz137_2);(try clear hcz143_0);(try clear hcz143_1);(try clear hcz150_0);(try clear hcz150_1);(try clear hcz158_0);(try clear hcz158_1);(try clear hcz167_0);(try clear hcz167_1);(try clear hcz172_0);(try clear hcz172_1);(try clear hcz177_0);(try clear hcz177_1);(try clear hcz184_0);(try clear hcz184_1);(try clear hcz189_0);(try clear hcz189_1);(try clear hcz189_2);(try clear hcz195_0);(try clear hcz195_1);(try clear hcz20_0);(try clear hcz20_1);(try clear hcz26_0);(try clear hcz26_1);(try clear hcz26_2);(try clear hcz30_0);(try clear hcz30_1);(try clear hcz36_0);(try clear hcz36_1);(try clear hcz42_0);(try clear hcz42_1);(try clear hcz42_2);(try clear hcz46_0);(try clear hcz46_1);(try clear hcz57_0);(try clear hcz57_1);(try clear hcz57_2);(try clear hcz63_0);(try clear hcz63_1);(try clear hcz63_2);(try clear hcz68_0);(try clear hcz68_1);(try clear hcz68_2);(try clear hcz76_0);(try clear hcz76_1);(try clear hcz76_2);(try clear hcz82_0);(try clear hcz82_1);(try clear hcz82_2);(try clear hcz87_0);(try clear hcz87_1);(try clear hcz87_2);(try clear hcz93_0);(try clear hcz93_1);(try clear hcz93_2);(try clear hfz100_0);(try clear hfz100_1);(try clear hfz100_2);(try clear hfz104_0);(try clear hfz104_1);(try clear hfz104_2);(try clear hfz113_0);(try clear hfz113_1);(try clear hfz113_2);(try clear hfz118_0);(try clear hfz118_1);(try clear hfz118_2);(try clear hfz125_0);(try clear hfz125_1);(try clear hfz125_2);(try clear hfz130_0);(try clear hfz130_1);(try clear hfz130_2);(try clear hfz137_0);(try clear hfz137_1);(try clear hfz137_2);(try clear hfz143_0);(try clear hfz143_1);(try clear hfz150_0);(try clear hfz150_1);(try clear hfz158_0);(try clear hfz158_1);(try clear hfz167_0);(try clear hfz167_1);(try clear hfz172_0);(try clear hfz172_1);(try clear hfz177_0);(try clear hfz177_1);(try clear hfz184_0);(try clear hfz184_1);(try clear hfz189_0);(try clear hfz189_1);(try clear hfz189_2);(try clear hfz195_0);(try clear hfz195_1);(try clear hfz20_0);(try clear hfz20_1);(try clear hfz26_0);(try clear hfz26_1);(try clear hfz26_2);(try clear hfz30_0);(try clear hfz30_1);(try clear hfz36_0);(try clear hfz36_1);(try clear hfz42_0);(try clear hfz42_1);(try clear hfz42_2);(try clear hfz46_0);(try clear hfz46_1);(try clear hfz57_0);(try clear hfz57_1);(try clear hfz57_2);(try clear hfz63_0);(try clear hfz63_1);(try clear hfz63_2);(try clear hfz68_0);(try clear hfz68_1);(try clear hfz68_2);(try clear hfz76_0);(try clear hfz76_1);(try clear hfz76_2);(try clear hfz82_0);(try clear hfz82_1);(try clear hfz82_2);(try clear hfz87_0);(try clear hfz87_1);(try clear hfz87_2);(try clear hfz93_0);(try clear hfz93_1);(try clear hfz93_2);(try clear p2);(try clear p6);(try clear p64)
          obtain ⟨kq, x214000_150, HA, HJ150, BK209, BK210, BK211, BK212, BK213, BK214, HB⟩ := hcut
          cases kq with
          | zero => exact absurd HA.out (by simp [value_spans.j6])
          | succ kj150 =>
           have H := HA.out
           clear HA
           simp only [value_spans.j6] at H
           replace H := Option.bind_eq_some_iff.mp H
           obtain ⟨⟨t218, t219, t220⟩, A2000, H⟩ := H
           replace H : (value_spans.j7 kj150 x12_46 t220 t218 t219) = some (r1, r2, r3, r4) := H
           have A200 := Aside0.mk A2000
           clear A2000
           have H' := Aside0.mk H
           clear H
           have hnb201 := NB212_209.out
           have hnc201 := NB209_212.out
           have hnb202 := NB212_210.out
           have hnc202 := NB210_212.out
           have hnb203 := NB212_211.out
           have hnc203 := NB211_212.out
           have hnb204 := NB212_213.out
           have hnc204 := NB213_212.out
           have hnb205 := NB212_214.out
           have hnc205 := NB214_212.out
           have hcz206_0 : wc.cell? ⟨gb212, 0, none⟩ = some (.bool (decide ((wrap64 (a1_1)) < 0))) := bc BK212 0
           have hcz206_1 : wc.cell? ⟨gb212, 1, none⟩ = some (.int .u64 x213001_3) := bc BK212 1
           have hfz206_0 := blk_frozen BK212.out 0
           have hfz206_1 := blk_frozen BK212.out 1
           have hnb207 := NB213_209.out
           have hnc207 := NB209_213.out
           have hnb208 := NB213_210.out
           have hnc208 := NB210_213.out
           have hnb209 := NB213_211.out
           have hnc209 := NB211_213.out
           have hnb210 := NB213_214.out
           have hnc210 := NB214_213.out
           have hcz211_0 : wc.cell? ⟨gb213, 0, none⟩ = some (.bool x214000_150) := bc BK213 0
           have hcz211_1 : wc.cell? ⟨gb213, 1, none⟩ = some (.int .u64 x214001_30) := bc BK213 1
           have hfz211_0 := blk_frozen BK213.out 0
           have hfz211_1 := blk_frozen BK213.out 1
           go_wp2_with (first | ((with_reducible refine gate_callee (f := 69) rfl ?_); refine goesL_ (some 117) rfl rfl Try.func69 (by kernel_rfl) rfl #[.agg #[.bool (decide ((wrap64 (a1_1)) < 0)), .int .u64 x213001_3], .agg #[.bool x214000_150, .int .u64 x214001_30]] rfl (by (try simp only [List.map_toArray, List.map_cons, List.map_nil]); first | done | rfl | (simp only [List.length_drop, List.length_take]; rfl)) ?_; (with_reducible refine (value_plus.calls (decide ((wrap64 (a1_1)) < 0)) x213001_3 x214000_150 x214001_30 t218 t219 t220 _ A200.out).mono ?_); rintro e w212 ⟨rfl, hb⟩; refine ⟨_, rfl, ?_⟩; have n0_ := kb BK209 hb; have n1_ := kb BK210 hb; have n2_ := kb BK211 hb; have n3_ := kb BK212 hb; have n4_ := kb BK213 hb; have n5_ := kb BK214 hb; have n6_ := bt HB hb; clear BK209; clear BK210; clear BK211; clear BK212; clear BK213; clear BK214; clear HB; have BK209 := n0_; have BK210 := n1_; have BK211 := n2_; have BK212 := n3_; have BK213 := n4_; have BK214 := n5_; have HB := n6_; clear n0_ n1_ n2_ n3_ n4_ n5_ n6_; (try clear hb); (try clear hb2); (try clear hk); (try clear hi); have hnb213 := NB214_209.out; have hnc213 := NB209_214.out; have hnb214 := NB214_210.out; have hnc214 := NB210_214.out; have hnb215 := NB214_211.out; have hnc215 := NB211_214.out; have hcz216_0 : w212.cell? ⟨gb214, 0, none⟩ = some (.bool (decide ((wrap64 (a1_1)) < 0))) := bc BK214 0; have hcz216_1 : w212.cell? ⟨gb214, 1, none⟩ = some (.int .u64 x213001_3) := bc BK214 1; have hfz216_0 := blk_frozen BK214.out 0; have hfz216_1 := blk_frozen BK214.out 1))
           go_meet
           case rel => exact ⟨_, (t220), (0), (0), ((⟨#[]⟩ : ByteArray)), (x214000_150), (t218), (t219), (by first | rfl | (simp; done) | (simp [*]; done)), H', ⟨by have := HJ3.out; have := HJ30.out; have := HJ46.out; have := HJ150.out; first | omega | exact Nat.le_refl _⟩, ⟨by (with_reducible repeat (first | refine blk_drewN ?_ _ | refine blk_drew ?_ | refine blk_alloc ?_ _)); refine blk_far ?_ NB209_214.out _; (with_reducible repeat (first | refine blk_drewN ?_ _ | refine blk_drew ?_ | refine blk_alloc ?_ _)); refine blk_far ?_ NB209_214.out _; (with_reducible repeat (first | refine blk_drewN ?_ _ | refine blk_drew ?_ | refine blk_alloc ?_ _)); exact BK209.out⟩, ⟨by (with_reducible repeat (first | refine blk_drewN ?_ _ | refine blk_drew ?_ | refine blk_alloc ?_ _)); refine blk_far ?_ NB210_214.out _; (with_reducible repeat (first | refine blk_drewN ?_ _ | refine blk_drew ?_ | refine blk_alloc ?_ _)); refine blk_far ?_ NB210_214.out _; (with_reducible repeat (first | refine blk_drewN ?_ _ | refine blk_drew ?_ | refine blk_alloc ?_ _)); exact BK210.out⟩, ⟨by (with_reducible repeat (first | refine blk_drewN ?_ _ | refine blk_drew ?_ | refine blk_alloc ?_ _)); refine blk_far ?_ NB211_214.out _; (with_reducible repeat (first | refine blk_drewN ?_ _ | refine blk_drew ?_ | refine blk_alloc ?_ _)); refine blk_far ?_ NB211_214.out _; (with_reducible repeat (first | refine blk_drewN ?_ _ | refine blk_drew ?_ | refine blk_alloc ?_ _)); exact BK211.out⟩, ⟨by (with_reducible repeat (first | refine blk_drewN ?_ _ | refine blk_drew ?_ | refine blk_alloc ?_ _)); refine blk_far ?_ NB212_214.out _; (with_reducible repeat (first | refine blk_drewN ?_ _ | refine blk_drew ?_ | refine blk_alloc ?_ _)); refine blk_far ?_ NB212_214.out _; (with_reducible repeat (first | refine blk_drewN ?_ _ | refine blk_drew ?_ | refine blk_alloc ?_ _)); exact BK212.out⟩, ⟨by (with_reducible repeat (first | refine blk_drewN ?_ _ | refine blk_drew ?_ | refine blk_alloc ?_ _)); refine blk_far ?_ NB213_214.out _; (with_reducible repeat (first | refine blk_drewN ?_ _ | refine blk_drew ?_ | refine blk_alloc ?_ _)); refine blk_far ?_ NB213_214.out _; (with_reducible repeat (first | refine blk_drewN ?_ _ | refine blk_drew ?_ | refine blk_alloc ?_ _)); exact BK213.out⟩, ⟨by (with_reducible repeat (first | refine blk_drewN ?_ _ | refine blk_drew ?_ | refine blk_alloc ?_ _)); refine blk_put (cs := #[.bool t218, .int .u64 x213001_3]) ?_ 1 _ rfl; (with_reducible repeat (first | refine blk_drewN ?_ _ | refine blk_drew ?_ | refine blk_alloc ?_ _)); refine blk_put (cs := #[.bool (decide ((wrap64 (a1_1)) < 0)), .int .u64 x213001_3]) ?_ 0 _ rfl; (with_reducible repeat (first | refine blk_drewN ?_ _ | refine blk_drew ?_ | refine blk_alloc ?_ _)); exact BK214.out⟩, ⟨bs HB⟩⟩
        case rest =>
         clear HC138
         (try clear c1);(try clear c2);(try clear p2);(try clear c3);(try clear c4);(try clear c5);(try clear c6);(try clear p6);(try clear c7);(try clear c8);(try clear c9);(try clear c10);(try clear c11);(try clear c12);(try clear c13);(try clear c14);(try clear c15);(try clear c16);(try clear c17);(try clear c18);(try clear c19);(try clear c20);(try clear c21);(try clear c22);(try clear c23);(try clear c24);(try clear c25);(try clear c27);(try clear c28);(try clear c29);(try clear c32);(try clear c33);(try clear c34);(try clear c35);(try clear c37);(try clear c37b0);(try clear c38);(try clear c39);(try clear c40);(try clear c41);(try clear c43);(try clear c44);(try clear c45);(try clear c50);(try clear c50b0);(try clear c50b1);(try clear c51);(try clear c51b0);(try clear c51b1);(try clear c52);(try clear c52b0);(try clear c52b1);(try clear c53);(try clear c54);(try clear c55);(try clear c56);(try clear c58);(try clear c58b0);(try clear c58b1);(try clear c59);(try clear c60);(try clear c61);(try clear c62);(try clear c64);(try clear p64);(try clear c65);(try clear c66);(try clear c67);(try clear c69);(try clear c69b0);(try clear c69b1);(try clear c70);(try clear c70b0);(try clear c70b1);(try clear c71);(try clear c71b0);(try clear c71b1);(try clear c72);(try clear c73);(try clear c74);(try clear c75);(try clear c77);(try clear c77b0);(try clear c77b1);(try clear c78);(try clear c79);(try clear c80);(try clear c81);(try clear c83);(try clear c84);(try clear c85);(try clear c86);(try clear c88);(try clear c89);(try clear c90);(try clear c91);(try clear c92);(try clear c95);(try clear c95b0);(try clear c95b1);(try clear c96);(try clear c97);(try clear c98);(try clear c99);(try clear c101);(try clear c102);(try clear c103);(try clear c105);(try clear c107);(try clear c107b0);(try clear c107b1);(try clear c108);(try clear c108b0);(try clear c108b1);(try clear c109);(try clear c110);(try clear c111);(try clear c112);(try clear c114);(try clear c115);(try clear c116);(try clear c117);(try clear c119);(try clear c119b0);(try clear c119b1);(try clear c120);(try clear c120b0);(try clear c120b1);(try clear c121);(try clear c122);(try clear c123);(try clear c124);(try clear c126);(try clear c127);(try clear c128);(try clear c129);(try clear c131);(try clear c132);(try clear c132b0);(try clear c132b1);(try clear c133);(try clear c134);(try clear c135);(try clear c136);(try clear c139);(try clear c140);(try clear c141);(try clear c142);(try clear c145);(try clear c146);(try clear c147);(try clear c148);(try clear c149);(try clear c152);(try clear c152b0);(try clear c152b1);(try clear c153);(try clear c154);(try clear c155);(try clear c156);(try clear c157);(try clear c159);(try clear c159b0);(try clear c159b1);(try clear c160);(try clear c160b0);(try clear c160b1);(try clear c162);(try clear c163);(try clear c164);(try clear c165);(try clear c166);(try clear c168);(try clear c169);(try clear c170);(try clear c171);(try clear c174);(try clear c175);(try clear c176);(try clear c178);(try clear c178b0);(try clear c178b1);(try clear c179);(try clear c180);(try clear c181);(try clear c182);(try clear c183);(try clear c185);(try clear c186);(try clear c187);(try clear c188);(try clear c190);(try clear c191);(try clear c192);(try clear c193);(try clear c194);(try clear c201);(try clear c202);(try clear c203);(try clear c204);(try clear c205);(try clear c207);(try clear c208);(try clear c209);(try clear c210);(try clear c213);(try clear c214);(try clear c215);(try clear hcz100_0);(try clear hcz100_1);(try clear hcz100_2);(try clear hcz104_0);(try clear hcz104_1);(try clear hcz104_2);(try clear hcz113_0);(try clear hcz113_1);(try clear hcz113_2);(try clear hcz118_0);(try clear hcz118_1);(try clear hcz118_2);(try clear hcz125_0);(try clear hcz125_1);(try clear hcz125_2);(try clear hcz130_0);(try clear hcz130_1);(try clear hcz130_2);(try clear hcz137_0);(try clear hcz137_1);(try clear hcz137_2);(try clear hcz143_0);(try clear hcz143_1);(try clear hcz150_0);(try clear hcz150_1);(try clear hcz158_0);(try clear hcz158_1);(try clear hcz167_0);(try clear hcz167_1);(try clear hcz172_0);(try clear hcz172_1);(try clear hcz177_0);(try clear hcz177_1);(try clear hcz184_0);(try clear hcz184_1);(try clear hcz189_0);(try clear hcz189_1);(try clear hcz189_2);(try clear hcz195_0);(try clear hcz195_1);(try clear hcz206_0);(try clear hcz206_1);(try clear hcz20_0);(try clear hcz20_1);(try clear hcz211_0);(try clear hcz211_1);(try clear hcz216_0);(try clear hcz216_1);(try clear hcz26_0);(try clear hcz26_1);(try clear hcz26_2);(try clear hcz30_0);(try clear hcz30_1);(try clear hcz36_0);(try clear hcz36_1);(try clear hcz42_0);(try clear hcz42_1);(try clear hcz42_2);(try clear hcz46_0);(try clear hcz46_1);(try clear hcz57_0);(try clear hcz57_1);(try clear hcz57_2);(try clear hcz63_0);(try clear hcz63_1);(try clear hcz63_2);(try clear hcz68_0);(try clear hcz68_1);(try clear hcz68_2);(try clear hcz76_0);(try clear hcz76_1);(try clear hcz76_2);(try clear hcz82_0);(try clear hcz82_1);(try clear hcz82_2);(try clear hcz87_0);(try clear hcz87_1);(try clear hcz87_2);(try clear hcz93_0);(try clear hcz93_1);(try clear hcz93_2);(try clear hfz100_0);(try clear hfz100_1);(try clear hfz100_2);(try clear hfz104_0);(try clear hfz104_1);(try clear hfz104_2);(try clear hfz113_0);(try clear hfz113_1);(try clear hfz113_2);(try clear hfz118_0);(try clear hfz118_1);(try clear hfz118_2);(try clear hfz125_0);(try clear hfz125_1);(try clear hfz125_2);(try clear hfz130_0);(try clear hfz130_1);(try clear hfz130_2);(try clear hfz137_0);(try clear hfz137_1);(try clear hfz137_2);(try clear hfz143_0);(try clear hfz143_1);(try clear hfz150_0);(try clear hfz150_1);(try clear hfz158_0);(try clear hfz158_1);(try clear hfz167_0);(try clear hfz167_1);(try clear hfz172_0);(try clear hfz172_1);(try clear hfz177_0);(try clear hfz177_1);(try clear hfz184_0);(try clear hfz184_1);(try clear hfz189_0);(try clear hfz189_1);(try clear hfz189_2);(try clear hfz195_0);(try clear hfz195_1);(try clear hfz206_0);(try clear hfz206_1);(try clear hfz20_0);(try clear hfz20_1);(try clear hfz211_0);(try clear hfz211_1);(try clear hfz216_0);(try clear hfz216_1);(try clear hfz26_0);(try clear hfz26_1);(try clear hfz26_2);(try clear hfz30_0);(try clear hfz30_1);(try clear hfz36_0);(try clear hfz36_1);(try clear hfz42_0);(try clear hfz42_1);(try clear hfz42_2);(try clear hfz46_0);(try clear hfz46_1);(try clear hfz57_0);(try clear hfz57_1);(try clear hfz57_2);(try clear hfz63_0);(try clear hfz63_1);(try clear hfz63_2);(try clear hfz68_0);(try clear hfz68_1);(try clear hfz68_2);(try clear hfz76_0);(try clear hfz76_1);(try clear hfz76_2);(try clear hfz82_0);(try clear hfz82_1);(try clear hfz82_2);(try clear hfz87_0);(try clear hfz87_1);(try clear hfz87_2);(try clear hfz93_0);(try clear hfz93_1);(try clear hfz93_2);(try clear p2);(try clear p6);(try clear p64)
         obtain ⟨kq, x14_137, x212000_137, x212001_137, x212002_137, x214000_137, x215000_137, x215001_137, rfl, HA, HJ137, BK209, BK210, BK211, BK212, BK213, BK214, HB⟩ := hcut
         cases kq with
         | zero => exact absurd HA.out (by simp [value_spans.j7])
         | succ kj137 =>
          have H := HA.out
          clear HA
          simp only [value_spans.j7] at H
          by_cases c217 : x14_137 = true
          ·subst c217
           have H1 : ((value_wide_of.f kj137 x215000_137 x215001_137 x12_46 1).bind fun bt221 => (some (bt221.1, bt221.2.1, bt221.2.2.1, bt221.2.2.2))) = some (r1, r2, r3, r4) := by rw [if_pos rfl] at H; exact H
           clear H
           have H := H1
           clear H1
           replace H := Option.bind_eq_some_iff.mp H
           obtain ⟨⟨t221, t222, t223, t224⟩, A2180, H⟩ := H
           replace H : (some (t221, t222, t223, t224)) = some (r1, r2, r3, r4) := H
           have A218 := Aside0.mk A2180
           clear A2180
           simp only [Option.some.injEq, Prod.mk.injEq] at H
           obtain ⟨rfl, rfl, rfl, rfl⟩ := H
           have hnb219 := NB214_209.out
           have hnc219 := NB209_214.out
           have hnb220 := NB214_210.out
           have hnc220 := NB210_214.out
           have hnb221 := NB214_211.out
           have hnc221 := NB211_214.out
           have hnb222 := NB214_212.out
           have hnc222 := NB212_214.out
           have hnb223 := NB214_213.out
           have hnc223 := NB213_214.out
           have hcz224_0 : wc.cell? ⟨gb214, 0, none⟩ = some (.bool x215000_137) := bc BK214 0
           have hcz224_1 : wc.cell? ⟨gb214, 1, none⟩ = some (.int .u64 x215001_137) := bc BK214 1
           have hfz224_0 := blk_frozen BK214.out 0
           have hfz224_1 := blk_frozen BK214.out 1
           go_wp2_with (first | ((with_reducible refine gate_callee (f := 41) rfl ?_); refine goesL_ (some 146) rfl rfl Try.func41 (by kernel_rfl) rfl #[.agg #[.bool x215000_137, .int .u64 x215001_137], .int .u8 x12_46, .int .i64 1] rfl (by (try simp only [List.map_toArray, List.map_cons, List.map_nil]); first | done | rfl | (simp only [List.length_drop, List.length_take]; rfl)) ?_; (with_reducible refine (value_wide_of.calls kj137 x215000_137 x215001_137 x12_46 1 t221 t222 t223 t224 _ A218.out).mono ?_); rintro e w225 ⟨rfl, hb⟩; refine ⟨_, rfl, ?_⟩; have n0_ := kb BK209 hb; have n1_ := kb BK210 hb; have n2_ := kb BK211 hb; have n3_ := kb BK212 hb; have n4_ := kb BK213 hb; have n5_ := kb BK214 hb; have n6_ := bt HB hb; clear BK209; clear BK210; clear BK211; clear BK212; clear BK213; clear BK214; clear HB; have BK209 := n0_; have BK210 := n1_; have BK211 := n2_; have BK212 := n3_; have BK213 := n4_; have BK214 := n5_; have HB := n6_; clear n0_ n1_ n2_ n3_ n4_ n5_ n6_; (try clear hb); (try clear hb2); (try clear hk); (try clear hi); have hnb226 := NB211_209.out; have hnc226 := NB209_211.out; have hnb227 := NB211_210.out; have hnc227 := NB210_211.out; have hnb228 := NB211_212.out; have hnc228 := NB212_211.out; have hnb229 := NB211_213.out; have hnc229 := NB213_211.out; have hcz230_0 : w225.cell? ⟨gb211, 0, none⟩ = some (.int .u8 x212000_137) := bc BK211 0; have hcz230_1 : w225.cell? ⟨gb211, 1, none⟩ = some (.int .u64 x212001_137) := bc BK211 1; have hcz230_2 : w225.cell? ⟨gb211, 2, none⟩ = some (.string x212002_137) := bc BK211 2; have hfz230_0 := blk_frozen BK211.out 0; have hfz230_1 := blk_frozen BK211.out 1; have hfz230_2 := blk_frozen BK211.out 2))
           refine bodyPost_ret (results_ct rfl _ _ gb211 27 #[.int .u8 t221, .int .u64 t222, .string t223] (0, 0) _ rfl (by (with_reducible repeat (first | refine blk_drewN ?_ _ | refine blk_drew ?_ | refine blk_alloc ?_ _)); refine blk_put (cs := #[.int .u8 t221, .int .u64 t222, .string x212002_137]) ?_ 2 _ rfl; (with_reducible repeat (first | refine blk_drewN ?_ _ | refine blk_drew ?_ | refine blk_alloc ?_ _)); refine blk_put (cs := #[.int .u8 t221, .int .u64 x212001_137, .string x212002_137]) ?_ 1 _ rfl; (with_reducible repeat (first | refine blk_drewN ?_ _ | refine blk_drew ?_ | refine blk_alloc ?_ _)); refine blk_put (cs := #[.int .u8 x212000_137, .int .u64 x212001_137, .string x212002_137]) ?_ 0 _ rfl; (with_reducible repeat (first | refine blk_drewN ?_ _ | refine blk_drew ?_ | refine blk_alloc ?_ _)); exact BK211.out) Try.underlying27 rfl (by kernel_rfl)) rfl ?_
           exact ⟨by first | rfl | (simp [errW_none, errW_some] <;> rfl) | (simp [*, errW_none, errW_some] <;> rfl), bs HB⟩
          ·replace c217 := Bool.eq_false_iff.mpr c217
           subst c217
           have H1 : (some (0, 0, (⟨#[]⟩ : ByteArray), 1)) = some (r1, r2, r3, r4) := by rw [if_neg (show ¬ (false = true) by decide)] at H; exact H
           clear H
           have H := H1
           clear H1
           simp only [Option.some.injEq, Prod.mk.injEq] at H
           obtain ⟨rfl, rfl, rfl, rfl⟩ := H
           have hnb231 := NB211_209.out
           have hnc231 := NB209_211.out
           have hnb232 := NB211_210.out
           have hnc232 := NB210_211.out
           have hnb233 := NB211_212.out
           have hnc233 := NB212_211.out
           have hnb234 := NB211_213.out
           have hnc234 := NB213_211.out
           have hnb235 := NB211_214.out
           have hnc235 := NB214_211.out
           have hcz236_0 : wc.cell? ⟨gb211, 0, none⟩ = some (.int .u8 x212000_137) := bc BK211 0
           have hcz236_1 : wc.cell? ⟨gb211, 1, none⟩ = some (.int .u64 x212001_137) := bc BK211 1
           have hcz236_2 : wc.cell? ⟨gb211, 2, none⟩ = some (.string x212002_137) := bc BK211 2
           have hfz236_0 := blk_frozen BK211.out 0
           have hfz236_1 := blk_frozen BK211.out 1
           have hfz236_2 := blk_frozen BK211.out 2
           go_wp2
           refine bodyPost_ret (results_ct rfl _ _ gb211 27 #[.int .u8 0, .int .u64 0, .string (⟨#[]⟩ : ByteArray)] (0, 0) _ rfl (by (with_reducible repeat (first | refine blk_drewN ?_ _ | refine blk_drew ?_ | refine blk_alloc ?_ _)); refine blk_put (cs := #[.int .u8 0, .int .u64 0, .string x212002_137]) ?_ 2 _ rfl; (with_reducible repeat (first | refine blk_drewN ?_ _ | refine blk_drew ?_ | refine blk_alloc ?_ _)); refine blk_put (cs := #[.int .u8 0, .int .u64 x212001_137, .string x212002_137]) ?_ 1 _ rfl; (with_reducible repeat (first | refine blk_drewN ?_ _ | refine blk_drew ?_ | refine blk_alloc ?_ _)); refine blk_put (cs := #[.int .u8 x212000_137, .int .u64 x212001_137, .string x212002_137]) ?_ 0 _ rfl; (with_reducible repeat (first | refine blk_drewN ?_ _ | refine blk_drew ?_ | refine blk_alloc ?_ _)); exact BK211.out) Try.underlying27 rfl (by kernel_rfl)) rfl ?_
           exact ⟨by first | rfl | (simp [errW_none, errW_some] <;> rfl) | (simp [*, errW_none, errW_some] <;> rfl), bs HB⟩

end Go.Proofs.Ytlmmkaddlflepaa.POrd
