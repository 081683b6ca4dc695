-- by mkprint.py, a program of this session's own
import Derived.Test.YtlmmkaddlflepaaPReck0
import Derived.Test.YtlmmkaddlflepaaPReck12
namespace Go.Proofs.Ytlmmkaddlflepaa.PReck
open Go.RowKit Go.Proofs.YtlmmkaddlflepaaW.PrintWords Go.Proofs.YtlmmkaddlflepaaW.PrintLast Go.Proofs.YtlmmkaddlflepaaW.PrintMore
attribute [local go_sem] max2_int min2_int max_two min_two max_three min_three max_four min_four   -- for this text's walks alone
set_option linter.unusedVariables false
set_option linter.unusedSimpArgs false

attribute [local go_sem] cell_isSome un_neg_float str_gtr str_leq str_geq ext34 ext52
/-! ### relayref01_Result: function 60 -/
mutual
def relayref01_Result.j0 : Nat → Int → Int → Int → Bool → Option (Int)
 | 0, _, _, _, _ => none
 | k + 1, x0, x1, x2, x7 => if x0 ≥ 9 then (if x0 ≤ 14 then (relayref01_Result.j1 k x0 x1 x2 x7 x7) else (relayref01_Result.j1 k x0 x1 x2 x7 false)) else (relayref01_Result.j1 k x0 x1 x2 x7 false)
def relayref01_Result.j1 : Nat → Int → Int → Int → Bool → Bool → Option (Int)
 | 0, _, _, _, _, _ => none
 | k + 1, x0, x1, x2, x7, x15 => if x15 = true then (some 1) else (if x0 ≥ 1 then (if x0 ≤ 5 then (if x7 = true then ((relayref01_Integer.f x1).bind fun t258 => (relayref01_Result.j2 k x0 x1 x2 x7 t258)) else (relayref01_Result.j2 k x0 x1 x2 x7 false)) else (relayref01_Result.j2 k x0 x1 x2 x7 false)) else (relayref01_Result.j2 k x0 x1 x2 x7 false))
def relayref01_Result.j2 : Nat → Int → Int → Int → Bool → Bool → Option (Int)
 | 0, _, _, _, _, _ => none
 | k + 1, x0, x1, x2, x7, x25 => if x25 = true then (some x1) else (if x0 ≥ 1 then (if x0 ≤ 4 then (if x7 = true then (relayref01_Result.j3 k x0 x1 x2 x7 (x1 == 18)) else (relayref01_Result.j3 k x0 x1 x2 x7 false)) else (relayref01_Result.j3 k x0 x1 x2 x7 false)) else (relayref01_Result.j3 k x0 x1 x2 x7 false))
def relayref01_Result.j3 : Nat → Int → Int → Int → Bool → Bool → Option (Int)
 | 0, _, _, _, _, _ => none
 | k + 1, x0, x1, x2, x7, x40 => if x40 = true then (some x1) else (if x0 ≥ 6 then (if x0 ≤ 8 then (if x7 = true then (if x1 = 1 then (relayref01_Result.j4 k x0 x1 x2 x7 true) else ((relayref01_Row.f x1).bind fun t259 => (relayref01_Result.j4 k x0 x1 x2 x7 t259))) else (relayref01_Result.j4 k x0 x1 x2 x7 false)) else (relayref01_Result.j4 k x0 x1 x2 x7 false)) else (relayref01_Result.j4 k x0 x1 x2 x7 false))
def relayref01_Result.j4 : Nat → Int → Int → Int → Bool → Bool → Option (Int)
 | 0, _, _, _, _, _ => none
 | k + 1, x0, x1, x2, x7, x55 => if x55 = true then (some x1) else (if x0 = 1 then (if x7 = true then (relayref01_Result.j5 k x0 x1 x2 x7 (x1 == 14)) else (relayref01_Result.j5 k x0 x1 x2 x7 false)) else (relayref01_Result.j5 k x0 x1 x2 x7 false))
def relayref01_Result.j5 : Nat → Int → Int → Int → Bool → Bool → Option (Int)
 | 0, _, _, _, _, _ => none
 | k + 1, x0, x1, x2, x7, x74 => if x74 = true then (some x1) else (if x0 = 2 then (if x7 = true then ((relayref01_Time.f x1).bind fun t260 => (relayref01_Result.j6 k x0 x1 x2 t260)) else (relayref01_Result.j6 k x0 x1 x2 false)) else (relayref01_Result.j6 k x0 x1 x2 false))
def relayref01_Result.j6 : Nat → Int → Int → Int → Bool → Option (Int)
 | 0, _, _, _, _ => none
 | k + 1, x0, x1, x2, x85 => if x85 = true then (some 14) else (if x0 = 1 then (if x1 = 17 then (relayref01_Result.j7 k x0 x1 x2 (x2 == 14)) else (if x1 = 16 then (relayref01_Result.j7 k x0 x1 x2 (x2 == 14)) else (relayref01_Result.j7 k x0 x1 x2 false))) else (if x0 = 2 then (if x1 = 17 then (relayref01_Result.j7 k x0 x1 x2 (x2 == 14)) else (if x1 = 16 then (relayref01_Result.j7 k x0 x1 x2 (x2 == 14)) else (relayref01_Result.j7 k x0 x1 x2 false))) else (relayref01_Result.j7 k x0 x1 x2 false)))
def relayref01_Result.j7 : Nat → Int → Int → Int → Bool → Option (Int)
 | 0, _, _, _, _ => none
 | k + 1, x0, x1, x2, x95 => if x95 = true then (some x1) else (if x0 = 3 then (if x1 = 14 then (relayref01_Result.j8 k x1 (x2 == 5)) else (relayref01_Result.j8 k x1 false)) else (if x0 = 4 then (if x1 = 14 then (relayref01_Result.j8 k x1 (x2 == 5)) else (relayref01_Result.j8 k x1 false)) else (relayref01_Result.j8 k x1 false)))
def relayref01_Result.j8 : Nat → Int → Bool → Option (Int)
 | 0, _, _ => none
 | k + 1, x1, x115 => if x115 = true then (some x1) else (some 0)
end
def relayref01_Result.f (k : Nat) (a0 : Int) (a1 : Int) (a2 : Int) : Option (Int) := if a1 = a2 then ((relayref01_elementary.f a1).bind fun t257 => (relayref01_Result.j0 k a0 a1 a2 t257)) else (relayref01_Result.j0 k a0 a1 a2 false)
theorem relayref01_Result.mono_l : ∀ k, (∀ y0 y1 y2 y3, LeO (relayref01_Result.j0 k y0 y1 y2 y3) (relayref01_Result.j0 (k + 1) y0 y1 y2 y3)) ∧ (∀ y0 y1 y2 y3 y4, LeO (relayref01_Result.j1 k y0 y1 y2 y3 y4) (relayref01_Result.j1 (k + 1) y0 y1 y2 y3 y4)) ∧ (∀ y0 y1 y2 y3 y4, LeO (relayref01_Result.j2 k y0 y1 y2 y3 y4) (relayref01_Result.j2 (k + 1) y0 y1 y2 y3 y4)) ∧ (∀ y0 y1 y2 y3 y4, LeO (relayref01_Result.j3 k y0 y1 y2 y3 y4) (relayref01_Result.j3 (k + 1) y0 y1 y2 y3 y4)) ∧ (∀ y0 y1 y2 y3 y4, LeO (relayref01_Result.j4 k y0 y1 y2 y3 y4) (relayref01_Result.j4 (k + 1) y0 y1 y2 y3 y4)) ∧ (∀ y0 y1 y2 y3 y4, LeO (relayref01_Result.j5 k y0 y1 y2 y3 y4) (relayref01_Result.j5 (k + 1) y0 y1 y2 y3 y4)) ∧ (∀ y0 y1 y2 y3, LeO (relayref01_Result.j6 k y0 y1 y2 y3) (relayref01_Result.j6 (k + 1) y0 y1 y2 y3)) ∧ (∀ y0 y1 y2 y3, LeO (relayref01_Result.j7 k y0 y1 y2 y3) (relayref01_Result.j7 (k + 1) y0 y1 y2 y3)) ∧ (∀ y0 y1, LeO (relayref01_Result.j8 k y0 y1) (relayref01_Result.j8 (k + 1) y0 y1))
 | 0 => ⟨fun _ _ _ _ r h => by simp [relayref01_Result.j0] at h, fun _ _ _ _ _ r h => by simp [relayref01_Result.j1] at h, fun _ _ _ _ _ r h => by simp [relayref01_Result.j2] at h, fun _ _ _ _ _ r h => by simp [relayref01_Result.j3] at h, fun _ _ _ _ _ r h => by simp [relayref01_Result.j4] at h, fun _ _ _ _ _ r h => by simp [relayref01_Result.j5] at h, fun _ _ _ _ r h => by simp [relayref01_Result.j6] at h, fun _ _ _ _ r h => by simp [relayref01_Result.j7] at h, fun _ _ r h => by simp [relayref01_Result.j8] at h⟩
 | k + 1 => by
  obtain ⟨ih0, ih1, ih2, ih3, ih4, ih5, ih6, ih7, ih8⟩ := relayref01_Result.mono_l k
  refine ⟨?_, ?_, ?_, ?_, ?_, ?_, ?_, ?_, ?_⟩
  ·intro y0 y1 y2 y3
   unfold relayref01_Result.j0
   repeat' first
   | (with_reducible exact ih0 _ _ _ _)
   | (with_reducible exact ih1 _ _ _ _ _)
   | (with_reducible exact ih2 _ _ _ _ _)
   | (with_reducible exact ih3 _ _ _ _ _)
   | (with_reducible exact ih4 _ _ _ _ _)
   | (with_reducible exact ih5 _ _ _ _ _)
   | (with_reducible exact ih6 _ _ _ _)
   | (with_reducible exact ih7 _ _ _ _)
   | (with_reducible exact ih8 _ _)
   | (with_reducible exact LeO.refl _)
   | (with_reducible exact LeO.none _)
   | (with_reducible refine LeO.ite ?_ ?_)
   | (with_reducible refine LeO.bind ?_ (fun _ => ?_))
   | exact ih0 _ _ _ _
   | exact ih1 _ _ _ _ _
   | exact ih2 _ _ _ _ _
   | exact ih3 _ _ _ _ _
   | exact ih4 _ _ _ _ _
   | exact ih5 _ _ _ _ _
   | exact ih6 _ _ _ _
   | exact ih7 _ _ _ _
   | exact ih8 _ _
   | exact LeO.none _
   | refine LeO.ite ?_ ?_
   | refine LeO.bind ?_ (fun _ => ?_)
  ·intro y0 y1 y2 y3 y4
   unfold relayref01_Result.j1
   repeat' first
   | (with_reducible exact ih0 _ _ _ _)
   | (with_reducible exact ih1 _ _ _ _ _)
   | (with_reducible exact ih2 _ _ _ _ _)
   | (with_reducible exact ih3 _ _ _ _ _)
   | (with_reducible exact ih4 _ _ _ _ _)
   | (with_reducible exact ih5 _ _ _ _ _)
   | (with_reducible exact ih6 _ _ _ _)
   | (with_reducible exact ih7 _ _ _ _)
   | (with_reducible exact ih8 _ _)
   | (with_reducible exact LeO.refl _)
   | (with_reducible exact LeO.none _)
   | (with_reducible refine LeO.ite ?_ ?_)
   | (with_reducible refine LeO.bind ?_ (fun _ => ?_))
   | exact ih0 _ _ _ _
   | exact ih1 _ _ _ _ _
   | exact ih2 _ _ _ _ _
   | exact ih3 _ _ _ _ _
   | exact ih4 _ _ _ _ _
   | exact ih5 _ _ _ _ _
   | exact ih6 _ _ _ _
   | exact ih7 _ _ _ _
   | exact ih8 _ _
   | exact LeO.none _
   | refine LeO.ite ?_ ?_
   | refine LeO.bind ?_ (fun _ => ?_)
  ·intro y0 y1 y2 y3 y4
   unfold relayref01_Result.j2
   repeat' first
   | (with_reducible exact ih0 _ _ _ _)
   | (with_reducible exact ih1 _ _ _ _ _)
   | (with_reducible exact ih2 _ _ _ _ _)
   | (with_reducible exact ih3 _ _ _ _ _)
   | (with_reducible exact ih4 _ _ _ _ _)
   | (with_reducible exact ih5 _ _ _ _ _)
   | (with_reducible exact ih6 _ _ _ _)
   | (with_reducible exact ih7 _ _ _ _)
   | (with_reducible exact ih8 _ _)
   | (with_reducible exact LeO.refl _)
   | (with_reducible exact LeO.none _)
   | (with_reducible refine LeO.ite ?_ ?_)
   | (with_reducible refine LeO.bind ?_ (fun _ => ?_))
   | exact ih0 _ _ _ _
   | exact ih1 _ _ _ _ _
   | exact ih2 _ _ _ _ _
   | exact ih3 _ _ _ _ _
   | exact ih4 _ _ _ _ _
   | exact ih5 _ _ _ _ _
   | exact ih6 _ _ _ _
   | exact ih7 _ _ _ _
   | exact ih8 _ _
   | exact LeO.none _
   | refine LeO.ite ?_ ?_
   | refine LeO.bind ?_ (fun _ => ?_)
  ·intro y0 y1 y2 y3 y4
   unfold relayref01_Result.j3
   repeat' first
   | (with_reducible exact ih0 _ _ _ _)
   | (with_reducible exact ih1 _ _ _ _ _)
   | (with_reducible exact ih2 _ _ _ _ _)
   | (with_reducible exact ih3 _ _ _ _ _)
   | (with_reducible exact ih4 _ _ _ _ _)
   | (with_reducible exact ih5 _ _ _ _ _)
   | (with_reducible exact ih6 _ _ _ _)
   | (with_reducible exact ih7 _ _ _ _)
   | (with_reducible exact ih8 _ _)
   | (with_reducible exact LeO.refl _)
   | (with_reducible exact LeO.none _)
   | (with_reducible refine LeO.ite ?_ ?_)
   | (with_reducible refine LeO.bind ?_ (fun _ => ?_))
   | exact ih0 _ _ _ _
   | exact ih1 _ _ _ _ _
   | exact ih2 _ _ _ _ _
   | exact ih3 _ _ _ _ _
   | exact ih4 _ _ _ _ _
   | exact ih5 _ _ _ _ _
   | exact ih6 _ _ _ _
   | exact ih7 _ _ _ _
   | exact ih8 _ _
   | exact LeO.none _
   | refine LeO.ite ?_ ?_
   | refine LeO.bind ?_ (fun _ => ?_)
  ·intro y0 y1 y2 y3 y4
   unfold relayref01_Result.j4
   repeat' first
   | (with_reducible exact ih0 _ _ _ _)
   | (with_reducible exact ih1 _ _ _ _ _)
   | (with_reducible exact ih2 _ _ _ _ _)
   | (with_reducible exact ih3 _ _ _ _ _)
   | (with_reducible exact ih4 _ _ _ _ _)
   | (with_reducible exact ih5 _ _ _ _ _)
   | (with_reducible exact ih6 _ _ _ _)
   | (with_reducible exact ih7 _ _ _ _)
   | (with_reducible exact ih8 _ _)
   | (with_reducible exact LeO.refl _)
   | (with_reducible exact LeO.none _)
   | (with_reducible refine LeO.ite ?_ ?_)
   | (with_reducible refine LeO.bind ?_ (fun _ => ?_))
   | exact ih0 _ _ _ _
   | exact ih1 _ _ _ _ _
   | exact ih2 _ _ _ _ _
   | exact ih3 _ _ _ _ _
   | exact ih4 _ _ _ _ _
   | exact ih5 _ _ _ _ _
   | exact ih6 _ _ _ _
   | exact ih7 _ _ _ _
   | exact ih8 _ _
   | exact LeO.none _
   | refine LeO.ite ?_ ?_
   | refine LeO.bind ?_ (fun _ => ?_)
  ·intro y0 y1 y2 y3 y4
   unfold relayref01_Result.j5
   repeat' first
   | (with_reducible exact ih0 _ _ _ _)
   | (with_reducible exact ih1 _ _ _ _ _)
   | (with_reducible exact ih2 _ _ _ _ _)
   | (with_reducible exact ih3 _ _ _ _ _)
   | (with_reducible exact ih4 _ _ _ _ _)
   | (with_reducible exact ih5 _ _ _ _ _)
   | (with_reducible exact ih6 _ _ _ _)
   | (with_reducible exact ih7 _ _ _ _)
   | (with_reducible exact ih8 _ _)
   | (with_reducible exact LeO.refl _)
   | (with_reducible exact LeO.none _)
   | (with_reducible refine LeO.ite ?_ ?_)
   | (with_reducible refine LeO.bind ?_ (fun _ => ?_))
   | exact ih0 _ _ _ _
   | exact ih1 _ _ _ _ _
   | exact ih2 _ _ _ _ _
   | exact ih3 _ _ _ _ _
   | exact ih4 _ _ _ _ _
   | exact ih5 _ _ _ _ _
   | exact ih6 _ _ _ _
   | exact ih7 _ _ _ _
   | exact ih8 _ _
   | exact LeO.none _
   | refine LeO.ite ?_ ?_
   | refine LeO.bind ?_ (fun _ => ?_)
  ·intro y0 y1 y2 y3
   unfold relayref01_Result.j6
   repeat' first
   | (with_reducible exact ih0 _ _ _ _)
   | (with_reducible exact ih1 _ _ _ _ _)
   | (with_reducible exact ih2 _ _ _ _ _)
   | (with_reducible exact ih3 _ _ _ _ _)
   | (with_reducible exact ih4 _ _ _ _ _)
   | (with_reducible exact ih5 _ _ _ _ _)
   | (with_reducible exact ih6 _ _ _ _)
   | (with_reducible exact ih7 _ _ _ _)
   | (with_reducible exact ih8 _ _)
   | (with_reducible exact LeO.refl _)
   | (with_reducible exact LeO.none _)
   | (with_reducible refine LeO.ite ?_ ?_)
   | (with_reducible refine LeO.bind ?_ (fun _ => ?_))
   | exact ih0 _ _ _ _
   | exact ih1 _ _ _ _ _
   | exact ih2 _ _ _ _ _
   | exact ih3 _ _ _ _ _
   | exact ih4 _ _ _ _ _
   | exact ih5 _ _ _ _ _
   | exact ih6 _ _ _ _
   | exact ih7 _ _ _ _
   | exact ih8 _ _
   | exact LeO.none _
   | refine LeO.ite ?_ ?_
   | refine LeO.bind ?_ (fun _ => ?_)
  ·intro y0 y1 y2 y3
   unfold relayref01_Result.j7
   repeat' first
   | (with_reducible exact ih0 _ _ _ _)
   | (with_reducible exact ih1 _ _ _ _ _)
   | (with_reducible exact ih2 _ _ _ _ _)
   | (with_reducible exact ih3 _ _ _ _ _)
   | (with_reducible exact ih4 _ _ _ _ _)
   | (with_reducible exact ih5 _ _ _ _ _)
   | (with_reducible exact ih6 _ _ _ _)
   | (with_reducible exact ih7 _ _ _ _)
   | (with_reducible exact ih8 _ _)
   | (with_reducible exact LeO.refl _)
   | (with_reducible exact LeO.none _)
   | (with_reducible refine LeO.ite ?_ ?_)
   | (with_reducible refine LeO.bind ?_ (fun _ => ?_))
   | exact ih0 _ _ _ _
   | exact ih1 _ _ _ _ _
   | exact ih2 _ _ _ _ _
   | exact ih3 _ _ _ _ _
   | exact ih4 _ _ _ _ _
   | exact ih5 _ _ _ _ _
   | exact ih6 _ _ _ _
   | exact ih7 _ _ _ _
   | exact ih8 _ _
   | exact LeO.none _
   | refine LeO.ite ?_ ?_
   | refine LeO.bind ?_ (fun _ => ?_)
  ·intro y0 y1
   unfold relayref01_Result.j8
   repeat' first
   | (with_reducible exact ih0 _ _ _ _)
   | (with_reducible exact ih1 _ _ _ _ _)
   | (with_reducible exact ih2 _ _ _ _ _)
   | (with_reducible exact ih3 _ _ _ _ _)
   | (with_reducible exact ih4 _ _ _ _ _)
   | (with_reducible exact ih5 _ _ _ _ _)
   | (with_reducible exact ih6 _ _ _ _)
   | (with_reducible exact ih7 _ _ _ _)
   | (with_reducible exact ih8 _ _)
   | (with_reducible exact LeO.refl _)
   | (with_reducible exact LeO.none _)
   | (with_reducible refine LeO.ite ?_ ?_)
   | (with_reducible refine LeO.bind ?_ (fun _ => ?_))
   | exact ih0 _ _ _ _
   | exact ih1 _ _ _ _ _
   | exact ih2 _ _ _ _ _
   | exact ih3 _ _ _ _ _
   | exact ih4 _ _ _ _ _
   | exact ih5 _ _ _ _ _
   | exact ih6 _ _ _ _
   | exact ih7 _ _ _ _
   | exact ih8 _ _
   | exact LeO.none _
   | refine LeO.ite ?_ ?_
   | refine LeO.bind ?_ (fun _ => ?_)
theorem relayref01_Result.mono : ∀ a0 a1 a2 k, LeO (relayref01_Result.f k a0 a1 a2) (relayref01_Result.f (k + 1) a0 a1 a2) := by
 intro a0 a1 a2 k
 obtain ⟨ih0, ih1, ih2, ih3, ih4, ih5, ih6, ih7, ih8⟩ := relayref01_Result.mono_l k
 unfold relayref01_Result.f
 repeat' first
   | (with_reducible exact ih0 _ _ _ _)
   | (with_reducible exact ih1 _ _ _ _ _)
   | (with_reducible exact ih2 _ _ _ _ _)
   | (with_reducible exact ih3 _ _ _ _ _)
   | (with_reducible exact ih4 _ _ _ _ _)
   | (with_reducible exact ih5 _ _ _ _ _)
   | (with_reducible exact ih6 _ _ _ _)
   | (with_reducible exact ih7 _ _ _ _)
   | (with_reducible exact ih8 _ _)
   | (with_reducible exact LeO.refl _)
   | (with_reducible exact LeO.none _)
   | (with_reducible refine LeO.ite ?_ ?_)
   | (with_reducible refine LeO.bind ?_ (fun _ => ?_))
   | exact ih0 _ _ _ _
   | exact ih1 _ _ _ _ _
   | exact ih2 _ _ _ _ _
   | exact ih3 _ _ _ _ _
   | exact ih4 _ _ _ _ _
   | exact ih5 _ _ _ _ _
   | exact ih6 _ _ _ _
   | exact ih7 _ _ _ _
   | exact ih8 _ _
   | exact LeO.none _
   | refine LeO.ite ?_ ?_
   | refine LeO.bind ?_ (fun _ => ?_)
set_option maxHeartbeats 8000000 in
set_option maxRecDepth 100000 in
theorem relayref01_Result.calls (k : Nat) (a0 : Int) (a1 : Int) (a2 : Int) (r : Int) (w : World) (h : relayref01_Result.f k a0 a1 a2 = some r) :
  Calls Try.prog 60 #[.int .i64 a0, .int .u8 a1, .int .u8 a2] w fun e w' => e = .returned (.int .u8 r) ∧ Drawn0 w w' := by
 have H : (if a1 = a2 then ((relayref01_elementary.f a1).bind fun t257 => (relayref01_Result.j0 k a0 a1 a2 t257)) else (relayref01_Result.j0 k a0 a1 a2 false)) = some r := h
 clear h
 have HC4 := Aside0.mk H
 clear H
 go_enter Try.func60, Try.ntmps60
 go_upto_region 1 with (fail)
 go_cut [7] (fun v7 wc => ∃ (kq : Nat) (x7_3 : Bool), v7 = .bool x7_3 ∧ Aside0 (relayref01_Result.j0 kq a0 a1 a2 x7_3 = some r) ∧ Aside0 (kq ≤ k) ∧ Drawn0 w wc)
 case first =>
  have H := HC4.out
  clear HC4
  by_cases c5 : a1 = a2
  ·rw [if_pos c5] at H
   have c5b0 : (a1 == a2) = true := beq_iff_eq.mpr c5
   have c5b1 : (a1 != a2) = false := bne_eq_false_iff_eq.mpr c5
   clear c5
   (first | rw [c5b0] | (simp only [i64_w, i32_w]; rw [c5b0]) | skip)
   replace H := Option.bind_eq_some_iff.mp H
   obtain ⟨t257, A60, H⟩ := H
   replace H : (relayref01_Result.j0 k a0 a1 a2 t257) = some r := H
   have A6 := Aside0.mk A60
   clear A60
   have H' := Aside0.mk H
   clear H
   go_wp2_with (first | (go_at_call 51; (with_reducible refine (relayref01_elementary.calls a1 t257 _ A6.out).mono ?_); rintro e w' ⟨rfl, ⟨nd, rfl⟩⟩))
   go_meet
   case rel => exact ⟨_, (t257), (by first | rfl | (simp; done) | (simp [*]; done)), H', ⟨by first | omega | exact Nat.le_refl _⟩, by repeat (first | exact Drawn0.refl _ | apply Drawn0.step)⟩
  ·rw [if_neg c5] at H
   have c5b0 : (a1 == a2) = false := beq_eq_false_iff_ne.mpr c5
   have c5b1 : (a1 != a2) = true := bne_iff_ne.mpr c5
   (first | rw [c5b0] | (simp only [i64_w, i32_w]; rw [c5b0]) | skip)
   have H' := Aside0.mk H
   clear H
   go_wp2
   go_meet
   case rel => exact ⟨_, (false), (by first | rfl | (simp; done) | (simp [*]; done)), H', ⟨by first | omega | exact Nat.le_refl _⟩, by repeat (first | exact Drawn0.refl _ | apply Drawn0.step)⟩
 case rest =>
  clear HC4
  (try clear p2);(try clear c5);(try clear c5b0);(try clear c5b1);(try clear c6)
  obtain ⟨kq, x7_3, rfl, HA, HJ3, ⟨mc3, rfl⟩⟩ := hcut
  cases kq with
  | zero => exact absurd HA.out (by simp [relayref01_Result.j0])
  | succ kj3 =>
   have H := HA.out
   clear HA
   simp only [relayref01_Result.j0] at H
   have HC7 := Aside0.mk H
   clear H
   go_upto_region 2 with (fail)
   go_cut [15] (fun v15 wc => ∃ (kq : Nat) (x15_6 : Bool), v15 = .bool x15_6 ∧ Aside0 (relayref01_Result.j1 kq a0 a1 a2 x7_3 x15_6 = some r) ∧ Aside0 (kq ≤ kj3) ∧ Drawn0 w wc)
   case first =>
    have H := HC7.out
    clear HC7
    by_cases c8 : a0 ≥ 9
    ·rw [if_pos c8] at H
     have c8b0 : decide (9 ≤ a0) = true := decide_eq_true c8
     clear c8
     (first | rw [c8b0] | (simp only [i64_w, i32_w]; rw [c8b0]) | skip)
     by_cases c9 : a0 ≤ 14
     ·rw [if_pos c9] at H
      have c9b0 : decide (a0 ≤ 14) = true := decide_eq_true c9
      clear c9
      have H' := Aside0.mk H
      clear H
      go_wp2
      go_meet
      case rel => (try rw [show decide (a0 ≥ 9) = true from by first | assumption | exact decide_eq_true (by assumption)]); (try rw [show decide (a0 ≤ 14) = true from by first | assumption | exact decide_eq_true (by assumption)]); exact ⟨_, (x7_3), (by first | rfl | (simp; done) | (simp [*]; done)), H', ⟨by have := HJ3.out; first | omega | exact Nat.le_refl _⟩, by repeat (first | exact Drawn0.refl _ | apply Drawn0.step)⟩
     ·rw [if_neg c9] at H
      have c9b0 : decide (a0 ≤ 14) = false := decide_eq_false c9
      clear c9
      have H' := Aside0.mk H
      clear H
      go_wp2
      go_meet
      case rel => (try rw [show decide (a0 ≥ 9) = true from by first | assumption | exact decide_eq_true (by assumption)]); (try rw [show decide (a0 ≤ 14) = false from by first | assumption | exact decide_eq_false (by assumption)]); exact ⟨_, (false), (by first | rfl | (simp; done) | (simp [*]; done)), H', ⟨by have := HJ3.out; first | omega | exact Nat.le_refl _⟩, by repeat (first | exact Drawn0.refl _ | apply Drawn0.step)⟩
    ·rw [if_neg c8] at H
     have c8b0 : decide (9 ≤ a0) = false := decide_eq_false c8
     clear c8
     (first | rw [c8b0] | (simp only [i64_w, i32_w]; rw [c8b0]) | skip)
     have H' := Aside0.mk H
     clear H
     go_wp2
     go_meet
     case rel => (try rw [show decide (a0 ≥ 9) = false from by first | assumption | exact decide_eq_false (by assumption)]); exact ⟨_, (false), (by first | rfl | (simp; done) | (simp [*]; done)), H', ⟨by have := HJ3.out; first | omega | exact Nat.le_refl _⟩, by repeat (first | exact Drawn0.refl _ | apply Drawn0.step)⟩
   case rest =>
    clear HC7
    (try clear p2);(try clear c3);(try clear c5);(try clear c5b0);(try clear c5b1);(try clear c6);(try clear c8);(try clear c8b0);(try clear c9);(try clear c9b0);(try clear p2)
    obtain ⟨kq, x15_6, rfl, HA, HJ6, ⟨mc6, rfl⟩⟩ := hcut
    cases kq with
    | zero => exact absurd HA.out (by simp [relayref01_Result.j1])
    | succ kj6 =>
     have H := HA.out
     clear HA
     simp only [relayref01_Result.j1] at H
     by_cases c10 : x15_6 = true
     ·subst c10
      have H1 : (some 1) = some r := by rw [if_pos rfl] at H; exact H
      clear H
      have H := H1
      clear H1
      obtain rfl := Option.some.inj H
      go_wp2
      go_ret
      exact ⟨by first | rfl | (simp; done) | (simp [*]; done), by repeat (first | exact Drawn0.refl _ | apply Drawn0.step)⟩
     ·replace c10 := Bool.eq_false_iff.mpr c10
      subst c10
      have H1 : (if a0 ≥ 1 then (if a0 ≤ 5 then (if x7_3 = true then ((relayref01_Integer.f a1).bind fun t258 => (relayref01_Result.j2 kj6 a0 a1 a2 x7_3 t258)) else (relayref01_Result.j2 kj6 a0 a1 a2 x7_3 false)) else (relayref01_Result.j2 kj6 a0 a1 a2 x7_3 false)) else (relayref01_Result.j2 kj6 a0 a1 a2 x7_3 false)) = some r := by rw [if_neg (show ¬ (false = true) by decide)] at H; exact H
      clear H
      have H := H1
      clear H1
      have HC11 := Aside0.mk H
      clear H
      go_upto_region 4 with (fail)
      go_cut [25] (fun v25 wc => ∃ (kq : Nat) (x25_10 : Bool), v25 = .bool x25_10 ∧ Aside0 (relayref01_Result.j2 kq a0 a1 a2 x7_3 x25_10 = some r) ∧ Aside0 (kq ≤ kj6) ∧ Drawn0 w wc)
      case first =>
       have H := HC11.out
       clear HC11
       by_cases c12 : a0 ≥ 1
       ·rw [if_pos c12] at H
        have c12b0 : decide (1 ≤ a0) = true := decide_eq_true c12
        clear c12
        (first | rw [c12b0] | (simp only [i64_w, i32_w]; rw [c12b0]) | skip)
        by_cases c13 : a0 ≤ 5
        ·rw [if_pos c13] at H
         have c13b0 : decide (a0 ≤ 5) = true := decide_eq_true c13
         clear c13
         by_cases c14 : x7_3 = true
         ·subst c14
          have H1 : ((relayref01_Integer.f a1).bind fun t258 => (relayref01_Result.j2 kj6 a0 a1 a2 true t258)) = some r := by rw [if_pos rfl] at H; exact H
          clear H
          have H := H1
          clear H1
          replace H := Option.bind_eq_some_iff.mp H
          obtain ⟨t258, A150, H⟩ := H
          replace H : (relayref01_Result.j2 kj6 a0 a1 a2 true t258) = some r := H
          have A15 := Aside0.mk A150
          clear A150
          have H' := Aside0.mk H
          clear H
          go_wp2_with (first | (go_at_call 39; (with_reducible refine (relayref01_Integer.calls a1 t258 _ A15.out).mono ?_); rintro e w' ⟨rfl, ⟨nd, rfl⟩⟩))
          go_meet
          case rel => (try rw [show decide (a0 ≥ 1) = true from by first | assumption | exact decide_eq_true (by assumption)]); (try rw [show decide (a0 ≤ 5) = true from by first | assumption | exact decide_eq_true (by assumption)]); exact ⟨_, (t258), (by first | rfl | (simp; done) | (simp [*]; done)), H', ⟨by have := HJ3.out; have := HJ6.out; first | omega | exact Nat.le_refl _⟩, by repeat (first | exact Drawn0.refl _ | apply Drawn0.step)⟩
         ·replace c14 := Bool.eq_false_iff.mpr c14
          subst c14
          have H1 : (relayref01_Result.j2 kj6 a0 a1 a2 false false) = some r := by rw [if_neg (show ¬ (false = true) by decide)] at H; exact H
          clear H
          have H := H1
          clear H1
          have H' := Aside0.mk H
          clear H
          go_wp2
          go_meet
          case rel => (try rw [show decide (a0 ≥ 1) = true from by first | assumption | exact decide_eq_true (by assumption)]); (try rw [show decide (a0 ≤ 5) = true from by first | assumption | exact decide_eq_true (by assumption)]); exact ⟨_, (false), (by first | rfl | (simp; done) | (simp [*]; done)), H', ⟨by have := HJ3.out; have := HJ6.out; first | omega | exact Nat.le_refl _⟩, by repeat (first | exact Drawn0.refl _ | apply Drawn0.step)⟩
        ·rw [if_neg c13] at H
         have c13b0 : decide (a0 ≤ 5) = false := decide_eq_false c13
         clear c13
         have H' := Aside0.mk H
         clear H
         go_wp2
         go_meet
         case rel => (try rw [show decide (a0 ≥ 1) = true from by first | assumption | exact decide_eq_true (by assumption)]); (try rw [show decide (a0 ≤ 5) = false from by first | assumption | exact decide_eq_false (by assumption)]); exact ⟨_, (false), (by first | rfl | (simp; done) | (simp [*]; done)), H', ⟨by have := HJ3.out; have := HJ6.out; first | omega | exact Nat.le_refl _⟩, by repeat (first | exact Drawn0.refl _ | apply Drawn0.step)⟩
       ·rw [if_neg c12] at H
        have c12b0 : decide (1 ≤ a0) = false := decide_eq_false c12
        clear c12
        (first | rw [c12b0] | (simp only [i64_w, i32_w]; rw [c12b0]) | skip)
        have H' := Aside0.mk H
        clear H
        go_wp2
        go_meet
        case rel => (try rw [show decide (a0 ≥ 1) = false from by first | assumption | exact decide_eq_false (by assumption)]); exact ⟨_, (false), (by first | rfl | (simp; done) | (simp [*]; done)), H', ⟨by have := HJ3.out; have := HJ6.out; first | omega | exact Nat.le_refl _⟩, by repeat (first | exact Drawn0.refl _ | apply Drawn0.step)⟩
      case rest =>
       clear HC11
       (try clear c1);(try clear p2);(try clear c3);(try clear c5);(try clear c5b0);(try clear c5b1);(try clear c6);(try clear c8);(try clear c8b0);(try clear c9);(try clear c9b0);(try clear c10);(try clear c12);(try clear c12b0);(try clear c13);(try clear c13b0);(try clear c14);(try clear p2)
       obtain ⟨kq, x25_10, rfl, HA, HJ10, ⟨mc10, rfl⟩⟩ := hcut
       cases kq with
       | zero => exact absurd HA.out (by simp [relayref01_Result.j2])
       | succ kj10 =>
        have H := HA.out
        clear HA
        simp only [relayref01_Result.j2] at H
        by_cases c16 : x25_10 = true
        ·subst c16
         have H1 : (some a1) = some r := by rw [if_pos rfl] at H; exact H
         clear H
         have H := H1
         clear H1
         obtain rfl := Option.some.inj H
         go_wp2
         go_ret
         exact ⟨by first | rfl | (simp; done) | (simp [*]; done), by repeat (first | exact Drawn0.refl _ | apply Drawn0.step)⟩
        ·replace c16 := Bool.eq_false_iff.mpr c16
         subst c16
         have H1 : (if a0 ≥ 1 then (if a0 ≤ 4 then (if x7_3 = true then (relayref01_Result.j3 kj10 a0 a1 a2 x7_3 (a1 == 18)) else (relayref01_Result.j3 kj10 a0 a1 a2 x7_3 false)) else (relayref01_Result.j3 kj10 a0 a1 a2 x7_3 false)) else (relayref01_Result.j3 kj10 a0 a1 a2 x7_3 false)) = some r := by rw [if_neg (show ¬ (false = true) by decide)] at H; exact H
         clear H
         have H := H1
         clear H1
         have HC17 := Aside0.mk H
         clear H
         go_upto_region 6 with (fail)
         go_cut [40] (fun v40 wc => ∃ (kq : Nat) (x40_16 : Bool), v40 = .bool x40_16 ∧ Aside0 (relayref01_Result.j3 kq a0 a1 a2 x7_3 x40_16 = some r) ∧ Aside0 (kq ≤ kj10) ∧ Drawn0 w wc)
         case first =>
          have H := HC17.out
          clear HC17
          by_cases c18 : a0 ≥ 1
          ·rw [if_pos c18] at H
           have c18b0 : decide (1 ≤ a0) = true := decide_eq_true c18
           clear c18
           (first | rw [c18b0] | (simp only [i64_w, i32_w]; rw [c18b0]) | skip)
           by_cases c19 : a0 ≤ 4
           ·rw [if_pos c19] at H
            have c19b0 : decide (a0 ≤ 4) = true := decide_eq_true c19
            clear c19
            by_cases c20 : x7_3 = true
            ·subst c20
             have H1 : (relayref01_Result.j3 kj10 a0 a1 a2 true (a1 == 18)) = some r := by rw [if_pos rfl] at H; exact H
             clear H
             have H := H1
             clear H1
             have H' := Aside0.mk H
             clear H
             go_wp2
             go_meet
             case rel => (try rw [show decide (a0 ≥ 1) = true from by first | assumption | exact decide_eq_true (by assumption)]); (try rw [show decide (a0 ≤ 4) = true from by first | assumption | exact decide_eq_true (by assumption)]); exact ⟨_, ((a1 == 18)), (by first | rfl | (simp; done) | (simp [*]; done)), H', ⟨by have := HJ3.out; have := HJ6.out; have := HJ10.out; first | omega | exact Nat.le_refl _⟩, by repeat (first | exact Drawn0.refl _ | apply Drawn0.step)⟩
            ·replace c20 := Bool.eq_false_iff.mpr c20
             subst c20
             have H1 : (relayref01_Result.j3 kj10 a0 a1 a2 false false) = some r := by rw [if_neg (show ¬ (false = true) by decide)] at H; exact H
             clear H
             have H := H1
             clear H1
             have H' := Aside0.mk H
             clear H
             go_wp2
             go_meet
             case rel => (try rw [show decide (a0 ≥ 1) = true from by first | assumption | exact decide_eq_true (by assumption)]); (try rw [show decide (a0 ≤ 4) = true from by first | assumption | exact decide_eq_true (by assumption)]); exact ⟨_, (false), (by first | rfl | (simp; done) | (simp [*]; done)), H', ⟨by have := HJ3.out; have := HJ6.out; have := HJ10.out; first | omega | exact Nat.le_refl _⟩, by repeat (first | exact Drawn0.refl _ | apply Drawn0.step)⟩
           ·rw [if_neg c19] at H
            have c19b0 : decide (a0 ≤ 4) = false := decide_eq_false c19
            clear c19
            have H' := Aside0.mk H
            clear H
            go_wp2
            go_meet
            case rel => (try rw [show decide (a0 ≥ 1) = true from by first | assumption | exact decide_eq_true (by assumption)]); (try rw [show decide (a0 ≤ 4) = false from by first | assumption | exact decide_eq_false (by assumption)]); exact ⟨_, (false), (by first | rfl | (simp; done) | (simp [*]; done)), H', ⟨by have := HJ3.out; have := HJ6.out; have := HJ10.out; first | omega | exact Nat.le_refl _⟩, by repeat (first | exact Drawn0.refl _ | apply Drawn0.step)⟩
          ·rw [if_neg c18] at H
           have c18b0 : decide (1 ≤ a0) = false := decide_eq_false c18
           clear c18
           (first | rw [c18b0] | (simp only [i64_w, i32_w]; rw [c18b0]) | skip)
           have H' := Aside0.mk H
           clear H
           go_wp2
           go_meet
           case rel => (try rw [show decide (a0 ≥ 1) = false from by first | assumption | exact decide_eq_false (by assumption)]); exact ⟨_, (false), (by first | rfl | (simp; done) | (simp [*]; done)), H', ⟨by have := HJ3.out; have := HJ6.out; have := HJ10.out; first | omega | exact Nat.le_refl _⟩, by repeat (first | exact Drawn0.refl _ | apply Drawn0.step)⟩
         case rest =>
          clear HC17
          (try clear c1);(try clear c2);(try clear p2);(try clear c3);(try clear c5);(try clear c5b0);(try clear c5b1);(try clear c6);(try clear c8);(try clear c8b0);(try clear c9);(try clear c9b0);(try clear c10);(try clear c12);(try clear c12b0);(try clear c13);(try clear c13b0);(try clear c14);(try clear c16);(try clear c18);(try clear c18b0);(try clear c19);(try clear c19b0);(try clear c20);(try clear p2)
          obtain ⟨kq, x40_16, rfl, HA, HJ16, ⟨mc16, rfl⟩⟩ := hcut
          cases kq with
          | zero => exact absurd HA.out (by simp [relayref01_Result.j3])
          | succ kj16 =>
           have H := HA.out
           clear HA
           simp only [relayref01_Result.j3] at H
           by_cases c21 : x40_16 = true
           ·subst c21
            have H1 : (some a1) = some r := by rw [if_pos rfl] at H; exact H
            clear H
            have H := H1
            clear H1
            obtain rfl := Option.some.inj H
            go_wp2
            go_ret
            exact ⟨by first | rfl | (simp; done) | (simp [*]; done), by repeat (first | exact Drawn0.refl _ | apply Drawn0.step)⟩
           ·replace c21 := Bool.eq_false_iff.mpr c21
            subst c21
            have H1 : (if a0 ≥ 6 then (if a0 ≤ 8 then (if x7_3 = true then (if a1 = 1 then (relayref01_Result.j4 kj16 a0 a1 a2 x7_3 true) else ((relayref01_Row.f a1).bind fun t259 => (relayref01_Result.j4 kj16 a0 a1 a2 x7_3 t259))) else (relayref01_Result.j4 kj16 a0 a1 a2 x7_3 false)) else (relayref01_Result.j4 kj16 a0 a1 a2 x7_3 false)) else (relayref01_Result.j4 kj16 a0 a1 a2 x7_3 false)) = some r := by rw [if_neg (show ¬ (false = true) by decide)] at H; exact H
            clear H
            have H := H1
            clear H1
            have HC22 := Aside0.mk H
            clear H
            go_upto_region 8 with (fail)
            go_cut [55] (fun v55 wc => ∃ (kq : Nat) (x55_21 : Bool), v55 = .bool x55_21 ∧ Aside0 (relayref01_Result.j4 kq a0 a1 a2 x7_3 x55_21 = some r) ∧ Aside0 (kq ≤ kj16) ∧ Drawn0 w wc)
            case first =>
             have H := HC22.out
             clear HC22
             by_cases c23 : a0 ≥ 6
             ·rw [if_pos c23] at H
              have c23b0 : decide (6 ≤ a0) = true := decide_eq_true c23
              clear c23
              (first | rw [c23b0] | (simp only [i64_w, i32_w]; rw [c23b0]) | skip)
              by_cases c24 : a0 ≤ 8
              ·rw [if_pos c24] at H
               have c24b0 : decide (a0 ≤ 8) = true := decide_eq_true c24
               clear c24
               by_cases c25 : x7_3 = true
               ·subst c25
                have H1 : (if a1 = 1 then (relayref01_Result.j4 kj16 a0 a1 a2 true true) else ((relayref01_Row.f a1).bind fun t259 => (relayref01_Result.j4 kj16 a0 a1 a2 true t259))) = some r := by rw [if_pos rfl] at H; exact H
                clear H
                have H := H1
                clear H1
                by_cases c26 : a1 = 1
                ·rw [if_pos c26] at H
                 have c26b0 : (a1 == 1) = true := beq_iff_eq.mpr c26
                 have c26b1 : (a1 != 1) = false := bne_eq_false_iff_eq.mpr c26
                 clear c26
                 have H' := Aside0.mk H
                 clear H
                 go_wp2
                 go_meet
                 case rel => (try rw [show decide (a0 ≥ 6) = true from by first | assumption | exact decide_eq_true (by assumption)]); (try rw [show decide (a0 ≤ 8) = true from by first | assumption | exact decide_eq_true (by assumption)]); exact ⟨_, (true), (by first | rfl | (simp; done) | (simp [*]; done)), H', ⟨by have := HJ3.out; have := HJ6.out; have := HJ10.out; have := HJ16.out; first | omega | exact Nat.le_refl _⟩, by repeat (first | exact Drawn0.refl _ | apply Drawn0.step)⟩
                ·rw [if_neg c26] at H
                 have c26b0 : (a1 == 1) = false := beq_eq_false_iff_ne.mpr c26
                 have c26b1 : (a1 != 1) = true := bne_iff_ne.mpr c26
                 replace H := Option.bind_eq_some_iff.mp H
                 obtain ⟨t259, A270, H⟩ := H
                 replace H : (relayref01_Result.j4 kj16 a0 a1 a2 true t259) = some r := H
                 have A27 := Aside0.mk A270
                 clear A270
                 have H' := Aside0.mk H
                 clear H
                 go_wp2_with (first | (go_at_call 47; (with_reducible refine (relayref01_Row.calls a1 t259 _ A27.out).mono ?_); rintro e w' ⟨rfl, ⟨nd, rfl⟩⟩))
                 go_meet
                 case rel => (try rw [show decide (a0 ≥ 6) = true from by first | assumption | exact decide_eq_true (by assumption)]); (try rw [show decide (a0 ≤ 8) = true from by first | assumption | exact decide_eq_true (by assumption)]); exact ⟨_, (t259), (by first | rfl | (simp; done) | (simp [*]; done)), H', ⟨by have := HJ3.out; have := HJ6.out; have := HJ10.out; have := HJ16.out; first | omega | exact Nat.le_refl _⟩, by repeat (first | exact Drawn0.refl _ | apply Drawn0.step)⟩
               ·replace c25 := Bool.eq_false_iff.mpr c25
                subst c25
                have H1 : (relayref01_Result.j4 kj16 a0 a1 a2 false false) = some r := by rw [if_neg (show ¬ (false = true) by decide)] at H; exact H
                clear H
                have H := H1
                clear H1
                have H' := Aside0.mk H
                clear H
                go_wp2
                go_meet
                case rel => (try rw [show decide (a0 ≥ 6) = true from by first | assumption | exact decide_eq_true (by assumption)]); (try rw [show decide (a0 ≤ 8) = true from by first | assumption | exact decide_eq_true (by assumption)]); exact ⟨_, (false), (by first | rfl | (simp; done) | (simp [*]; done)), H', ⟨by have := HJ3.out; have := HJ6.out; have := HJ10.out; have := HJ16.out; first | omega | exact Nat.le_refl _⟩, by repeat (first | exact Drawn0.refl _ | apply Drawn0.step)⟩
              ·rw [if_neg c24] at H
               have c24b0 : decide (a0 ≤ 8) = false := decide_eq_false c24
               clear c24
               have H' := Aside0.mk H
               clear H
               go_wp2
               go_meet
               case rel => (try rw [show decide (a0 ≥ 6) = true from by first | assumption | exact decide_eq_true (by assumption)]); (try rw [show decide (a0 ≤ 8) = false from by first | assumption | exact decide_eq_false (by assumption)]); exact ⟨_, (false), (by first | rfl | (simp; done) | (simp [*]; done)), H', ⟨by have := HJ3.out; have := HJ6.out; have := HJ10.out; have := HJ16.out; first | omega | exact Nat.le_refl _⟩, by repeat (first | exact Drawn0.refl _ | apply Drawn0.step)⟩
             ·rw [if_neg c23] at H
              have c23b0 : decide (6 ≤ a0) = false := decide_eq_false c23
              clear c23
              (first | rw [c23b0] | (simp only [i64_w, i32_w]; rw [c23b0]) | skip)
              have H' := Aside0.mk H
              clear H
              go_wp2
              go_meet
              case rel => (try rw [show decide (a0 ≥ 6) = false from by first | assumption | exact decide_eq_false (by assumption)]); exact ⟨_, (false), (by first | rfl | (simp; done) | (simp [*]; done)), H', ⟨by have := HJ3.out; have := HJ6.out; have := HJ10.out; have := HJ16.out; first | omega | exact Nat.le_refl _⟩, by repeat (first | exact Drawn0.refl _ | apply Drawn0.step)⟩
            case rest =>
             clear HC22
             (try clear c1);(try clear c2);(try clear p2);(try clear c3);(try clear c5);(try clear c5b0);(try clear c5b1);(try clear c6);(try clear c8);(try clear c8b0);(try clear c9);(try clear c9b0);(try clear c10);(try clear c12);(try clear c12b0);(try clear c13);(try clear c13b0);(try clear c14);(try clear c16);(try clear c18);(try clear c18b0);(try clear c19);(try clear c19b0);(try clear c20);(try clear c21);(try clear c23);(try clear c23b0);(try clear c24);(try clear c24b0);(try clear c25);(try clear c26);(try clear c26b0);(try clear c26b1);(try clear p2)
             obtain ⟨kq, x55_21, rfl, HA, HJ21, ⟨mc21, rfl⟩⟩ := hcut
             cases kq with
             | zero => exact absurd HA.out (by simp [relayref01_Result.j4])
             | succ kj21 =>
              have H := HA.out
              clear HA
              simp only [relayref01_Result.j4] at H
              by_cases c28 : x55_21 = true
              ·subst c28
               have H1 : (some a1) = some r := by rw [if_pos rfl] at H; exact H
               clear H
               have H := H1
               clear H1
               obtain rfl := Option.some.inj H
               go_wp2
               go_ret
               exact ⟨by first | rfl | (simp; done) | (simp [*]; done), by repeat (first | exact Drawn0.refl _ | apply Drawn0.step)⟩
              ·replace c28 := Bool.eq_false_iff.mpr c28
               subst c28
               have H1 : (if a0 = 1 then (if x7_3 = true then (relayref01_Result.j5 kj21 a0 a1 a2 x7_3 (a1 == 14)) else (relayref01_Result.j5 kj21 a0 a1 a2 x7_3 false)) else (relayref01_Result.j5 kj21 a0 a1 a2 x7_3 false)) = some r := by rw [if_neg (show ¬ (false = true) by decide)] at H; exact H
               clear H
               have H := H1
               clear H1
               have HC29 := Aside0.mk H
               clear H
               go_upto_region 10 with (fail)
               go_cut [74] (fun v74 wc => ∃ (kq : Nat) (x74_28 : Bool), v74 = .bool x74_28 ∧ Aside0 (relayref01_Result.j5 kq a0 a1 a2 x7_3 x74_28 = some r) ∧ Aside0 (kq ≤ kj21) ∧ Drawn0 w wc)
               case first =>
                have H := HC29.out
                clear HC29
                by_cases c30 : a0 = 1
                ·rw [if_pos c30] at H
                 have c30b0 : (a0 == 1) = true := beq_iff_eq.mpr c30
                 have c30b1 : (a0 != 1) = false := bne_eq_false_iff_eq.mpr c30
                 clear c30
                 (first | rw [c30b0] | (simp only [i64_w, i32_w]; rw [c30b0]) | skip)
                 by_cases c31 : x7_3 = true
                 ·subst c31
                  have H1 : (relayref01_Result.j5 kj21 a0 a1 a2 true (a1 == 14)) = some r := by rw [if_pos rfl] at H; exact H
                  clear H
                  have H := H1
                  clear H1
                  have H' := Aside0.mk H
                  clear H
                  go_wp2
                  go_meet
                  case rel => exact ⟨_, ((a1 == 14)), (by first | rfl | (simp; done) | (simp [*]; done)), H', ⟨by have := HJ3.out; have := HJ6.out; have := HJ10.out; have := HJ16.out; have := HJ21.out; first | omega | exact Nat.le_refl _⟩, by repeat (first | exact Drawn0.refl _ | apply Drawn0.step)⟩
                 ·replace c31 := Bool.eq_false_iff.mpr c31
                  subst c31
                  have H1 : (relayref01_Result.j5 kj21 a0 a1 a2 false false) = some r := by rw [if_neg (show ¬ (false = true) by decide)] at H; exact H
                  clear H
                  have H := H1
                  clear H1
                  have H' := Aside0.mk H
                  clear H
                  go_wp2
                  go_meet
                  case rel => exact ⟨_, (false), (by first | rfl | (simp; done) | (simp [*]; done)), H', ⟨by have := HJ3.out; have := HJ6.out; have := HJ10.out; have := HJ16.out; have := HJ21.out; first | omega | exact Nat.le_refl _⟩, by repeat (first | exact Drawn0.refl _ | apply Drawn0.step)⟩
                ·rw [if_neg c30] at H
                 have c30b0 : (a0 == 1) = false := beq_eq_false_iff_ne.mpr c30
                 have c30b1 : (a0 != 1) = true := bne_iff_ne.mpr c30
                 (first | rw [c30b0] | (simp only [i64_w, i32_w]; rw [c30b0]) | skip)
                 have H' := Aside0.mk H
                 clear H
                 go_wp2
                 go_meet
                 case rel => exact ⟨_, (false), (by first | rfl | (simp; done) | (simp [*]; done)), H', ⟨by have := HJ3.out; have := HJ6.out; have := HJ10.out; have := HJ16.out; have := HJ21.out; first | omega | exact Nat.le_refl _⟩, by repeat (first | exact Drawn0.refl _ | apply Drawn0.step)⟩
               case rest =>
                clear HC29
                (try clear c1);(try clear c2);(try clear p2);(try clear c3);(try clear c5);(try clear c5b0);(try clear c5b1);(try clear c6);(try clear c8);(try clear c8b0);(try clear c9);(try clear c9b0);(try clear c10);(try clear c12);(try clear c12b0);(try clear c13);(try clear c13b0);(try clear c14);(try clear c16);(try clear c18);(try clear c18b0);(try clear c19);(try clear c19b0);(try clear c20);(try clear c21);(try clear c23);(try clear c23b0);(try clear c24);(try clear c24b0);(try clear c25);(try clear c26);(try clear c26b0);(try clear c26b1);(try clear c28);(try clear c30);(try clear c30b0);(try clear c30b1);(try clear c31);(try clear p2)
                obtain ⟨kq, x74_28, rfl, HA, HJ28, ⟨mc28, rfl⟩⟩ := hcut
                cases kq with
                | zero => exact absurd HA.out (by simp [relayref01_Result.j5])
                | succ kj28 =>
                 have H := HA.out
                 clear HA
                 simp only [relayref01_Result.j5] at H
                 by_cases c32 : x74_28 = true
                 ·subst c32
                  have H1 : (some a1) = some r := by rw [if_pos rfl] at H; exact H
                  clear H
                  have H := H1
                  clear H1
                  obtain rfl := Option.some.inj H
                  go_wp2
                  go_ret
                  exact ⟨by first | rfl | (simp; done) | (simp [*]; done), by repeat (first | exact Drawn0.refl _ | apply Drawn0.step)⟩
                 ·replace c32 := Bool.eq_false_iff.mpr c32
                  subst c32
                  have H1 : (if a0 = 2 then (if x7_3 = true then ((relayref01_Time.f a1).bind fun t260 => (relayref01_Result.j6 kj28 a0 a1 a2 t260)) else (relayref01_Result.j6 kj28 a0 a1 a2 false)) else (relayref01_Result.j6 kj28 a0 a1 a2 false)) = some r := by rw [if_neg (show ¬ (false = true) by decide)] at H; exact H
                  clear H
                  have H := H1
                  clear H1
                  have HC33 := Aside0.mk H
                  clear H
                  go_upto_region 12 with (fail)
                  go_cut [85] (fun v85 wc => ∃ (kq : Nat) (x85_32 : Bool), v85 = .bool x85_32 ∧ Aside0 (relayref01_Result.j6 kq a0 a1 a2 x85_32 = some r) ∧ Aside0 (kq ≤ kj28) ∧ Drawn0 w wc)
                  case first =>
                   have H := HC33.out
                   clear HC33
                   by_cases c34 : a0 = 2
                   ·rw [if_pos c34] at H
                    have c34b0 : (a0 == 2) = true := beq_iff_eq.mpr c34
                    have c34b1 : (a0 != 2) = false := bne_eq_false_iff_eq.mpr c34
                    clear c34
                    (first | rw [c34b0] | (simp only [i64_w, i32_w]; rw [c34b0]) | skip)
                    by_cases c35 : x7_3 = true
                    ·subst c35
                     have H1 : ((relayref01_Time.f a1).bind fun t260 => (relayref01_Result.j6 kj28 a0 a1 a2 t260)) = some r := by rw [if_pos rfl] at H; exact H
                     clear H
                     have H := H1
                     clear H1
                     replace H := Option.bind_eq_some_iff.mp H
                     obtain ⟨t260, A360, H⟩ := H
                     replace H : (relayref01_Result.j6 kj28 a0 a1 a2 t260) = some r := H
                     have A36 := Aside0.mk A360
                     clear A360
                     have H' := Aside0.mk H
                     clear H
                     go_wp2_with (first | (go_at_call 50; (with_reducible refine (relayref01_Time.calls a1 t260 _ A36.out).mono ?_); rintro e w' ⟨rfl, ⟨nd, rfl⟩⟩))
                     go_meet
                     case rel => exact ⟨_, (t260), (by first | rfl | (simp; done) | (simp [*]; done)), H', ⟨by have := HJ3.out; have := HJ6.out; have := HJ10.out; have := HJ16.out; have := HJ21.out; have := HJ28.out; first | omega | exact Nat.le_refl _⟩, by repeat (first | exact Drawn0.refl _ | apply Drawn0.step)⟩
                    ·replace c35 := Bool.eq_false_iff.mpr c35
                     subst c35
                     have H1 : (relayref01_Result.j6 kj28 a0 a1 a2 false) = some r := by rw [if_neg (show ¬ (false = true) by decide)] at H; exact H
                     clear H
                     have H := H1
                     clear H1
                     have H' := Aside0.mk H
                     clear H
                     go_wp2
                     go_meet
                     case rel => exact ⟨_, (false), (by first | rfl | (simp; done) | (simp [*]; done)), H', ⟨by have := HJ3.out; have := HJ6.out; have := HJ10.out; have := HJ16.out; have := HJ21.out; have := HJ28.out; first | omega | exact Nat.le_refl _⟩, by repeat (first | exact Drawn0.refl _ | apply Drawn0.step)⟩
                   ·rw [if_neg c34] at H
                    have c34b0 : (a0 == 2) = false := beq_eq_false_iff_ne.mpr c34
                    have c34b1 : (a0 != 2) = true := bne_iff_ne.mpr c34
                    (first | rw [c34b0] | (simp only [i64_w, i32_w]; rw [c34b0]) | skip)
                    have H' := Aside0.mk H
                    clear H
                    go_wp2
                    go_meet
                    case rel => exact ⟨_, (false), (by first | rfl | (simp; done) | (simp [*]; done)), H', ⟨by have := HJ3.out; have := HJ6.out; have := HJ10.out; have := HJ16.out; have := HJ21.out; have := HJ28.out; first | omega | exact Nat.le_refl _⟩, by repeat (first | exact Drawn0.refl _ | apply Drawn0.step)⟩
                  case rest =>
                   clear HC33
                   (try clear c1);(try clear c2);(try clear p2);(try clear c3);(try clear c5);(try clear c5b0);(try clear c5b1);(try clear c6);(try clear c8);(try clear c8b0);(try clear c9);(try clear c9b0);(try clear c10);(try clear c12);(try clear c12b0);(try clear c13);(try clear c13b0);(try clear c14);(try clear c16);(try clear c18);(try clear c18b0);(try clear c19);(try clear c19b0);(try clear c20);(try clear c21);(try clear c23);(try clear c23b0);(try clear c24);(try clear c24b0);(try clear c25);(try clear c26);(try clear c26b0);(try clear c26b1);(try clear c28);(try clear c30);(try clear c30b0);(try clear c30b1);(try clear c31);(try clear c32);(try clear c34);(try clear c34b0);(try clear c34b1);(try clear c35);(try clear p2)
                   obtain ⟨kq, x85_32, rfl, HA, HJ32, ⟨mc32, rfl⟩⟩ := hcut
                   cases kq with
                   | zero => exact absurd HA.out (by simp [relayref01_Result.j6])
                   | succ kj32 =>
                    have H := HA.out
                    clear HA
                    simp only [relayref01_Result.j6] at H
                    by_cases c37 : x85_32 = true
                    ·subst c37
                     have H1 : (some 14) = some r := by rw [if_pos rfl] at H; exact H
                     clear H
                     have H := H1
                     clear H1
                     obtain rfl := Option.some.inj H
                     go_wp2
                     go_ret
                     exact ⟨by first | rfl | (simp; done) | (simp [*]; done), by repeat (first | exact Drawn0.refl _ | apply Drawn0.step)⟩
                    ·replace c37 := Bool.eq_false_iff.mpr c37
                     subst c37
                     have H1 : (if a0 = 1 then (if a1 = 17 then (relayref01_Result.j7 kj32 a0 a1 a2 (a2 == 14)) else (if a1 = 16 then (relayref01_Result.j7 kj32 a0 a1 a2 (a2 == 14)) else (relayref01_Result.j7 kj32 a0 a1 a2 false))) else (if a0 = 2 then (if a1 = 17 then (relayref01_Result.j7 kj32 a0 a1 a2 (a2 == 14)) else (if a1 = 16 then (relayref01_Result.j7 kj32 a0 a1 a2 (a2 == 14)) else (relayref01_Result.j7 kj32 a0 a1 a2 false))) else (relayref01_Result.j7 kj32 a0 a1 a2 false))) = some r := by rw [if_neg (show ¬ (false = true) by decide)] at H; exact H
                     clear H
                     have H := H1
                     clear H1
                     have HC38 := Aside0.mk H
                     clear H
                     go_upto_region 14 with (fail)
                     go_cut [95] (fun v95 wc => ∃ (kq : Nat) (x95_37 : Bool), v95 = .bool x95_37 ∧ Aside0 (relayref01_Result.j7 kq a0 a1 a2 x95_37 = some r) ∧ Aside0 (kq ≤ kj32) ∧ Drawn0 w wc)
                     case first =>
                      have H := HC38.out
                      clear HC38
                      by_cases c39 : a0 = 1
                      ·rw [if_pos c39] at H
                       have c39b0 : (a0 == 1) = true := beq_iff_eq.mpr c39
                       have c39b1 : (a0 != 1) = false := bne_eq_false_iff_eq.mpr c39
                       clear c39
                       (first | rw [c39b0] | (simp only [i64_w, i32_w]; rw [c39b0]) | skip)
                       by_cases c40 : a1 = 17
                       ·rw [if_pos c40] at H
                        have c40b0 : (a1 == 17) = true := beq_iff_eq.mpr c40
                        have c40b1 : (a1 != 17) = false := bne_eq_false_iff_eq.mpr c40
                        clear c40
                        have H' := Aside0.mk H
                        clear H
                        go_wp2
                        go_meet
                        case rel => exact ⟨_, ((a2 == 14)), (by first | rfl | (simp; done) | (simp [*]; done)), H', ⟨by have := HJ3.out; have := HJ6.out; have := HJ10.out; have := HJ16.out; have := HJ21.out; have := HJ28.out; have := HJ32.out; first | omega | exact Nat.le_refl _⟩, by repeat (first | exact Drawn0.refl _ | apply Drawn0.step)⟩
                       ·rw [if_neg c40] at H
                        have c40b0 : (a1 == 17) = false := beq_eq_false_iff_ne.mpr c40
                        have c40b1 : (a1 != 17) = true := bne_iff_ne.mpr c40
                        by_cases c41 : a1 = 16
                        ·rw [if_pos c41] at H
                         have c41b0 : (a1 == 16) = true := beq_iff_eq.mpr c41
                         have c41b1 : (a1 != 16) = false := bne_eq_false_iff_eq.mpr c41
                         clear c41
                         have H' := Aside0.mk H
                         clear H
                         go_wp2
                         go_meet
                         case rel => exact ⟨_, ((a2 == 14)), (by first | rfl | (simp; done) | (simp [*]; done)), H', ⟨by have := HJ3.out; have := HJ6.out; have := HJ10.out; have := HJ16.out; have := HJ21.out; have := HJ28.out; have := HJ32.out; first | omega | exact Nat.le_refl _⟩, by repeat (first | exact Drawn0.refl _ | apply Drawn0.step)⟩
                        ·rw [if_neg c41] at H
                         have c41b0 : (a1 == 16) = false := beq_eq_false_iff_ne.mpr c41
                         have c41b1 : (a1 != 16) = true := bne_iff_ne.mpr c41
                         have H' := Aside0.mk H
                         clear H
                         go_wp2
                         go_meet
                         case rel => exact ⟨_, (false), (by first | rfl | (simp; done) | (simp [*]; done)), H', ⟨by have := HJ3.out; have := HJ6.out; have := HJ10.out; have := HJ16.out; have := HJ21.out; have := HJ28.out; have := HJ32.out; first | omega | exact Nat.le_refl _⟩, by repeat (first | exact Drawn0.refl _ | apply Drawn0.step)⟩
                      ·rw [if_neg c39] at H
                       have c39b0 : (a0 == 1) = false := beq_eq_false_iff_ne.mpr c39
                       have c39b1 : (a0 != 1) = true := bne_iff_ne.mpr c39
                       (first | rw [c39b0] | (simp only [i64_w, i32_w]; rw [c39b0]) | skip)
                       by_cases c42 : a0 = 2
                       ·rw [if_pos c42] at H
                        have c42b0 : (a0 == 2) = true := beq_iff_eq.mpr c42
                        have c42b1 : (a0 != 2) = false := bne_eq_false_iff_eq.mpr c42
                        clear c42
                        by_cases c43 : a1 = 17
                        ·rw [if_pos c43] at H
                         have c43b0 : (a1 == 17) = true := beq_iff_eq.mpr c43
                         have c43b1 : (a1 != 17) = false := bne_eq_false_iff_eq.mpr c43
                         clear c43
                         have H' := Aside0.mk H
                         clear H
                         go_wp2
                         go_meet
                         case rel => exact ⟨_, ((a2 == 14)), (by first | rfl | (simp; done) | (simp [*]; done)), H', ⟨by have := HJ3.out; have := HJ6.out; have := HJ10.out; have := HJ16.out; have := HJ21.out; have := HJ28.out; have := HJ32.out; first | omega | exact Nat.le_refl _⟩, by repeat (first | exact Drawn0.refl _ | apply Drawn0.step)⟩
                        ·rw [if_neg c43] at H
                         have c43b0 : (a1 == 17) = false := beq_eq_false_iff_ne.mpr c43
                         have c43b1 : (a1 != 17) = true := bne_iff_ne.mpr c43
                         by_cases c44 : a1 = 16
                         ·rw [if_pos c44] at H
                          have c44b0 : (a1 == 16) = true := beq_iff_eq.mpr c44
                          have c44b1 : (a1 != 16) = false := bne_eq_false_iff_eq.mpr c44
                          clear c44
                          have H' := Aside0.mk H
                          clear H
                          go_wp2
                          go_meet
                          case rel => exact ⟨_, ((a2 == 14)), (by first | rfl | (simp; done) | (simp [*]; done)), H', ⟨by have := HJ3.out; have := HJ6.out; have := HJ10.out; have := HJ16.out; have := HJ21.out; have := HJ28.out; have := HJ32.out; first | omega | exact Nat.le_refl _⟩, by repeat (first | exact Drawn0.refl _ | apply Drawn0.step)⟩
                         ·rw [if_neg c44] at H
                          have c44b0 : (a1 == 16) = false := beq_eq_false_iff_ne.mpr c44
                          have c44b1 : (a1 != 16) = true := bne_iff_ne.mpr c44
                          have H' := Aside0.mk H
                          clear H
                          go_wp2
                          go_meet
                          case rel => exact ⟨_, (false), (by first | rfl | (simp; done) | (simp [*]; done)), H', ⟨by have := HJ3.out; have := HJ6.out; have := HJ10.out; have := HJ16.out; have := HJ21.out; have := HJ28.out; have := HJ32.out; first | omega | exact Nat.le_refl _⟩, by repeat (first | exact Drawn0.refl _ | apply Drawn0.step)⟩
                       ·rw [if_neg c42] at H
                        have c42b0 : (a0 == 2) = false := beq_eq_false_iff_ne.mpr c42
                        have c42b1 : (a0 != 2) = true := bne_iff_ne.mpr c42
                        have H' := Aside0.mk H
                        clear H
                        go_wp2
                        go_meet
                        case rel => exact ⟨_, (false), (by first | rfl | (simp; done) | (simp [*]; done)), H', ⟨by have := HJ3.out; have := HJ6.out; have := HJ10.out; have := HJ16.out; have := HJ21.out; have := HJ28.out; have := HJ32.out; first | omega | exact Nat.le_refl _⟩, by repeat (first | exact Drawn0.refl _ | apply Drawn0.step)⟩
                     case rest =>
                      clear HC38
                      (try clear c1);(try clear c2);(try clear p2);(try clear c3);(try clear c4);(try clear c5);(try clear c5b0);(try clear c5b1);(try clear c6);(try clear c8);(try clear c8b0);(try clear c9);(try clear c9b0);(try clear c10);(try clear c12);(try clear c12b0);(try clear c13);(try clear c13b0);(try clear c14);(try clear c16);(try clear c18);(try clear c18b0);(try clear c19);(try clear c19b0);(try clear c20);(try clear c21);(try clear c23);(try clear c23b0);(try clear c24);(try clear c24b0);(try clear c25);(try clear c26);(try clear c26b0);(try clear c26b1);(try clear c28);(try clear c30);(try clear c30b0);(try clear c30b1);(try clear c31);(try clear c32);(try clear c34);(try clear c34b0);(try clear c34b1);(try clear c35);(try clear c37);(try clear c39);(try clear c39b0);(try clear c39b1);(try clear c40);(try clear c40b0);(try clear c40b1);(try clear c41);(try clear c41b0);(try clear c41b1);(try clear c42);(try clear c42b0);(try clear c42b1);(try clear c43);(try clear c43b0);(try clear c43b1);(try clear c44);(try clear c44b0);(try clear c44b1);(try clear p2)
                      obtain ⟨kq, x95_37, rfl, HA, HJ37, ⟨mc37, rfl⟩⟩ := hcut
                      cases kq with
                      | zero => exact absurd HA.out (by simp [relayref01_Result.j7])
                      | succ kj37 =>
                       have H := HA.out
                       clear HA
                       simp only [relayref01_Result.j7] at H
                       by_cases c45 : x95_37 = true
                       ·subst c45
                        have H1 : (some a1) = some r := by rw [if_pos rfl] at H; exact H
                        clear H
                        have H := H1
                        clear H1
                        obtain rfl := Option.some.inj H
                        go_wp2
                        go_ret
                        exact ⟨by first | rfl | (simp; done) | (simp [*]; done), by repeat (first | exact Drawn0.refl _ | apply Drawn0.step)⟩
                       ·replace c45 := Bool.eq_false_iff.mpr c45
                        subst c45
                        have H1 : (if a0 = 3 then (if a1 = 14 then (relayref01_Result.j8 kj37 a1 (a2 == 5)) else (relayref01_Result.j8 kj37 a1 false)) else (if a0 = 4 then (if a1 = 14 then (relayref01_Result.j8 kj37 a1 (a2 == 5)) else (relayref01_Result.j8 kj37 a1 false)) else (relayref01_Result.j8 kj37 a1 false))) = some r := by rw [if_neg (show ¬ (false = true) by decide)] at H; exact H
                        clear H
                        have H := H1
                        clear H1
                        have HC46 := Aside0.mk H
                        clear H
                        go_upto_region 16 with (fail)
                        go_cut [115] (fun v115 wc => ∃ (kq : Nat) (x115_45 : Bool), v115 = .bool x115_45 ∧ Aside0 (relayref01_Result.j8 kq a1 x115_45 = some r) ∧ Aside0 (kq ≤ kj37) ∧ Drawn0 w wc)
                        case first =>
                         have H := HC46.out
                         clear HC46
                         by_cases c47 : a0 = 3
                         ·rw [if_pos c47] at H
                          have c47b0 : (a0 == 3) = true := beq_iff_eq.mpr c47
                          have c47b1 : (a0 != 3) = false := bne_eq_false_iff_eq.mpr c47
                          clear c47
                          (first | rw [c47b0] | (simp only [i64_w, i32_w]; rw [c47b0]) | skip)
                          by_cases c48 : a1 = 14
                          ·rw [if_pos c48] at H
                           have c48b0 : (a1 == 14) = true := beq_iff_eq.mpr c48
                           have c48b1 : (a1 != 14) = false := bne_eq_false_iff_eq.mpr c48
                           clear c48
                           have H' := Aside0.mk H
                           clear H
                           go_wp2
                           go_meet
                           case rel => exact ⟨_, ((a2 == 5)), (by first | rfl | (simp; done) | (simp [*]; done)), H', ⟨by have := HJ3.out; have := HJ6.out; have := HJ10.out; have := HJ16.out; have := HJ21.out; have := HJ28.out; have := HJ32.out; have := HJ37.out; first | omega | exact Nat.le_refl _⟩, by repeat (first | exact Drawn0.refl _ | apply Drawn0.step)⟩
                          ·rw [if_neg c48] at H
                           have c48b0 : (a1 == 14) = false := beq_eq_false_iff_ne.mpr c48
                           have c48b1 : (a1 != 14) = true := bne_iff_ne.mpr c48
                           have H' := Aside0.mk H
                           clear H
                           go_wp2
                           go_meet
                           case rel => exact ⟨_, (false), (by first | rfl | (simp; done) | (simp [*]; done)), H', ⟨by have := HJ3.out; have := HJ6.out; have := HJ10.out; have := HJ16.out; have := HJ21.out; have := HJ28.out; have := HJ32.out; have := HJ37.out; first | omega | exact Nat.le_refl _⟩, by repeat (first | exact Drawn0.refl _ | apply Drawn0.step)⟩
                         ·rw [if_neg c47] at H
                          have c47b0 : (a0 == 3) = false := beq_eq_false_iff_ne.mpr c47
                          have c47b1 : (a0 != 3) = true := bne_iff_ne.mpr c47
                          (first | rw [c47b0] | (simp only [i64_w, i32_w]; rw [c47b0]) | skip)
                          by_cases c49 : a0 = 4
                          ·rw [if_pos c49] at H
                           have c49b0 : (a0 == 4) = true := beq_iff_eq.mpr c49
                           have c49b1 : (a0 != 4) = false := bne_eq_false_iff_eq.mpr c49
                           clear c49
                           by_cases c50 : a1 = 14
                           ·rw [if_pos c50] at H
                            have c50b0 : (a1 == 14) = true := beq_iff_eq.mpr c50
                            have c50b1 : (a1 != 14) = false := bne_eq_false_iff_eq.mpr c50
                            clear c50
                            have H' := Aside0.mk H
                            clear H
                            go_wp2
                            go_meet
                            case rel => exact ⟨_, ((a2 == 5)), (by first | rfl | (simp; done) | (simp [*]; done)), H', ⟨by have := HJ3.out; have := HJ6.out; have := HJ10.out; have := HJ16.out; have := HJ21.out; have := HJ28.out; have := HJ32.out; have := HJ37.out; first | omega | exact Nat.le_refl _⟩, by repeat (first | exact Drawn0.refl _ | apply Drawn0.step)⟩
                           ·rw [if_neg c50] at H
                            have c50b0 : (a1 == 14) = false := beq_eq_false_iff_ne.mpr c50
                            have c50b1 : (a1 != 14) = true := bne_iff_ne.mpr c50
                            have H' := Aside0.mk H
                            clear H
                            go_wp2
                            go_meet
                            case rel => exact ⟨_, (false), (by first | rfl | (simp; done) | (simp [*]; done)), H', ⟨by have := HJ3.out; have := HJ6.out; have := HJ10.out; have := HJ16.out; have := HJ21.out; have := HJ28.out; have := HJ32.out; have := HJ37.out; first | omega | exact Nat.le_refl _⟩, by repeat (first | exact Drawn0.refl _ | apply Drawn0.step)⟩
                          ·rw [if_neg c49] at H
                           have c49b0 : (a0 == 4) = false := beq_eq_false_iff_ne.mpr c49
                           have c49b1 : (a0 != 4) = true := bne_iff_ne.mpr c49
                           have H' := Aside0.mk H
                           clear H
                           go_wp2
                           go_meet
                           case rel => exact ⟨_, (false), (by first | rfl | (simp; done) | (simp [*]; done)), H', ⟨by have := HJ3.out; have := HJ6.out; have := HJ10.out; have := HJ16.out; have := HJ21.out; have := HJ28.out; have := HJ32.out; have := HJ37.out; first | omega | exact Nat.le_refl _⟩, by repeat (first | exact Drawn0.refl _ | apply Drawn0.step)⟩
                        case rest =>
                         clear HC46
                         (try clear c1);(try clear c2);(try clear p2);(try clear c3);(try clear c4);(try clear c5);(try clear c5b0);(try clear c5b1);(try clear c6);(try clear c8);(try clear c8b0);(try clear c9);(try clear c9b0);(try clear c10);(try clear c12);(try clear c12b0);(try clear c13);(try clear c13b0);(try clear c14);(try clear c16);(try clear c18);(try clear c18b0);(try clear c19);(try clear c19b0);(try clear c20);(try clear c21);(try clear c23);(try clear c23b0);(try clear c24);(try clear c24b0);(try clear c25);(try clear c26);(try clear c26b0);(try clear c26b1);(try clear c28);(try clear c30);(try clear c30b0);(try clear c30b1);(try clear c31);(try clear c32);(try clear c34);(try clear c34b0);(try clear c34b1);(try clear c35);(try clear c37);(try clear c39);(try clear c39b0);(try clear c39b1);(try clear c40);(try clear c40b0);(try clear c40b1);(try clear c41);(try clear c41b0);(try clear c41b1);(try clear c42);(try clear c42b0);(try clear c42b1);(try clear c43);(try clear c43b0);(try clear c43b1);(try clear c44);(try clear c44b0);(try clear c44b1);(try clear c45);(try clear c47);(try clear c47b0);(try clear c47b1);(try clear c48);(try clear c48b0);(try clear c48b1);(try clear c49);(try clear c49b0);(try clear c49b1);(try clear c50);(try clear c50b0);(try clear c50b1);(try clear p2)
                         obtain ⟨kq, x115_45, rfl, HA, HJ45, ⟨mc45, rfl⟩⟩ := hcut
                         cases kq with
                         | zero => exact absurd HA.out (by simp [relayref01_Result.j8])
                         | succ kj45 =>
                          have H := HA.out
                          clear HA
                          simp only [relayref01_Result.j8] at H
                          by_cases c51 : x115_45 = true
                          ·subst c51
                           have H1 : (some a1) = some r := by rw [if_pos rfl] at H; exact H
                           clear H
                           have H := H1
                           clear H1
                           obtain rfl := Option.some.inj H
                           go_wp2
                           go_ret
                           exact ⟨by first | rfl | (simp; done) | (simp [*]; done), by repeat (first | exact Drawn0.refl _ | apply Drawn0.step)⟩
                          ·replace c51 := Bool.eq_false_iff.mpr c51
                           subst c51
                           have H1 : (some 0) = some r := by rw [if_neg (show ¬ (false = true) by decide)] at H; exact H
                           clear H
                           have H := H1
                           clear H1
                           obtain rfl := Option.some.inj H
                           go_wp2
                           go_ret
                           exact ⟨by first | rfl | (simp; done) | (simp [*]; done), by repeat (first | exact Drawn0.refl _ | apply Drawn0.step)⟩

end Go.Proofs.Ytlmmkaddlflepaa.PReck
