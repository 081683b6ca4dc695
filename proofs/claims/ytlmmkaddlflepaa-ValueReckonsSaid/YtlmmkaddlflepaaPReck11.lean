-- by mkprint.py, a program of this session's own
import Derived.Test.YtlmmkaddlflepaaPReck0
namespace Go.Proofs.Ytlmmkaddlflepaa.PReck
open Go.RowKit Go.Proofs.YtlmmkaddlflepaaW.PrintWords Go.Proofs.YtlmmkaddlflepaaW.PrintLast Go.Proofs.YtlmmkaddlflepaaW.PrintMore
attribute [local go_sem] max2_int min2_int max_two min_two max_three min_three max_four min_four   -- for this text's walks alone
set_option linter.unusedVariables false
set_option linter.unusedSimpArgs false

attribute [local go_sem] cell_isSome un_neg_float str_gtr str_leq str_geq ext34 ext52
/-! ### relayref01_signed: function 45 -/
mutual
def relayref01_signed.j0 : Nat → Int → Bool → Option (Int × Int)
 | 0, _, _ => none
 | k + 1, x8, x39 => if x39 = true then (some (0, 1)) else (some (x8, 0))
def relayref01_signed.j1 : Nat → Int → Bool → Option (Int × Int)
 | 0, _, _ => none
 | k + 1, x9, x67 => if x67 = true then (some (0, 1)) else (some (x9, 0))
def relayref01_signed.j2 : Nat → Int → Int → Bool → Option (Int × Int)
 | 0, _, _, _ => none
 | k + 1, x1, x2, x76 => if x76 = true then (some (0, 0)) else (if x1 = (-1) then (if x2 = (-9223372036854775808) then (relayref01_signed.j3 k (wrap64 (x1 * x2)) true) else (if x2 = (-1) then (if x1 = (-9223372036854775808) then (relayref01_signed.j3 k (wrap64 (x1 * x2)) true) else (if x2 = 0 then (none) else (relayref01_signed.j3 k (wrap64 (x1 * x2)) ((wrap64 (Int.tdiv (wrap64 (x1 * x2)) x2)) != x1)))) else (if x2 = 0 then (none) else (relayref01_signed.j3 k (wrap64 (x1 * x2)) ((wrap64 (Int.tdiv (wrap64 (x1 * x2)) x2)) != x1))))) else (if x2 = (-1) then (if x1 = (-9223372036854775808) then (relayref01_signed.j3 k (wrap64 (x1 * x2)) true) else (if x2 = 0 then (none) else (relayref01_signed.j3 k (wrap64 (x1 * x2)) ((wrap64 (Int.tdiv (wrap64 (x1 * x2)) x2)) != x1)))) else (if x2 = 0 then (none) else (relayref01_signed.j3 k (wrap64 (x1 * x2)) ((wrap64 (Int.tdiv (wrap64 (x1 * x2)) x2)) != x1)))))
def relayref01_signed.j3 : Nat → Int → Bool → Option (Int × Int)
 | 0, _, _ => none
 | k + 1, x10, x102 => if x102 = true then (some (0, 1)) else (some (x10, 0))
def relayref01_signed.f : Nat → Int → Int → Int → Option (Int × Int)
 | 0, _, _, _ => none
 | k + 1, a0, a1, a2 => if a0 = 1 then (if a1 > 0 then (if a2 > 0 then (if (wrap64 (a1 + a2)) < 0 then (relayref01_signed.j0 k (wrap64 (a1 + a2)) true) else (if a1 < 0 then (if a2 < 0 then (relayref01_signed.j0 k (wrap64 (a1 + a2)) (decide ((wrap64 (a1 + a2)) ≥ 0))) else (relayref01_signed.j0 k (wrap64 (a1 + a2)) false)) else (relayref01_signed.j0 k (wrap64 (a1 + a2)) false))) else (if a1 < 0 then (if a2 < 0 then (relayref01_signed.j0 k (wrap64 (a1 + a2)) (decide ((wrap64 (a1 + a2)) ≥ 0))) else (relayref01_signed.j0 k (wrap64 (a1 + a2)) false)) else (relayref01_signed.j0 k (wrap64 (a1 + a2)) false))) else (if a1 < 0 then (if a2 < 0 then (relayref01_signed.j0 k (wrap64 (a1 + a2)) (decide ((wrap64 (a1 + a2)) ≥ 0))) else (relayref01_signed.j0 k (wrap64 (a1 + a2)) false)) else (relayref01_signed.j0 k (wrap64 (a1 + a2)) false))) else (if a0 = 2 then (if a1 ≥ 0 then (if a2 < 0 then (if (wrap64 (a1 - a2)) < 0 then (relayref01_signed.j1 k (wrap64 (a1 - a2)) true) else (if a1 < 0 then (if a2 > 0 then (relayref01_signed.j1 k (wrap64 (a1 - a2)) (decide ((wrap64 (a1 - a2)) ≥ 0))) else (relayref01_signed.j1 k (wrap64 (a1 - a2)) false)) else (relayref01_signed.j1 k (wrap64 (a1 - a2)) false))) else (if a1 < 0 then (if a2 > 0 then (relayref01_signed.j1 k (wrap64 (a1 - a2)) (decide ((wrap64 (a1 - a2)) ≥ 0))) else (relayref01_signed.j1 k (wrap64 (a1 - a2)) false)) else (relayref01_signed.j1 k (wrap64 (a1 - a2)) false))) else (if a1 < 0 then (if a2 > 0 then (relayref01_signed.j1 k (wrap64 (a1 - a2)) (decide ((wrap64 (a1 - a2)) ≥ 0))) else (relayref01_signed.j1 k (wrap64 (a1 - a2)) false)) else (relayref01_signed.j1 k (wrap64 (a1 - a2)) false))) else (if a0 = 3 then (if a1 = 0 then (relayref01_signed.j2 k a1 a2 true) else (relayref01_signed.j2 k a1 a2 (a2 == 0))) else (if a2 = 0 then (some (0, 2)) else (if a2 = (-1) then (if a0 = 5 then (some (0, 0)) else ((relayref01_signed.f k 2 0 a1).bind fun bt251 => (some (bt251.1, bt251.2)))) else (if a0 = 4 then (some (wrap64 (Int.tdiv a1 a2), 0)) else (some (Int.tmod a1 a2, 0)))))))
end
theorem relayref01_signed.mono_l : ∀ k, (∀ y0 y1 y2, LeO (relayref01_signed.f k y0 y1 y2) (relayref01_signed.f (k + 1) y0 y1 y2)) ∧ (∀ y0 y1, LeO (relayref01_signed.j0 k y0 y1) (relayref01_signed.j0 (k + 1) y0 y1)) ∧ (∀ y0 y1, LeO (relayref01_signed.j1 k y0 y1) (relayref01_signed.j1 (k + 1) y0 y1)) ∧ (∀ y0 y1 y2, LeO (relayref01_signed.j2 k y0 y1 y2) (relayref01_signed.j2 (k + 1) y0 y1 y2)) ∧ (∀ y0 y1, LeO (relayref01_signed.j3 k y0 y1) (relayref01_signed.j3 (k + 1) y0 y1))
 | 0 => ⟨fun _ _ _ r h => by simp [relayref01_signed.f] at h, fun _ _ r h => by simp [relayref01_signed.j0] at h, fun _ _ r h => by simp [relayref01_signed.j1] at h, fun _ _ _ r h => by simp [relayref01_signed.j2] at h, fun _ _ r h => by simp [relayref01_signed.j3] at h⟩
 | k + 1 => by
  obtain ⟨ih0, ih1, ih2, ih3, ih4⟩ := relayref01_signed.mono_l k
  refine ⟨?_, ?_, ?_, ?_, ?_⟩
  ·intro y0 y1 y2
   unfold relayref01_signed.f
   repeat' first
   | (with_reducible exact ih0 _ _ _)
   | (with_reducible exact ih1 _ _)
   | (with_reducible exact ih2 _ _)
   | (with_reducible exact ih3 _ _ _)
   | (with_reducible exact ih4 _ _)
   | (with_reducible exact LeO.refl _)
   | (with_reducible exact LeO.none _)
   | (with_reducible refine LeO.ite ?_ ?_)
   | (with_reducible refine LeO.bind ?_ (fun _ => ?_))
   | exact ih0 _ _ _
   | exact ih1 _ _
   | exact ih2 _ _
   | exact ih3 _ _ _
   | exact ih4 _ _
   | exact LeO.none _
   | refine LeO.ite ?_ ?_
   | refine LeO.bind ?_ (fun _ => ?_)
  ·intro y0 y1
   unfold relayref01_signed.j0
   repeat' first
   | (with_reducible exact ih0 _ _ _)
   | (with_reducible exact ih1 _ _)
   | (with_reducible exact ih2 _ _)
   | (with_reducible exact ih3 _ _ _)
   | (with_reducible exact ih4 _ _)
   | (with_reducible exact LeO.refl _)
   | (with_reducible exact LeO.none _)
   | (with_reducible refine LeO.ite ?_ ?_)
   | (with_reducible refine LeO.bind ?_ (fun _ => ?_))
   | exact ih0 _ _ _
   | exact ih1 _ _
   | exact ih2 _ _
   | exact ih3 _ _ _
   | exact ih4 _ _
   | exact LeO.none _
   | refine LeO.ite ?_ ?_
   | refine LeO.bind ?_ (fun _ => ?_)
  ·intro y0 y1
   unfold relayref01_signed.j1
   repeat' first
   | (with_reducible exact ih0 _ _ _)
   | (with_reducible exact ih1 _ _)
   | (with_reducible exact ih2 _ _)
   | (with_reducible exact ih3 _ _ _)
   | (with_reducible exact ih4 _ _)
   | (with_reducible exact LeO.refl _)
   | (with_reducible exact LeO.none _)
   | (with_reducible refine LeO.ite ?_ ?_)
   | (with_reducible refine LeO.bind ?_ (fun _ => ?_))
   | exact ih0 _ _ _
   | exact ih1 _ _
   | exact ih2 _ _
   | exact ih3 _ _ _
   | exact ih4 _ _
   | exact LeO.none _
   | refine LeO.ite ?_ ?_
   | refine LeO.bind ?_ (fun _ => ?_)
  ·intro y0 y1 y2
   unfold relayref01_signed.j2
   repeat' first
   | (with_reducible exact ih0 _ _ _)
   | (with_reducible exact ih1 _ _)
   | (with_reducible exact ih2 _ _)
   | (with_reducible exact ih3 _ _ _)
   | (with_reducible exact ih4 _ _)
   | (with_reducible exact LeO.refl _)
   | (with_reducible exact LeO.none _)
   | (with_reducible refine LeO.ite ?_ ?_)
   | (with_reducible refine LeO.bind ?_ (fun _ => ?_))
   | exact ih0 _ _ _
   | exact ih1 _ _
   | exact ih2 _ _
   | exact ih3 _ _ _
   | exact ih4 _ _
   | exact LeO.none _
   | refine LeO.ite ?_ ?_
   | refine LeO.bind ?_ (fun _ => ?_)
  ·intro y0 y1
   unfold relayref01_signed.j3
   repeat' first
   | (with_reducible exact ih0 _ _ _)
   | (with_reducible exact ih1 _ _)
   | (with_reducible exact ih2 _ _)
   | (with_reducible exact ih3 _ _ _)
   | (with_reducible exact ih4 _ _)
   | (with_reducible exact LeO.refl _)
   | (with_reducible exact LeO.none _)
   | (with_reducible refine LeO.ite ?_ ?_)
   | (with_reducible refine LeO.bind ?_ (fun _ => ?_))
   | exact ih0 _ _ _
   | exact ih1 _ _
   | exact ih2 _ _
   | exact ih3 _ _ _
   | exact ih4 _ _
   | exact LeO.none _
   | refine LeO.ite ?_ ?_
   | refine LeO.bind ?_ (fun _ => ?_)
theorem relayref01_signed.mono : ∀ a0 a1 a2 k, LeO (relayref01_signed.f k a0 a1 a2) (relayref01_signed.f (k + 1) a0 a1 a2) := by
 intro a0 a1 a2 k
 obtain ⟨ih0, ih1, ih2, ih3, ih4⟩ := relayref01_signed.mono_l k
 exact ih0 a0 a1 a2
set_option maxHeartbeats 8000000 in
set_option maxRecDepth 100000 in
theorem relayref01_signed.calls (k : Nat) : ∀ (a0 : Int) (a1 : Int) (a2 : Int) (r1 : Int) (r2 : Int) (w : World) (h : relayref01_signed.f k a0 a1 a2 = some (r1, r2)),
  Calls Try.prog 45 #[.int .i64 a0, .int .i64 a1, .int .i64 a2] w fun e w' => e = .returned (.tuple #[.int .i64 r1, .int .i64 r2]) ∧ Drawn0 w w' := by
 induction k using Nat.strongRecOn with
 | _ k ih =>
 intro a0 a1 a2 r1 r2 w h
 cases k with
 | zero => exact absurd h (by simp [relayref01_signed.f])
 | succ k =>
 simp only [relayref01_signed.f] at h
 have H : (if a0 = 1 then (if a1 > 0 then (if a2 > 0 then (if (wrap64 (a1 + a2)) < 0 then (relayref01_signed.j0 k (wrap64 (a1 + a2)) true) else (if a1 < 0 then (if a2 < 0 then (relayref01_signed.j0 k (wrap64 (a1 + a2)) (decide ((wrap64 (a1 + a2)) ≥ 0))) else (relayref01_signed.j0 k (wrap64 (a1 + a2)) false)) else (relayref01_signed.j0 k (wrap64 (a1 + a2)) false))) else (if a1 < 0 then (if a2 < 0 then (relayref01_signed.j0 k (wrap64 (a1 + a2)) (decide ((wrap64 (a1 + a2)) ≥ 0))) else (relayref01_signed.j0 k (wrap64 (a1 + a2)) false)) else (relayref01_signed.j0 k (wrap64 (a1 + a2)) false))) else (if a1 < 0 then (if a2 < 0 then (relayref01_signed.j0 k (wrap64 (a1 + a2)) (decide ((wrap64 (a1 + a2)) ≥ 0))) else (relayref01_signed.j0 k (wrap64 (a1 + a2)) false)) else (relayref01_signed.j0 k (wrap64 (a1 + a2)) false))) else (if a0 = 2 then (if a1 ≥ 0 then (if a2 < 0 then (if (wrap64 (a1 - a2)) < 0 then (relayref01_signed.j1 k (wrap64 (a1 - a2)) true) else (if a1 < 0 then (if a2 > 0 then (relayref01_signed.j1 k (wrap64 (a1 - a2)) (decide ((wrap64 (a1 - a2)) ≥ 0))) else (relayref01_signed.j1 k (wrap64 (a1 - a2)) false)) else (relayref01_signed.j1 k (wrap64 (a1 - a2)) false))) else (if a1 < 0 then (if a2 > 0 then (relayref01_signed.j1 k (wrap64 (a1 - a2)) (decide ((wrap64 (a1 - a2)) ≥ 0))) else (relayref01_signed.j1 k (wrap64 (a1 - a2)) false)) else (relayref01_signed.j1 k (wrap64 (a1 - a2)) false))) else (if a1 < 0 then (if a2 > 0 then (relayref01_signed.j1 k (wrap64 (a1 - a2)) (decide ((wrap64 (a1 - a2)) ≥ 0))) else (relayref01_signed.j1 k (wrap64 (a1 - a2)) false)) else (relayref01_signed.j1 k (wrap64 (a1 - a2)) false))) else (if a0 = 3 then (if a1 = 0 then (relayref01_signed.j2 k a1 a2 true) else (relayref01_signed.j2 k a1 a2 (a2 == 0))) else (if a2 = 0 then (some (0, 2)) else (if a2 = (-1) then (if a0 = 5 then (some (0, 0)) else ((relayref01_signed.f k 2 0 a1).bind fun bt251 => (some (bt251.1, bt251.2)))) else (if a0 = 4 then (some (wrap64 (Int.tdiv a1 a2), 0)) else (some (Int.tmod a1 a2, 0)))))))) = some (r1, r2) := h
 clear h
 by_cases c4 : a0 = 1
 ·rw [if_pos c4] at H
  have c4b0 : (a0 == 1) = true := beq_iff_eq.mpr c4
  have c4b1 : (a0 != 1) = false := bne_eq_false_iff_eq.mpr c4
  clear c4
  have HC5 := Aside0.mk H
  clear H
  go_enter Try.func45, Try.ntmps45
  go_upto_region 4 with (fail)
  go_cut [39] (fun v39 wc => ∃ (kq : Nat) (x39_4 : Bool), v39 = .bool x39_4 ∧ Aside0 (relayref01_signed.j0 kq (wrap64 (a1 + a2)) x39_4 = some (r1, r2)) ∧ Aside0 (kq ≤ k) ∧ Drawn0 w wc)
  case first =>
   have H := HC5.out
   clear HC5
   by_cases c6 : a1 > 0
   ·rw [if_pos c6] at H
    have c6b0 : decide (0 < a1) = true := decide_eq_true c6
    clear c6
    (first | rw [c6b0] | (simp only [i64_w, i32_w]; rw [c6b0]) | skip)
    by_cases c7 : a2 > 0
    ·rw [if_pos c7] at H
     have c7b0 : decide (0 < a2) = true := decide_eq_true c7
     clear c7
     by_cases c8 : (wrap64 (a1 + a2)) < 0
     ·rw [if_pos c8] at H
      have c8b0 : decide ((wrap64 (a1 + a2)) < 0) = true := decide_eq_true c8
      clear c8
      have H' := Aside0.mk H
      clear H
      go_wp2
      go_meet
      case rel => (try rw [show decide (a1 > 0) = true from by first | assumption | exact decide_eq_true (by assumption)]); (try rw [show decide (a2 > 0) = true from by first | assumption | exact decide_eq_true (by assumption)]); (try rw [show decide ((wrap64 (a1 + a2)) < 0) = true from by first | assumption | exact decide_eq_true (by assumption)]); exact ⟨_, (true), (by first | rfl | (simp; done) | (simp [*]; done)), H', ⟨by first | omega | exact Nat.le_refl _⟩, by repeat (first | exact Drawn0.refl _ | apply Drawn0.step)⟩
     ·rw [if_neg c8] at H
      have c8b0 : decide ((wrap64 (a1 + a2)) < 0) = false := decide_eq_false c8
      clear c8
      by_cases c9 : a1 < 0
      ·rw [if_pos c9] at H
       have c9b0 : decide (a1 < 0) = true := decide_eq_true c9
       clear c9
       by_cases c10 : a2 < 0
       ·rw [if_pos c10] at H
        have c10b0 : decide (a2 < 0) = true := decide_eq_true c10
        clear c10
        have H' := Aside0.mk H
        clear H
        go_wp2
        go_meet
        case rel => (try rw [show decide (a1 > 0) = true from by first | assumption | exact decide_eq_true (by assumption)]); (try rw [show decide (a2 > 0) = true from by first | assumption | exact decide_eq_true (by assumption)]); (try rw [show decide ((wrap64 (a1 + a2)) < 0) = false from by first | assumption | exact decide_eq_false (by assumption)]); (try rw [show decide (a1 < 0) = true from by first | assumption | exact decide_eq_true (by assumption)]); (try rw [show decide (a2 < 0) = true from by first | assumption | exact decide_eq_true (by assumption)]); exact ⟨_, (decide ((wrap64 (a1 + a2)) ≥ 0)), (by first | rfl | (simp; done) | (simp [*]; done)), H', ⟨by first | omega | exact Nat.le_refl _⟩, by repeat (first | exact Drawn0.refl _ | apply Drawn0.step)⟩
       ·rw [if_neg c10] at H
        have c10b0 : decide (a2 < 0) = false := decide_eq_false c10
        clear c10
        have H' := Aside0.mk H
        clear H
        go_wp2
        go_meet
        case rel => (try rw [show decide (a1 > 0) = true from by first | assumption | exact decide_eq_true (by assumption)]); (try rw [show decide (a2 > 0) = true from by first | assumption | exact decide_eq_true (by assumption)]); (try rw [show decide ((wrap64 (a1 + a2)) < 0) = false from by first | assumption | exact decide_eq_false (by assumption)]); (try rw [show decide (a1 < 0) = true from by first | assumption | exact decide_eq_true (by assumption)]); (try rw [show decide (a2 < 0) = false from by first | assumption | exact decide_eq_false (by assumption)]); exact ⟨_, (false), (by first | rfl | (simp; done) | (simp [*]; done)), H', ⟨by first | omega | exact Nat.le_refl _⟩, by repeat (first | exact Drawn0.refl _ | apply Drawn0.step)⟩
      ·rw [if_neg c9] at H
       have c9b0 : decide (a1 < 0) = false := decide_eq_false c9
       clear c9
       have H' := Aside0.mk H
       clear H
       go_wp2
       go_meet
       case rel => (try rw [show decide (a1 > 0) = true from by first | assumption | exact decide_eq_true (by assumption)]); (try rw [show decide (a2 > 0) = true from by first | assumption | exact decide_eq_true (by assumption)]); (try rw [show decide ((wrap64 (a1 + a2)) < 0) = false from by first | assumption | exact decide_eq_false (by assumption)]); (try rw [show decide (a1 < 0) = false from by first | assumption | exact decide_eq_false (by assumption)]); exact ⟨_, (false), (by first | rfl | (simp; done) | (simp [*]; done)), H', ⟨by first | omega | exact Nat.le_refl _⟩, by repeat (first | exact Drawn0.refl _ | apply Drawn0.step)⟩
    ·rw [if_neg c7] at H
     have c7b0 : decide (0 < a2) = false := decide_eq_false c7
     clear c7
     by_cases c11 : a1 < 0
     ·rw [if_pos c11] at H
      have c11b0 : decide (a1 < 0) = true := decide_eq_true c11
      clear c11
      by_cases c12 : a2 < 0
      ·rw [if_pos c12] at H
       have c12b0 : decide (a2 < 0) = true := decide_eq_true c12
       clear c12
       have H' := Aside0.mk H
       clear H
       go_wp2
       go_meet
       case rel => (try rw [show decide (a1 > 0) = true from by first | assumption | exact decide_eq_true (by assumption)]); (try rw [show decide (a2 > 0) = false from by first | assumption | exact decide_eq_false (by assumption)]); (try rw [show decide (a1 < 0) = true from by first | assumption | exact decide_eq_true (by assumption)]); (try rw [show decide (a2 < 0) = true from by first | assumption | exact decide_eq_true (by assumption)]); exact ⟨_, (decide ((wrap64 (a1 + a2)) ≥ 0)), (by first | rfl | (simp; done) | (simp [*]; done)), H', ⟨by first | omega | exact Nat.le_refl _⟩, by repeat (first | exact Drawn0.refl _ | apply Drawn0.step)⟩
      ·rw [if_neg c12] at H
       have c12b0 : decide (a2 < 0) = false := decide_eq_false c12
       clear c12
       have H' := Aside0.mk H
       clear H
       go_wp2
       go_meet
       case rel => (try rw [show decide (a1 > 0) = true from by first | assumption | exact decide_eq_true (by assumption)]); (try rw [show decide (a2 > 0) = false from by first | assumption | exact decide_eq_false (by assumption)]); (try rw [show decide (a1 < 0) = true from by first | assumption | exact decide_eq_true (by assumption)]); (try rw [show decide (a2 < 0) = false from by first | assumption | exact decide_eq_false (by assumption)]); exact ⟨_, (false), (by first | rfl | (simp; done) | (simp [*]; done)), H', ⟨by first | omega | exact Nat.le_refl _⟩, by repeat (first | exact Drawn0.refl _ | apply Drawn0.step)⟩
     ·rw [if_neg c11] at H
      have c11b0 : decide (a1 < 0) = false := decide_eq_false c11
      clear c11
      have H' := Aside0.mk H
      clear H
      go_wp2
      go_meet
      case rel => (try rw [show decide (a1 > 0) = true from by first | assumption | exact decide_eq_true (by assumption)]); (try rw [show decide (a2 > 0) = false from by first | assumption | exact decide_eq_false (by assumption)]); (try rw [show decide (a1 < 0) = false from by first | assumption | exact decide_eq_false (by assumption)]); exact ⟨_, (false), (by first | rfl | (simp; done) | (simp [*]; done)), H', ⟨by first | omega | exact Nat.le_refl _⟩, by repeat (first | exact Drawn0.refl _ | apply Drawn0.step)⟩
   ·rw [if_neg c6] at H
    have c6b0 : decide (0 < a1) = false := decide_eq_false c6
    clear c6
    (first | rw [c6b0] | (simp only [i64_w, i32_w]; rw [c6b0]) | skip)
    by_cases c13 : a1 < 0
    ·rw [if_pos c13] at H
     have c13b0 : decide (a1 < 0) = true := decide_eq_true c13
     clear c13
     by_cases c14 : a2 < 0
     ·rw [if_pos c14] at H
      have c14b0 : decide (a2 < 0) = true := decide_eq_true c14
      clear c14
      have H' := Aside0.mk H
      clear H
      go_wp2
      go_meet
      case rel => (try rw [show decide (a1 > 0) = false from by first | assumption | exact decide_eq_false (by assumption)]); (try rw [show decide (a1 < 0) = true from by first | assumption | exact decide_eq_true (by assumption)]); (try rw [show decide (a2 < 0) = true from by first | assumption | exact decide_eq_true (by assumption)]); exact ⟨_, (decide ((wrap64 (a1 + a2)) ≥ 0)), (by first | rfl | (simp; done) | (simp [*]; done)), H', ⟨by first | omega | exact Nat.le_refl _⟩, by repeat (first | exact Drawn0.refl _ | apply Drawn0.step)⟩
     ·rw [if_neg c14] at H
      have c14b0 : decide (a2 < 0) = false := decide_eq_false c14
      clear c14
      have H' := Aside0.mk H
      clear H
      go_wp2
      go_meet
      case rel => (try rw [show decide (a1 > 0) = false from by first | assumption | exact decide_eq_false (by assumption)]); (try rw [show decide (a1 < 0) = true from by first | assumption | exact decide_eq_true (by assumption)]); (try rw [show decide (a2 < 0) = false from by first | assumption | exact decide_eq_false (by assumption)]); exact ⟨_, (false), (by first | rfl | (simp; done) | (simp [*]; done)), H', ⟨by first | omega | exact Nat.le_refl _⟩, by repeat (first | exact Drawn0.refl _ | apply Drawn0.step)⟩
    ·rw [if_neg c13] at H
     have c13b0 : decide (a1 < 0) = false := decide_eq_false c13
     clear c13
     have H' := Aside0.mk H
     clear H
     go_wp2
     go_meet
     case rel => (try rw [show decide (a1 > 0) = false from by first | assumption | exact decide_eq_false (by assumption)]); (try rw [show decide (a1 < 0) = false from by first | assumption | exact decide_eq_false (by assumption)]); exact ⟨_, (false), (by first | rfl | (simp; done) | (simp [*]; done)), H', ⟨by first | omega | exact Nat.le_refl _⟩, by repeat (first | exact Drawn0.refl _ | apply Drawn0.step)⟩
  case rest =>
   clear HC5
   (try clear c1);(try clear p2);(try clear c4);(try clear c4b0);(try clear c4b1);(try clear c6);(try clear c6b0);(try clear p6);(try clear c7);(try clear c7b0);(try clear c8);(try clear c8b0);(try clear c9);(try clear c9b0);(try clear c10);(try clear c10b0);(try clear c11);(try clear c11b0);(try clear c12);(try clear c12b0);(try clear c13);(try clear c13b0);(try clear c14);(try clear c14b0)
   obtain ⟨kq, x39_4, rfl, HA, HJ4, ⟨mc4, rfl⟩⟩ := hcut
   cases kq with
   | zero => exact absurd HA.out (by simp [relayref01_signed.j0])
   | succ kj4 =>
    have H := HA.out
    clear HA
    simp only [relayref01_signed.j0] at H
    by_cases c15 : x39_4 = true
    ·subst c15
     have H1 : (some (0, 1)) = some (r1, r2) := by rw [if_pos rfl] at H; exact H
     clear H
     have H := H1
     clear H1
     simp only [Option.some.injEq, Prod.mk.injEq] at H
     obtain ⟨rfl, rfl⟩ := H
     go_wp2
     go_ret2
     exact ⟨by first | rfl | (simp; done) | (simp [*]; done), by repeat (first | exact Drawn0.refl _ | apply Drawn0.step)⟩
    ·replace c15 := Bool.eq_false_iff.mpr c15
     subst c15
     have H1 : (some ((wrap64 (a1 + a2)), 0)) = some (r1, r2) := by rw [if_neg (show ¬ (false = true) by decide)] at H; exact H
     clear H
     have H := H1
     clear H1
     simp only [Option.some.injEq, Prod.mk.injEq] at H
     obtain ⟨rfl, rfl⟩ := H
     go_wp2
     go_ret2
     exact ⟨by first | rfl | (simp; done) | (simp [*]; done), by repeat (first | exact Drawn0.refl _ | apply Drawn0.step)⟩
 ·rw [if_neg c4] at H
  have c4b0 : (a0 == 1) = false := beq_eq_false_iff_ne.mpr c4
  have c4b1 : (a0 != 1) = true := bne_iff_ne.mpr c4
  by_cases c16 : a0 = 2
  ·rw [if_pos c16] at H
   have c16b0 : (a0 == 2) = true := beq_iff_eq.mpr c16
   have c16b1 : (a0 != 2) = false := bne_eq_false_iff_eq.mpr c16
   clear c16
   have HC17 := Aside0.mk H
   clear H
   go_enter Try.func45, Try.ntmps45
   go_upto_region 9 with (fail)
   go_cut [67] (fun v67 wc => ∃ (kq : Nat) (x67_16 : Bool), v67 = .bool x67_16 ∧ Aside0 (relayref01_signed.j1 kq (wrap64 (a1 - a2)) x67_16 = some (r1, r2)) ∧ Aside0 (kq ≤ k) ∧ Drawn0 w wc)
   case first =>
    have H := HC17.out
    clear HC17
    by_cases c18 : a1 ≥ 0
    ·rw [if_pos c18] at H
     have c18b0 : decide (0 ≤ a1) = true := decide_eq_true c18
     clear c18
     (first | rw [c18b0] | (simp only [i64_w, i32_w]; rw [c18b0]) | skip)
     by_cases c19 : a2 < 0
     ·rw [if_pos c19] at H
      have c19b0 : decide (a2 < 0) = true := decide_eq_true c19
      clear c19
      by_cases c20 : (wrap64 (a1 - a2)) < 0
      ·rw [if_pos c20] at H
       have c20b0 : decide ((wrap64 (a1 - a2)) < 0) = true := decide_eq_true c20
       clear c20
       have H' := Aside0.mk H
       clear H
       go_wp2
       go_meet
       case rel => (try rw [show decide (a1 ≥ 0) = true from by first | assumption | exact decide_eq_true (by assumption)]); (try rw [show decide (a2 < 0) = true from by first | assumption | exact decide_eq_true (by assumption)]); (try rw [show decide ((wrap64 (a1 - a2)) < 0) = true from by first | assumption | exact decide_eq_true (by assumption)]); exact ⟨_, (true), (by first | rfl | (simp; done) | (simp [*]; done)), H', ⟨by first | omega | exact Nat.le_refl _⟩, by repeat (first | exact Drawn0.refl _ | apply Drawn0.step)⟩
      ·rw [if_neg c20] at H
       have c20b0 : decide ((wrap64 (a1 - a2)) < 0) = false := decide_eq_false c20
       clear c20
       by_cases c21 : a1 < 0
       ·rw [if_pos c21] at H
        have c21b0 : decide (a1 < 0) = true := decide_eq_true c21
        clear c21
        by_cases c22 : a2 > 0
        ·rw [if_pos c22] at H
         have c22b0 : decide (0 < a2) = true := decide_eq_true c22
         clear c22
         have H' := Aside0.mk H
         clear H
         go_wp2
         go_meet
         case rel => (try rw [show decide (a1 ≥ 0) = true from by first | assumption | exact decide_eq_true (by assumption)]); (try rw [show decide (a2 < 0) = true from by first | assumption | exact decide_eq_true (by assumption)]); (try rw [show decide ((wrap64 (a1 - a2)) < 0) = false from by first | assumption | exact decide_eq_false (by assumption)]); (try rw [show decide (a1 < 0) = true from by first | assumption | exact decide_eq_true (by assumption)]); (try rw [show decide (a2 > 0) = true from by first | assumption | exact decide_eq_true (by assumption)]); exact ⟨_, (decide ((wrap64 (a1 - a2)) ≥ 0)), (by first | rfl | (simp; done) | (simp [*]; done)), H', ⟨by first | omega | exact Nat.le_refl _⟩, by repeat (first | exact Drawn0.refl _ | apply Drawn0.step)⟩
        ·rw [if_neg c22] at H
         have c22b0 : decide (0 < a2) = false := decide_eq_false c22
         clear c22
         have H' := Aside0.mk H
         clear H
         go_wp2
         go_meet
         case rel => (try rw [show decide (a1 ≥ 0) = true from by first | assumption | exact decide_eq_true (by assumption)]); (try rw [show decide (a2 < 0) = true from by first | assumption | exact decide_eq_true (by assumption)]); (try rw [show decide ((wrap64 (a1 - a2)) < 0) = false from by first | assumption | exact decide_eq_false (by assumption)]); (try rw [show decide (a1 < 0) = true from by first | assumption | exact decide_eq_true (by assumption)]); (try rw [show decide (a2 > 0) = false from by first | assumption | exact decide_eq_false (by assumption)]); exact ⟨_, (false), (by first | rfl | (simp; done) | (simp [*]; done)), H', ⟨by first | omega | exact Nat.le_refl _⟩, by repeat (first | exact Drawn0.refl _ | apply Drawn0.step)⟩
       ·rw [if_neg c21] at H
        have c21b0 : decide (a1 < 0) = false := decide_eq_false c21
        clear c21
        have H' := Aside0.mk H
        clear H
        go_wp2
        go_meet
        case rel => (try rw [show decide (a1 ≥ 0) = true from by first | assumption | exact decide_eq_true (by assumption)]); (try rw [show decide (a2 < 0) = true from by first | assumption | exact decide_eq_true (by assumption)]); (try rw [show decide ((wrap64 (a1 - a2)) < 0) = false from by first | assumption | exact decide_eq_false (by assumption)]); (try rw [show decide (a1 < 0) = false from by first | assumption | exact decide_eq_false (by assumption)]); exact ⟨_, (false), (by first | rfl | (simp; done) | (simp [*]; done)), H', ⟨by first | omega | exact Nat.le_refl _⟩, by repeat (first | exact Drawn0.refl _ | apply Drawn0.step)⟩
     ·rw [if_neg c19] at H
      have c19b0 : decide (a2 < 0) = false := decide_eq_false c19
      clear c19
      by_cases c23 : a1 < 0
      ·rw [if_pos c23] at H
       have c23b0 : decide (a1 < 0) = true := decide_eq_true c23
       clear c23
       by_cases c24 : a2 > 0
       ·rw [if_pos c24] at H
        have c24b0 : decide (0 < a2) = true := decide_eq_true c24
        clear c24
        have H' := Aside0.mk H
        clear H
        go_wp2
        go_meet
        case rel => (try rw [show decide (a1 ≥ 0) = true from by first | assumption | exact decide_eq_true (by assumption)]); (try rw [show decide (a2 < 0) = false from by first | assumption | exact decide_eq_false (by assumption)]); (try rw [show decide (a1 < 0) = true from by first | assumption | exact decide_eq_true (by assumption)]); (try rw [show decide (a2 > 0) = true from by first | assumption | exact decide_eq_true (by assumption)]); exact ⟨_, (decide ((wrap64 (a1 - a2)) ≥ 0)), (by first | rfl | (simp; done) | (simp [*]; done)), H', ⟨by first | omega | exact Nat.le_refl _⟩, by repeat (first | exact Drawn0.refl _ | apply Drawn0.step)⟩
       ·rw [if_neg c24] at H
        have c24b0 : decide (0 < a2) = false := decide_eq_false c24
        clear c24
        have H' := Aside0.mk H
        clear H
        go_wp2
        go_meet
        case rel => (try rw [show decide (a1 ≥ 0) = true from by first | assumption | exact decide_eq_true (by assumption)]); (try rw [show decide (a2 < 0) = false from by first | assumption | exact decide_eq_false (by assumption)]); (try rw [show decide (a1 < 0) = true from by first | assumption | exact decide_eq_true (by assumption)]); (try rw [show decide (a2 > 0) = false from by first | assumption | exact decide_eq_false (by assumption)]); exact ⟨_, (false), (by first | rfl | (simp; done) | (simp [*]; done)), H', ⟨by first | omega | exact Nat.le_refl _⟩, by repeat (first | exact Drawn0.refl _ | apply Drawn0.step)⟩
      ·rw [if_neg c23] at H
       have c23b0 : decide (a1 < 0) = false := decide_eq_false c23
       clear c23
       have H' := Aside0.mk H
       clear H
       go_wp2
       go_meet
       case rel => (try rw [show decide (a1 ≥ 0) = true from by first | assumption | exact decide_eq_true (by assumption)]); (try rw [show decide (a2 < 0) = false from by first | assumption | exact decide_eq_false (by assumption)]); (try rw [show decide (a1 < 0) = false from by first | assumption | exact decide_eq_false (by assumption)]); exact ⟨_, (false), (by first | rfl | (simp; done) | (simp [*]; done)), H', ⟨by first | omega | exact Nat.le_refl _⟩, by repeat (first | exact Drawn0.refl _ | apply Drawn0.step)⟩
    ·rw [if_neg c18] at H
     have c18b0 : decide (0 ≤ a1) = false := decide_eq_false c18
     clear c18
     (first | rw [c18b0] | (simp only [i64_w, i32_w]; rw [c18b0]) | skip)
     by_cases c25 : a1 < 0
     ·rw [if_pos c25] at H
      have c25b0 : decide (a1 < 0) = true := decide_eq_true c25
      clear c25
      by_cases c26 : a2 > 0
      ·rw [if_pos c26] at H
       have c26b0 : decide (0 < a2) = true := decide_eq_true c26
       clear c26
       have H' := Aside0.mk H
       clear H
       go_wp2
       go_meet
       case rel => (try rw [show decide (a1 ≥ 0) = false from by first | assumption | exact decide_eq_false (by assumption)]); (try rw [show decide (a1 < 0) = true from by first | assumption | exact decide_eq_true (by assumption)]); (try rw [show decide (a2 > 0) = true from by first | assumption | exact decide_eq_true (by assumption)]); exact ⟨_, (decide ((wrap64 (a1 - a2)) ≥ 0)), (by first | rfl | (simp; done) | (simp [*]; done)), H', ⟨by first | omega | exact Nat.le_refl _⟩, by repeat (first | exact Drawn0.refl _ | apply Drawn0.step)⟩
      ·rw [if_neg c26] at H
       have c26b0 : decide (0 < a2) = false := decide_eq_false c26
       clear c26
       have H' := Aside0.mk H
       clear H
       go_wp2
       go_meet
       case rel => (try rw [show decide (a1 ≥ 0) = false from by first | assumption | exact decide_eq_false (by assumption)]); (try rw [show decide (a1 < 0) = true from by first | assumption | exact decide_eq_true (by assumption)]); (try rw [show decide (a2 > 0) = false from by first | assumption | exact decide_eq_false (by assumption)]); exact ⟨_, (false), (by first | rfl | (simp; done) | (simp [*]; done)), H', ⟨by first | omega | exact Nat.le_refl _⟩, by repeat (first | exact Drawn0.refl _ | apply Drawn0.step)⟩
     ·rw [if_neg c25] at H
      have c25b0 : decide (a1 < 0) = false := decide_eq_false c25
      clear c25
      have H' := Aside0.mk H
      clear H
      go_wp2
      go_meet
      case rel => (try rw [show decide (a1 ≥ 0) = false from by first | assumption | exact decide_eq_false (by assumption)]); (try rw [show decide (a1 < 0) = false from by first | assumption | exact decide_eq_false (by assumption)]); exact ⟨_, (false), (by first | rfl | (simp; done) | (simp [*]; done)), H', ⟨by first | omega | exact Nat.le_refl _⟩, by repeat (first | exact Drawn0.refl _ | apply Drawn0.step)⟩
   case rest =>
    clear HC17
    (try clear c1);(try clear c2);(try clear p2);(try clear c4);(try clear c4b0);(try clear c4b1);(try clear c6);(try clear c6b0);(try clear p6);(try clear c7);(try clear c7b0);(try clear c8);(try clear c8b0);(try clear c9);(try clear c9b0);(try clear c10);(try clear c10b0);(try clear c11);(try clear c11b0);(try clear c12);(try clear c12b0);(try clear c13);(try clear c13b0);(try clear c14);(try clear c14b0);(try clear c15);(try clear c16);(try clear c16b0);(try clear c16b1);(try clear c18);(try clear c18b0);(try clear c19);(try clear c19b0);(try clear c20);(try clear c20b0);(try clear c21);(try clear c21b0);(try clear c22);(try clear c22b0);(try clear c23);(try clear c23b0);(try clear c24);(try clear c24b0);(try clear c25);(try clear c25b0);(try clear c26);(try clear c26b0);(try clear p2);(try clear p6)
    obtain ⟨kq, x67_16, rfl, HA, HJ16, ⟨mc16, rfl⟩⟩ := hcut
    cases kq with
    | zero => exact absurd HA.out (by simp [relayref01_signed.j1])
    | succ kj16 =>
     have H := HA.out
     clear HA
     simp only [relayref01_signed.j1] at H
     by_cases c27 : x67_16 = true
     ·subst c27
      have H1 : (some (0, 1)) = some (r1, r2) := by rw [if_pos rfl] at H; exact H
      clear H
      have H := H1
      clear H1
      simp only [Option.some.injEq, Prod.mk.injEq] at H
      obtain ⟨rfl, rfl⟩ := H
      go_wp2
      go_ret2
      exact ⟨by first | rfl | (simp; done) | (simp [*]; done), by repeat (first | exact Drawn0.refl _ | apply Drawn0.step)⟩
     ·replace c27 := Bool.eq_false_iff.mpr c27
      subst c27
      have H1 : (some ((wrap64 (a1 - a2)), 0)) = some (r1, r2) := by rw [if_neg (show ¬ (false = true) by decide)] at H; exact H
      clear H
      have H := H1
      clear H1
      simp only [Option.some.injEq, Prod.mk.injEq] at H
      obtain ⟨rfl, rfl⟩ := H
      go_wp2
      go_ret2
      exact ⟨by first | rfl | (simp; done) | (simp [*]; done), by repeat (first | exact Drawn0.refl _ | apply Drawn0.step)⟩
  ·rw [if_neg c16] at H
   have c16b0 : (a0 == 2) = false := beq_eq_false_iff_ne.mpr c16
   have c16b1 : (a0 != 2) = true := bne_iff_ne.mpr c16
   by_cases c28 : a0 = 3
   ·rw [if_pos c28] at H
    have c28b0 : (a0 == 3) = true := beq_iff_eq.mpr c28
    have c28b1 : (a0 != 3) = false := bne_eq_false_iff_eq.mpr c28
    clear c28
    have HC29 := Aside0.mk H
    clear H
    go_enter Try.func45, Try.ntmps45
    go_upto_region 13 with (fail)
    go_cut [76] (fun v76 wc => ∃ (kq : Nat) (x76_28 : Bool), v76 = .bool x76_28 ∧ Aside0 (relayref01_signed.j2 kq a1 a2 x76_28 = some (r1, r2)) ∧ Aside0 (kq ≤ k) ∧ Drawn0 w wc)
    case first =>
     have H := HC29.out
     clear HC29
     by_cases c30 : a1 = 0
     ·rw [if_pos c30] at H
      have c30b0 : (a1 == 0) = true := beq_iff_eq.mpr c30
      have c30b1 : (a1 != 0) = false := bne_eq_false_iff_eq.mpr c30
      clear c30
      (first | rw [c30b0] | (simp only [i64_w, i32_w]; rw [c30b0]) | skip)
      have H' := Aside0.mk H
      clear H
      go_wp2
      go_meet
      case rel => exact ⟨_, (true), (by first | rfl | (simp; done) | (simp [*]; done)), H', ⟨by first | omega | exact Nat.le_refl _⟩, by repeat (first | exact Drawn0.refl _ | apply Drawn0.step)⟩
     ·rw [if_neg c30] at H
      have c30b0 : (a1 == 0) = false := beq_eq_false_iff_ne.mpr c30
      have c30b1 : (a1 != 0) = true := bne_iff_ne.mpr c30
      (first | rw [c30b0] | (simp only [i64_w, i32_w]; rw [c30b0]) | skip)
      have H' := Aside0.mk H
      clear H
      go_wp2
      go_meet
      case rel => exact ⟨_, ((a2 == 0)), (by first | rfl | (simp; done) | (simp [*]; done)), H', ⟨by first | omega | exact Nat.le_refl _⟩, by repeat (first | exact Drawn0.refl _ | apply Drawn0.step)⟩
    case rest =>
     clear HC29
     (try clear c1);(try clear c2);(try clear p2);(try clear c3);(try clear c4);(try clear c4b0);(try clear c4b1);(try clear c6);(try clear c6b0);(try clear p6);(try clear c7);(try clear c7b0);(try clear c8);(try clear c8b0);(try clear c9);(try clear c9b0);(try clear c10);(try clear c10b0);(try clear c11);(try clear c11b0);(try clear c12);(try clear c12b0);(try clear c13);(try clear c13b0);(try clear c14);(try clear c14b0);(try clear c15);(try clear c16);(try clear c16b0);(try clear c16b1);(try clear c18);(try clear c18b0);(try clear c19);(try clear c19b0);(try clear c20);(try clear c20b0);(try clear c21);(try clear c21b0);(try clear c22);(try clear c22b0);(try clear c23);(try clear c23b0);(try clear c24);(try clear c24b0);(try clear c25);(try clear c25b0);(try clear c26);(try clear c26b0);(try clear c27);(try clear c28);(try clear c28b0);(try clear c28b1);(try clear c30);(try clear c30b0);(try clear c30b1);(try clear p2);(try clear p6)
     obtain ⟨kq, x76_28, rfl, HA, HJ28, ⟨mc28, rfl⟩⟩ := hcut
     cases kq with
     | zero => exact absurd HA.out (by simp [relayref01_signed.j2])
     | succ kj28 =>
      have H := HA.out
      clear HA
      simp only [relayref01_signed.j2] at H
      by_cases c31 : x76_28 = true
      ·subst c31
       have H1 : (some (0, 0)) = some (r1, r2) := by rw [if_pos rfl] at H; exact H
       clear H
       have H := H1
       clear H1
       simp only [Option.some.injEq, Prod.mk.injEq] at H
       obtain ⟨rfl, rfl⟩ := H
       go_wp2
       go_ret2
       exact ⟨by first | rfl | (simp; done) | (simp [*]; done), by repeat (first | exact Drawn0.refl _ | apply Drawn0.step)⟩
      ·replace c31 := Bool.eq_false_iff.mpr c31
       subst c31
       have H1 : (if a1 = (-1) then (if a2 = (-9223372036854775808) then (relayref01_signed.j3 kj28 (wrap64 (a1 * a2)) true) else (if a2 = (-1) then (if a1 = (-9223372036854775808) then (relayref01_signed.j3 kj28 (wrap64 (a1 * a2)) true) else (if a2 = 0 then (none) else (relayref01_signed.j3 kj28 (wrap64 (a1 * a2)) ((wrap64 (Int.tdiv (wrap64 (a1 * a2)) a2)) != a1)))) else (if a2 = 0 then (none) else (relayref01_signed.j3 kj28 (wrap64 (a1 * a2)) ((wrap64 (Int.tdiv (wrap64 (a1 * a2)) a2)) != a1))))) else (if a2 = (-1) then (if a1 = (-9223372036854775808) then (relayref01_signed.j3 kj28 (wrap64 (a1 * a2)) true) else (if a2 = 0 then (none) else (relayref01_signed.j3 kj28 (wrap64 (a1 * a2)) ((wrap64 (Int.tdiv (wrap64 (a1 * a2)) a2)) != a1)))) else (if a2 = 0 then (none) else (relayref01_signed.j3 kj28 (wrap64 (a1 * a2)) ((wrap64 (Int.tdiv (wrap64 (a1 * a2)) a2)) != a1))))) = some (r1, r2) := by rw [if_neg (show ¬ (false = true) by decide)] at H; exact H
       clear H
       have H := H1
       clear H1
       have HC32 := Aside0.mk H
       clear H
       go_upto_region 17 with (fail)
       go_cut [102] (fun v102 wc => ∃ (kq : Nat) (x102_31 : Bool), v102 = .bool x102_31 ∧ Aside0 (relayref01_signed.j3 kq (wrap64 (a1 * a2)) x102_31 = some (r1, r2)) ∧ Aside0 (kq ≤ kj28) ∧ Drawn0 w wc)
       case first =>
        have H := HC32.out
        clear HC32
        by_cases c33 : a1 = (-1)
        ·rw [if_pos c33] at H
         have c33b0 : (a1 == (-1)) = true := beq_iff_eq.mpr c33
         have c33b1 : (a1 != (-1)) = false := bne_eq_false_iff_eq.mpr c33
         clear c33
         (first | rw [c33b0] | (simp only [i64_w, i32_w]; rw [c33b0]) | skip)
         by_cases c34 : a2 = (-9223372036854775808)
         ·rw [if_pos c34] at H
          have c34b0 : (a2 == (-9223372036854775808)) = true := beq_iff_eq.mpr c34
          have c34b1 : (a2 != (-9223372036854775808)) = false := bne_eq_false_iff_eq.mpr c34
          clear c34
          have H' := Aside0.mk H
          clear H
          go_wp2
          go_meet
          case rel => exact ⟨_, (true), (by first | rfl | (simp; done) | (simp [*]; done)), H', ⟨by have := HJ28.out; first | omega | exact Nat.le_refl _⟩, by repeat (first | exact Drawn0.refl _ | apply Drawn0.step)⟩
         ·rw [if_neg c34] at H
          have c34b0 : (a2 == (-9223372036854775808)) = false := beq_eq_false_iff_ne.mpr c34
          have c34b1 : (a2 != (-9223372036854775808)) = true := bne_iff_ne.mpr c34
          by_cases c35 : a2 = (-1)
          ·rw [if_pos c35] at H
           have c35b0 : (a2 == (-1)) = true := beq_iff_eq.mpr c35
           have c35b1 : (a2 != (-1)) = false := bne_eq_false_iff_eq.mpr c35
           clear c35
           by_cases c36 : a1 = (-9223372036854775808)
           ·rw [if_pos c36] at H
            have c36b0 : (a1 == (-9223372036854775808)) = true := beq_iff_eq.mpr c36
            have c36b1 : (a1 != (-9223372036854775808)) = false := bne_eq_false_iff_eq.mpr c36
            clear c36
            have H' := Aside0.mk H
            clear H
            go_wp2
            go_meet
            case rel => exact ⟨_, (true), (by first | rfl | (simp; done) | (simp [*]; done)), H', ⟨by have := HJ28.out; first | omega | exact Nat.le_refl _⟩, by repeat (first | exact Drawn0.refl _ | apply Drawn0.step)⟩
           ·rw [if_neg c36] at H
            have c36b0 : (a1 == (-9223372036854775808)) = false := beq_eq_false_iff_ne.mpr c36
            have c36b1 : (a1 != (-9223372036854775808)) = true := bne_iff_ne.mpr c36
            by_cases c37 : a2 = 0
            ·rw [if_pos c37] at H
             exact absurd H (by simp)
            ·rw [if_neg c37] at H
             have c37b0 : (a2 == 0) = false := beq_eq_false_iff_ne.mpr c37
             have c37b1 : (a2 != 0) = true := bne_iff_ne.mpr c37
             have H' := Aside0.mk H
             clear H
             go_wp2
             go_meet
             case rel => exact ⟨_, (((wrap64 (Int.tdiv (wrap64 (a1 * a2)) a2)) != a1)), (by first | rfl | (simp; done) | (simp [*]; done)), H', ⟨by have := HJ28.out; first | omega | exact Nat.le_refl _⟩, by repeat (first | exact Drawn0.refl _ | apply Drawn0.step)⟩
          ·rw [if_neg c35] at H
           have c35b0 : (a2 == (-1)) = false := beq_eq_false_iff_ne.mpr c35
           have c35b1 : (a2 != (-1)) = true := bne_iff_ne.mpr c35
           by_cases c38 : a2 = 0
           ·rw [if_pos c38] at H
            exact absurd H (by simp)
           ·rw [if_neg c38] at H
            have c38b0 : (a2 == 0) = false := beq_eq_false_iff_ne.mpr c38
            have c38b1 : (a2 != 0) = true := bne_iff_ne.mpr c38
            have H' := Aside0.mk H
            clear H
            go_wp2
            go_meet
            case rel => exact ⟨_, (((wrap64 (Int.tdiv (wrap64 (a1 * a2)) a2)) != a1)), (by first | rfl | (simp; done) | (simp [*]; done)), H', ⟨by have := HJ28.out; first | omega | exact Nat.le_refl _⟩, by repeat (first | exact Drawn0.refl _ | apply Drawn0.step)⟩
        ·rw [if_neg c33] at H
         have c33b0 : (a1 == (-1)) = false := beq_eq_false_iff_ne.mpr c33
         have c33b1 : (a1 != (-1)) = true := bne_iff_ne.mpr c33
         (first | rw [c33b0] | (simp only [i64_w, i32_w]; rw [c33b0]) | skip)
         by_cases c39 : a2 = (-1)
         ·rw [if_pos c39] at H
          have c39b0 : (a2 == (-1)) = true := beq_iff_eq.mpr c39
          have c39b1 : (a2 != (-1)) = false := bne_eq_false_iff_eq.mpr c39
          clear c39
          by_cases c40 : a1 = (-9223372036854775808)
          ·rw [if_pos c40] at H
           have c40b0 : (a1 == (-9223372036854775808)) = true := beq_iff_eq.mpr c40
           have c40b1 : (a1 != (-9223372036854775808)) = false := bne_eq_false_iff_eq.mpr c40
           clear c40
           have H' := Aside0.mk H
           clear H
           go_wp2
           go_meet
           case rel => exact ⟨_, (true), (by first | rfl | (simp; done) | (simp [*]; done)), H', ⟨by have := HJ28.out; first | omega | exact Nat.le_refl _⟩, by repeat (first | exact Drawn0.refl _ | apply Drawn0.step)⟩
          ·rw [if_neg c40] at H
           have c40b0 : (a1 == (-9223372036854775808)) = false := beq_eq_false_iff_ne.mpr c40
           have c40b1 : (a1 != (-9223372036854775808)) = true := bne_iff_ne.mpr c40
           by_cases c41 : a2 = 0
           ·rw [if_pos c41] at H
            exact absurd H (by simp)
           ·rw [if_neg c41] at H
            have c41b0 : (a2 == 0) = false := beq_eq_false_iff_ne.mpr c41
            have c41b1 : (a2 != 0) = true := bne_iff_ne.mpr c41
            have H' := Aside0.mk H
            clear H
            go_wp2
            go_meet
            case rel => exact ⟨_, (((wrap64 (Int.tdiv (wrap64 (a1 * a2)) a2)) != a1)), (by first | rfl | (simp; done) | (simp [*]; done)), H', ⟨by have := HJ28.out; first | omega | exact Nat.le_refl _⟩, by repeat (first | exact Drawn0.refl _ | apply Drawn0.step)⟩
         ·rw [if_neg c39] at H
          have c39b0 : (a2 == (-1)) = false := beq_eq_false_iff_ne.mpr c39
          have c39b1 : (a2 != (-1)) = true := bne_iff_ne.mpr c39
          by_cases c42 : a2 = 0
          ·rw [if_pos c42] at H
           exact absurd H (by simp)
          ·rw [if_neg c42] at H
           have c42b0 : (a2 == 0) = false := beq_eq_false_iff_ne.mpr c42
           have c42b1 : (a2 != 0) = true := bne_iff_ne.mpr c42
           have H' := Aside0.mk H
           clear H
           go_wp2
           go_meet
           case rel => exact ⟨_, (((wrap64 (Int.tdiv (wrap64 (a1 * a2)) a2)) != a1)), (by first | rfl | (simp; done) | (simp [*]; done)), H', ⟨by have := HJ28.out; first | omega | exact Nat.le_refl _⟩, by repeat (first | exact Drawn0.refl _ | apply Drawn0.step)⟩
       case rest =>
        clear HC32
        (try clear c1);(try clear c2);(try clear p2);(try clear c3);(try clear c4);(try clear c4b0);(try clear c4b1);(try clear c6);(try clear c6b0);(try clear p6);(try clear c7);(try clear c7b0);(try clear c8);(try clear c8b0);(try clear c9);(try clear c9b0);(try clear c10);(try clear c10b0);(try clear c11);(try clear c11b0);(try clear c12);(try clear c12b0);(try clear c13);(try clear c13b0);(try clear c14);(try clear c14b0);(try clear c15);(try clear c16);(try clear c16b0);(try clear c16b1);(try clear c18);(try clear c18b0);(try clear c19);(try clear c19b0);(try clear c20);(try clear c20b0);(try clear c21);(try clear c21b0);(try clear c22);(try clear c22b0);(try clear c23);(try clear c23b0);(try clear c24);(try clear c24b0);(try clear c25);(try clear c25b0);(try clear c26);(try clear c26b0);(try clear c27);(try clear c28);(try clear c28b0);(try clear c28b1);(try clear c30);(try clear c30b0);(try clear c30b1);(try clear c31);(try clear c33);(try clear c33b0);(try clear c33b1);(try clear c34);(try clear c34b0);(try clear c34b1);(try clear c35);(try clear c35b0);(try clear c35b1);(try clear c36);(try clear c36b0);(try clear c36b1);(try clear c37);(try clear c37b0);(try clear c37b1);(try clear c38);(try clear c38b0);(try clear c38b1);(try clear c39);(try clear c39b0);(try clear c39b1);(try clear c40);(try clear c40b0);(try clear c40b1);(try clear c41);(try clear c41b0);(try clear c41b1);(try clear c42);(try clear c42b0);(try clear c42b1);(try clear p2);(try clear p6)
        obtain ⟨kq, x102_31, rfl, HA, HJ31, ⟨mc31, rfl⟩⟩ := hcut
        cases kq with
        | zero => exact absurd HA.out (by simp [relayref01_signed.j3])
        | succ kj31 =>
         have H := HA.out
         clear HA
         simp only [relayref01_signed.j3] at H
         by_cases c43 : x102_31 = true
         ·subst c43
          have H1 : (some (0, 1)) = some (r1, r2) := by rw [if_pos rfl] at H; exact H
          clear H
          have H := H1
          clear H1
          simp only [Option.some.injEq, Prod.mk.injEq] at H
          obtain ⟨rfl, rfl⟩ := H
          go_wp2
          go_ret2
          exact ⟨by first | rfl | (simp; done) | (simp [*]; done), by repeat (first | exact Drawn0.refl _ | apply Drawn0.step)⟩
         ·replace c43 := Bool.eq_false_iff.mpr c43
          subst c43
          have H1 : (some ((wrap64 (a1 * a2)), 0)) = some (r1, r2) := by rw [if_neg (show ¬ (false = true) by decide)] at H; exact H
          clear H
          have H := H1
          clear H1
          simp only [Option.some.injEq, Prod.mk.injEq] at H
          obtain ⟨rfl, rfl⟩ := H
          go_wp2
          go_ret2
          exact ⟨by first | rfl | (simp; done) | (simp [*]; done), by repeat (first | exact Drawn0.refl _ | apply Drawn0.step)⟩
   ·rw [if_neg c28] at H
    have c28b0 : (a0 == 3) = false := beq_eq_false_iff_ne.mpr c28
    have c28b1 : (a0 != 3) = true := bne_iff_ne.mpr c28
    by_cases c44 : a2 = 0
    ·rw [if_pos c44] at H
     have c44b0 : (a2 == 0) = true := beq_iff_eq.mpr c44
     have c44b1 : (a2 != 0) = false := bne_eq_false_iff_eq.mpr c44
     clear c44
     simp only [Option.some.injEq, Prod.mk.injEq] at H
     obtain ⟨rfl, rfl⟩ := H
     go_enter Try.func45, Try.ntmps45
     go_wp2
     go_ret2
     exact ⟨by first | rfl | (simp; done) | (simp [*]; done), by repeat (first | exact Drawn0.refl _ | apply Drawn0.step)⟩
    ·rw [if_neg c44] at H
     have c44b0 : (a2 == 0) = false := beq_eq_false_iff_ne.mpr c44
     have c44b1 : (a2 != 0) = true := bne_iff_ne.mpr c44
     by_cases c45 : a2 = (-1)
     ·rw [if_pos c45] at H
      have c45b0 : (a2 == (-1)) = true := beq_iff_eq.mpr c45
      have c45b1 : (a2 != (-1)) = false := bne_eq_false_iff_eq.mpr c45
      clear c45
      by_cases c46 : a0 = 5
      ·rw [if_pos c46] at H
       have c46b0 : (a0 == 5) = true := beq_iff_eq.mpr c46
       have c46b1 : (a0 != 5) = false := bne_eq_false_iff_eq.mpr c46
       clear c46
       simp only [Option.some.injEq, Prod.mk.injEq] at H
       obtain ⟨rfl, rfl⟩ := H
       go_enter Try.func45, Try.ntmps45
       go_wp2
       go_ret2
       exact ⟨by first | rfl | (simp; done) | (simp [*]; done), by repeat (first | exact Drawn0.refl _ | apply Drawn0.step)⟩
      ·rw [if_neg c46] at H
       have c46b0 : (a0 == 5) = false := beq_eq_false_iff_ne.mpr c46
       have c46b1 : (a0 != 5) = true := bne_iff_ne.mpr c46
       replace H := Option.bind_eq_some_iff.mp H
       obtain ⟨⟨t251, t252⟩, A470, H⟩ := H
       replace H : (some (t251, t252)) = some (r1, r2) := H
       have A47 := Aside0.mk A470
       clear A470
       simp only [Option.some.injEq, Prod.mk.injEq] at H
       obtain ⟨rfl, rfl⟩ := H
       go_enter Try.func45, Try.ntmps45
       go_wp2_with (first | ((with_reducible refine gate_callee (f := 45) rfl ?_); refine goesL_ (some 111) rfl rfl Try.func45 (by kernel_rfl) rfl #[.int .i64 2, .int .i64 0, .int .i64 a1] rfl (by (try simp only [List.map_toArray, List.map_cons, List.map_nil]); first | done | rfl | (simp only [List.length_drop, List.length_take]; rfl)) ?_; (with_reducible refine (ih k (by omega) 2 0 a1 t251 t252 _ A47.out).mono ?_); rintro e w' ⟨rfl, ⟨nd, rfl⟩⟩; refine ⟨_, rfl, ?_⟩))
       go_ret2
       exact ⟨by first | rfl | (simp; done) | (simp [*]; done), by repeat (first | exact Drawn0.refl _ | apply Drawn0.step)⟩
     ·rw [if_neg c45] at H
      have c45b0 : (a2 == (-1)) = false := beq_eq_false_iff_ne.mpr c45
      have c45b1 : (a2 != (-1)) = true := bne_iff_ne.mpr c45
      by_cases c48 : a0 = 4
      ·rw [if_pos c48] at H
       have c48b0 : (a0 == 4) = true := beq_iff_eq.mpr c48
       have c48b1 : (a0 != 4) = false := bne_eq_false_iff_eq.mpr c48
       clear c48
       simp only [Option.some.injEq, Prod.mk.injEq] at H
       obtain ⟨rfl, rfl⟩ := H
       go_enter Try.func45, Try.ntmps45
       go_wp2
       go_ret2
       exact ⟨by first | rfl | (simp; done) | (simp [*]; done), by repeat (first | exact Drawn0.refl _ | apply Drawn0.step)⟩
      ·rw [if_neg c48] at H
       have c48b0 : (a0 == 4) = false := beq_eq_false_iff_ne.mpr c48
       have c48b1 : (a0 != 4) = true := bne_iff_ne.mpr c48
       simp only [Option.some.injEq, Prod.mk.injEq] at H
       obtain ⟨rfl, rfl⟩ := H
       go_enter Try.func45, Try.ntmps45
       go_wp2
       go_ret2
       exact ⟨by first | rfl | (simp; done) | (simp [*]; done), by repeat (first | exact Drawn0.refl _ | apply Drawn0.step)⟩

end Go.Proofs.Ytlmmkaddlflepaa.PReck
