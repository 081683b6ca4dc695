/- Contract of bound.inside: does a loop lie in another one. Condition: the loops lie in memory. -/
import Derived.Test.YtmnaeoljpajomaaHBeD
namespace Go.Proofs.Ytmnaeoljpajomaa.H
set_option linter.unusedVariables false
set_option linter.unusedSimpArgs false
open Go.RowKit Go.Proofs.Ytmnaeoljpajomaa.Plain Go.Sort
set_option maxHeartbeats 3200000
set_option maxRecDepth 100000
attribute [local go_sem] ext_from ext_bits cell_isSome un_neg_float
theorem k_box {w : World} {o : Obj} : (w.alloc o).heap[w.heap.size]? = some o := k_new rfl
theorem s_old {w W : World} {a : Addr} {v : Value} (h : w.cell? a = some v) (ha : a.block < w.heap.size) (hb : Below w.heap.size w W) : W.cell? a = some v := (hb.cell ha).trans h
theorem c_inside (f : FlatD) (a b : Nat) (w : World) (hL : Loops w f.lo f.ln f.loops) (ha : a < f.ln) (hb : b < f.ln) (hs : f.ln * 24 ≤ 140737488355328) : Calls Try.prog 69 #[f.val, .int .i64 a, .int .i64 b] w fun e w' => e = .returned (.bool (inB f a b)) ∧ Below w.heap.size w w' := by
  obtain ⟨hl, hS⟩ := hL
  have hx := loopAt_get (f := f) (p := a) (by omega)
  have hy := loopAt_get (f := f) (p := b) (by omega)
  obtain ⟨R, hR⟩ : ∃ R, inB f a b = R := ⟨_, rfl⟩
  rw [hR]
  unfold inB at hR
  obtain ⟨x, hxx⟩ : ∃ x, loopAt f a = x := ⟨_, rfl⟩
  obtain ⟨y, hyy⟩ : ∃ x, loopAt f b = x := ⟨_, rfl⟩
  rw [hxx] at hx hR
  rw [hyy] at hy hR
  obtain ⟨lo, hlo⟩ : ∃ x, f.lo = x := ⟨_, rfl⟩
  obtain ⟨ln, hln⟩ : ∃ x, f.ln = x := ⟨_, rfl⟩
  simp only [FlatD.val, hlo, hln]
  rw [hlo, hln] at hS
  rw [hln] at ha hb hs
  rcases lo with _ | la
  · exact absurd (hS.2.1 rfl) (by omega)
  have p0 := hS.at0 LoopD.len hx rfl
  have p1 := hS.atS LoopD.len hx (j := 1) (by decide) rfl
  have p2 := hS.atS LoopD.len hx (j := 2) (by decide) rfl
  have q0 := hS.at0 LoopD.len hy rfl
  have q1 := hS.atS LoopD.len hy (j := 1) (by decide) rfl
  have q2 := hS.atS LoopD.len hy (j := 2) (by decide) rfl
  have hla : la.block < w.heap.size := (hS.2.2 la rfl).2 (by omega)
  have hA : (la.add (a * 3)).block < w.heap.size := by rw [add_blk]; exact hla
  have hB : (la.add (b * 3)).block < w.heap.size := by rw [add_blk]; exact hla
  have haI : (a : Int) < ln := by omega
  have hbI : (b : Int) < ln := by omega
  have HR := Lib.hid hR
  clear hS hx hy hl hlo hln hxx hyy hR hs
  go_enter Try.func69, Try.ntmps69
  go_upto_region 1 with fail
  go_cut [7, 8] from 9 (fun s7 s8 wx => ∃ g7 g8, s7 = .pointer (some ⟨g7, 0, none⟩) ∧ s8 = .pointer (some ⟨g8, 0, none⟩) ∧ Below w.heap.size w wx ∧ wx.cell? ⟨g7, 0, none⟩ = some (.int .i64 x.head) ∧ wx.cell? ⟨g7, 1, none⟩ = some (.int .i64 x.stop) ∧ wx.cell? ⟨g8, 0, none⟩ = some (.int .i64 y.head) ∧ wx.cell? ⟨g8, 1, none⟩ = some (.int .i64 y.stop))
  case first =>
    go_region_held3 (fun w' => w'.cell? ⟨w.heap.size, 7, none⟩ = some (.slice (some la) ln f.lc) ∧ w'.cell? (la.add (a * 3)) = some (.int .i64 x.head) ∧ w'.cell? ⟨(la.add (a * 3)).block, (la.add (a * 3)).off + 1, none⟩ = some (.int .i64 x.stop) ∧ w'.cell? ⟨(la.add (a * 3)).block, (la.add (a * 3)).off + 2, none⟩ = some (.int .i64 x.times) ∧ w'.cell? (la.add (b * 3)) = some (.int .i64 y.head) ∧ w'.cell? ⟨(la.add (b * 3)).block, (la.add (b * 3)).off + 1, none⟩ = some (.int .i64 y.stop) ∧ w'.cell? ⟨(la.add (b * 3)).block, (la.add (b * 3)).off + 2, none⟩ = some (.int .i64 y.times)) (first | (refine ⟨by first | rfl | go_keep, s_old p0 hA ?_, s_old p1 hA ?_, s_old p2 hA ?_, s_old q0 hB ?_, s_old q1 hB ?_, s_old q2 hB ?_⟩ <;> (repeat (first | exact Below.refl _ _ | with_reducible apply b_al | with_reducible apply b_dr | (with_reducible refine b_st ?_ ?_ _; rotate_left; (first | (simp; done) | (simp; omega)))))) | go_keep) (fail)
    all_goals
      go_wp2_with fail
      go_meet
      refine ⟨_, _, rfl, rfl, ?_, ?_, ?_, ?_, ?_⟩
      · repeat (first | exact Below.refl _ _ | with_reducible apply b_al | with_reducible apply b_dr | (with_reducible refine b_st ?_ ?_ _; rotate_left; (first | (simp; done) | (simp; omega))))
      all_goals (try clear hS)
      all_goals first | (go_keep; done) | (go_keep; exact (k_cell (k_new (by simp)) _).trans (by simp))
  case rest =>
    obtain ⟨g7, g8, rfl, rfl, hbel, z0, z1, y0, y1⟩ := hcut
    have hR := HR.out
    unfold insideB at hR
    clear p0 p1 p2 q0 q1 q2
    by_cases c1 : x.head = y.head
    · by_cases c2 : x.stop = y.stop
      · have hR2 : decide (b < a) = R := by rw [← hR]; simp [c1, c2]
        by_cases c3 : b < a
        · obtain rfl : true = R := by simpa [c3] using hR2
          have c4 : (b : Int) < a := by omega
          go_wp2
          all_goals go_ret
          all_goals exact ⟨by simp, hbel⟩
        · obtain rfl : false = R := by simpa [c3] using hR2
          have c4 : ¬ (b : Int) < a := by omega
          go_wp2
          all_goals go_ret
          all_goals exact ⟨by simp, hbel⟩
      · have hR2 : (decide (y.head ≤ x.head) && decide (x.stop ≤ y.stop)) = R := by rw [← hR]; simp [c1, c2]
        have c5 : y.head ≤ x.head := by omega
        by_cases c3 : x.stop ≤ y.stop
        · obtain rfl : true = R := by simpa [c5, c3] using hR2
          go_wp2
          all_goals go_ret
          all_goals exact ⟨by simp, hbel⟩
        · obtain rfl : false = R := by simpa [c5, c3] using hR2
          go_wp2
          all_goals go_ret
          all_goals exact ⟨by simp, hbel⟩
    · have hR2 : (decide (y.head ≤ x.head) && decide (x.stop ≤ y.stop)) = R := by rw [← hR]; simp [c1]
      by_cases c5 : y.head ≤ x.head
      · by_cases c3 : x.stop ≤ y.stop
        · obtain rfl : true = R := by simpa [c5, c3] using hR2
          go_wp2
          all_goals go_ret
          all_goals exact ⟨by simp, hbel⟩
        · obtain rfl : false = R := by simpa [c5, c3] using hR2
          go_wp2
          all_goals go_ret
          all_goals exact ⟨by simp, hbel⟩
      · obtain rfl : false = R := by simpa [c5] using hR2
        go_wp2
        all_goals go_ret
        all_goals exact ⟨by simp, hbel⟩
end Go.Proofs.Ytmnaeoljpajomaa.H
