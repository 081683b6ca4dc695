-- by mkprint.py, a program of this session's own
import Derived.Test.YtlmmkaddlflepaaPFits0
import Derived.Test.YtlmmkaddlflepaaOpen
import Derived.ChangeShapes
import Derived.ChangeArms
namespace Go.Proofs.Ytlmmkaddlflepaa.PFits
open Go.RowKit Go.Proofs.YtlmmkaddlflepaaW.PrintWords Go.Proofs.YtlmmkaddlflepaaW.PrintLast Go.Proofs.YtlmmkaddlflepaaW.PrintMore
attribute [local go_sem] max2_int min2_int max_two min_two max_three min_three max_four min_four   -- for this text's walks alone
set_option linter.unusedVariables false
set_option linter.unusedSimpArgs false

open Go.ChangeShapes Go.WideShapes
theorem cz3 : Try.prog.cellsOf 3 = 1 := by kernel_rfl
theorem cz4 : Try.prog.cellsOf 4 = 1 := by kernel_rfl
theorem cz9 : Try.prog.cellsOf 9 = 1 := by kernel_rfl
theorem cz22 : Try.prog.cellsOf 22 = 1 := by kernel_rfl
theorem cz24 : Try.prog.cellsOf 24 = 9 := by kernel_rfl
theorem cz25 : Try.prog.cellsOf 25 = 1 := by kernel_rfl
theorem cz27 : Try.prog.cellsOf 27 = 3 := by kernel_rfl
def okS24 (x : S24) : Prop := (Lit.int .u8 x.f0).wf = true ∧ (Lit.int .i64 x.f2).wf = true ∧ (Lit.int .i64 x.f3).wf = true ∧ (Lit.int .i64 x.f4).wf = true ∧ (Lit.int .i64 x.f6).wf = true ∧ (Lit.int .i64 x.f7).wf = true ∧ x.f8.size ≤ 140737488351232
theorem opensS24 {H : Type} {enc : TypeId × Value → H} {w : World} : Open.Opens enc Try.prog w 24 k24 okS24 := by
  intro fuel cs y p h hw
  obtain ⟨xs, n, _, hx, hl, hlen, hf⟩ := DataW.trod_struct Try.underlying24 h
  replace hl : cs.length = 9 := hl.trans cz24
  replace hlen : xs.length = 9 := hlen
  match cs, hl, xs, hlen with
  | [c0, c1, c2, c3, c4, c5, c6, c7, c8], _, [y0, y1, y2, y3, y4, y5, y6, y7, y8], _ =>
  obtain ⟨rfl, rfl⟩ := Prod.mk.inj hx
  have hw2 : ∀ n ∈ DataW.weightsEach Try.prog [22, 4, 3, 3, 3, 4, 3, 3, 9] [y0.1, y1.1, y2.1, y3.1, y4.1, y5.1, y6.1, y7.1, y8.1], n ≤ reachBytes := fun n hn => hw n (by simp only [DataW.weights, Try.underlying24]; exact hn)
  have g0 : DataW.trod enc Try.prog w 0 (fun _ => true) true n 22 [c0] = some (y0.1, y0.2) := by simpa [cz22] using hf 0 _ rfl
  obtain ⟨x0, e0, o0⟩ := (Open.opens_int Try.underlying22) _ _ _ _ g0 (fun q hq => hw2 q (Open.weights_each (i := 0) rfl rfl hq))
  obtain rfl := List.head_eq_of_cons_eq e0
  have g1 : DataW.trod enc Try.prog w 0 (fun _ => true) true n 4 [c1] = some (y1.1, y1.2) := by simpa [cz4] using hf 1 _ rfl
  obtain ⟨x1, e1, o1⟩ := (Open.opens_bool Try.underlying4) _ _ _ _ g1 (fun q hq => hw2 q (Open.weights_each (i := 1) rfl rfl hq))
  obtain rfl := List.head_eq_of_cons_eq e1
  have g2 : DataW.trod enc Try.prog w 0 (fun _ => true) true n 3 [c2] = some (y2.1, y2.2) := by simpa [cz3] using hf 2 _ rfl
  obtain ⟨x2, e2, o2⟩ := (Open.opens_int Try.underlying3) _ _ _ _ g2 (fun q hq => hw2 q (Open.weights_each (i := 2) rfl rfl hq))
  obtain rfl := List.head_eq_of_cons_eq e2
  have g3 : DataW.trod enc Try.prog w 0 (fun _ => true) true n 3 [c3] = some (y3.1, y3.2) := by simpa [cz3] using hf 3 _ rfl
  obtain ⟨x3, e3, o3⟩ := (Open.opens_int Try.underlying3) _ _ _ _ g3 (fun q hq => hw2 q (Open.weights_each (i := 3) rfl rfl hq))
  obtain rfl := List.head_eq_of_cons_eq e3
  have g4 : DataW.trod enc Try.prog w 0 (fun _ => true) true n 3 [c4] = some (y4.1, y4.2) := by simpa [cz3] using hf 4 _ rfl
  obtain ⟨x4, e4, o4⟩ := (Open.opens_int Try.underlying3) _ _ _ _ g4 (fun q hq => hw2 q (Open.weights_each (i := 4) rfl rfl hq))
  obtain rfl := List.head_eq_of_cons_eq e4
  have g5 : DataW.trod enc Try.prog w 0 (fun _ => true) true n 4 [c5] = some (y5.1, y5.2) := by simpa [cz4] using hf 5 _ rfl
  obtain ⟨x5, e5, o5⟩ := (Open.opens_bool Try.underlying4) _ _ _ _ g5 (fun q hq => hw2 q (Open.weights_each (i := 5) rfl rfl hq))
  obtain rfl := List.head_eq_of_cons_eq e5
  have g6 : DataW.trod enc Try.prog w 0 (fun _ => true) true n 3 [c6] = some (y6.1, y6.2) := by simpa [cz3] using hf 6 _ rfl
  obtain ⟨x6, e6, o6⟩ := (Open.opens_int Try.underlying3) _ _ _ _ g6 (fun q hq => hw2 q (Open.weights_each (i := 6) rfl rfl hq))
  obtain rfl := List.head_eq_of_cons_eq e6
  have g7 : DataW.trod enc Try.prog w 0 (fun _ => true) true n 3 [c7] = some (y7.1, y7.2) := by simpa [cz3] using hf 7 _ rfl
  obtain ⟨x7, e7, o7⟩ := (Open.opens_int Try.underlying3) _ _ _ _ g7 (fun q hq => hw2 q (Open.weights_each (i := 7) rfl rfl hq))
  obtain rfl := List.head_eq_of_cons_eq e7
  have g8 : DataW.trod enc Try.prog w 0 (fun _ => true) true n 9 [c8] = some (y8.1, y8.2) := by simpa [cz9] using hf 8 _ rfl
  obtain ⟨x8, e8, o8⟩ := (Open.opens_string Try.underlying9) _ _ _ _ g8 (fun q hq => hw2 q (Open.weights_each (i := 8) rfl rfl hq))
  obtain rfl := List.head_eq_of_cons_eq e8
  exact ⟨⟨x0, x1, x2, x3, x4, x5, x6, x7, x8⟩, k24_mk w ⟨x0, x1, x2, x3, x4, x5, x6, x7, x8⟩ , ⟨o0, o2, o3, o4, o6, o7, o8⟩⟩
def okS27 (x : S27) : Prop := (Lit.int .u8 x.f0).wf = true ∧ (Lit.int .u64 x.f1).wf = true ∧ x.f2.size ≤ 140737488351232
theorem opensS27 {H : Type} {enc : TypeId × Value → H} {w : World} : Open.Opens enc Try.prog w 27 k27 okS27 := by
  intro fuel cs y p h hw
  obtain ⟨xs, n, _, hx, hl, hlen, hf⟩ := DataW.trod_struct Try.underlying27 h
  replace hl : cs.length = 3 := hl.trans cz27
  replace hlen : xs.length = 3 := hlen
  match cs, hl, xs, hlen with
  | [c0, c1, c2], _, [y0, y1, y2], _ =>
  obtain ⟨rfl, rfl⟩ := Prod.mk.inj hx
  have hw2 : ∀ n ∈ DataW.weightsEach Try.prog [22, 25, 9] [y0.1, y1.1, y2.1], n ≤ reachBytes := fun n hn => hw n (by simp only [DataW.weights, Try.underlying27]; exact hn)
  have g0 : DataW.trod enc Try.prog w 0 (fun _ => true) true n 22 [c0] = some (y0.1, y0.2) := by simpa [cz22] using hf 0 _ rfl
  obtain ⟨x0, e0, o0⟩ := (Open.opens_int Try.underlying22) _ _ _ _ g0 (fun q hq => hw2 q (Open.weights_each (i := 0) rfl rfl hq))
  obtain rfl := List.head_eq_of_cons_eq e0
  have g1 : DataW.trod enc Try.prog w 0 (fun _ => true) true n 25 [c1] = some (y1.1, y1.2) := by simpa [cz25] using hf 1 _ rfl
  obtain ⟨x1, e1, o1⟩ := (Open.opens_int Try.underlying25) _ _ _ _ g1 (fun q hq => hw2 q (Open.weights_each (i := 1) rfl rfl hq))
  obtain rfl := List.head_eq_of_cons_eq e1
  have g2 : DataW.trod enc Try.prog w 0 (fun _ => true) true n 9 [c2] = some (y2.1, y2.2) := by simpa [cz9] using hf 2 _ rfl
  obtain ⟨x2, e2, o2⟩ := (Open.opens_string Try.underlying9) _ _ _ _ g2 (fun q hq => hw2 q (Open.weights_each (i := 2) rfl rfl hq))
  obtain rfl := List.head_eq_of_cons_eq e2
  exact ⟨⟨x0, x1, x2⟩, k27_mk w ⟨x0, x1, x2⟩ , ⟨o0, o1, o2⟩⟩
end Go.Proofs.Ytlmmkaddlflepaa.PFits
