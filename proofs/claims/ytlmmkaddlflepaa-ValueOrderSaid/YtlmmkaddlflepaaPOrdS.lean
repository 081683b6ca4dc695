-- by mkprint.py, a program of this session's own
import Derived.Test.YtlmmkaddlflepaaPOrd0
import Derived.Test.YtlmmkaddlflepaaPOrdOpen
import Derived.ChangeShapes
import Derived.ChangeArms
namespace Go.Proofs.Ytlmmkaddlflepaa.POrd
open Go.RowKit Go.Proofs.YtlmmkaddlflepaaW.PrintWords Go.Proofs.YtlmmkaddlflepaaW.PrintLast Go.Proofs.YtlmmkaddlflepaaW.PrintMore
attribute [local go_sem] max2_int min2_int max_two min_two max_three min_three max_four min_four   -- for this text's walks alone
set_option linter.unusedVariables false
set_option linter.unusedSimpArgs false

open Go.ChangeShapes Go.WideShapes
theorem cz9 : Try.prog.cellsOf 9 = 1 := by kernel_rfl
theorem cz22 : Try.prog.cellsOf 22 = 1 := by kernel_rfl
theorem cz25 : Try.prog.cellsOf 25 = 1 := by kernel_rfl
theorem cz27 : Try.prog.cellsOf 27 = 3 := by kernel_rfl
def okS27 (x : S27) : Prop := (Lit.int .u8 x.f0).wf = true ∧ (Lit.int .u64 x.f1).wf = true ∧ x.f2.size ≤ 140737488351232
theorem opensS27 {H : Type} {enc : TypeId × Value → H} {w : World} : Open.Opens enc Try.prog w 27 k27 okS27 := by
  intro fuel cs y p h hw
  obtain ⟨xs, n, _, hx, hl, hlen, hf⟩ := DataW.trod_struct Try.underlying27 h
  replace hl : cs.length = 3 := hl.trans cz27
  replace hlen : xs.length = 3 := hlen
  match cs, hl, xs, hlen with
  | [c0, c1, c2], _, [y0, y1, y2], _ =>
  obtain ⟨rfl, rfl⟩ := Prod.mk.inj hx
  have hw2 : ∀ n ∈ DataW.weightsEach Try.prog [22, 25, 9] [y0.1, y1.1, y2.1], n ≤ reachBytes := fun n hn => hw n (by simp only [DataW.weights, Try.underlying27]; exact hn)
  have g0 : DataW.trod enc Try.prog w 0 (fun _ => true) true n 22 [c0] = some (y0.1, y0.2) := by simpa [cz22] using hf 0 _ rfl
  obtain ⟨x0, e0, o0⟩ := (Open.opens_int Try.underlying22) _ _ _ _ g0 (fun q hq => hw2 q (Open.weights_each (i := 0) rfl rfl hq))
  obtain rfl := List.head_eq_of_cons_eq e0
  have g1 : DataW.trod enc Try.prog w 0 (fun _ => true) true n 25 [c1] = some (y1.1, y1.2) := by simpa [cz25] using hf 1 _ rfl
  obtain ⟨x1, e1, o1⟩ := (Open.opens_int Try.underlying25) _ _ _ _ g1 (fun q hq => hw2 q (Open.weights_each (i := 1) rfl rfl hq))
  obtain rfl := List.head_eq_of_cons_eq e1
  have g2 : DataW.trod enc Try.prog w 0 (fun _ => true) true n 9 [c2] = some (y2.1, y2.2) := by simpa [cz9] using hf 2 _ rfl
  obtain ⟨x2, e2, o2⟩ := (Open.opens_string Try.underlying9) _ _ _ _ g2 (fun q hq => hw2 q (Open.weights_each (i := 2) rfl rfl hq))
  obtain rfl := List.head_eq_of_cons_eq e2
  exact ⟨⟨x0, x1, x2⟩, k27_mk w ⟨x0, x1, x2⟩ , ⟨o0, o1, o2⟩⟩
end Go.Proofs.Ytlmmkaddlflepaa.POrd
