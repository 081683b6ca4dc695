/- The pure statement of ValueSigns: the other sign, twice, is the value; what is turned twice too. No condition. -/
import Derived.Test.YtlmmkaddlflepaaPSignsVT
namespace Go.Proofs.Ytlmmkaddlflepaa.Pure
open Go.RowKit Go.Proofs.YtlmmkaddlflepaaW.PrintWords Go.Proofs.YtlmmkaddlflepaaW.PrintLast Go.Proofs.YtlmmkaddlflepaaW.PrintMore Go.Proofs.Ytlmmkaddlflepaa.Plain Go.Proofs.Ytlmmkaddlflepaa.PSigns
set_option linter.unusedVariables false
set_option linter.unusedSimpArgs false

theorem round (l : List Int) (n : Int) (i : Int) (a b : Int) (t : ByteArray) (h0 : 0 ≤ b) (h1 : b < 18446744073709551616) (hi : i < n) (hi0 : 0 ≤ i) (hl : i < (l.length : Int)) (hw : wrap64 (i + 1) = i + 1) (k : Nat) :
    relaylaw01_ValueSigns.l0 (k + 41) l n i a b t = relaylaw01_ValueSigns.l0 (k + 40) l n (i + 1) a b t := by
  obtain ⟨e1, r, e2, hr⟩ := turns (rd l i) a b t h0 h1 k
  show relaylaw01_ValueSigns.l0 ((k + 40) + 1) l n i a b t = _
  rw [relaylaw01_ValueSigns.l0, if_pos hi, if_pos hi0, if_pos hl, e1, e2]
  simp only [Option.bind_some, if_true]
  rw [hw]
  by_cases hf : (turnV (rd l i) a b t).2.2.2 = 0
  · rw [if_pos hf]
    obtain ⟨f1, f2, f3, f4⟩ := turn_twice (rd l i) a b t h0 h1 hf
    obtain ⟨e3, _⟩ := turns (rd l i) (turnV (rd l i) a b t).1 (turnV (rd l i) a b t).2.1 (turnV (rd l i) a b t).2.2.1 f3 f4 k
    rw [e3, f1]
    simp [f2, empty_toList]
  · rw [if_neg hf]
theorem ValueSigns : relaylaw01_ValueSigns.Pure := by
  intro a b t wa wb wt
  obtain ⟨h0, h1⟩ := bounds_u64 wb
  refine ⟨43, ?_⟩
  unfold relaylaw01_ValueSigns.f
  simp only [Option.bind_some]
  rw [round [15, 16] _ 0 a b t h0 (by omega) (by decide) (by decide) (by decide) (by unfold wrap64; decide) 2]
  rw [show ((0 : Int) + 1) = 1 from rfl, round [15, 16] _ 1 a b t h0 (by omega) (by decide) (by decide) (by decide) (by unfold wrap64; decide) 1]
  show relaylaw01_ValueSigns.l0 (40 + 1) _ _ _ a b t = _
  rw [relaylaw01_ValueSigns.l0, if_neg (by decide)]
end Go.Proofs.Ytlmmkaddlflepaa.Pure
