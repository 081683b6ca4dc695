/- The pure statement of ValueFits: the program's May and Fits answer as the document's, for every type and value. No condition. -/
import Derived.Test.YtlmmkaddlflepaaPFitsV1
namespace Go.Proofs.Ytlmmkaddlflepaa.Pure
open Go.RowKit Go.Proofs.YtlmmkaddlflepaaW.PrintWords Go.Proofs.YtlmmkaddlflepaaW.PrintLast Go.Proofs.YtlmmkaddlflepaaW.PrintMore Go.Proofs.Ytlmmkaddlflepaa.Plain Go.Proofs.Ytlmmkaddlflepaa.PFits
set_option linter.unusedVariables false
set_option linter.unusedSimpArgs false

theorem ValueFits : relaylaw01_ValueFits.Pure := by
  intro t0 t1 t2 t3 t4 t5 t6 t7 t8 a b t w1 w2 w3 w4 w5 w6 w7 wa wb wt
  have hb := bounds_u64 wb
  obtain ⟨h0, h1⟩ := hb
  have hn1 := fun k => v_number a b t h0 (by omega) k
  have hn2 := fun k => r_number a b t h0 (by omega) k
  have hm1 := fun k => v_may a b t h0 (by omega) k
  have hm2 := fun k => r_May a b t h0 (by omega) k
  refine ⟨30, ?_⟩
  unfold relaylaw01_ValueFits.f
  simp only [hm1, hm2, Option.bind_some, beq_self_eq_true, if_true]
  have e : ∃ r, value_Fits.f 30 t0 t1 t2 t3 t4 t5 t6 t7 t8 a b t = some r ∧ relayref01_Fits.f 30 t0 t1 t2 t3 t4 t5 t6 t7 t8 a b t = some r := by
    simp only [value_Fits.f, relayref01_Fits.f, value_Fits.j0, value_Fits.j1, value_Fits.j2, value_Fits.j3, relayref01_Fits.j0, relayref01_Fits.j1, relayref01_Fits.j2, relayref01_Fits.j3, relayref01_Fits.j4, hm1, hm2, hn1, hn2, Option.bind_some,
      value_whole.f, relayref01_Integer.f, value_signed.f, value_unsigned.f, relayref01_Signed.f, relayref01_Unsigned.f]
    obtain ⟨s1, hs1⟩ : ∃ s, (if a ≥ 2 then some (decide (a ≤ 5)) else some false) = some s := by split <;> exact ⟨_, rfl⟩
    obtain ⟨s2, hs2⟩ : ∃ s, (if a ≥ 6 then some (decide (a ≤ 9)) else some false) = some s := by split <;> exact ⟨_, rfl⟩
    simp only [hs1, hs2, Option.bind_some]
    generalize numV a b t = q
    generalize mayB a b t = m
    cases m
    · simp
    · by_cases c : a = t0
      · subst c
        cases t1
        · by_cases d : t4 < 1 <;> simp [d] <;> (repeat' split) <;> simp_all
        · cases s1 <;> cases s2 <;> by_cases d : t4 < 1 <;> simp [d] <;> (repeat' split) <;> simp_all
      · have : (a != t0) = true := by simpa using c
        simp [this]
  obtain ⟨r, e1, e2⟩ := e
  rw [e1, e2]
  simp
end Go.Proofs.Ytlmmkaddlflepaa.Pure
