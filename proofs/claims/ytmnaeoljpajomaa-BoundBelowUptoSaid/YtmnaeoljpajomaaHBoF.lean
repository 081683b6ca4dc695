/- The reckoning within a code ends, where a rank falls with each step that is reckoned. Plain. -/
import Derived.Test.YtmnaeoljpajomaaHBoC
namespace Go.Proofs.Ytmnaeoljpajomaa.H
set_option linter.unusedVariables false
set_option linter.unusedSimpArgs false
open Go.RowKit
/-- A step is not reckoned, or falls. -/
def Falls (f : FlatD) (R : Nat → Option Nat → Prop) (rk : Nat → Option Nat → Nat) (l : Option Nat) (b : Nat) (q : Int) : Prop := zeroB f q l = true ∨ R q.toNat l ∧ rk q.toNat l < b
theorem val_ex {f : FlatD} {R : Nat → Option Nat → Prop} {rk : Nat → Option Nat → Nat} (h : ∀ p l, R p l → p < f.ops.length ∧ (∀ m, withinV f p l = some m → R p (some m) ∧ rk p (some m) < rk p l ∧ ∀ q ∈ outsV f m, Falls f R rk l (rk p l) q) ∧ (withinV f p l = none → ∀ q ∈ nextsV f p, Falls f R rk l (rk p l) q))
    {cost : OpD → Option Int} (hcost : ∀ o ∈ f.ops, ∃ c, cost o = some c) : ∀ (k p : Nat) (l : Option Nat), R p l → rk p l < k → ∃ c, val f cost k p l = some c
  | 0, _, _, _, hk => absurd hk (Nat.not_lt_zero _)
  | k + 1, p, l, hR, hk => by
    obtain ⟨hp, h1, h2⟩ := h p l hR
    have hfar : ∀ q, Falls f R rk l (rk p l) q → ∃ c, farOf f (val f cost k) l q = some c := fun q hq => by
      unfold farOf
      rcases hq with hz | ⟨hq, hr⟩
      · exact ⟨0, by rw [if_pos hz]⟩
      · by_cases hz : zeroB f q l = true
        · exact ⟨0, by rw [if_pos hz]⟩
        · obtain ⟨c, hc⟩ := val_ex h hcost k q.toNat l hq (by omega)
          exact ⟨c, by rw [if_neg hz]; exact hc⟩
    cases hw : withinV f p l with
    | some m =>
      obtain ⟨g1, g2, g3⟩ := h1 m hw
      obtain ⟨o, ho⟩ := val_ex h hcost k p (some m) g1 (by omega)
      obtain ⟨fs, hfs⟩ := mapM_ex (g := farOf f (val f cost k) l) (outsV f m) (fun q hq => hfar q (g3 q hq))
      exact ⟨sumC (mulC o (loopAt f m).times) (maxV fs), by rw [val, hw]; simp only [ho, hfs, Option.bind_some]⟩
    | none =>
      obtain ⟨c, hc⟩ := hcost (opAt f p) (List.mem_of_getElem? (opAt_get hp))
      obtain ⟨fs, hfs⟩ := mapM_ex (g := farOf f (val f cost k) l) (nextsV f p) (fun q hq => hfar q (h2 hw q hq))
      exact ⟨sumC c (maxV fs), by rw [val, hw]; simp only [hc, hfs, Option.bind_some]⟩
end Go.Proofs.Ytmnaeoljpajomaa.H
