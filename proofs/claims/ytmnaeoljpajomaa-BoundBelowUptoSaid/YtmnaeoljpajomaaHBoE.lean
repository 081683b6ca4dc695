/- The bound of a sound list whose codes can be reckoned is there, if each code's own reckoning ends. Plain. -/
import Derived.Test.YtmnaeoljpajomaaHBoD
import Derived.Test.YtmnaeoljpajomaaHBeQ
namespace Go.Proofs.Ytmnaeoljpajomaa.H
set_option linter.unusedVariables false
set_option linter.unusedSimpArgs false
open Go.RowKit
theorem reckons_of {fs : List FlatD} {fn : Nat} (hm : ∀ f ∈ fs, Modest f) (N : Nat)
    (hv : ∀ f ∈ fs, CanF f → timesB f = true ∧ ∀ cost : OpD → Option Int, (∀ o ∈ f.ops, ∃ c, cost o = some c) → ∀ k, N ≤ k → ∃ c, val f cost k 0 none = some c)
    (hs : (soundV (allV fs) fn).2 = 0) (hc : (belongV (allV fs) [(fn : Int)]).find? (fun k => !(canB fs k)) = none) : ∃ v, ofV fs (N + ((allV fs).length + 1)) fn = some v := by
  obtain ⟨hG, hR⟩ := good_of hm hs hc
  refine ofV_ex (R := Reach (allV fs) [(fn : Int)]) (rk := rankV (allV fs)) (st := fun _ => N) (fun j hj => ?_) N (fun _ _ => Nat.le_refl _) _ _ hR (by have := rank_le (allV fs) fn; omega)
  obtain ⟨f, h1, h2, _, _⟩ := hG.code j hj
  have hmem : f ∈ fs := List.mem_of_getElem? h1
  obtain ⟨ht, hval⟩ := hv f hmem h2
  obtain ⟨zs, g1, g2⟩ := sound_rank hs j hj
  have hl : (allV fs)[j]? = some (callsV f.ops) := by simp [allV, h1]
  obtain rfl : callsV f.ops = zs := Option.some.inj (hl.symm.trans g1)
  exact ⟨f, h1, ht, fun o ho h18 => g2 _ (mem_callsV.2 ⟨o, ho, h18, rfl⟩), hval⟩
end Go.Proofs.Ytmnaeoljpajomaa.H
