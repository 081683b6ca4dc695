/- There are steps enough for a code's depth, where a rank falls with each call. Plain; no program in sight. -/
import Derived.Test.YtmnaeoljpajomaaHBoA
namespace Go.Proofs.Ytmnaeoljpajomaa.H
set_option linter.unusedVariables false
set_option linter.unusedSimpArgs false
open Go.RowKit
theorem mapM_ex {α β : Type} {g : α → Option β} : ∀ (l : List α), (∀ a ∈ l, ∃ b, g a = some b) → ∃ r, l.mapM g = some r
  | [], _ => ⟨[], rfl⟩
  | a :: l, h => by
    obtain ⟨b, hb⟩ := h a (by simp)
    obtain ⟨r, hr⟩ := mapM_ex l (fun x hx => h x (List.mem_cons_of_mem _ hx))
    exact ⟨b :: r, by rw [List.mapM_cons, hb, hr]; rfl⟩
theorem depthV_ex {ls : List (List Int)} {R : Nat → Prop} {rk : Nat → Nat} (h : ∀ fn, R fn → ∃ zs, ls[fn]? = some zs ∧ ∀ z ∈ zs, ∃ j : Nat, z = (j : Int) ∧ R j ∧ rk j < rk fn) : ∀ (n fn : Nat), R fn → rk fn < n → ∃ d, depthV ls n fn = some d
  | 0, _, _, hn => absurd hn (Nat.not_lt_zero _)
  | n + 1, fn, hR, hn => by
    obtain ⟨zs, h1, h2⟩ := h fn hR
    obtain ⟨ds, hd⟩ := mapM_ex (g := fun z : Int => if z < 0 then none else depthV ls n z.toNat) zs (fun z hz => by
      obtain ⟨j, rfl, hj, hr⟩ := h2 z hz
      obtain ⟨d, e⟩ := depthV_ex h n j hj (by omega)
      exact ⟨d, by rw [if_neg (by omega), Int.toNat_natCast]; exact e⟩)
    exact ⟨maxV ds + 1, by
      have e : depthV ls (n + 1) fn = (zs.mapM fun z : Int => if z < 0 then none else depthV ls n z.toNat).map fun ds => maxV ds + 1 := by rw [depthV, h1]
      rw [e, hd]; rfl⟩
/-- The bound likewise, where each code's own reckoning ends once its calls' do. -/
theorem ofV_ex {fs : List FlatD} {R : Nat → Prop} {rk : Nat → Nat} {st : FlatD → Nat} (h : ∀ fn, R fn → ∃ f, fs[fn]? = some f ∧ timesB f = true ∧ (∀ o ∈ f.ops, o.code = 18 → ∃ j : Nat, o.b = (j : Int) ∧ R j ∧ rk j < rk fn) ∧
    ∀ cost : OpD → Option Int, (∀ o ∈ f.ops, ∃ c, cost o = some c) → ∀ k, st f ≤ k → ∃ c, val f cost k 0 none = some c) (N : Nat) (hN : ∀ f ∈ fs, st f ≤ N) : ∀ (n fn : Nat), R fn → rk fn < n → ∃ d, ofV fs (N + n) fn = some d
  | 0, _, _, hn => absurd hn (Nat.not_lt_zero _)
  | n + 1, fn, hR, hn => by
    obtain ⟨f, h1, h2, h3, h4⟩ := h fn hR
    have hm : f ∈ fs := List.mem_of_getElem? h1
    obtain ⟨c, hc⟩ := h4 (costV fs (N + n)) (fun o ho => by
      unfold costV
      by_cases c18 : o.code = 18
      · obtain ⟨j, e, hj, hr⟩ := h3 o ho c18
        obtain ⟨d, hd⟩ := ofV_ex h N hN n j hj (by omega)
        rw [if_pos c18, if_neg (by omega), e, Int.toNat_natCast, hd]
        exact ⟨_, rfl⟩
      · rw [if_neg c18]; exact ⟨1, rfl⟩) (N + n) (by have := hN f hm; omega)
    exact ⟨c, by rw [show N + (n + 1) = (N + n) + 1 from rfl, ofV_succ, h1]; show (if timesB f then _ else none) = _; rw [if_pos h2]; exact hc⟩
end Go.Proofs.Ytmnaeoljpajomaa.H
