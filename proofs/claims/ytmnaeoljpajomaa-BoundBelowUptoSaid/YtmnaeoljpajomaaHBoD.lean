/- A sound list of codes has a rank that falls with each call: how many codes belong to the called ones. Plain; condition: sound. -/
import Derived.Test.YtmnaeoljpajomaaHBoC
import Derived.Test.YtmnaeoljpajomaaHBeM
namespace Go.Proofs.Ytmnaeoljpajomaa.H
set_option linter.unusedVariables false
set_option linter.unusedSimpArgs false
open Go.RowKit
theorem filter_lt {p q : Nat → Bool} : ∀ (l : List Nat), (∀ x ∈ l, p x = true → q x = true) → (∃ x ∈ l, q x = true ∧ p x = false) → (l.filter p).length < (l.filter q).length
  | [], _, h => by obtain ⟨x, hx, _⟩ := h; cases hx
  | a :: l, hpq, h => by
    have hle : (l.filter p).length ≤ (l.filter q).length := by
      rw [← List.countP_eq_length_filter, ← List.countP_eq_length_filter]
      exact List.countP_mono_left (fun x hx => hpq x (List.mem_cons_of_mem _ hx))
    by_cases hl : ∃ x ∈ l, q x = true ∧ p x = false
    · have ih := filter_lt l (fun x hx => hpq x (List.mem_cons_of_mem _ hx)) hl
      have ha := hpq a (by simp)
      simp only [List.filter_cons]
      cases hp : p a <;> cases hq : q a <;> simp_all <;> omega
    · obtain ⟨x, hx, h1, h2⟩ := h
      rcases List.mem_cons.1 hx with rfl | hx
      · simp only [List.filter_cons, h1, h2]
        simp
        omega
      · exact absurd ⟨x, hx, h1, h2⟩ hl
theorem Reach.trans {ls : List (List Int)} {a b : List Int} (hab : ∀ k : Nat, (k : Int) ∈ a → k < ls.length → Reach ls b k) {k : Nat} (h : Reach ls a k) : Reach ls b k := by
  induction h with
  | base h hk => exact hab _ h hk
  | step h hl hm hk ih => exact .step ih hl hm hk
theorem sound_all {ls : List (List Int)} {fn : Int} (h : (soundV ls fn).2 = 0) : (∃ k : Nat, fn = (k : Int) ∧ k < ls.length) ∧ ∀ j : Nat, Reach ls [fn] j → lostB ls j = false ∧ ringB ls j = false := by
  unfold soundV at h
  split at h
  · simp at h
  · rename_i h0
    split at h
    · simp at h
    · rename_i h1
      split at h
      · simp at h
      · rename_i h2
        refine ⟨⟨fn.toNat, by omega, by omega⟩, fun j hj => ?_⟩
        have hm : (j : Int) ∈ belongV ls [fn] := belongV_mem.2 ⟨j, rfl, hj.lt, hj⟩
        exact ⟨by simpa using List.find?_eq_none.1 h1 _ hm, by simpa using List.find?_eq_none.1 h2 _ hm⟩
noncomputable def rankV (ls : List (List Int)) (k : Nat) : Nat := (belongV ls (listAt ls k)).length
theorem rank_le (ls : List (List Int)) (k : Nat) : rankV ls k ≤ ls.length := belongV_len ls _
open Classical in
theorem sound_rank {ls : List (List Int)} {fn : Int} (h : (soundV ls fn).2 = 0) : ∀ j : Nat, Reach ls [fn] j → ∃ zs, ls[j]? = some zs ∧ ∀ z ∈ zs, ∃ k : Nat, z = (k : Int) ∧ Reach ls [fn] k ∧ rankV ls k < rankV ls j := by
  intro j hj
  have hlt := hj.lt
  have hg : ls[j]? = some (listAt ls j) := by unfold listAt; rw [Int.toNat_natCast, List.getD_eq_getElem?_getD, List.getElem?_eq_getElem hlt]; rfl
  refine ⟨_, hg, fun z hz => ?_⟩
  have hlost := (sound_all h).2 j hj |>.1
  unfold lostB at hlost
  have ho : outB ls.length z = false := by simpa using List.any_eq_false.1 hlost z hz
  unfold outB at ho
  simp at ho
  obtain ⟨k, rfl⟩ : ∃ k : Nat, z = k := ⟨z.toNat, by omega⟩
  have hk : k < ls.length := by omega
  have hR : Reach ls [fn] k := .step hj hg hz hk
  refine ⟨k, rfl, hR, ?_⟩
  have hring := (sound_all h).2 k hR |>.2
  have hno : ¬ Reach ls (listAt ls k) k := fun hr => by
    unfold ringB at hring
    have : ((k : Int)) ∈ belongV ls (listAt ls k) := belongV_mem.2 ⟨k, rfl, hk, hr⟩
    simp_all
  have hb : Reach ls (listAt ls j) k := .base hz hk
  have hgk : ls[k]? = some (listAt ls k) := by unfold listAt; rw [Int.toNat_natCast, List.getD_eq_getElem?_getD, List.getElem?_eq_getElem hk]; rfl
  unfold rankV belongV
  rw [List.length_map, List.length_map]
  refine filter_lt _ (fun x _ hx => decide_eq_true (Reach.trans (fun y hy hyl => .step hb hgk hy hyl) (of_decide_eq_true hx))) ⟨k, List.mem_range.2 hk, decide_eq_true hb, decide_eq_false hno⟩
theorem depthV_sound {ls : List (List Int)} {fn : Int} (h : (soundV ls fn).2 = 0) : ∃ d, depthV ls (ls.length + 1) fn.toNat = some d := by
  obtain ⟨⟨k, rfl, hk⟩, _⟩ := sound_all h
  rw [Int.toNat_natCast]
  exact depthV_ex (R := Reach ls [(k : Int)]) (rk := rankV ls) (sound_rank h) _ _ (.base (by simp) hk) (by have := rank_le ls k; omega)
end Go.Proofs.Ytmnaeoljpajomaa.H
