/- A code without loops, calls and ways that part: the reckoning is how many instructions its way has. No program in sight; no condition. -/
import Derived.Test.YtmnaeoljpajomaaHBeR
namespace Go.Proofs.Ytmnaeoljpajomaa.H
set_option linter.unusedVariables false
set_option linter.unusedSimpArgs false
open Go.RowKit
/-- How many instructions a way has from a place on. -/
def lenP (f : FlatD) : Nat → Nat → Option Nat
  | 0, _ => none
  | k + 1, p => match nextsV f p with
    | [] => some 1
    | q :: _ => (lenP f k q.toNat).map (· + 1)
theorem lenP_end {f : FlatD} {k p c : Nat} (hn : nextsV f p = []) (h : lenP f k p = some c) : c = 1 := by
  cases k with
  | zero => cases h
  | succ k => unfold lenP at h; rw [hn] at h; cases h; rfl
theorem lenP_step {f : FlatD} {k p c : Nat} {q : Int} {r : List Int} (hn : nextsV f p = q :: r) (h : lenP f k p = some c) : ∃ k' c', lenP f k' q.toNat = some c' ∧ c = c' + 1 := by
  cases k with
  | zero => cases h
  | succ k =>
    unfold lenP at h
    rw [hn] at h
    obtain ⟨c', h1, rfl⟩ := Option.map_eq_some_iff.1 h
    exact ⟨k, c', h1, rfl⟩
theorem lenP_pos {f : FlatD} {k p c : Nat} (h : lenP f k p = some c) : 1 ≤ c := by
  cases k with
  | zero => cases h
  | succ k =>
    unfold lenP at h
    split at h
    · cases h; exact Nat.le_refl _
    · obtain ⟨c', h1, rfl⟩ := Option.map_eq_some_iff.1 h
      omega
/-- No place has two next ones, none leads back or away, none calls. -/
def StepS (f : FlatD) (p : Nat) : Prop := (nextsV f p = [] ∨ ∃ q : Nat, nextsV f p = [(q : Int)] ∧ p < q ∧ q < f.ops.length) ∧ ¬ (opAt f p).code = 18
theorem within_none {f : FlatD} (hl : f.loops = []) (p : Int) (l : Option Nat) : withinV f p l = none := by unfold withinV; rw [hl]; rfl
theorem straight_val {f : FlatD} (hl : f.loops = []) (hb : f.ops.length ≤ 1048576) (hs : ∀ p, p < f.ops.length → StepS f p) (kc : Nat) : ∀ (d p : Nat), p < f.ops.length → f.ops.length - p ≤ d → ∃ c : Nat, 1 ≤ c ∧ c ≤ f.ops.length - p ∧ lenP f d p = some c ∧ val f (costV [f] kc) d p none = some (c : Int)
  | 0, p, hp, hd => absurd hd (by omega)
  | d + 1, p, hp, hd => by
    obtain ⟨hn, h18⟩ := hs p hp
    have hc : costV [f] kc (opAt f p) = some 1 := by unfold costV; rw [if_neg h18]
    rcases hn with hn | ⟨q, hn, hpq, hq⟩
    · refine ⟨1, Nat.le_refl _, by omega, by unfold lenP; rw [hn], ?_⟩
      unfold val
      rw [within_none hl, hc, hn]
      rfl
    · obtain ⟨c, h1, h2, h3, h4⟩ := straight_val hl hb hs kc d q hq (by omega)
      refine ⟨c + 1, by omega, by omega, by unfold lenP; rw [hn]; simp [h3], ?_⟩
      unfold val
      rw [within_none hl, hc, hn]
      have hf : farOf f (val f (costV [f] kc) d) none (q : Int) = some (c : Int) := by
        unfold farOf
        rw [if_neg (by simp [zeroB]), Int.toNat_natCast]
        exact h4
      simp only [List.mapM_cons, List.mapM_nil, hf]
      show some (sumC 1 (maxV [(c : Int)])) = _
      have hm : maxV [(c : Int)] = c := by
        unfold maxV
        simp only [List.foldl_cons, List.foldl_nil]
        rw [if_pos (by omega)]
      rw [hm]
      unfold sumC H40
      rw [if_pos (by omega)]
      congr 1
      omega
theorem straight_can {f : FlatD} (hl : f.loops = []) (hpos : 0 < f.ops.length) (hs : ∀ p, p < f.ops.length → StepS f p) : CanF f := by
  refine ⟨hpos, fun m h => by rw [hl] at h; simp at h, fun i j _ h => by rw [hl] at h; simp at h, fun p hp q hq => ?_⟩
  rcases (hs p hp).1 with hn | ⟨q', hn, h1, h2⟩
  · rw [hn] at hq; cases hq
  · rw [hn] at hq
    obtain rfl := List.mem_singleton.1 hq
    exact ⟨by omega, by omega, fun h => absurd h (by omega)⟩
/-- What Of answers of such a code. -/
theorem straight_of {f : FlatD} (hl : f.loops = []) (hpos : 0 < f.ops.length) (hb : f.ops.length ≤ 1048576) (hs : ∀ p, p < f.ops.length → StepS f p) : ∃ c : Nat, c ≤ f.ops.length ∧ lenP f f.ops.length 0 = some c ∧ ofR [f] 0 c = ((c : Int), 0, 0) ∧ Reckons [f] 0 c ∧ allV [f] = [[]] := by
  obtain ⟨c, h1, h2, h3, h4⟩ := straight_val hl hb hs f.ops.length f.ops.length 0 hpos (by omega)
  have hno : ∀ o ∈ f.ops, ¬ o.code = 18 := by
    intro o ho
    obtain ⟨i, hi, e⟩ := List.mem_iff_getElem.1 ho
    have h := (hs i hi).2
    have := opAt_get hi
    rw [List.getElem?_eq_getElem hi, e] at this
    rw [← Option.some.inj this] at h
    exact h
  obtain ⟨a1, a2, a3⟩ := one_sound (fs := [f]) rfl hno
  refine ⟨c, by omega, h3, ?_, fun _ _ => ⟨f.ops.length + 1, ?_⟩, a1⟩
  · unfold ofR
    rw [a1, a2, a3, if_neg (by simp)]
    have hc : canB [f] 0 = true := (canB_at (fs := [f]) (j := 0) rfl).2 (straight_can hl hpos hs)
    simp only [List.find?_cons, hc, Bool.not_true, List.find?_nil]
    rw [if_neg (by omega)]
  · rw [ofV_succ]
    have ht : timesB f = true := by unfold timesB; rw [hl]; rfl
    show (if timesB f then val f (costV [f] f.ops.length) f.ops.length 0 none else none) = _
    rw [if_pos ht]
    exact h4
end Go.Proofs.Ytmnaeoljpajomaa.H
