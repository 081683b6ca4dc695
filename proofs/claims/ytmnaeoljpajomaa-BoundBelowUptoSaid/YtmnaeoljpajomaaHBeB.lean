/- Contracts: which codes belong to some (bound.belong). Condition: all lists together within reach. -/
import Derived.Test.YtmnaeoljpajomaaHBeA
namespace Go.Proofs.Ytmnaeoljpajomaa.H
set_option linter.unusedVariables false
set_option linter.unusedSimpArgs false
open Go.RowKit Go.Proofs.Ytmnaeoljpajomaa.Plain Go.Sort
set_option maxHeartbeats 3200000
set_option maxRecDepth 100000
attribute [local go_sem] ext_from ext_bits cell_isSome un_neg_float
/-- A code is come to from some numbers, by calls. -/
inductive Reach (ls : List (List Int)) (fr : List Int) : Nat → Prop
  | base {k : Nat} (h : (k : Int) ∈ fr) (hk : k < ls.length) : Reach ls fr k
  | step {j k : Nat} {l : List Int} (h : Reach ls fr j) (hl : ls[j]? = some l) (hm : (k : Int) ∈ l) (hk : k < ls.length) : Reach ls fr k
/-- All lists together, but for those of codes that were met. -/
def sumU : List (List Int) → List Bool → Nat
  | [], _ => 0
  | l :: ls, [] => l.length + sumU ls []
  | l :: ls, m :: ms => (if m then 0 else l.length) + sumU ls ms
def sumA (ls : List (List Int)) : Nat := sumU ls []
theorem sumU_le : ∀ (ls : List (List Int)) (ms : List Bool), sumU ls ms ≤ sumA ls
  | [], _ => Nat.le_refl _
  | l :: ls, [] => Nat.le_refl _
  | l :: ls, m :: ms => by
    have := sumU_le ls ms
    unfold sumA at this ⊢
    simp only [sumU]
    split <;> omega
theorem sumU_set : ∀ (ls : List (List Int)) (ms : List Bool) (k : Nat) (l : List Int), ls[k]? = some l → ms[k]? = some false → sumU ls (ms.set k true) + l.length = sumU ls ms
  | [], _, k, l, h, _ => by simp at h
  | l0 :: ls, [], k, l, h, h2 => by simp at h2
  | l0 :: ls, m :: ms, 0, l, h, h2 => by
    simp at h h2
    subst h h2
    simp [sumU]
    omega
  | l0 :: ls, m :: ms, k + 1, l, h, h2 => by
    have := sumU_set ls ms k l (by simpa using h) (by simpa using h2)
    simp only [List.set_cons_succ, sumU]
    omega
theorem len_le_sumA : ∀ (ls : List (List Int)) (k : Nat) (l : List Int), ls[k]? = some l → l.length ≤ sumA ls
  | [], k, l, h => by simp at h
  | l0 :: ls, 0, l, h => by simp at h; subst h; simp [sumA, sumU]
  | l0 :: ls, k + 1, l, h => by have := len_le_sumA ls k l (by simpa using h); simp [sumA, sumU] at this ⊢; omega
structure BelI (ls : List (List Int)) (fr zs : List Int) (ms : List Bool) : Prop where
  len : ms.length = ls.length
  i1 : ∀ k : Nat, ms[k]? = some true → Reach ls fr k
  i2 : ∀ k : Nat, (k : Int) ∈ zs → k < ls.length → Reach ls fr k
  i3 : ∀ k : Nat, (k : Int) ∈ fr → k < ls.length → ms[k]? = some true ∨ (k : Int) ∈ zs
  i4 : ∀ (j : Nat) (l : List Int), ms[j]? = some true → ls[j]? = some l → ∀ k : Nat, (k : Int) ∈ l → k < ls.length → ms[k]? = some true ∨ (k : Int) ∈ zs
theorem belI_start {ls : List (List Int)} {fr : List Int} {ms : List Bool} (hl : ms.length = ls.length) (hf : ∀ k : Nat, ms[k]? ≠ some true) : BelI ls fr fr ms :=
  ⟨hl, fun k h => absurd h (hf k), fun k h hk => .base h hk, fun k h hk => .inr h, fun j l h => absurd h (hf j)⟩
theorem belI_skip {ls : List (List Int)} {fr zs : List Int} {z : Int} {ms : List Bool} (h : BelI ls fr (z :: zs) ms) (hz : ∀ k : Nat, z = k → k < ls.length → ms[k]? = some true) : BelI ls fr zs ms := by
  refine ⟨h.len, h.i1, fun k hk => h.i2 k (List.mem_cons_of_mem _ hk), fun k hk hn => ?_, fun j l hj hl k hk hn => ?_⟩
  · rcases h.i3 k hk hn with c | c
    · exact .inl c
    · rcases List.mem_cons.1 c with e | c
      · exact .inl (hz k e.symm hn)
      · exact .inr c
  · rcases h.i4 j l hj hl k hk hn with c | c
    · exact .inl c
    · rcases List.mem_cons.1 c with e | c
      · exact .inl (hz k e.symm hn)
      · exact .inr c
theorem set_true {ms : List Bool} {k j : Nat} (hk : k < ms.length) : (ms.set k true)[j]? = some true ↔ j = k ∨ ms[j]? = some true := by
  rw [List.getElem?_set]
  by_cases e : k = j
  · subst e; simp [hk]
  · rw [if_neg e]
    constructor
    · exact Or.inr
    · rintro (rfl | h)
      · exact absurd rfl e
      · exact h
theorem belI_take {ls : List (List Int)} {fr zs l : List Int} {m : Nat} {ms : List Bool} (h : BelI ls fr ((m : Int) :: zs) ms) (hm : m < ls.length) (hl : ls[m]? = some l) : BelI ls fr (zs ++ l) (ms.set m true) := by
  have hml : m < ms.length := by rw [h.len]; exact hm
  have hr : Reach ls fr m := h.i2 m (List.mem_cons_self ..) hm
  refine ⟨by rw [List.length_set, h.len], fun k hk => ?_, fun k hk hn => ?_, fun k hk hn => ?_, fun j l' hj hl' k hk hn => ?_⟩
  · rcases (set_true hml).1 hk with rfl | c
    · exact hr
    · exact h.i1 k c
  · rcases List.mem_append.1 hk with c | c
    · exact h.i2 k (List.mem_cons_of_mem _ c) hn
    · exact .step hr hl c hn
  · rcases h.i3 k hk hn with c | c
    · exact .inl ((set_true hml).2 (.inr c))
    · rcases List.mem_cons.1 c with e | c
      · exact .inl ((set_true hml).2 (.inl (by omega)))
      · exact .inr (List.mem_append_left _ c)
  · rcases (set_true hml).1 hj with rfl | c
    · rw [hl] at hl'
      cases hl'
      exact .inr (List.mem_append_right _ hk)
    · rcases h.i4 j l' c hl' k hk hn with c | c
      · exact .inl ((set_true hml).2 (.inr c))
      · rcases List.mem_cons.1 c with e | c
        · exact .inl ((set_true hml).2 (.inl (by omega)))
        · exact .inr (List.mem_append_left _ c)
theorem belI_end {ls : List (List Int)} {fr : List Int} {ms : List Bool} (h : BelI ls fr [] ms) (k : Nat) : ms[k]? = some true ↔ Reach ls fr k := by
  refine ⟨h.i1 k, fun hr => ?_⟩
  induction hr with
  | base hm hk => rcases h.i3 _ hm hk with c | c; exact c; cases c
  | step hr hl hm hk ih => rcases h.i4 _ _ ih hl _ hm hk with c | c; exact c; cases c
open Classical in
/-- The codes that belong to some. -/
noncomputable def belongV (ls : List (List Int)) (fr : List Int) : List Int := ((List.range ls.length).filter fun k => decide (Reach ls fr k)).map fun (k : Nat) => (k : Int)
open Classical in
theorem belongV_mem {ls : List (List Int)} {fr : List Int} {x : Int} : x ∈ belongV ls fr ↔ ∃ k : Nat, x = k ∧ k < ls.length ∧ Reach ls fr k := by
  unfold belongV
  rw [List.mem_map]
  constructor
  · rintro ⟨k, hk, rfl⟩
    rw [List.mem_filter] at hk
    exact ⟨k, rfl, List.mem_range.1 hk.1, of_decide_eq_true hk.2⟩
  · rintro ⟨k, rfl, h1, h2⟩
    exact ⟨k, List.mem_filter.2 ⟨List.mem_range.2 h1, decide_eq_true h2⟩, rfl⟩
theorem Reach.lt {ls : List (List Int)} {fr : List Int} {k : Nat} (h : Reach ls fr k) : k < ls.length := by
  cases h <;> assumption
theorem belongV_len (ls : List (List Int)) (fr : List Int) : (belongV ls fr).length ≤ ls.length := by
  unfold belongV
  rw [List.length_map]
  exact Nat.le_trans (List.length_filter_le _ _) (by simp)
/-- The places of what is true. -/
def onesV (ms : List Bool) (k : Nat) : List Int := ((List.range k).filter fun i => ms.getD i false).map fun (k : Nat) => (k : Int)
theorem onesV_succ {ms : List Bool} {k : Nat} {b : Bool} (h : ms[k]? = some b) : onesV ms (k + 1) = onesV ms k ++ (if b then [(k : Int)] else []) := by
  unfold onesV
  rw [List.range_succ, List.filter_append, List.map_append]
  congr 1
  have : ms.getD k false = b := by rw [List.getD_eq_getElem?_getD, h]; rfl
  rw [List.filter_cons, this]
  cases b <;> rfl
theorem onesV_len (ms : List Bool) (k : Nat) : (onesV ms k).length ≤ k := by
  unfold onesV
  rw [List.length_map]
  exact Nat.le_trans (List.length_filter_le _ _) (by simp)
open Classical in
theorem onesV_end {ls : List (List Int)} {fr : List Int} {ms : List Bool} (h : BelI ls fr [] ms) : onesV ms ls.length = belongV ls fr := by
  unfold onesV belongV
  congr 1
  apply List.filter_congr
  intro k hk
  have hk := List.mem_range.1 hk
  have hkm : k < ms.length := by rw [h.len]; exact hk
  have e := belI_end h k
  rw [List.getD_eq_getElem?_getD]
  rw [List.getElem?_eq_getElem hkm] at e ⊢
  by_cases c : Reach ls fr k
  · have := e.2 c
    simp at this
    simp [this, c]
  · have : ¬ ms[k] = true := fun x => c (e.1 (by rw [x]))
    simp [this, c]
def boolOf : Value → Bool
  | .bool b => b
  | _ => false
/-- A block of truth values. -/
def boolsA (ms : List Bool) : Array Value := (ms.map Value.bool).toArray
def boolsOf (w : World) (b : Nat) : List Bool := match w.heap[b]? with
  | some (.cells cs _ _) => cs.toList.map boolOf
  | _ => []
theorem boolsOf_at {w : World} {b : Nat} {ms : List Bool} {t : TypeId} (h : w.heap[b]? = some (.cells (boolsA ms) t (0, 0))) : boolsOf w b = ms := by
  unfold boolsOf
  rw [h]
  simp [boolsA, boolOf, Function.comp_def]
theorem boolsA_get {ms : List Bool} {k : Nat} {b : Bool} (h : ms[k]? = some b) : (boolsA ms)[k]? = some (.bool b) := by simp [boolsA, h]
theorem boolsA_set (ms : List Bool) (k : Nat) : (boolsA ms).setIfInBounds k (.bool true) = boolsA (ms.set k true) := by
  apply Array.ext'
  simp [boolsA, List.map_set]
theorem c_cloneI (B : Nat) (v : Value) (zs : List Int) (w : World) (h : Ints w B v zs) (hsz : zs.length * 8 ≤ 140737488355328) : Calls Try.prog 38 #[v] w fun e w' => OutI w.heap.size e zs w' ∧ Below w.heap.size w w' := by
  rcases own_parts h with ⟨rfl, rfl⟩ | ⟨g, cap, rfl, h1, h2, h3, h4, h5, h6⟩
  · refine (Try.slices_Clone_int_nil 0 0 w).mono ?_
    rintro e w' ⟨rfl, rfl⟩
    exact ⟨⟨_, rfl, World.ownsRow_nil _ _ _ _⟩, Below.refl _ _⟩
  · cases zs with
    | nil =>
      refine (Try.slices_Clone_int_zero ⟨g, 0, none⟩ cap w).mono ?_
      rintro e w' ⟨v', rfl, ho, _, hb⟩
      exact ⟨⟨_, rfl, ho⟩, hb⟩
    | cons z zs =>
      refine (Try.slices_Clone_int g 0 (z :: zs).length cap (z :: zs) w (Nat.le_refl _) hsz (fun j hj => ?_)).mono ?_
      · rw [Nat.zero_add]
        refine h5 j _ ?_
        rw [List.getElem?_eq_getElem hj, List.getD_eq_getElem?_getD, List.getElem?_eq_getElem hj]
        rfl
      · rintro e w' ⟨v', rfl, ho, _, hb⟩
        rw [List.take_length] at ho
        exact ⟨⟨_, rfl, ho⟩, hb⟩
end Go.Proofs.Ytmnaeoljpajomaa.H
