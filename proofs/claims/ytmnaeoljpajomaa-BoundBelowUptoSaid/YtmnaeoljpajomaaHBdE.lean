/- The codes that a code calls are the same by the program and by the document: sorted, each once. No program in sight; no condition. -/
import Derived.Test.YtmnaeoljpajomaaHBdD
namespace Go.Proofs.Ytmnaeoljpajomaa.H
set_option linter.unusedVariables false
set_option linter.unusedSimpArgs false
open Go.RowKit
theorem sorted_ext : ∀ {l m : List Int}, l.Pairwise (· < ·) → m.Pairwise (· < ·) → (∀ x, x ∈ l ↔ x ∈ m) → l = m
  | [], [], _, _, _ => rfl
  | [], y :: m, _, _, h => by have := (h y).2 (List.mem_cons_self ..); cases this
  | x :: l, [], _, _, h => by have := (h x).1 (List.mem_cons_self ..); cases this
  | x :: l, y :: m, hl, hm, h => by
    rw [List.pairwise_cons] at hl hm
    have hxy : x = y := by
      rcases List.mem_cons.1 ((h x).1 (List.mem_cons_self ..)) with e | hx
      · exact e
      · rcases List.mem_cons.1 ((h y).2 (List.mem_cons_self ..)) with e | hy
        · exact e.symm
        · have h1 := hm.1 x hx
          have h2 := hl.1 y hy
          omega
    subst hxy
    congr 1
    refine sorted_ext hl.2 hm.2 (fun z => ⟨fun hz => ?_, fun hz => ?_⟩)
    · have h1 := hl.1 z hz
      rcases List.mem_cons.1 ((h z).1 (List.mem_cons_of_mem _ hz)) with e | hz2
      · omega
      · exact hz2
    · have h1 := hm.1 z hz
      rcases List.mem_cons.1 ((h z).2 (List.mem_cons_of_mem _ hz)) with e | hz2
      · omega
      · exact hz2
theorem mem_takeW {l : List Int} {b x : Int} (h : x ∈ l.takeWhile (· < b)) : x < b := by
  induction l with
  | nil => cases h
  | cons y l ih =>
    rw [List.takeWhile_cons] at h
    split at h
    · rename_i hy
      rcases List.mem_cons.1 h with e | h
      · subst e; simpa using hy
      · exact ih h
    · cases h
theorem mem_dropW {l : List Int} {b x : Int} (hs : l.Pairwise (· < ·)) (h : x ∈ l.dropWhile (· < b)) : b ≤ x := by
  induction l with
  | nil => cases h
  | cons y l ih =>
    rw [List.pairwise_cons] at hs
    rw [List.dropWhile_cons] at h
    split at h
    · exact ih hs.2 h
    · rename_i hy
      have hy2 : b ≤ y := by simpa using hy
      rcases List.mem_cons.1 h with e | h
      · omega
      · have := hs.1 x h
        omega
theorem insU_mem {l : List Int} {b x : Int} : x ∈ insU l b ↔ x ∈ l ∨ x = b := by
  unfold insU
  have e := List.takeWhile_append_dropWhile (p := fun y => decide (y < b)) (l := l)
  split
  · rename_i h
    have hb : b ∈ l := by simpa using h
    constructor
    · exact Or.inl
    · rintro (h | rfl)
      · exact h
      · exact hb
  · have hx : x ∈ l ↔ x ∈ l.takeWhile (· < b) ∨ x ∈ l.dropWhile (· < b) := by rw [← List.mem_append, e]
    rw [List.mem_append, List.mem_cons, hx]
    constructor
    · rintro (h | h | h)
      · exact .inl (.inl h)
      · exact .inr h
      · exact .inl (.inr h)
    · rintro ((h | h) | h)
      · exact .inl h
      · exact .inr (.inr h)
      · exact .inr (.inl h)
theorem insU_sorted {l : List Int} {b : Int} (hs : l.Pairwise (· < ·)) : (insU l b).Pairwise (· < ·) := by
  unfold insU
  have e := List.takeWhile_append_dropWhile (p := fun y => decide (y < b)) (l := l)
  split
  · exact hs
  · rename_i h
    have hb : ¬ b ∈ l := by simpa using h
    have hs2 := hs
    rw [← e, List.pairwise_append] at hs2
    obtain ⟨s1, s2, s3⟩ := hs2
    rw [List.pairwise_append, List.pairwise_cons]
    refine ⟨s1, ⟨fun x hx => ?_, s2⟩, fun x hx y hy => ?_⟩
    · have h1 := mem_dropW hs hx
      have h2 : x ∈ l := by rw [← e]; exact List.mem_append_right _ hx
      have h3 : x ≠ b := fun c => hb (c ▸ h2)
      omega
    · have h1 := mem_takeW hx
      rcases List.mem_cons.1 hy with c | hy
      · omega
      · have := mem_dropW hs hy
        omega
theorem fold_ins : ∀ (bs l : List Int), l.Pairwise (· < ·) → (bs.foldl insU l).Pairwise (· < ·) ∧ ∀ x, x ∈ bs.foldl insU l ↔ x ∈ l ∨ x ∈ bs
  | [], l, h => ⟨h, fun x => by simp⟩
  | b :: bs, l, h => by
    obtain ⟨h1, h2⟩ := fold_ins bs (insU l b) (insU_sorted h)
    refine ⟨h1, fun x => ?_⟩
    rw [List.foldl_cons, h2, insU_mem, List.mem_cons]
    constructor
    · rintro ((h | h) | h)
      · exact .inl h
      · exact .inr (.inl h)
      · exact .inr (.inr h)
    · rintro (h | h | h)
      · exact .inl (.inl h)
      · exact .inl (.inr h)
      · exact .inr h
theorem compact_sorted (d : Array Int) (hd : ∀ i j, i ≤ j → j < d.size → d[i]! ≤ d[j]!) : ∀ m, m ≤ d.size → (Lib.compactUpTo d m).Pairwise (· < ·) ∧ (∀ x, x ∈ Lib.compactUpTo d m ↔ ∃ i, i < m ∧ d[i]! = x) := by
  intro m
  induction m with
  | zero => intro _; exact ⟨by simp [Lib.compactUpTo], fun x => by simp [Lib.compactUpTo]⟩
  | succ m ih =>
    intro hm
    obtain ⟨h1, h2⟩ := ih (by omega)
    rw [Lib.compactUpTo_succ]
    by_cases hk : Lib.keeps d m = true
    · rw [if_pos hk]
      refine ⟨?_, fun x => ?_⟩
      · rw [List.pairwise_append]
        refine ⟨h1, List.pairwise_singleton _ _, fun x hx y hy => ?_⟩
        obtain rfl := List.mem_singleton.1 hy
        obtain ⟨i, hi, rfl⟩ := (h2 x).1 hx
        have hm0 : m ≠ 0 := by omega
        have hne : d[m]! ≠ d[m - 1]! := by
          have := of_decide_eq_true hk
          rcases this with c | c
          · exact absurd c hm0
          · exact c
        have h3 := hd i (m - 1) (by omega) (by omega)
        have h4 := hd (m - 1) m (by omega) (by omega)
        omega
      · rw [List.mem_append, h2, List.mem_singleton]
        constructor
        · rintro (⟨i, hi, e⟩ | e)
          · exact ⟨i, by omega, e⟩
          · exact ⟨m, by omega, e.symm⟩
        · rintro ⟨i, hi, e⟩
          rcases Nat.lt_or_ge i m with c | c
          · exact .inl ⟨i, c, e⟩
          · obtain rfl : i = m := by omega
            exact .inr e.symm
    · rw [if_neg hk, List.append_nil]
      have hk2 : ¬ (m = 0 ∨ d[m]! ≠ d[m - 1]!) := fun c => hk (decide_eq_true c)
      have hm0 : m ≠ 0 := fun c => hk2 (.inl c)
      have he : d[m]! = d[m - 1]! := Classical.byContradiction fun c => hk2 (.inr c)
      refine ⟨h1, fun x => (h2 x).trans ⟨fun ⟨i, hi, e⟩ => ⟨i, by omega, e⟩, fun ⟨i, hi, e⟩ => ?_⟩⟩
      rcases Nat.lt_or_ge i m with c | c
      · exact ⟨i, c, e⟩
      · obtain rfl : i = m := by omega
        exact ⟨i - 1, by omega, by rw [← he]; exact e⟩
/-- The program's list is the document's. -/
theorem calls_same (ops : List OpD) : callsV ops = docCalls ops := by
  have hp : (sortI (callsOf ops)).Pairwise (fun a b => decide (a ≤ b) = true) := List.pairwise_mergeSort (by intro a b c h1 h2; simp at *; omega) (by intro a b; simp; omega) _
  have hd : ∀ i j, i ≤ j → j < (sortI (callsOf ops)).toArray.size → (sortI (callsOf ops)).toArray[i]! ≤ (sortI (callsOf ops)).toArray[j]! := by
    intro i j hij hj
    rw [List.size_toArray] at hj
    rw [getElem!_pos _ i (by simpa using (by omega : i < (sortI (callsOf ops)).length)), getElem!_pos _ j (by simpa using hj)]
    rcases Nat.lt_or_ge i j with c | c
    · have := List.pairwise_iff_getElem.1 hp i j (by omega) hj c
      simpa using this
    · obtain rfl : i = j := by omega
      exact Int.le_refl _
  obtain ⟨c1, c2⟩ := compact_sorted _ hd (sortI (callsOf ops)).length (by simp)
  obtain ⟨f1, f2⟩ := fold_ins (callsOf ops) [] List.Pairwise.nil
  refine sorted_ext c1 f1 (fun x => (c2 x).trans ?_)
  unfold docCalls
  rw [f2]
  have hm : x ∈ sortI (callsOf ops) ↔ x ∈ callsOf ops := List.mem_mergeSort
  constructor
  · rintro ⟨i, hi, rfl⟩
    refine .inr (hm.1 ?_)
    rw [getElem!_pos _ i (by simpa using hi)]
    simp
  · rintro (h | h)
    · cases h
    · obtain ⟨i, hi, e⟩ := List.mem_iff_getElem.1 (hm.2 h)
      exact ⟨i, hi, by rw [getElem!_pos _ i (by simpa using hi)]; simpa using e⟩
end Go.Proofs.Ytmnaeoljpajomaa.H
