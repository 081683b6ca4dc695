/- The reckoning of a code that can be reckoned ends: a rank of places and loops falls with each step. Plain. -/
import Derived.Test.YtmnaeoljpajomaaHBoF
import Derived.Test.YtmnaeoljpajomaaHBeG
namespace Go.Proofs.Ytmnaeoljpajomaa.H
set_option linter.unusedVariables false
set_option linter.unusedSimpArgs false
open Go.RowKit
theorem skip_iff {f : FlatD} {p : Int} {l : Option Nat} {m : Nat} : skipB f p l m = false ↔ (loopAt f m).head = p ∧ ∀ l', l = some l' → inB f m l' = true ∧ m ≠ l' := by
  unfold skipB
  cases l with
  | none => simp
  | some l' =>
    simp
    exact fun _ _ => ⟨fun h e => h e.symm, fun h e => h e.symm⟩
theorem inside_stop {x y : LoopD} {a b : Nat} (h : insideB x y a b = true) : y.head ≤ x.head ∧ x.stop ≤ y.stop ∧ (x.head = y.head ∧ x.stop = y.stop → b < a) := by
  unfold insideB at h
  split at h
  · rename_i e
    simp at e h
    exact ⟨by omega, by omega, fun _ => h⟩
  · rename_i e
    simp at e h
    exact ⟨h.1, h.2, fun c => absurd c.2 (e c.1)⟩
theorem inside_of {x y : LoopD} {a b : Nat} (h1 : y.head ≤ x.head) (h2 : x.stop ≤ y.stop) (h3 : ¬ (x.head = y.head ∧ x.stop = y.stop)) : insideB x y a b = true := by
  unfold insideB
  rw [if_neg (by simpa using h3)]
  simp [h1, h2]
theorem within_top {f : FlatD} {p : Int} {l : Option Nat} : ∀ (k : Nat), ((List.range k).foldl (withinStep f p l) none = none → ∀ m', m' < k → skipB f p l m' = true) ∧ ∀ m, (List.range k).foldl (withinStep f p l) none = some m → ∀ m', m' < k → skipB f p l m' = false → (loopAt f m').stop ≤ (loopAt f m).stop
  | 0 => ⟨fun _ m' h => absurd h (Nat.not_lt_zero _), fun m h => by simp at h⟩
  | k + 1 => by
    obtain ⟨i1, i2⟩ := within_top (f := f) (p := p) (l := l) k
    have i3 := fun m h => (within_lt (f := f) (p := p) (l := l) (m := m) k m h).2
    rw [List.range_succ, List.foldl_append, List.foldl_cons, List.foldl_nil]
    generalize (List.range k).foldl (withinStep f p l) none = out at i1 i2 i3
    unfold withinStep
    by_cases hs : skipB f p l k = true
    · rw [if_pos hs]
      refine ⟨fun h m' hm => ?_, fun m h m' hm hn => ?_⟩
      · rcases Nat.lt_succ_iff_lt_or_eq.1 hm with c | rfl
        · exact i1 h m' c
        · exact hs
      · rcases Nat.lt_succ_iff_lt_or_eq.1 hm with c | rfl
        · exact i2 m h m' c hn
        · rw [hs] at hn; cases hn
    · rw [if_neg hs]
      have hk := (skip_iff.1 (by simpa using hs)).1
      cases out with
      | none =>
        refine ⟨fun h => by simp at h, fun m h m' hm hn => ?_⟩
        obtain rfl : k = m := by simpa using h
        rcases Nat.lt_succ_iff_lt_or_eq.1 hm with c | rfl
        · rw [i1 rfl m' c] at hn; cases hn
        · exact Int.le_refl _
      | some o =>
        have ho := (skip_iff.1 (i3 o rfl)).1
        dsimp only
        by_cases hb : inB f o k = true
        · rw [if_pos hb]
          refine ⟨fun h => by simp at h, fun m h m' hm hn => ?_⟩
          obtain rfl : k = m := by simpa using h
          have h2 := (inside_stop hb).2.1
          rcases Nat.lt_succ_iff_lt_or_eq.1 hm with c | rfl
          · exact Int.le_trans (i2 o rfl m' c hn) h2
          · exact Int.le_refl _
        · rw [if_neg hb]
          refine ⟨fun h => by simp at h, fun m h m' hm hn => ?_⟩
          obtain rfl : o = m := by simpa using h
          rcases Nat.lt_succ_iff_lt_or_eq.1 hm with c | rfl
          · exact i2 o rfl m' c hn
          · refine Int.not_lt.1 (fun c => hb ?_)
            exact inside_of (by omega) (by omega) (by omega)
/-- Of the loops that begin at a place the outermost is taken. -/
theorem withinV_top {f : FlatD} {p : Int} {l : Option Nat} {m' : Nat} (hm : m' < f.loops.length) (hs : skipB f p l m' = false) : ∃ m, withinV f p l = some m ∧ (loopAt f m').stop ≤ (loopAt f m).stop := by
  obtain ⟨h1, h2⟩ := within_top (f := f) (p := p) (l := l) f.loops.length
  unfold withinV
  cases e : (List.range f.loops.length).foldl (withinStep f p l) none with
  | none => rw [h1 e m' hm] at hs; cases hs
  | some m => exact ⟨m, rfl, h2 m e m' hm hs⟩
def keyS (f : FlatD) (p : Nat) (l : Option Nat) : Nat := match withinV f p l with
  | none => p
  | some m => ((loopAt f m).stop - 1).toNat
def sizeS (f : FlatD) (p : Nat) (l : Option Nat) : Nat := match withinV f p l with
  | none => 0
  | some m => ((loopAt f m).stop - p).toNat
def levS (f : FlatD) : Option Nat → Nat
  | none => (f.ops.length + 1) * (f.loops.length + 1)
  | some m => ((loopAt f m).stop - (loopAt f m).head).toNat * (f.loops.length + 1) + (f.loops.length - m)
def topS (f : FlatD) : Nat := f.ops.length * (f.ops.length + 2)
def rankS (f : FlatD) (p : Nat) (l : Option Nat) : Nat := levS f l * (topS f + 1) + (topS f - (keyS f p l * (f.ops.length + 2) + sizeS f p l))
def InS (f : FlatD) (p : Nat) (l : Option Nat) : Prop := p < f.ops.length ∧ ∀ m, l = some m → m < f.loops.length ∧ hasB (loopAt f m) p = true
theorem hasB_iff {x : LoopD} {p : Int} : hasB x p = true ↔ x.head ≤ p ∧ p < x.stop := by simp [hasB]
theorem key_lt {f : FlatD} (hc : CanF f) {p : Nat} {l : Option Nat} (hp : p < f.ops.length) : keyS f p l < f.ops.length ∧ sizeS f p l ≤ f.ops.length ∧ p ≤ keyS f p l := by
  unfold keyS sizeS
  cases h : withinV f p l with
  | none => exact ⟨hp, Nat.zero_le _, Nat.le_refl _⟩
  | some m =>
    obtain ⟨h1, h2⟩ := withinV_lt h
    obtain ⟨g1, g2, g3, _⟩ := hc.loop m h1
    have := (skip_iff.1 h2).1
    dsimp only
    omega
theorem rank_same {f : FlatD} (hc : CanF f) {p q : Nat} {l : Option Nat} (hp : p < f.ops.length) (hq : q < f.ops.length) (h : keyS f p l < keyS f q l ∨ keyS f p l = keyS f q l ∧ sizeS f p l < sizeS f q l) : rankS f q l < rankS f p l := by
  obtain ⟨a1, a2, a3⟩ := key_lt hc (l := l) hp
  obtain ⟨b1, b2, b3⟩ := key_lt hc (l := l) hq
  unfold rankS topS
  generalize keyS f p l = kp at *
  generalize keyS f q l = kq at *
  generalize sizeS f p l = sp at *
  generalize sizeS f q l = sq at *
  generalize f.ops.length = n at *
  have h1 : (kq + 1) * (n + 2) ≤ n * (n + 2) := Nat.mul_le_mul_right _ b1
  rw [Nat.succ_mul] at h1
  have h2 : kp * (n + 2) + sp < kq * (n + 2) + sq := by
    rcases h with h | ⟨rfl, h⟩
    · have : (kp + 1) * (n + 2) ≤ kq * (n + 2) := Nat.mul_le_mul_right _ h
      rw [Nat.succ_mul] at this
      omega
    · omega
  generalize levS f l * (n * (n + 2) + 1) = X
  omega
theorem lev_lt {f : FlatD} (hc : CanF f) {p : Int} {l : Option Nat} {m : Nat} (hl : ∀ l', l = some l' → l' < f.loops.length) (h : withinV f p l = some m) : levS f (some m) < levS f l := by
  obtain ⟨h1, h2⟩ := withinV_lt h
  obtain ⟨g1, g2, g3, _⟩ := hc.loop m h1
  obtain ⟨e1, e2⟩ := skip_iff.1 h2
  cases l with
  | none =>
    unfold levS
    have : ((loopAt f m).stop - (loopAt f m).head).toNat * (f.loops.length + 1) ≤ f.ops.length * (f.loops.length + 1) := Nat.mul_le_mul_right _ (by omega)
    dsimp only
    rw [Nat.succ_mul]
    omega
  | some l' =>
    obtain ⟨i1, i2⟩ := e2 l' rfl
    obtain ⟨j1, j2, j3⟩ := inside_stop i1
    have hl' := hl l' rfl
    unfold levS
    dsimp only
    by_cases c : (loopAt f m).head = (loopAt f l').head ∧ (loopAt f m).stop = (loopAt f l').stop
    · have := j3 c
      rw [c.1, c.2]
      omega
    · have h3 : (((loopAt f m).stop - (loopAt f m).head).toNat + 1) * (f.loops.length + 1) ≤ ((loopAt f l').stop - (loopAt f l').head).toNat * (f.loops.length + 1) := Nat.mul_le_mul_right _ (by omega)
      rw [Nat.succ_mul] at h3
      omega
theorem rank_in {f : FlatD} (hc : CanF f) {p : Nat} {l : Option Nat} {m : Nat} (hR : InS f p l) (h : withinV f p l = some m) : rankS f p (some m) < rankS f p l := by
  have h1 := lev_lt hc (fun l' e => (hR.2 l' e).1) h
  unfold rankS
  have h2 : (levS f (some m) + 1) * (topS f + 1) ≤ levS f l * (topS f + 1) := Nat.mul_le_mul_right _ h1
  rw [Nat.succ_mul] at h2
  omega
/-- A step back to a loop's head: the loop taken there ends no earlier. -/
theorem back_within {f : FlatD} (hc : CanF f) {q : Int} {l : Option Nat} {m' : Nat} (hl : ∀ l', l = some l' → l' < f.loops.length) (hm : m' < f.loops.length) (hh : (loopAt f m').head = q) (hz : zeroB f q l = false) : ∃ m, withinV f q l = some m ∧ (loopAt f m').stop ≤ (loopAt f m).stop := by
  refine withinV_top hm (skip_iff.2 ⟨hh, fun l' e => ?_⟩)
  subst e
  have hl' := hl l' rfl
  unfold zeroB at hz
  simp at hz
  obtain ⟨z1, z2⟩ := hz
  obtain ⟨z3, z4⟩ := hasB_iff.1 z1
  have hne : m' ≠ l' := by rintro rfl; exact z2 hh
  refine ⟨?_, hne⟩
  obtain ⟨g1, g2, g3, _⟩ := hc.loop m' hm
  refine inside_of (by omega) ?_ (by omega)
  rcases Nat.lt_or_gt_of_ne hne with c | c
  · have := hc.nest l' m' c hl'
    omega
  · have := hc.nest m' l' c hm
    omega
theorem can_falls {f : FlatD} (hc : CanF f) : ∀ p l, InS f p l → p < f.ops.length ∧ (∀ m, withinV f p l = some m → InS f p (some m) ∧ rankS f p (some m) < rankS f p l ∧ ∀ q ∈ outsV f m, Falls f (InS f) (rankS f) l (rankS f p l) q) ∧ (withinV f p l = none → ∀ q ∈ nextsV f p, Falls f (InS f) (rankS f) l (rankS f p l) q) := by
  intro p l hR
  have hll := fun l' e => (hR.2 l' e).1
  have hin : ∀ q : Int, 0 ≤ q → q < f.ops.length → zeroB f q l = false → InS f q.toNat l := fun q h0 h1 hz => by
    refine ⟨by omega, fun m e => ⟨hll m e, ?_⟩⟩
    subst e
    unfold zeroB at hz
    simp at hz
    rw [Int.toNat_of_nonneg h0]
    exact hz.1
  refine ⟨hR.1, fun m hm => ⟨⟨hR.1, fun m2 e => ?_⟩, rank_in hc hR hm, fun q hq => ?_⟩, fun hw q hq => ?_⟩
  · cases e
    obtain ⟨h1, h2⟩ := withinV_lt hm
    obtain ⟨g1, g2, g3, _⟩ := hc.loop m h1
    have := (skip_iff.1 h2).1
    exact ⟨h1, hasB_iff.2 (by omega)⟩
  · cases hz : zeroB f q l with
    | true => exact .inl hz
    | false =>
      refine .inr ?_
      obtain ⟨h1, h2⟩ := withinV_lt hm
      obtain ⟨g1, g2, g3, _⟩ := hc.loop m h1
      have hp := (skip_iff.1 h2).1
      unfold outsV at hq
      obtain ⟨i, hi, hq⟩ := List.mem_flatMap.1 hq
      have hi := List.mem_range.1 hi
      obtain ⟨hq1, hq2⟩ := List.mem_filter.1 hq
      have hno : ¬ ((loopAt f m).head ≤ q ∧ q < (loopAt f m).stop) := fun c => by rw [hasB_iff.2 c] at hq2; simp at hq2
      obtain ⟨n1, n2, n3⟩ := hc.next _ (by omega) q hq1
      have hI := hin q n1 n2 hz
      refine ⟨hI, rank_same hc hR.1 hI.1 ?_⟩
      have hkp : keyS f p l = ((loopAt f m).stop - 1).toNat := by unfold keyS; rw [hm]
      have hsp : sizeS f p l = ((loopAt f m).stop - p).toNat := by unfold sizeS; rw [hm]
      rw [hkp, hsp]
      by_cases c : q ≤ ((loopAt f m).head.toNat + i : Nat)
      · obtain ⟨m', e1, e2, e3⟩ := n3 c
        obtain ⟨m2, w1, w2⟩ := back_within hc hll e1 e2 hz
        obtain ⟨e4, e5⟩ := hasB_iff.1 e3
        clear n3
        obtain ⟨k1, k2, k3, _⟩ := hc.loop m' e1
        have hst : (loopAt f m).stop ≤ (loopAt f m').stop := by
          rcases Nat.lt_trichotomy m m' with x | x | x
          · have := hc.nest m' m x e1
            omega
          · subst x; exact Int.le_refl _
          · have := hc.nest m m' x h1
            omega
        have hkq : keyS f q.toNat l = ((loopAt f m2).stop - 1).toNat := by unfold keyS; rw [Int.toNat_of_nonneg n1, w1]
        have hsq : sizeS f q.toNat l = ((loopAt f m2).stop - q).toNat := by unfold sizeS; rw [Int.toNat_of_nonneg n1, w1]
        rw [hkq, hsq]
        omega
      · have := (key_lt hc (l := l) hI.1).2.2
        clear n3
        omega
  · cases hz : zeroB f q l with
    | true => exact .inl hz
    | false =>
      refine .inr ?_
      obtain ⟨n1, n2, n3⟩ := hc.next p hR.1 q hq
      have hI := hin q n1 n2 hz
      refine ⟨hI, rank_same hc hR.1 hI.1 ?_⟩
      have hkp : keyS f p l = p := by unfold keyS; rw [hw]
      have hsp : sizeS f p l = 0 := by unfold sizeS; rw [hw]
      rw [hkp, hsp]
      by_cases c : q ≤ (p : Int)
      · obtain ⟨m', e1, e2, e3⟩ := n3 c
        obtain ⟨m2, w1, w2⟩ := back_within hc hll e1 e2 hz
        obtain ⟨e4, e5⟩ := hasB_iff.1 e3
        clear n3
        have hkq : keyS f q.toNat l = ((loopAt f m2).stop - 1).toNat := by unfold keyS; rw [Int.toNat_of_nonneg n1, w1]
        have hsq : sizeS f q.toNat l = ((loopAt f m2).stop - q).toNat := by unfold sizeS; rw [Int.toNat_of_nonneg n1, w1]
        rw [hkq, hsq]
        omega
      · have := (key_lt hc (l := l) hI.1).2.2
        clear n3
        omega
theorem can_times {f : FlatD} (hc : CanF f) : timesB f = true := timesB_of fun m hm => (hc.loop m hm).2.2.2.1
theorem can_val {f : FlatD} (hc : CanF f) : ∃ N, ∀ cost : OpD → Option Int, (∀ o ∈ f.ops, ∃ c, cost o = some c) → ∀ k, N ≤ k → ∃ c, val f cost k 0 none = some c :=
  ⟨rankS f 0 none + 1, fun cost hcost k hk => val_ex (can_falls hc) hcost k 0 none ⟨hc.pos, fun m e => by cases e⟩ hk⟩
theorem all_val : ∀ (fs : List FlatD), ∃ N, ∀ f ∈ fs, CanF f → timesB f = true ∧ ∀ cost : OpD → Option Int, (∀ o ∈ f.ops, ∃ c, cost o = some c) → ∀ k, N ≤ k → ∃ c, val f cost k 0 none = some c
  | [] => ⟨0, fun f h => by cases h⟩
  | g :: fs => by
    obtain ⟨N, hN⟩ := all_val fs
    by_cases hc : CanF g
    · obtain ⟨M, hM⟩ := can_val hc
      refine ⟨max N M, fun f hf hcf => ?_⟩
      rcases List.mem_cons.1 hf with rfl | hf
      · exact ⟨can_times hc, fun cost h k hk => hM cost h k (by omega)⟩
      · exact ⟨(hN f hf hcf).1, fun cost h k hk => (hN f hf hcf).2 cost h k (by omega)⟩
    · refine ⟨N, fun f hf hcf => ?_⟩
      rcases List.mem_cons.1 hf with rfl | hf
      · exact absurd hcf hc
      · exact hN f hf hcf
end Go.Proofs.Ytmnaeoljpajomaa.H
