/- With one round more of one loop a code's bound is no less, and at most twice as great. Plain. -/
import Derived.Test.YtmnaeoljpajomaaHBoH
namespace Go.Proofs.Ytmnaeoljpajomaa.H
set_option linter.unusedVariables false
set_option linter.unusedSimpArgs false
open Go.RowKit
theorem mulC_eq {o t : Int} (ht : 0 ≤ t) : mulC o t = if o * (t + 1) ≤ H40 then o * (t + 1) else H40 := by
  unfold mulC
  have h : o ≤ H40 / (t + 1) ↔ o * (t + 1) ≤ H40 := Int.le_ediv_iff_mul_le (by omega)
  simp only [h]
theorem mulC_more {o t : Int} (ho : 0 ≤ o) (ht : 0 ≤ t) : mulC o t ≤ mulC o (t + 1) ∧ mulC o (t + 1) ≤ 2 * mulC o t := by
  rw [mulC_eq ht, mulC_eq (by omega)]
  have h1 : o * (t + 1 + 1) = o * (t + 1) + o := by rw [Int.mul_add o (t + 1) 1, Int.mul_one]
  have h2 : o * (t + 1) = o * t + o := by rw [Int.mul_add, Int.mul_one]
  have h3 : 0 ≤ o * t := Int.mul_nonneg ho ht
  rw [h1]
  generalize o * (t + 1) = P at *
  generalize o * t = Q at *
  unfold H40
  split <;> split <;> omega
theorem mulC_twice {o o' t : Int} (ho : 0 ≤ o) (ht : 0 ≤ t) (h1 : o ≤ o') (h2 : o' ≤ 2 * o) : mulC o t ≤ mulC o' t ∧ mulC o' t ≤ 2 * mulC o t := by
  rw [mulC_eq ht, mulC_eq ht]
  have h3 : o * (t + 1) ≤ o' * (t + 1) := Int.mul_le_mul_of_nonneg_right h1 (by omega)
  have h4 : o' * (t + 1) ≤ 2 * o * (t + 1) := Int.mul_le_mul_of_nonneg_right h2 (by omega)
  have h5 : 0 ≤ o * (t + 1) := Int.mul_nonneg ho (by omega)
  rw [Int.mul_assoc] at h4
  generalize o * (t + 1) = P at *
  generalize o' * (t + 1) = Q at *
  unfold H40
  split <;> split <;> omega
theorem sumC_twice {a a' b b' : Int} (ha : 0 ≤ a) (hb : 0 ≤ b) (h1 : a ≤ a') (h2 : a' ≤ 2 * a) (h3 : b ≤ b') (h4 : b' ≤ 2 * b) : sumC a b ≤ sumC a' b' ∧ sumC a' b' ≤ 2 * sumC a b := by
  unfold sumC H40
  split <;> split <;> omega
theorem max_twice {g h : Int → Option Int} (hgh : ∀ a b, g a = some b → ∃ b', h a = some b' ∧ b ≤ b' ∧ b' ≤ 2 * b) : ∀ (l r : List Int), l.mapM g = some r → ∃ r', l.mapM h = some r' ∧ ∀ n n' : Int, n ≤ n' → n' ≤ 2 * n → r.foldl (fun n v => if n < v then v else n) n ≤ r'.foldl (fun n v => if n < v then v else n) n' ∧ r'.foldl (fun n v => if n < v then v else n) n' ≤ 2 * r.foldl (fun n v => if n < v then v else n) n
  | [], r, e => by
    simp at e
    subst e
    exact ⟨[], rfl, fun n n' a b => ⟨a, b⟩⟩
  | x :: l, r, e => by
    rw [List.mapM_cons] at e
    cases ha : g x with
    | none => rw [ha] at e; simp at e
    | some b =>
      cases hl : l.mapM g with
      | none => rw [ha, hl] at e; simp at e
      | some r0 =>
        rw [ha, hl] at e
        simp at e
        subst e
        obtain ⟨b', c1, c2, c3⟩ := hgh x b ha
        obtain ⟨r', d1, d2⟩ := max_twice hgh l r0 hl
        refine ⟨b' :: r', by rw [List.mapM_cons, c1, d1]; rfl, fun n n' a1 a2 => ?_⟩
        rw [List.foldl_cons, List.foldl_cons]
        exact d2 _ _ (by split <;> split <;> omega) (by split <;> split <;> omega)
theorem far_twice {f g : FlatD} (hs : SimF f g) {x y : Nat → Option Nat → Option Int} {l : Option Nat} (h : ∀ p c, x p l = some c → ∃ c', y p l = some c' ∧ c ≤ c' ∧ c' ≤ 2 * c) (q c : Int) (e : farOf f x l q = some c) : ∃ c', farOf g y l q = some c' ∧ c ≤ c' ∧ c' ≤ 2 * c := by
  unfold farOf at e ⊢
  rw [← hs.zero]
  split at e
  · rename_i hz
    rw [if_pos hz]
    cases e
    exact ⟨0, rfl, by omega, by omega⟩
  · rename_i hz
    rw [if_neg hz]
    exact h _ _ e
/-- Within a loop the rounds of that loop, or of those about it, do not matter. -/
theorem val_below {f g : FlatD} (hs : SimF f g) (hc : CanF f) {cost : OpD → Option Int} {K : Nat} (ht : ∀ m, m ≠ K → (loopAt g m).times = (loopAt f m).times) : ∀ (k p : Nat) (l : Option Nat), (∀ l', l = some l' → l' < f.loops.length) → levS f l ≤ levS f (some K) → val g cost k p l = val f cost k p l
  | 0, _, _, _, _ => rfl
  | k + 1, p, l, hl, hK => by
    have hfar : farOf g (val g cost k) l = farOf f (val f cost k) l := by
      funext q
      unfold farOf
      rw [← hs.zero, val_below hs hc ht k q.toNat l hl hK]
    unfold val
    rw [← hs.within, hfar, ← hs.nexts, ← hs.opAt]
    cases hw : withinV f p l with
    | none => rfl
    | some m =>
      have hlev := lev_lt hc hl hw
      have hm : m ≠ K := by rintro rfl; omega
      dsimp only
      rw [val_below hs hc ht k p (some m) (fun l' e => by cases e; exact (withinV_lt hw).1) (by omega), ← hs.outs, ht m hm]
/-- One round more of one loop. -/
theorem val_once {f g : FlatD} (hs : SimF f g) (hc : CanF f) {cost : OpD → Option Int} (hcost : ∀ o c, cost o = some c → 0 ≤ c ∧ c ≤ H40) {K : Nat} (ht : ∀ m, m ≠ K → (loopAt g m).times = (loopAt f m).times) (hK : (loopAt g K).times = (loopAt f K).times + 1) : ∀ (k p : Nat) (l : Option Nat) (c : Int), (∀ l', l = some l' → l' < f.loops.length) → val f cost k p l = some c → ∃ c', val g cost k p l = some c' ∧ c ≤ c' ∧ c' ≤ 2 * c
  | 0, _, _, c, _, h => by simp [val] at h
  | k + 1, p, l, c, hl, h => by
    have htb := timesB_at (can_times hc)
    have hfar := far_twice hs (x := val f cost k) (y := val g cost k) (l := l) (fun p c e => val_once hs hc hcost ht hK k p l c hl e)
    unfold val at h ⊢
    rw [← hs.within]
    cases hw : withinV f p l with
    | none =>
      rw [hw] at h
      rw [← hs.nexts, ← hs.opAt]
      simp only [Option.bind_eq_some_iff] at h ⊢
      obtain ⟨o, ho, fs, hfs, e⟩ := h
      obtain ⟨gs, h1, h2⟩ := max_twice hfar _ _ hfs
      obtain ⟨h3, h4⟩ := h2 0 0 (by omega) (by omega)
      have h5 := hcost _ _ ho
      have h6 := sumC_twice (a := o) (a' := o) h5.1 (maxV_nonneg fs) (by omega) (by omega) h3 h4
      cases e
      exact ⟨_, ⟨o, ho, gs, h1, rfl⟩, h6⟩
    | some m =>
      rw [hw] at h
      dsimp only at h ⊢
      rw [← hs.outs m]
      have hm := (withinV_lt hw).1
      simp only [Option.bind_eq_some_iff] at h ⊢
      obtain ⟨o, ho, fs, hfs, e⟩ := h
      obtain ⟨gs, h1, h2⟩ := max_twice hfar _ _ hfs
      obtain ⟨h3, h4⟩ := h2 0 0 (by omega) (by omega)
      have h5 := val_range hcost htb k _ _ _ ho
      have hlm : ∀ l', some m = some l' → l' < f.loops.length := fun l' e => by cases e; exact hm
      cases e
      by_cases c : m = K
      · subst c
        have h7 := mulC_more h5.1 (htb m hm)
        have h6 := sumC_twice (mulC_range h5.1 h5.2 (htb m hm)).1 (maxV_nonneg fs) h7.1 h7.2 h3 h4
        rw [← hK] at h6
        exact ⟨_, ⟨o, by rw [val_below hs hc ht k p (some m) hlm (Nat.le_refl _)]; exact ho, gs, h1, rfl⟩, h6⟩
      · obtain ⟨o', g1, g2, g3⟩ := val_once hs hc hcost ht hK k p (some m) o hlm ho
        have h7 := mulC_twice h5.1 (htb m hm) g2 g3
        have h6 := sumC_twice (mulC_range h5.1 h5.2 (htb m hm)).1 (maxV_nonneg fs) h7.1 h7.2 h3 h4
        refine ⟨sumC (mulC o' (loopAt g m).times) (maxV gs), ⟨o', g1, gs, h1, rfl⟩, ?_⟩
        rw [ht m c]
        exact h6
/-- One code of a list goes round one of its loops once more. -/
theorem of_once {fs gs : List FlatD} {fn K : Nat} {f g : FlatD} (hlen : gs.length = fs.length) (hsame : ∀ j, j ≠ fn → ∀ (f g : FlatD), fs[j]? = some f → gs[j]? = some g → SameF f g) (hf : fs[fn]? = some f) (hg : gs[fn]? = some g) (hs : SimF f g)
    (ht : ∀ m, m ≠ K → (loopAt g m).times = (loopAt f m).times) (hK : (loopAt g K).times = (loopAt f K).times + 1) (hmax : (loopAt f K).times < 65536) (hm : ∀ f ∈ fs, Modest f)
    (h1 : (soundV (allV fs) fn).2 = 0) (h2 : (belongV (allV fs) [(fn : Int)]).find? (fun k => !(canB fs k)) = none) {v : Int} (hv : ∃ k, ofV fs k fn = some v) :
    (soundV (allV gs) fn).2 = 0 ∧ (belongV (allV gs) [(fn : Int)]).find? (fun k => !(canB gs k)) = none ∧ ∃ v', Reckons gs fn v' ∧ v ≤ v' ∧ v' ≤ 2 * v := by
  have hops : ∀ (j : Nat) (f g : FlatD), fs[j]? = some f → gs[j]? = some g → f.ops = g.ops := fun j f' g' a b => by
    by_cases c : j = fn
    · subst c
      rw [hf] at a; rw [hg] at b; cases a; cases b
      exact hs.ops
    · exact (hsame j c f' g' a b).1
  have eL : allV gs = allV fs := by
    apply List.ext_getElem?
    intro j
    rcases Nat.lt_or_ge j fs.length with c | c
    · have a := List.getElem?_eq_getElem c
      have b : gs[j]? = some (gs[j]'(by omega)) := List.getElem?_eq_getElem _
      rw [allV_at a, allV_at b, hops j _ _ a b]
    · rw [List.getElem?_eq_none (by rw [allV_len]; omega), List.getElem?_eq_none (by rw [allV_len]; omega)]
  obtain ⟨hG, hR⟩ := good_of hm h1 h2
  have hcf : CanF f := by
    obtain ⟨f', a, b, _⟩ := hG.code fn hR
    rw [hf] at a; cases a; exact b
  have hcg : CanF g := hs.can (fun m hm => by
    have := hcf.loop m (by rw [hs.len]; exact hm)
    by_cases c : m = K
    · subst c; rw [hK]; omega
    · rw [ht m c]; exact this.2.2.2) hcf
  have hfind : (belongV (allV gs) [(fn : Int)]).find? (fun k => !(canB gs k)) = none := by
    rw [eL, ← h2]
    refine find_congr _ (fun k hk => ?_)
    obtain ⟨j, rfl, hj, hr⟩ := belongV_mem.1 hk
    rw [allV_len] at hj
    have a := List.getElem?_eq_getElem hj
    have b : gs[j]? = some (gs[j]'(by omega)) := List.getElem?_eq_getElem _
    by_cases c : j = fn
    · subst c
      rw [(canB_at hf).2 hcf, (canB_at hg).2 hcg]
    · rw [can_same a b (hsame j c _ _ a b)]
  refine ⟨by rw [eL]; exact h1, hfind, ?_⟩
  obtain ⟨k, hk⟩ := hv
  cases k with
  | zero => simp [ofV] at hk
  | succ k =>
    rw [ofV_succ, hf] at hk
    dsimp only at hk
    rw [if_pos (can_times hcf)] at hk
    have hring := (sound_all h1).2 fn hR |>.2
    have hlf := listAt_get (ls := allV fs) (j := fn) hR.lt
    have hcv : listAt (allV fs) (fn : Int) = callsV f.ops := Option.some.inj (hlf.symm.trans (allV_at hf))
    have hno : ¬ Reach (allV fs) (listAt (allV fs) (fn : Int)) fn := fun hr => by
      unfold ringB at hring
      have : ((fn : Int)) ∈ belongV (allV fs) (listAt (allV fs) (fn : Int)) := belongV_mem.2 ⟨fn, rfl, hR.lt, hr⟩
      simp_all
    have hsub : ∀ i : Nat, Reach (allV fs) (listAt (allV fs) (fn : Int)) i → Reach (allV fs) [(fn : Int)] i := fun i hi => Reach.trans (fun y hy hyl => .step hR hlf hy hyl) hi
    have hcl : ∀ j z, Reach (allV fs) [(fn : Int)] j → z ∈ listAt (allV fs) (j : Int) → 0 ≤ z ∧ z < (allV fs).length := fun j z hj hz => lost_in ((sound_all h1).2 j hj).1 z hz
    have hof : ∀ k j, Reach (allV fs) (listAt (allV fs) (fn : Int)) j → ofV gs k j = ofV fs k j := ofV_alike (fun j hj => by
      have hne : j ≠ fn := by rintro rfl; exact hno hj
      have hjl := hj.lt
      rw [allV_len] at hjl
      have a := List.getElem?_eq_getElem hjl
      have b : gs[j]? = some (gs[j]'(by omega)) := List.getElem?_eq_getElem _
      exact ⟨_, _, a, b, hsame j hne _ _ a b⟩) (fun j f' hj hf' o ho h18 hb => by
      have e : listAt (allV fs) (j : Int) = callsV f'.ops := Option.some.inj ((listAt_get hj.lt).symm.trans (allV_at hf'))
      have hz : o.b ∈ listAt (allV fs) (j : Int) := by rw [e]; exact mem_callsV.2 ⟨o, ho, h18, rfl⟩
      have := hcl j _ (hsub j hj) hz
      exact .step hj (listAt_get hj.lt) (by rw [Int.toNat_of_nonneg (by omega)]; exact hz) (by omega))
    obtain ⟨v', c1, c2, c3⟩ := val_once hs hcf (fun o c ho => costV_range k o c ho) ht hK k 0 none v (fun l' e => by cases e) hk
    refine ⟨v', fun _ _ => ⟨k + 1, ?_⟩, c2, c3⟩
    rw [Int.toNat_natCast, ofV_succ, hg]
    dsimp only
    rw [if_pos (can_times hcg), ← c1]
    refine val_same ⟨rfl, rfl⟩ (fun p => ?_) k 0 none
    rw [← hs.opAt]
    unfold costV
    by_cases c : (opAt f p).code = 18
    · rw [if_pos c, if_pos c]
      by_cases b : (opAt f p).b < 0
      · rw [if_pos b, if_pos b]
      · rw [if_neg b, if_neg b]
        have hp : opAt f p ∈ f.ops := by
          rcases Nat.lt_or_ge p f.ops.length with x | x
          · exact List.mem_of_getElem? (opAt_get x)
          · have : (opAt f p).code = 0 := by unfold opAt; rw [List.getD_eq_getElem?_getD, List.getElem?_eq_none x]; rfl
            omega
        have hz : (opAt f p).b ∈ listAt (allV fs) (fn : Int) := by rw [hcv]; exact mem_callsV.2 ⟨_, hp, c, rfl⟩
        have := hcl fn _ hR hz
        rw [hof k _ (.base (by rw [Int.toNat_of_nonneg (by omega)]; exact hz) (by omega))]
    · rw [if_neg c, if_neg c]
end Go.Proofs.Ytmnaeoljpajomaa.H
