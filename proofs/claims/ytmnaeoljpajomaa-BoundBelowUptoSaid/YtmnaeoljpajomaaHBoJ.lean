/- A code's bound is more than the bound of a code that a way of it comes to call, and its depth more than that of all that it calls. Plain. -/
import Derived.Test.YtmnaeoljpajomaaHBoI
namespace Go.Proofs.Ytmnaeoljpajomaa.H
set_option linter.unusedVariables false
set_option linter.unusedSimpArgs false
open Go.RowKit
theorem mapM_at {α β : Type} {g : α → Option β} : ∀ (l : List α) (r : List β), l.mapM g = some r → ∀ a ∈ l, ∃ b ∈ r, g a = some b
  | [], r, e, a, ha => by cases ha
  | x :: l, r, e, a, ha => by
    rw [List.mapM_cons] at e
    cases hx : g x with
    | none => rw [hx] at e; simp at e
    | some b =>
      cases hl : l.mapM g with
      | none => rw [hx, hl] at e; simp at e
      | some r0 =>
        rw [hx, hl] at e
        simp at e
        subst e
        rcases List.mem_cons.1 ha with rfl | ha
        · exact ⟨b, by simp, hx⟩
        · obtain ⟨y, hy, e⟩ := mapM_at l r0 hl a ha
          exact ⟨y, List.mem_cons_of_mem _ hy, e⟩
/-- A way within a loop, that does not come to its head again. -/
inductive Way (f : FlatD) (l : Option Nat) : Nat → Nat → Prop
  | here (p : Nat) : Way f l p p
  | step {p q r : Nat} {z : Int} (hz : z ∈ nextsV f p) (h0 : zeroB f z l = false) (hq : z = (q : Int)) (h : Way f l q r) : Way f l p r
theorem Way.snoc {f : FlatD} {l : Option Nat} {p q r : Nat} {z : Int} (h : Way f l p q) (hz : z ∈ nextsV f q) (h0 : zeroB f z l = false) (hq : z = (r : Int)) : Way f l p r := by
  induction h with
  | here p => exact .step hz h0 hq (.here r)
  | step a b c _ ih => exact .step a b c (ih hz)
theorem way_split {f : FlatD} {l : Option Nat} {m p q : Nat} (h0 : 0 ≤ (loopAt f m).head) (h : Way f l p q) : hasB (loopAt f m) p = true → Way f (some m) p q ∨ Way f (some m) (loopAt f m).head.toNat q ∨ ∃ z ∈ outsV f m, zeroB f z l = false ∧ ∃ q0 : Nat, z = q0 ∧ Way f l q0 q := by
  induction h with
  | here p => exact fun _ => .inl (.here p)
  | step hz hzl hq h ih =>
    rename_i p q r z
    intro hp
    by_cases c : hasB (loopAt f m) z = true
    · rcases ih (by rw [← hq]; exact c) with x | x | x
      · by_cases e : (loopAt f m).head = z
        · refine .inr (.inl ?_)
          rw [e, hq, Int.toNat_natCast]
          exact x
        · exact .inl (.step hz (by unfold zeroB; simp [c, e]) hq x)
      · exact .inr (.inl x)
      · exact .inr (.inr x)
    · refine .inr (.inr ⟨z, ?_, hzl, q, hq, h⟩)
      obtain ⟨a1, a2⟩ := hasB_iff.1 hp
      unfold outsV
      refine List.mem_flatMap.2 ⟨p - (loopAt f m).head.toNat, List.mem_range.2 (by omega), List.mem_filter.2 ⟨?_, by simpa using c⟩⟩
      rw [show (loopAt f m).head.toNat + (p - (loopAt f m).head.toNat) = p by omega]
      exact hz
theorem mulC_ge {o t : Int} (ho : 0 ≤ o) (hH : o ≤ H40) (ht : 0 ≤ t) : o ≤ mulC o t := by
  rw [mulC_eq ht]
  have h2 : o * (t + 1) = o * t + o := by rw [Int.mul_add, Int.mul_one]
  have h3 : 0 ≤ o * t := Int.mul_nonneg ho ht
  split <;> omega
theorem sumC_left {a b x : Int} (h : x ≤ a) (ha : a ≤ H40) (hb : 0 ≤ b) : x ≤ sumC a b := by unfold sumC; split <;> omega
theorem sumC_right {a b c x : Int} (h : x ≤ c) (hc : c ≤ H40) (ha : 0 ≤ a) (hb : c ≤ b) : x ≤ sumC a b := by unfold sumC; split <;> omega
/-- What is reckoned is no less than the cost of any place that a way comes to. -/
theorem val_way {f : FlatD} (hc : CanF f) {cost : OpD → Option Int} (hcost : ∀ o c, cost o = some c → 0 ≤ c ∧ c ≤ H40) : ∀ (k p : Nat) (l : Option Nat) (c : Int), val f cost k p l = some c → ∀ (q : Nat) (x : Int), Way f l p q → cost (opAt f q) = some x → x ≤ c
  | 0, _, _, c, h => by simp [val] at h
  | k + 1, p, l, c, h => by
    intro q x hw hx
    have htb := timesB_at (can_times hc)
    have hxr := hcost _ _ hx
    unfold val at h
    cases hwi : withinV f p l with
    | none =>
      rw [hwi] at h
      simp only [Option.bind_eq_some_iff] at h
      obtain ⟨o, ho, fs, hfs, e⟩ := h
      cases e
      have hor := hcost _ _ ho
      cases hw with
      | here => rw [ho] at hx; cases hx; exact sumC_left (Int.le_refl _) hor.2 (maxV_nonneg fs)
      | step hz h0 hq h =>
        rename_i q1 z
        obtain ⟨b, hb, e⟩ := mapM_at _ _ hfs z hz
        unfold farOf at e
        rw [if_neg (by rw [h0]; simp), hq, Int.toNat_natCast] at e
        have := val_way hc hcost k q1 l b e q x h hx
        exact sumC_right this (val_range hcost htb k _ _ _ e).2 hor.1 (maxV_mem fs 0 b hb)
    | some m =>
      rw [hwi] at h
      simp only [Option.bind_eq_some_iff] at h
      obtain ⟨o, ho, fs, hfs, e⟩ := h
      cases e
      have hor := val_range hcost htb k _ _ _ ho
      obtain ⟨h1, h2⟩ := withinV_lt hwi
      obtain ⟨g1, g2, g3, _⟩ := hc.loop m h1
      have hp := (skip_iff.1 h2).1
      have hmr := mulC_range hor.1 hor.2 (htb m h1)
      have hin : Way f (some m) p q → x ≤ sumC (mulC o (loopAt f m).times) (maxV fs) := fun w => sumC_left (Int.le_trans (val_way hc hcost k p (some m) o ho q x w hx) (mulC_ge hor.1 hor.2 (htb m h1))) hmr.2 (maxV_nonneg fs)
      rcases way_split (m := m) g1 hw (hasB_iff.2 (by omega)) with w | w | ⟨z, hz, h0, q0, hq0, w⟩
      · exact hin w
      · rw [hp, Int.toNat_natCast] at w
        exact hin w
      · obtain ⟨b, hb, e⟩ := mapM_at _ _ hfs z hz
        unfold farOf at e
        rw [if_neg (by rw [h0]; simp), hq0, Int.toNat_natCast] at e
        have := val_way hc hcost k q0 l b e q x w hx
        exact sumC_right this (val_range hcost htb k _ _ _ e).2 hmr.1 (maxV_mem fs 0 b hb)
theorem reach_sub {ls : List (List Int)} {fn k : Nat} (h : Reach ls [(fn : Int)] k) {j : Nat} (hj : Reach ls [(k : Int)] j) : Reach ls [(fn : Int)] j :=
  Reach.trans (fun y hy hyl => by
    have : (y : Int) = k := by simpa using hy
    obtain rfl : y = k := by omega
    exact h) hj
theorem sound_sub {ls : List (List Int)} {fn k : Nat} (hs : (soundV ls fn).2 = 0) (h : Reach ls [(fn : Int)] k) : soundV ls (k : Int) = (0, 0) := by
  have ha := (sound_all hs).2
  have hk := h.lt
  unfold soundV
  rw [if_neg (by omega)]
  have e1 : (belongV ls [(k : Int)]).find? (lostB ls) = none := List.find?_eq_none.2 (fun x hx => by
    obtain ⟨j, rfl, _, hr⟩ := belongV_mem.1 hx
    rw [(ha j (reach_sub h hr)).1]; simp)
  have e2 : (belongV ls [(k : Int)]).find? (ringB ls) = none := List.find?_eq_none.2 (fun x hx => by
    obtain ⟨j, rfl, _, hr⟩ := belongV_mem.1 hx
    rw [(ha j (reach_sub h hr)).2]; simp)
  rw [e1, e2]
/-- A call of a code is come to. -/
def Comes (f : FlatD) (k : Int) : Prop := ∃ q, Way f none 0 q ∧ q < f.ops.length ∧ (opAt f q).code = 18 ∧ (opAt f q).b = k
/-- What is called of a code that has its bound. -/
theorem of_below {fs : List FlatD} {fn : Nat} {f : FlatD} (hm : ∀ f ∈ fs, Modest f) (hf : fs[fn]? = some f) (h1 : (soundV (allV fs) fn).2 = 0) (h2 : (belongV (allV fs) [(fn : Int)]).find? (fun k => !(canB fs k)) = none) {v : Int} (hv : ∃ k, ofV fs k fn = some v) (hbig : v ≤ 1048576) {d : Int} {K : Nat} (hd : depthV (allV fs) K fn = some d) {z : Int} (hz : z ∈ callsV f.ops) :
    (soundV (allV fs) z) = (0, 0) ∧ (∃ c, depthV (allV fs) ((allV fs).length + 1) z.toNat = some c ∧ c < d) ∧ ∃ w, Reckons fs z w ∧ (Comes f z → ofR fs z w = (w, 0, 0) ∧ w < v) := by
  obtain ⟨hG, hR⟩ := good_of hm h1 h2
  have hl := allV_at hf
  have hlat : listAt (allV fs) (fn : Int) = callsV f.ops := Option.some.inj ((listAt_get hR.lt).symm.trans hl)
  have hzr := lost_in ((sound_all h1).2 fn hR).1 z (by rw [hlat]; exact hz)
  obtain ⟨k, rfl⟩ : ∃ k : Nat, z = k := ⟨z.toNat, by omega⟩
  have hRk : Reach (allV fs) [(fn : Int)] k := .step hR hl hz (by omega)
  have hsk := sound_sub h1 hRk
  refine ⟨hsk, ?_, ?_⟩
  · obtain ⟨c, hc⟩ := depthV_sound (ls := allV fs) (fn := (k : Int)) (by rw [hsk])
    refine ⟨c, hc, ?_⟩
    cases K with
    | zero => simp [depthV] at hd
    | succ K =>
      unfold depthV at hd
      rw [hl] at hd
      obtain ⟨ds, hds, rfl⟩ := Option.map_eq_some_iff.1 hd
      obtain ⟨b, hb, e⟩ := mapM_at _ _ hds _ hz
      rw [if_neg (by omega)] at e
      have := depthV_one e hc
      have := maxV_mem ds 0 b hb
      unfold maxV
      omega
  · obtain ⟨w, hw⟩ := reckons_any hm (k : Int)
    refine ⟨w, hw, fun ⟨q, way, hql, c18, cb⟩ => ?_⟩
    have hfind : (belongV (allV fs) [(k : Int)]).find? (fun k => !(canB fs k)) = none := List.find?_eq_none.2 (fun x hx => by
      obtain ⟨j, rfl, hj, hr⟩ := belongV_mem.1 hx
      have := List.find?_eq_none.1 h2 (j : Int) (belongV_mem.2 ⟨j, rfl, hj, reach_sub hRk hr⟩)
      exact this)
    obtain ⟨K1, hK1⟩ := hw (by rw [hsk]) hfind
    rw [Int.toNat_natCast] at hK1
    have hwv : w < v := by
      obtain ⟨k0, hk0⟩ := hv
      have hcf : CanF f := by
        obtain ⟨f', a, b, _⟩ := hG.code fn hR
        rw [hf] at a; cases a; exact b
      have hk1 := ofV_mono k0 (max k0 K1 + 1) (by omega) _ _ hk0
      rw [ofV_succ, hf] at hk1
      dsimp only at hk1
      rw [if_pos (can_times hcf)] at hk1
      have hcost : costV fs (max k0 K1) (opAt f q) = some (sumC 1 w) := by
        unfold costV
        rw [if_pos c18, if_neg (by omega), cb, Int.toNat_natCast, ofV_mono K1 (max k0 K1) (by omega) _ _ hK1]
        rfl
      have := val_way hcf (fun o c ho => costV_range _ o c ho) _ 0 none v hk1 q _ way hcost
      unfold sumC H40 at this
      split at this <;> omega
    refine ⟨?_, hwv⟩
    unfold ofR
    rw [hsk, if_neg (by simp), hfind]
    dsimp only
    rw [if_neg (by omega)]
end Go.Proofs.Ytmnaeoljpajomaa.H
