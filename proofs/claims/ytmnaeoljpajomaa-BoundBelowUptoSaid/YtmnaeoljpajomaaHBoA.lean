/- What bound reckons of codes, in plain words: next places, loops within loops, the farthest way, a code's depth and bound; by so many steps of reckoning. No program in sight; no condition. -/
import Derived.Test.YtmnaeoljpajomaaHBeB
namespace Go.Proofs.Ytmnaeoljpajomaa.H
set_option linter.unusedVariables false
set_option linter.unusedSimpArgs false
open Go.RowKit
/-- Where an instruction may go on. -/
def nextI (o : OpD) (p : Nat) : List Int :=
  if o.code = 16 then [o.b] else if o.code = 17 then (if o.b = (p : Int) + 1 then [(p : Int) + 1] else if o.b < (p : Int) + 1 then [o.b, (p : Int) + 1] else [(p : Int) + 1, o.b])
  else if o.code = 20 ∨ o.code = 21 then [] else [(p : Int) + 1]
theorem nextI_len (o : OpD) (p : Nat) : (nextI o p).length ≤ 2 := by unfold nextI; repeat (first | split | simp)
def opAt (f : FlatD) (p : Nat) : OpD := f.ops.getD p ⟨0, 0, 0, 0, 0, 0, 0, 0, 0, ⟨#[]⟩⟩
def loopAt (f : FlatD) (m : Nat) : LoopD := f.loops.getD m ⟨0, 0, 0⟩
def nextsV (f : FlatD) (p : Nat) : List Int := nextI (opAt f p) p
theorem opAt_get {f : FlatD} {p : Nat} (h : p < f.ops.length) : f.ops[p]? = some (opAt f p) := by unfold opAt; rw [List.getD_eq_getElem?_getD, List.getElem?_eq_getElem h]; rfl
theorem loopAt_get {f : FlatD} {p : Nat} (h : p < f.loops.length) : f.loops[p]? = some (loopAt f p) := by unfold loopAt; rw [List.getD_eq_getElem?_getD, List.getElem?_eq_getElem h]; rfl
/-- Does a loop lie in another one? -/
def insideB (x y : LoopD) (a b : Nat) : Bool := if x.head == y.head && x.stop == y.stop then decide (b < a) else decide (y.head ≤ x.head) && decide (x.stop ≤ y.stop)
def inB (f : FlatD) (a b : Nat) : Bool := insideB (loopAt f a) (loopAt f b) a b
/-- Has a loop's stretch a place? -/
def hasB (x : LoopD) (p : Int) : Bool := decide (x.head ≤ p) && decide (p < x.stop)
/-- May a loop not be the one that is looked for? -/
def skipB (f : FlatD) (p : Int) (l : Option Nat) (m : Nat) : Bool := !((loopAt f m).head == p) || ((match l with | some l => !(inB f m l) | none => false) || l == some m)
def withinStep (f : FlatD) (p : Int) (l : Option Nat) (out : Option Nat) (m : Nat) : Option Nat :=
  if skipB f p l m then out else match out with
    | none => some m
    | some o => if inB f o m then some m else some o
/-- The loop that begins at a place, within another one, lying in none of the others that do. -/
def withinV (f : FlatD) (p : Int) (l : Option Nat) : Option Nat := (List.range f.loops.length).foldl (withinStep f p l) none
theorem within_lt {f : FlatD} {p : Int} {l : Option Nat} {m : Nat} : ∀ (k : Nat), ∀ m, (List.range k).foldl (withinStep f p l) none = some m → m < k ∧ skipB f p l m = false := by
  intro k
  induction k with
  | zero => intro m h; simp at h
  | succ k ih =>
    intro m h
    rw [List.range_succ, List.foldl_append, List.foldl_cons, List.foldl_nil] at h
    generalize he : (List.range k).foldl (withinStep f p l) none = out at h ih
    unfold withinStep at h
    split at h
    · have := ih m h; exact ⟨by omega, this.2⟩
    · rename_i hs
      split at h
      · cases h; exact ⟨by omega, by simpa using hs⟩
      · split at h
        · cases h; exact ⟨by omega, by simpa using hs⟩
        · cases h; have := ih _ rfl; exact ⟨by omega, this.2⟩
theorem withinV_lt {f : FlatD} {p : Int} {l : Option Nat} {m : Nat} (h : withinV f p l = some m) : m < f.loops.length ∧ skipB f p l m = false := within_lt (m := m) _ _ h
def encL : Option Nat → Int
  | none => -1
  | some m => m
def H40 : Int := 1099511627776
def sumC (a b : Int) : Int := if a + b ≤ H40 then a + b else H40
def mulC (o t : Int) : Int := if o ≤ H40 / (t + 1) then o * (t + 1) else H40
/-- The places that a loop is left to. -/
def outsV (f : FlatD) (m : Nat) : List Int := ((List.range ((loopAt f m).stop.toNat - (loopAt f m).head.toNat)).flatMap fun i => (nextsV f ((loopAt f m).head.toNat + i)).filter fun q => !(hasB (loopAt f m) q))
def maxV (l : List Int) : Int := l.foldl (fun n v => if n < v then v else n) 0
/-- Nothing is reckoned outside of the loop, or at its head. -/
def zeroB (f : FlatD) (q : Int) (l : Option Nat) : Bool := match l with
  | none => false
  | some m => !(hasB (loopAt f m) q) || (loopAt f m).head == q
def farOf (f : FlatD) (g : Nat → Option Nat → Option Int) (l : Option Nat) (q : Int) : Option Int := if zeroB f q l then some 0 else g q.toNat l
/-- The most from a place on, within a loop. -/
def val (f : FlatD) (cost : OpD → Option Int) : Nat → Nat → Option Nat → Option Int
  | 0, _, _ => none
  | k + 1, p, l => match withinV f p l with
    | some m => (val f cost k p (some m)).bind fun o => ((outsV f m).mapM (farOf f (val f cost k) l)).bind fun fs => some (sumC (mulC o (loopAt f m).times) (maxV fs))
    | none => (cost (opAt f p)).bind fun c => ((nextsV f p).mapM (farOf f (val f cost k) l)).bind fun fs => some (sumC c (maxV fs))
theorem mapM_mono {α β : Type} {g h : α → Option β} (hgh : ∀ a b, g a = some b → h a = some b) : ∀ (l : List α) (r : List β), l.mapM g = some r → l.mapM h = some r
  | [], r, e => by simpa using e
  | a :: l, r, e => by
    rw [List.mapM_cons] at e ⊢
    cases ha : g a with
    | none => rw [ha] at e; simp at e
    | some b =>
      rw [ha] at e
      rw [hgh a b ha]
      cases hl : l.mapM g with
      | none => rw [hl] at e; simp at e
      | some r' =>
        rw [hl] at e
        rw [mapM_mono hgh l r' hl]
        exact e
theorem farOf_mono {f : FlatD} {g h : Nat → Option Nat → Option Int} (hgh : ∀ p l c, g p l = some c → h p l = some c) (l : Option Nat) (q c : Int) (e : farOf f g l q = some c) : farOf f h l q = some c := by
  unfold farOf at e ⊢
  split at e
  · rename_i hz; rw [if_pos hz]; exact e
  · rename_i hz; rw [if_neg hz]; exact hgh _ _ _ e
theorem val_mono {f : FlatD} {cost cost' : OpD → Option Int} (hc : ∀ o c, cost o = some c → cost' o = some c) : ∀ (k k' : Nat), k ≤ k' → ∀ p l c, val f cost k p l = some c → val f cost' k' p l = some c
  | 0, _, _, p, l, c, h => by simp [val] at h
  | k + 1, 0, hk, p, l, c, h => absurd hk (by omega)
  | k + 1, k' + 1, hk, p, l, c, h => by
    have ih := val_mono (f := f) hc k k' (by omega)
    unfold val at h ⊢
    split
    · rename_i m hm
      rw [hm] at h
      simp only [Option.bind_eq_some_iff] at h ⊢
      obtain ⟨o, ho, fs, hfs, e⟩ := h
      exact ⟨o, ih _ _ _ ho, fs, mapM_mono (farOf_mono ih l) _ _ hfs, e⟩
    · rename_i hm
      rw [hm] at h
      simp only [Option.bind_eq_some_iff] at h ⊢
      obtain ⟨o, ho, fs, hfs, e⟩ := h
      exact ⟨o, hc _ _ ho, fs, mapM_mono (farOf_mono ih l) _ _ hfs, e⟩
theorem val_one {f : FlatD} {cost : OpD → Option Int} {k k' p : Nat} {l : Option Nat} {c c' : Int} (h : val f cost k p l = some c) (h' : val f cost k' p l = some c') : c = c' := by
  have h1 := val_mono (f := f) (cost := cost) (cost' := cost) (fun _ _ e => e) k (max k k') (by omega) p l c h
  have h2 := val_mono (f := f) (cost := cost) (cost' := cost) (fun _ _ e => e) k' (max k k') (by omega) p l c' h'
  rw [h1] at h2
  exact Option.some.inj h2
theorem sumC_range {a b : Int} (ha : 0 ≤ a) (hb : 0 ≤ b) : 0 ≤ sumC a b ∧ sumC a b ≤ H40 := by unfold sumC H40; split <;> omega
theorem maxV_ge : ∀ (l : List Int) (n : Int), n ≤ l.foldl (fun n v => if n < v then v else n) n
  | [], n => Int.le_refl _
  | v :: l, n => by
    rw [List.foldl_cons]
    refine Int.le_trans ?_ (maxV_ge l _)
    split <;> omega
theorem maxV_nonneg (l : List Int) : 0 ≤ maxV l := maxV_ge l 0
theorem maxV_le {B : Int} : ∀ (l : List Int) (n : Int), n ≤ B → (∀ v ∈ l, v ≤ B) → l.foldl (fun n v => if n < v then v else n) n ≤ B
  | [], n, h, _ => h
  | v :: l, n, h, hl => by
    rw [List.foldl_cons]
    refine maxV_le l _ ?_ (fun x hx => hl x (List.mem_cons_of_mem _ hx))
    have := hl v (List.mem_cons_self ..)
    split <;> omega
theorem maxV_mem : ∀ (l : List Int) (n v : Int), v ∈ l → v ≤ l.foldl (fun n v => if n < v then v else n) n
  | v0 :: l, n, v, h => by
    rw [List.foldl_cons]
    rcases List.mem_cons.1 h with rfl | h
    · refine Int.le_trans ?_ (maxV_ge l _)
      split <;> omega
    · exact maxV_mem l _ v h
theorem mulC_range {o t : Int} (ho : 0 ≤ o) (hoH : o ≤ H40) (ht : 0 ≤ t) : 0 ≤ mulC o t ∧ mulC o t ≤ H40 := by
  unfold mulC
  split
  · rename_i h
    refine ⟨Int.mul_nonneg ho (by omega), ?_⟩
    have h1 : o * (t + 1) ≤ H40 / (t + 1) * (t + 1) := Int.mul_le_mul_of_nonneg_right h (by omega)
    have h2 : H40 / (t + 1) * (t + 1) ≤ H40 := Int.ediv_mul_le _ (by omega)
    omega
  · unfold H40; omega
theorem mapM_mem {α β : Type} {g : α → Option β} : ∀ (l : List α) (r : List β), l.mapM g = some r → ∀ b ∈ r, ∃ a ∈ l, g a = some b
  | [], r, e, b, hb => by simp at e; subst e; cases hb
  | a :: l, r, e, b, hb => by
    rw [List.mapM_cons] at e
    cases ha : g a with
    | none => rw [ha] at e; simp at e
    | some x =>
      cases hl : l.mapM g with
      | none => rw [ha, hl] at e; simp at e
      | some r' =>
        rw [ha, hl] at e
        simp at e
        subst e
        rcases List.mem_cons.1 hb with rfl | hb
        · exact ⟨a, List.mem_cons_self .., ha⟩
        · obtain ⟨y, hy, e⟩ := mapM_mem l r' hl b hb
          exact ⟨y, List.mem_cons_of_mem _ hy, e⟩
theorem val_range {f : FlatD} {cost : OpD → Option Int} (hc : ∀ o c, cost o = some c → 0 ≤ c ∧ c ≤ H40) (ht : ∀ m, m < f.loops.length → 0 ≤ (loopAt f m).times) : ∀ (k p : Nat) (l : Option Nat) (c : Int), val f cost k p l = some c → 0 ≤ c ∧ c ≤ H40
  | 0, p, l, c, h => by simp [val] at h
  | k + 1, p, l, c, h => by
    have ih := val_range (f := f) hc ht k
    unfold val at h
    split at h
    · rename_i m hm
      simp only [Option.bind_eq_some_iff] at h
      obtain ⟨o, ho, fs, hfs, e⟩ := h
      cases e
      have h1 := ih _ _ _ ho
      exact sumC_range (mulC_range h1.1 h1.2 (ht m (withinV_lt hm).1)).1 (maxV_nonneg _)
    · simp only [Option.bind_eq_some_iff] at h
      obtain ⟨o, ho, fs, hfs, e⟩ := h
      cases e
      exact sumC_range (hc _ _ ho).1 (maxV_nonneg _)
/-- No loop has rounds below nought. -/
def timesB (f : FlatD) : Bool := f.loops.all fun x => decide (0 ≤ x.times)
theorem timesB_at {f : FlatD} (h : timesB f = true) : ∀ m, m < f.loops.length → 0 ≤ (loopAt f m).times := fun m hm => by
  have := List.all_eq_true.1 h (loopAt f m) (List.mem_of_getElem? (loopAt_get hm))
  simpa using this
theorem timesB_of {f : FlatD} (h : ∀ m, m < f.loops.length → 0 ≤ (loopAt f m).times) : timesB f = true := by
  unfold timesB
  rw [List.all_eq_true]
  intro x hx
  obtain ⟨i, hi, e⟩ := List.mem_iff_getElem.1 hx
  have h1 := loopAt_get hi
  rw [List.getElem?_eq_getElem hi, e] at h1
  have := h i hi
  rw [← Option.some.inj h1] at this
  simpa using this
/-- The most instructions of a run of a code, by so many steps of reckoning. -/
def ofV (fs : List FlatD) : Nat → Nat → Option Int
  | 0, _ => none
  | k + 1, fn => match fs[fn]? with
    | none => none
    | some f => if timesB f then val f (fun o => if o.code = 18 then (if o.b < 0 then none else (ofV fs k o.b.toNat).map fun n => sumC 1 n) else some 1) k 0 none else none
def costV (fs : List FlatD) (k : Nat) (o : OpD) : Option Int := if o.code = 18 then (if o.b < 0 then none else (ofV fs k o.b.toNat).map fun n => sumC 1 n) else some 1
theorem ofV_succ (fs : List FlatD) (k fn : Nat) : ofV fs (k + 1) fn = match fs[fn]? with | none => none | some f => if timesB f then val f (costV fs k) k 0 none else none := rfl
theorem ofV_mono {fs : List FlatD} : ∀ (k k' : Nat), k ≤ k' → ∀ fn c, ofV fs k fn = some c → ofV fs k' fn = some c
  | 0, _, _, fn, c, h => by simp [ofV] at h
  | k + 1, 0, hk, fn, c, h => absurd hk (by omega)
  | k + 1, k' + 1, hk, fn, c, h => by
    rw [ofV_succ] at h ⊢
    split at h
    · cases h
    · rename_i f hf
      split at h
      case isFalse => cases h
      rename_i hTB
      rw [if_pos hTB]
      refine val_mono (fun o c ho => ?_) k k' (by omega) _ _ _ h
      unfold costV at ho ⊢
      split at ho
      · rename_i h18
        rw [if_pos h18]
        split at ho
        · cases ho
        · rename_i hb
          rw [if_neg hb]
          obtain ⟨n, hn, e⟩ := Option.map_eq_some_iff.1 ho
          rw [ofV_mono k k' (by omega) _ _ hn]
          exact congrArg some e
      · rename_i h18
        rw [if_neg h18]; exact ho
theorem ofV_one {fs : List FlatD} {k k' fn : Nat} {c c' : Int} (h : ofV fs k fn = some c) (h' : ofV fs k' fn = some c') : c = c' := by
  have h1 := ofV_mono k (max k k') (by omega) fn c h
  have h2 := ofV_mono k' (max k k') (by omega) fn c' h'
  rw [h1] at h2
  exact Option.some.inj h2
theorem ofV_range {fs : List FlatD} : ∀ (k fn : Nat) (c : Int), ofV fs k fn = some c → 0 ≤ c ∧ c ≤ H40
  | 0, fn, c, h => by simp [ofV] at h
  | k + 1, fn, c, h => by
    rw [ofV_succ] at h
    split at h
    · cases h
    · rename_i f hf
      split at h
      case isFalse => cases h
      rename_i hTB
      refine val_range (fun o c ho => ?_) (timesB_at hTB) k _ _ _ h
      unfold costV at ho
      split at ho
      · split at ho
        · cases ho
        · obtain ⟨n, hn, e⟩ := Option.map_eq_some_iff.1 ho
          cases e
          exact sumC_range (by decide) (ofV_range k _ _ hn).1
      · cases ho
        unfold H40
        omega
theorem costV_range {fs : List FlatD} (k : Nat) (o : OpD) (c : Int) (ho : costV fs k o = some c) : 0 ≤ c ∧ c ≤ H40 := by
  unfold costV at ho
  split at ho
  · split at ho
    · cases ho
    · obtain ⟨n, hn, e⟩ := Option.map_eq_some_iff.1 ho
      cases e
      exact sumC_range (by decide) (ofV_range k _ _ hn).1
  · cases ho
    unfold H40
    omega
/-- A code's depth, by so many steps of reckoning. -/
def depthV (ls : List (List Int)) : Nat → Nat → Option Int
  | 0, _ => none
  | k + 1, fn => match ls[fn]? with
    | none => none
    | some zs => (zs.mapM fun z => if z < 0 then none else depthV ls k z.toNat).map fun ds => maxV ds + 1
theorem depthV_mono {ls : List (List Int)} : ∀ (k k' : Nat), k ≤ k' → ∀ fn c, depthV ls k fn = some c → depthV ls k' fn = some c
  | 0, _, _, fn, c, h => by simp [depthV] at h
  | k + 1, 0, hk, fn, c, h => absurd hk (by omega)
  | k + 1, k' + 1, hk, fn, c, h => by
    unfold depthV at h ⊢
    split at h
    · cases h
    · rename_i zs hz
      obtain ⟨ds, hd, e⟩ := Option.map_eq_some_iff.1 h
      rw [mapM_mono (h := fun z => if z < 0 then none else depthV ls k' z.toNat) (fun z c hz => ?_) zs ds hd]
      · exact congrArg some e
      · split at hz
        · cases hz
        · rename_i h0; rw [if_neg h0]; exact depthV_mono k k' (by omega) _ _ hz
theorem depthV_one {ls : List (List Int)} {k k' fn : Nat} {c c' : Int} (h : depthV ls k fn = some c) (h' : depthV ls k' fn = some c') : c = c' := by
  have h1 := depthV_mono k (max k k') (by omega) fn c h
  have h2 := depthV_mono k' (max k k') (by omega) fn c' h'
  rw [h1] at h2
  exact Option.some.inj h2
theorem depthV_range {ls : List (List Int)} : ∀ (k fn : Nat) (c : Int), depthV ls k fn = some c → 1 ≤ c ∧ c ≤ k
  | 0, fn, c, h => by simp [depthV] at h
  | k + 1, fn, c, h => by
    unfold depthV at h
    split at h
    · cases h
    · rename_i zs hz
      obtain ⟨ds, hd, e⟩ := Option.map_eq_some_iff.1 h
      have h1 := maxV_nonneg ds
      have h2 : maxV ds ≤ k := maxV_le ds 0 (by omega) (fun v hv => by
        obtain ⟨z, _, hz⟩ := mapM_mem zs ds hd v hv
        split at hz
        · cases hz
        · exact (depthV_range k _ _ hz).2)
      omega
end Go.Proofs.Ytmnaeoljpajomaa.H
