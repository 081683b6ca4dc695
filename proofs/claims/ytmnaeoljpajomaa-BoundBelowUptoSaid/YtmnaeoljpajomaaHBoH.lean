/- Codes that differ only in where they lie, or by a further code that is not called, have the same bound and depth. Plain. -/
import Derived.Test.YtmnaeoljpajomaaHBoE
import Derived.Test.YtmnaeoljpajomaaHBoG
namespace Go.Proofs.Ytmnaeoljpajomaa.H
set_option linter.unusedVariables false
set_option linter.unusedSimpArgs false
open Go.RowKit
/-- Alike but for how often loops go round. -/
structure SimF (f g : FlatD) : Prop where
  ops : f.ops = g.ops
  len : f.loops.length = g.loops.length
  ht : ∀ m, (loopAt f m).head = (loopAt g m).head ∧ (loopAt f m).stop = (loopAt g m).stop
theorem SimF.opAt {f g : FlatD} (h : SimF f g) (p : Nat) : opAt f p = opAt g p := by unfold H.opAt; rw [h.ops]
theorem SimF.nexts {f g : FlatD} (h : SimF f g) (p : Nat) : nextsV f p = nextsV g p := by unfold nextsV; rw [h.opAt]
theorem SimF.inB {f g : FlatD} (h : SimF f g) (a b : Nat) : inB f a b = inB g a b := by
  unfold H.inB insideB
  rw [(h.ht a).1, (h.ht a).2, (h.ht b).1, (h.ht b).2]
theorem SimF.skip {f g : FlatD} (h : SimF f g) (p : Int) (l : Option Nat) (m : Nat) : skipB f p l m = skipB g p l m := by
  unfold skipB
  rw [(h.ht m).1]
  cases l with
  | none => rfl
  | some l => simp only [h.inB]
theorem SimF.step {f g : FlatD} (h : SimF f g) (p : Int) (l : Option Nat) : withinStep f p l = withinStep g p l := by
  funext out m
  unfold withinStep
  rw [h.skip]
  cases out with
  | none => rfl
  | some o => simp only [h.inB]
theorem SimF.within {f g : FlatD} (h : SimF f g) (p : Int) (l : Option Nat) : withinV f p l = withinV g p l := by
  unfold withinV
  rw [h.step, h.len]
theorem SimF.has {f g : FlatD} (h : SimF f g) (m : Nat) (q : Int) : hasB (loopAt f m) q = hasB (loopAt g m) q := by
  unfold hasB
  rw [(h.ht m).1, (h.ht m).2]
theorem SimF.outs {f g : FlatD} (h : SimF f g) (m : Nat) : outsV f m = outsV g m := by
  unfold outsV
  rw [(h.ht m).1, (h.ht m).2]
  simp only [h.nexts, h.has]
theorem SimF.zero {f g : FlatD} (h : SimF f g) (q : Int) (l : Option Nat) : zeroB f q l = zeroB g q l := by
  unfold zeroB
  cases l with
  | none => rfl
  | some m => simp only [h.has, (h.ht m).1]
theorem SimF.far {f g : FlatD} (h : SimF f g) (k : Nat → Option Nat → Option Int) (l : Option Nat) : farOf f k l = farOf g k l := by
  funext q
  unfold farOf
  rw [h.zero]
theorem SimF.can {f g : FlatD} (h : SimF f g) (ht : ∀ m, m < g.loops.length → 0 ≤ (loopAt g m).times ∧ (loopAt g m).times ≤ 65536) (hc : CanF f) : CanF g := by
  refine ⟨by rw [← h.ops]; exact hc.pos, fun m hm => ?_, fun i j hij hi => ?_, fun p hp q hq => ?_⟩
  · have := hc.loop m (by rw [h.len]; exact hm)
    rw [← (h.ht m).1, ← (h.ht m).2, ← h.ops]
    exact ⟨this.1, this.2.1, this.2.2.1, ht m hm⟩
  · rw [← (h.ht i).1, ← (h.ht i).2, ← (h.ht j).1, ← (h.ht j).2]
    exact hc.nest i j hij (by rw [h.len]; exact hi)
  · rw [← h.nexts] at hq
    obtain ⟨n1, n2, n3⟩ := hc.next p (by rw [h.ops]; exact hp) q hq
    refine ⟨n1, by rw [← h.ops]; exact n2, fun c => ?_⟩
    obtain ⟨m, e1, e2, e3⟩ := n3 c
    exact ⟨m, by rw [← h.len]; exact e1, by rw [← (h.ht m).1]; exact e2, by rw [← h.has]; exact e3⟩
/-- Alike. -/
def SameF (f g : FlatD) : Prop := f.ops = g.ops ∧ f.loops = g.loops
theorem SameF.loopAt {f g : FlatD} (h : SameF f g) (m : Nat) : loopAt f m = loopAt g m := by unfold H.loopAt; rw [h.2]
theorem SameF.sim {f g : FlatD} (h : SameF f g) : SimF f g := ⟨h.1, by rw [h.2], fun m => by rw [h.loopAt]; exact ⟨rfl, rfl⟩⟩
theorem SameF.symm {f g : FlatD} (h : SameF f g) : SameF g f := ⟨h.1.symm, h.2.symm⟩
theorem SameF.can {f g : FlatD} (h : SameF f g) (hc : CanF f) : CanF g := h.sim.can (fun m hm => by
  have := hc.loop m (by rw [h.2]; exact hm)
  rw [← h.loopAt]
  exact this.2.2.2) hc
theorem val_same {f g : FlatD} (h : SameF f g) {cost cost' : OpD → Option Int} (hc : ∀ p, cost' (opAt f p) = cost (opAt f p)) : ∀ (k p : Nat) (l : Option Nat), val g cost' k p l = val f cost k p l
  | 0, _, _ => rfl
  | k + 1, p, l => by
    have ih : val g cost' k = val f cost k := by funext p l; exact val_same h hc k p l
    unfold val
    rw [← h.sim.within, ih, ← h.sim.far, ← h.sim.nexts, ← h.sim.opAt, hc]
    simp only [← h.sim.outs, ← h.loopAt]
/-- Codes that are alike where they are come to have the same bound. -/
theorem ofV_alike {fs gs : List FlatD} {S : Nat → Prop} (h : ∀ j, S j → ∃ f g, fs[j]? = some f ∧ gs[j]? = some g ∧ SameF f g)
    (hS : ∀ j f, S j → fs[j]? = some f → ∀ o ∈ f.ops, o.code = 18 → ¬ o.b < 0 → S o.b.toNat) : ∀ (k j : Nat), S j → ofV gs k j = ofV fs k j
  | 0, _, _ => rfl
  | k + 1, j, hj => by
    obtain ⟨f, g, h1, h2, h3⟩ := h j hj
    rw [ofV_succ, ofV_succ, h1, h2]
    have ht : timesB g = timesB f := by unfold timesB; rw [h3.2]
    dsimp only
    rw [ht]
    have hv : val g (costV gs k) k 0 none = val f (costV fs k) k 0 none := val_same h3 (fun p => by
      unfold costV
      by_cases c : (opAt f p).code = 18
      · rw [if_pos c, if_pos c]
        by_cases b : (opAt f p).b < 0
        · rw [if_pos b, if_pos b]
        · rw [if_neg b, if_neg b]
          have hp : opAt f p ∈ f.ops := by
            rcases Nat.lt_or_ge p f.ops.length with x | x
            · exact List.mem_of_getElem? (opAt_get x)
            · have : (opAt f p).code = 0 := by unfold opAt; rw [List.getD_eq_getElem?_getD, List.getElem?_eq_none x]; rfl
              omega
          rw [ofV_alike h hS k _ (hS j f hj h1 _ hp c b)]
      · rw [if_neg c, if_neg c]) k 0 none
    rw [hv]
theorem depthV_alike {ls ms : List (List Int)} {S : Nat → Prop} (h : ∀ j, S j → ms[j]? = ls[j]?) (hS : ∀ j l, S j → ls[j]? = some l → ∀ z ∈ l, ¬ z < 0 → S z.toNat) : ∀ (k j : Nat), S j → depthV ms k j = depthV ls k j
  | 0, _, _ => rfl
  | k + 1, j, hj => by
    unfold depthV
    rw [h j hj]
    cases hl : ls[j]? with
    | none => rfl
    | some l =>
      dsimp only
      have : ∀ (l' : List Int), (∀ z ∈ l', z ∈ l) → (l'.mapM fun z => if z < 0 then none else depthV ms k z.toNat) = l'.mapM fun z => if z < 0 then none else depthV ls k z.toNat := by
        intro l'
        induction l' with
        | nil => intro _; rfl
        | cons z l' ih =>
          intro hz
          rw [List.mapM_cons, List.mapM_cons, ih (fun y hy => hz y (List.mem_cons_of_mem _ hy))]
          by_cases c : z < 0
          · rw [if_pos c, if_pos c]
          · rw [if_neg c, if_neg c, depthV_alike h hS k _ (hS j l hj hl z (hz z (by simp)) c)]
      rw [this l (fun _ h => h)]
theorem find_congr {α : Type} {p q : α → Bool} : ∀ (l : List α), (∀ x ∈ l, p x = q x) → l.find? p = l.find? q
  | [], _ => rfl
  | a :: l, h => by
    rw [List.find?_cons, List.find?_cons, h a (by simp), find_congr l (fun x hx => h x (List.mem_cons_of_mem _ hx))]
/-- A further code that is not called. -/
theorem reach_app {ls : List (List Int)} {x fr : List Int} (hfr : ∀ z ∈ fr, z < ls.length) (hlf : ∀ j : Nat, Reach ls fr j → ∀ z ∈ listAt ls j, z < ls.length) {j : Nat} : Reach (ls ++ [x]) fr j ↔ Reach ls fr j := by
  constructor
  · intro h
    induction h with
    | base h hk => exact .base h (by have := hfr _ h; omega)
    | step h hl hm hk ih =>
      rename_i j k l
      have hj := ih.lt
      rw [List.getElem?_append_left hj] at hl
      have e : listAt ls (j : Int) = l := by unfold listAt; rw [Int.toNat_natCast, List.getD_eq_getElem?_getD, hl]; rfl
      exact .step ih hl hm (by have := hlf j ih _ (by rw [e]; exact hm); omega)
  · intro h
    induction h with
    | base h hk => exact .base h (by simp; omega)
    | step h hl hm hk ih => exact .step ih (by rw [List.getElem?_append_left h.lt]; exact hl) hm (by simp; omega)
open Classical in
theorem belong_app {ls : List (List Int)} {x fr : List Int} (hfr : ∀ z ∈ fr, z < ls.length) (hlf : ∀ j : Nat, Reach ls fr j → ∀ z ∈ listAt ls j, z < ls.length) : belongV (ls ++ [x]) fr = belongV ls fr := by
  have h := fun j => reach_app (x := x) hfr hlf (j := j)
  unfold belongV
  simp only [h]
  rw [List.length_append, List.length_singleton, List.range_succ, List.filter_append, List.map_append]
  have hn : ¬ Reach ls fr ls.length := fun c => by have := c.lt; omega
  simp [hn]
theorem listAt_app {ls : List (List Int)} {x : List Int} {j : Nat} (h : j < ls.length) : listAt (ls ++ [x]) (j : Int) = listAt ls (j : Int) := by
  unfold listAt
  rw [Int.toNat_natCast, List.getD_eq_getElem?_getD, List.getD_eq_getElem?_getD, List.getElem?_append_left h]
/-- Nothing is lost of a list that is not called wrongly. -/
theorem no_lost {ls : List (List Int)} {fn : Nat} (hfn : fn < ls.length) (h1 : (soundV ls fn).2 ≠ 1) : ∀ j : Nat, Reach ls [(fn : Int)] j → lostB ls (j : Int) = false := by
  intro j hj
  unfold soundV at h1
  rw [if_neg (by omega)] at h1
  split at h1
  · simp at h1
  · rename_i h0
    have hm : (j : Int) ∈ belongV ls [(fn : Int)] := belongV_mem.2 ⟨j, rfl, hj.lt, hj⟩
    simpa using List.find?_eq_none.1 h0 _ hm
theorem lost_in {ls : List (List Int)} {j : Nat} (h : lostB ls (j : Int) = false) : ∀ z ∈ listAt ls (j : Int), 0 ≤ z ∧ z < ls.length := by
  intro z hz
  unfold lostB at h
  have := List.any_eq_false.1 h z hz
  unfold outB at this
  simp at this
  omega
theorem listAt_get {ls : List (List Int)} {j : Nat} (h : j < ls.length) : ls[j]? = some (listAt ls (j : Int)) := by
  unfold listAt; rw [Int.toNat_natCast, List.getD_eq_getElem?_getD, List.getElem?_eq_getElem h]; rfl
theorem sound_app {ls : List (List Int)} {x : List Int} {fn : Nat} (hfn : fn < ls.length) (h1 : (soundV ls fn).2 ≠ 1) : soundV (ls ++ [x]) fn = soundV ls fn ∧ belongV (ls ++ [x]) [(fn : Int)] = belongV ls [(fn : Int)] := by
  have hno := no_lost hfn h1
  have hin := fun j hj => lost_in (hno j hj)
  have hb : belongV (ls ++ [x]) [(fn : Int)] = belongV ls [(fn : Int)] := belong_app (fun z hz => by obtain rfl := List.mem_singleton.1 hz; omega) (fun j hj z hz => (hin j hj z hz).2)
  refine ⟨?_, hb⟩
  unfold soundV
  rw [if_neg (by simp; omega), if_neg (by omega), hb]
  have e1 : (belongV ls [(fn : Int)]).find? (lostB (ls ++ [x])) = (belongV ls [(fn : Int)]).find? (lostB ls) := find_congr _ (fun k hk => by
    obtain ⟨j, rfl, hj, hr⟩ := belongV_mem.1 hk
    rw [hno j hr]
    unfold lostB
    rw [listAt_app hj, List.any_eq_false]
    intro z hz
    have := hin j hr z hz
    unfold outB
    simp
    omega)
  have e2 : (belongV ls [(fn : Int)]).find? (ringB (ls ++ [x])) = (belongV ls [(fn : Int)]).find? (ringB ls) := find_congr _ (fun k hk => by
    obtain ⟨j, rfl, hj, hr⟩ := belongV_mem.1 hk
    unfold ringB
    have hsub : ∀ i : Nat, Reach ls (listAt ls (j : Int)) i → Reach ls [(fn : Int)] i := fun i hi => Reach.trans (fun y hy hyl => .step hr (listAt_get hj) hy hyl) hi
    rw [listAt_app hj, belong_app (fun z hz => (hin j hr z hz).2) (fun i hi z hz => (hin i (hsub i hi) z hz).2)])
  rw [e1, e2]
theorem allV_at {fs : List FlatD} {j : Nat} {f : FlatD} (h : fs[j]? = some f) : (allV fs)[j]? = some (callsV f.ops) := by simp [allV, h]
/-- What copies have alike. -/
def SameL (gs fs : List FlatD) : Prop := gs.length = fs.length ∧ ∀ (j : Nat) f g, fs[j]? = some f → gs[j]? = some g → SameF f g
theorem SameL.allV {gs fs : List FlatD} (h : SameL gs fs) : allV gs = allV fs := by
  apply List.ext_getElem?
  intro j
  rcases Nat.lt_or_ge j fs.length with c | c
  · have h1 : fs[j]? = some fs[j] := List.getElem?_eq_getElem c
    have h2 : gs[j]? = some (gs[j]'(by rw [h.1]; exact c)) := List.getElem?_eq_getElem _
    rw [allV_at h1, allV_at h2, (h.2 j _ _ h1 h2).1]
  · rw [List.getElem?_eq_none (by rw [allV_len, h.1]; exact c), List.getElem?_eq_none (by rw [allV_len]; exact c)]
theorem SameL.get {gs fs : List FlatD} (h : SameL gs fs) {j : Nat} (hj : j < fs.length) : ∃ f g, fs[j]? = some f ∧ gs[j]? = some g ∧ SameF f g :=
  ⟨_, _, List.getElem?_eq_getElem hj, List.getElem?_eq_getElem (by rw [h.1]; exact hj), h.2 j _ _ (List.getElem?_eq_getElem hj) (List.getElem?_eq_getElem (by rw [h.1]; exact hj))⟩
theorem can_same {gs fs : List FlatD} {j : Nat} {f g : FlatD} (h1 : fs[j]? = some f) (h2 : gs[j]? = some g) (h : SameF f g) : canB gs (j : Int) = canB fs (j : Int) := by
  have a := canB_at h1
  have b := canB_at h2
  have c : CanF f ↔ CanF g := ⟨h.can, h.symm.can⟩
  cases x : canB gs (j : Int) <;> cases y : canB fs (j : Int) <;> simp_all
/-- What is told of a code does not know of a further one that is not called. -/
theorem of_apart {fs gs : List FlatD} {more : FlatD} {fn : Nat} (hfn : fn < fs.length) (hg : SameL gs fs) (h1 : (soundV (allV fs) fn).2 ≠ 1) :
    soundV (allV (gs ++ [more])) fn = soundV (allV fs) fn ∧ (∀ v, ofR (gs ++ [more]) fn v = ofR fs fn v) ∧ (∀ v, Reckons fs fn v → Reckons (gs ++ [more]) fn v) ∧ ∀ k, depthV (allV (gs ++ [more])) k fn = depthV (allV fs) k fn := by
  have hl : (allV fs).length = fs.length := allV_len fs
  have e : allV (gs ++ [more]) = allV fs ++ [callsV more.ops] := by rw [← hg.allV]; simp [H.allV]
  obtain ⟨s1, s2⟩ := sound_app (x := callsV more.ops) (fn := fn) (by omega) h1
  have hno := no_lost (ls := allV fs) (fn := fn) (by omega) h1
  have hin := fun j hj => lost_in (hno j hj)
  have hat : ∀ j, j < fs.length → ∃ f g, fs[j]? = some f ∧ (gs ++ [more])[j]? = some g ∧ SameF f g := fun j hj => by
    obtain ⟨f, g, a, b, c⟩ := hg.get hj
    exact ⟨f, g, a, by rw [List.getElem?_append_left (by rw [hg.1]; exact hj)]; exact b, c⟩
  have hfind : (belongV (allV fs) [(fn : Int)]).find? (fun k => !(canB (gs ++ [more]) k)) = (belongV (allV fs) [(fn : Int)]).find? (fun k => !(canB fs k)) := find_congr _ (fun k hk => by
    obtain ⟨j, rfl, hj, hr⟩ := belongV_mem.1 hk
    obtain ⟨f, g, a, b, c⟩ := hat j (by omega)
    rw [can_same a b c])
  have hR0 : Reach (allV fs) [(fn : Int)] fn := .base (by simp) (by omega)
  have hcl : ∀ j z, Reach (allV fs) [(fn : Int)] j → z ∈ listAt (allV fs) (j : Int) → ¬ z < 0 → Reach (allV fs) [(fn : Int)] z.toNat := fun j z hj hz h0 => by
    have := hin j hj z hz
    exact .step hj (listAt_get hj.lt) (by rw [Int.toNat_of_nonneg (by omega)]; exact hz) (by omega)
  have hof : ∀ k, ofV (gs ++ [more]) k fn = ofV fs k fn := fun k => ofV_alike (S := Reach (allV fs) [(fn : Int)]) (fun j hj => hat j (by have := hj.lt; omega)) (fun j f hj hf o ho h18 hb => hcl j o.b hj (by
    have : listAt (allV fs) (j : Int) = callsV f.ops := Option.some.inj ((listAt_get hj.lt).symm.trans (allV_at hf))
    rw [this]
    exact mem_callsV.2 ⟨o, ho, h18, rfl⟩) hb) k fn hR0
  refine ⟨by rw [e, s1], fun v => ?_, fun v hv => ?_, fun k => ?_⟩
  · unfold ofR
    rw [e, s1, s2, hfind]
  · unfold Reckons at hv ⊢
    rw [e, s1, s2, hfind]
    intro x y
    obtain ⟨K, hK⟩ := hv x y
    rw [Int.toNat_natCast] at hK ⊢
    exact ⟨K, by rw [hof]; exact hK⟩
  · rw [e]
    exact depthV_alike (S := Reach (allV fs) [(fn : Int)]) (fun j hj => List.getElem?_append_left hj.lt) (fun j l hj hl' z hz h0 => hcl j z hj (by
      rw [← Option.some.inj ((listAt_get hj.lt).symm.trans hl')] at hz
      exact hz) h0) k fn hR0
/-- A bound is there, whatever the codes. -/
theorem reckons_any {fs : List FlatD} (hm : ∀ f ∈ fs, Modest f) (fn : Int) : ∃ v, Reckons fs fn v := by
  by_cases c : (soundV (allV fs) fn).2 = 0 ∧ (belongV (allV fs) [fn]).find? (fun k => !(canB fs k)) = none
  · obtain ⟨⟨k, rfl, _⟩, _⟩ := sound_all c.1
    obtain ⟨N, hN⟩ := all_val fs
    obtain ⟨v, hv⟩ := reckons_of hm N hN c.1 c.2
    exact ⟨v, fun _ _ => ⟨_, by rw [Int.toNat_natCast]; exact hv⟩⟩
  · exact ⟨0, fun a b => absurd ⟨a, b⟩ c⟩
theorem depth_any {ls : List (List Int)} (fn : Int) : ∃ d, (soundV ls fn).2 = 0 → depthV ls (ls.length + 1) fn.toNat = some d := by
  by_cases c : (soundV ls fn).2 = 0
  · obtain ⟨d, hd⟩ := depthV_sound c
    exact ⟨d, fun _ => hd⟩
  · exact ⟨0, fun h => absurd h c⟩
end Go.Proofs.Ytmnaeoljpajomaa.H
