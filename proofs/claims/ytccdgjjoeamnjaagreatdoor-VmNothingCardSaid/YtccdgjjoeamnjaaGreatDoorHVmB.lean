/- Blocks that may be written, and blocks that are as they were: words for walks over a machine in memory. No program in sight; no condition. -/
import Derived.Test.YtccdgjjoeamnjaaGreatDoorHVmA
import Derived.OneCell
namespace Go.Proofs.YtccdgjjoeamnjaaGreatDoor.H
set_option linter.unusedVariables false
set_option linter.unusedSimpArgs false
open Go.RowKit Go.Proofs.YtccdgjjoeamnjaaGreatDoor.Plain
/-- All blocks but those of a list are as they were. -/
structure Bar (S : List Nat) (w w' : World) : Prop where
  os : w'.os = w.os
  tape : w'.tape = w.tape
  output : w'.output = w.output
  size : w.heap.size ≤ w'.heap.size
  block : ∀ k, k < w.heap.size → k ∉ S → w'.heap[k]? = w.heap[k]?
theorem Bar.refl (S : List Nat) (w : World) : Bar S w w := ⟨rfl, rfl, rfl, Nat.le_refl _, fun _ _ _ => rfl⟩
theorem Bar.trans {S : List Nat} {a b c : World} (h : Bar S a b) (k : Bar S b c) : Bar S a c :=
  ⟨k.os.trans h.os, k.tape.trans h.tape, k.output.trans h.output, Nat.le_trans h.size k.size, fun i hi hn => (k.block i (Nat.lt_of_lt_of_le hi h.size) hn).trans (h.block i hi hn)⟩
theorem Bar.of_below {S : List Nat} {w w' : World} (h : Below w.heap.size w w') : Bar S w w' := ⟨h.os, h.tape, h.output, h.size, fun k hk _ => h.block k hk⟩
theorem Bar.alloc {S : List Nat} {a w : World} (h : Bar S a w) (o : Obj) : Bar S a (w.alloc o) := h.trans (Bar.of_below ((Below.refl _ _).alloc (Nat.le_refl _) o))
theorem Bar.drew {S : List Nat} {a w : World} (h : Bar S a w) : Bar S a w.drew := ⟨h.os, h.tape, h.output, h.size, h.block⟩
theorem Bar.setCell {S : List Nat} {a w : World} (h : Bar S a w) {b o : Nat} (hb : b ∈ S ∨ a.heap.size ≤ b) (v : Value) : Bar S a (w.setCell ⟨b, o, none⟩ v) := by
  refine ⟨h.os, h.tape, h.output, by simpa [World.setCell] using h.size, fun k hk hn => ?_⟩
  rw [Below.heap_setCell _ _ _ _ (fun e => by subst e; rcases hb with c | c; exact hn c; omega)]
  exact h.block k hk hn
theorem Bar.go {S : List Nat} {a w w' : World} (h : Bar S a w) (k : Below w.heap.size w w') : Bar S a w' := h.trans (Bar.of_below k)
theorem Bar.below {S : List Nat} {a w : World} (h : Bar S a w) {B : Nat} (hB : B ≤ a.heap.size) (hS : ∀ s ∈ S, B ≤ s) : Below B a w :=
  ⟨h.os, h.tape, h.output, h.size, fun k hk => h.block k (by omega) (fun e => by have := hS k e; omega)⟩
theorem Bar.keep {S : List Nat} {a w : World} (h : Bar S a w) {g : Nat} {o : Obj} (hg : a.heap[g]? = some o) (hn : g ∉ S) : w.heap[g]? = some o := (h.block g (k_lt hg) hn).trans hg
theorem k_dr {w : World} {g : Nat} {o : Obj} (h : w.heap[g]? = some o) : w.drew.heap[g]? = some o := h
theorem k_ot {w : World} {g b i : Nat} {o : Obj} {v : Value} (h : w.heap[g]? = some o) (hne : g ≠ b) : (w.setCell ⟨b, i, none⟩ v).heap[g]? = some o := by rw [Below.heap_setCell _ _ _ _ hne]; exact h
theorem k_se {w : World} {b i : Nat} {cs : Array Value} {t : TypeId} {u : Value} (h : w.heap[b]? = some (.cells cs t (0, 0))) : (w.setCell ⟨b, i, none⟩ u).heap[b]? = some (.cells (cs.setIfInBounds i u) t (0, 0)) := by
  have hlt := lt_of_block h
  have h' : w.heap[b] = .cells cs t (0, 0) := by simpa [Array.getElem?_eq_getElem hlt] using h
  show (w.heap.modify b _)[b]? = _
  rw [Array.getElem?_eq_getElem (by simpa using hlt), Array.getElem_modify_self, h']
  rfl
theorem k_cv {w : World} {b : Nat} {cs : Array Value} {t : TypeId} {v : Value} (h : w.heap[b]? = some (.cells cs t (0, 0))) (i : Nat) (hv : cs[i]? = some v) : w.cell? ⟨b, i, none⟩ = some v := (k_cell h i).trans hv
theorem k_fr {w : World} {b : Nat} {cs : Array Value} {t : TypeId} (h : w.heap[b]? = some (.cells cs t (0, 0))) (i : Nat) : w.frozen? ⟨b, i, none⟩ = false := by simp [World.frozen?, h]
end Go.Proofs.YtccdgjjoeamnjaaGreatDoor.H
